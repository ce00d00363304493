/- Contracts of functions, by their numbers, and the laws that walk them. Conditions: as each states. -/
import Derived.WalkKit
import Derived.Laws.BitsAllLaws
import Derived.Deep.AppendSrc
import Derived.MapKept
import Derived.Laws.StructEq
set_option linter.all false
set_option maxRecDepth 100000
set_option maxHeartbeats 4000000
section
namespace Go.Hw
open Go.RowKit (Below)
inductive MK where
 |i (k:IntKind) (n:Int)
 |pr (a b:Int)
 |s (x:List UInt8)
 deriving DecidableEq,Inhabited
def kval:MK->Value
 |.i k n=>.int k n
 |.pr a b=>.agg #[.int .i64 a,.int .i64 b]
 |.s x=>.string ⟨x.toArray⟩
inductive CV where
 |c (v:Value)
 |sl (n:Nat) (cells:List CV)
 |fn (g:Nat) (caps:List CV)
 |bx (cells:List CV)
 |mp (ks:List MK) (vs:List CV)
 deriving Inhabited
inductive EV where
 |cell (x:CV)
 |agg (xs:List CV)
 deriving Inhabited
inductive Id where
 |o (g i k:Nat)
 |l (n:Nat)
 |a (k:Nat)
 |r (k:Nat)
 |f (x:Id)
 deriving DecidableEq,Inhabited
def isF:Id->Bool
 |.f _=>true
 |_=>false
def isO:Id->Bool
 |.o _ _ _=>true
 |_=>false
def isK:Id->Bool
 |.o _ _ _=>true
 |.a _=>true
 |_=>false
inductive OT where
 |p (x:CV)
 |sp (sz n:Nat) (cells:List CV)
 |sl (sz n:Nat) (cells:List OT)
 deriving Inhabited
inductive AC where
 |p (x:CV)
 |z
 |ref (b:Id) (off:Nat)
 |sl (b:Id) (off sz n:Nat)
 |mp (b:Id)
 |ep (cells:List CV) (pos:Nat)
 |fn (g:Nat) (caps:List (Id ⊕ CV))
 |own (t:OT)
 |yl (l:Nat)
 |bad
 deriving Inhabited
inductive AV where
 |cell (x:AC)
 |agg (xs:List AC)
 |tup (xs:List AV)
 |bad
 deriving Inhabited
inductive Blk where
 |cells (l:List AC)
 |pure (l:List CV)
 |map (ks:List MK) (vs:List AC)
 deriving Inhabited
def zde(w:World)(g:Nat)(ks:List MK)(raws:List Value):Prop:=
 ∃(es:Array MapEntry) (n:Nat),w.heap[g]?=some (.map es n) /\ es.toList.map (·.key)=ks.map kval /\ es.toList.map (·.val)=raws
inductive CRep (w:World) (bad:Nat->Prop):Value->CV->Prop
 |c (v:Value):CRep w bad v (.c v)
 |sl (a:Option Addr) (n cap:Nat) (raws:List Value) (cells:List CV) (hn:n<=cap) (hm:cap<=maxLen)
   (hl:raws.length=cells.length) (ho:∀ u ∈ raws,u.oneCell'=true)
   (hc:∀(j:Nat) (u:Value),raws[j]?=some u->∃ x:Addr,a=some x /\ ¬ bad x.block /\ w.cell? (x.add j)=some u)
   (hr:∀(j:Nat) (u:Value) (c:CV),raws[j]?=some u->cells[j]?=some c->CRep w bad u c):CRep w bad (.slice a n cap) (.sl n cells)
 |fn (g:Nat) (vs:List Value) (caps:List CV) (hl:vs.length=caps.length)
   (hr:∀(j:Nat) (u:Value) (c:CV),vs[j]?=some u->caps[j]?=some c->CRep w bad u c):CRep w bad (.func (.func g) #[] vs.toArray) (.fn g caps)
 |bx (x:Addr) (raws:List Value) (cells:List CV) (hl:raws.length=cells.length) (ho:∀ u ∈ raws,u.oneCell'=true)
   (hc:∀(j:Nat) (u:Value),raws[j]?=some u->¬ bad x.block /\ w.cell? (x.add j)=some u)
   (hr:∀(j:Nat) (u:Value) (c:CV),raws[j]?=some u->cells[j]?=some c->CRep w bad u c):CRep w bad (.pointer (some x)) (.bx cells)
 |mp (g:Nat) (raws:List Value) (ks:List MK) (vs:List CV) (hg:¬ bad g) (hm:zde w g ks raws) (hl:raws.length=vs.length) (ho:∀ u ∈ raws,u.oneCell'=true)
   (hr:∀(j:Nat) (u:Value) (c:CV),raws[j]?=some u->vs[j]?=some c->CRep w bad u c):CRep w bad (.map (some g)) (.mp ks vs)
structure CReps (w:World) (bad:Nat->Prop) (raws:List Value) (cells:List CV):Prop where
 len:raws.length=cells.length
 one:∀ u ∈ raws,u.oneCell'=true
 rep:∀(j:Nat) (u:Value) (c:CV),raws[j]?=some u->cells[j]?=some c->CRep w bad u c
inductive Stat where
 |un
 |vd
 |at_ (g base:Nat)
 |dead
 deriving DecidableEq,Inhabited
structure Mem where
 ρ:Id->Stat
 hid:Id->Nat->List Nat
def Own (m:Mem)(g:Nat):Prop:=(∃ i base,isF i=false /\ m.ρ i=.at_ g base) \/ ∃ i j,g ∈ m.hid i j
def Bad (m:Mem)(bad0:Nat->Prop)(g:Nat):Prop:=Own m g \/ bad0 g
def Shp (w:World)(g n:Nat):Prop:=∃ cur e fr,w.heap[g]?=some (.cells cur e fr) /\ (fr.2=fr.1 \/ cur.size<=fr.1) /\ n<=cur.size
def RefR (s:Stat)(off:Nat)(v:Value):Prop:=match s with
 |.at_ g base=>v=.pointer (some ⟨g,base+off,none⟩)
 |.dead=>v.oneCell'=true
 |_=>False
def SlR (w:World)(s:Stat)(off sz n:Nat)(v:Value):Prop:=match s with
 |.at_ g base=>(n=0 /\ ∃ a,v=.slice a 0 0) \/ ∃ cap,v=.slice (some ⟨g,base+off,none⟩) n cap /\ n<=cap /\ cap<=maxLen /\ Shp w g (base+off+cap * sz)
 |.vd=>n=0 /\ ∃ a,v=.slice a 0 0
 |.dead=>v.oneCell'=true
 |.un=>False
def MpR (s:Stat)(v:Value):Prop:=match s with
 |.at_ g _=>v=.map (some g)
 |.dead=>v.oneCell'=true
 |_=>False
def zbN(w:World)(m:Mem)(bad0:Nat->Prop)(v:Value):AC->Prop
 |.p x=>CRep w (Bad m bad0) v x
 |.z=>∃ a,v=.slice a 0 0
 |.ref b off=>RefR (m.ρ b) off v
 |.sl b off sz n=>SlR w (m.ρ b) off sz n v
 |.mp b=>MpR (m.ρ b) v
 |.ep cells pos=>∃(x:Addr) (raws:List Value),v=.pointer (some (x.add pos)) /\
   (∀(j:Nat) (u:Value),raws[j]?=some u->¬ Bad m bad0 x.block /\ w.cell? (x.add j)=some u) /\ CReps w (Bad m bad0) raws cells
 |.fn g caps=>∃ vs:Array Value,v=.func (.func g) #[] vs /\ vs.size=caps.length /\
   (∀(j:Nat) (u:Value) (b:Id),vs[j]?=some u->caps[j]?=some (.inl b)->RefR (m.ρ b) 0 u) /\
   ∀(j:Nat) (u:Value) (c:CV),vs[j]?=some u->caps[j]?=some (.inr c)->CRep w (Bad m bad0) u c
 |.own _=>False
 |.yl l=>v=.func (.yield l) #[] #[]
 |.bad=>True
inductive AVRep (w:World) (m:Mem) (bad0:Nat->Prop):Value->AV->Prop
 |cell (v:Value) (x:AC) (h:zbN w m bad0 v x):AVRep w m bad0 v (.cell x)
 |agg (cs:Array Value) (xs:List AC) (hl:cs.size=xs.length) (ho:∀ u ∈ cs.toList,u.oneCell'=true) (h:∀(j:Nat) (u:Value) (x:AC),cs[j]?=some u->xs[j]?=some x->zbN w m bad0 u x):AVRep w m bad0 (.agg cs) (.agg xs)
 |tup (vs:Array Value) (xs:List AV) (hl:vs.size=xs.length) (h:∀(j:Nat) (u:Value) (x:AV),vs[j]?=some u->xs[j]?=some x->AVRep w m bad0 u x):AVRep w m bad0 (.tuple vs) (.tup xs)
 |bad (v:Value):AVRep w m bad0 v .bad
inductive OTR (w:World) (bad:Nat->Prop):Value->OT->List Nat->Prop
 |p (v:Value) (c:CV) (h:CRep w bad v c):OTR w bad v (.p c) []
 |z (a:Option Addr) (sz:Nat):OTR w bad (.slice a 0 0) (.sl sz 0 []) []
 |zp (a:Option Addr) (sz:Nat):OTR w bad (.slice a 0 0) (.sp sz 0 []) []
 |sp (g base n cap:Nat) (cur:Array Value) (e:TypeId) (fr:Nat × Nat) (sz:Nat) (cells:List CV) (hg:w.heap[g]?=some (.cells cur e fr)) (hfr:fr.2=fr.1 \/ cur.size<=fr.1)
   (hn:n<=cap) (hm:cap<=maxLen) (hs:base+cap * sz<=cur.size) (hl:cells.length=n * sz)
   (ho:∀(j:Nat) (u:Value) (t:CV),cur[base+j]?=some u->cells[j]?=some t->u.oneCell'=true)
   (h:∀(j:Nat) (u:Value) (t:CV),cur[base+j]?=some u->cells[j]?=some t->CRep w bad u t):OTR w bad (.slice (some ⟨g,base,none⟩) n cap) (.sp sz n cells) [g]
 |sl (g base n cap:Nat) (cur:Array Value) (e:TypeId) (fr:Nat × Nat) (sz:Nat) (cells:List OT) (hss:List (List Nat)) (hg:w.heap[g]?=some (.cells cur e fr)) (hfr:fr.2=fr.1 \/ cur.size<=fr.1)
   (hn:n<=cap) (hm:cap<=maxLen) (hs:base+cap * sz<=cur.size) (hl:cells.length=n * sz) (hhl:hss.length=cells.length)
   (ho:∀(j:Nat) (u:Value) (t:OT),cur[base+j]?=some u->cells[j]?=some t->u.oneCell'=true)
   (h:∀(j:Nat) (u:Value) (t:OT) (hs:List Nat),cur[base+j]?=some u->cells[j]?=some t->hss[j]?=some hs->OTR w bad u t hs):OTR w bad (.slice (some ⟨g,base,none⟩) n cap) (.sl sz n cells) (g::hss.flatten)
def zeV(w:World)(m:Mem)(bad0:Nat->Prop)(hs:List Nat)(v:Value):AC->Prop
 |.own t=>OTR w (Bad m bad0) v t hs
 |x=>zbN w m bad0 v x
def zaq(w:World)(m:Mem)(bad0:Nat->Prop)(i:Id)(l:List AC):Prop:=match m.ρ i with
 |.vd=>l=[]
 |.at_ g base=>∃ cur e fr,w.heap[g]?=some (.cells cur e fr) /\ (fr.2=fr.1 \/ cur.size<=fr.1) /\ base+l.length<=cur.size /\
   ∀(j:Nat) (u:Value) (x:AC),cur[base+j]?=some u->l[j]?=some x->u.oneCell'=true /\ zeV w m bad0 (m.hid i j) u x
 |_=>False
def BlkR (w:World)(m:Mem)(bad0:Nat->Prop)(i:Id):Blk->Prop
 |.cells l=>zaq w m bad0 i l
 |.pure l=>zaq w m bad0 i (l.map .p)
 |.map ks vs=>∃ g base raws,m.ρ i=.at_ g base /\ zde w g ks raws /\ raws.length=vs.length /\
   ∀(j:Nat) (u:Value) (x:AC),raws[j]?=some u->vs[j]?=some x->u.oneCell'=true /\ zbN w m bad0 u x
structure Hx (w:World) (bad:Nat->Prop) (w':World) (bad':Nat->Prop):Prop where
 cell:∀ x u,¬ bad x.block->w.cell? x=some u->¬ bad' x.block /\ w'.cell? x=some u
 map:∀ b es n,¬ bad b->w.heap[b]?=some (.map es n)->¬ bad' b /\ w'.heap[b]?=some (.map es n)
theorem Hx.same{w:World}{bad bad':Nat->Prop}(h:∀ b,¬ bad b->¬ bad' b):Hx w bad w bad':=⟨fun _ _ hb hu=>⟨h _ hb,hu⟩,fun _ _ _ hb hu=>⟨h _ hb,hu⟩⟩
theorem lt_of_heap{w:World}{b:Nat}{o:Obj}(h:w.heap[b]?=some o):b < w.heap.size:=by
 rcases Nat.lt_or_ge b w.heap.size with h'|h'
 ·exact h'
 ·simp[h']at h
theorem Hx.blocks{w w':World}{bad bad':Nat->Prop}(h:∀ b,b < w.heap.size->¬ bad b->¬ bad' b /\ w'.heap[b]?=w.heap[b]?):Hx w bad w' bad':=by
 refine⟨fun x u hb hu=>?_,fun b es n hb hu=>?_⟩
 ·obtain⟨h1,h2⟩:=h _ (World.block_lt_of_cell? w x hu) hb
  exact⟨h1,by simpa [World.cell?,h2]using hu⟩
 ·obtain⟨h1,h2⟩:=h b (lt_of_heap hu) hb
  exact⟨h1,by rw[h2];exact hu⟩
theorem Hx.trans{w w' w'':World}{bad bad' bad'':Nat->Prop}(h:Hx w bad w' bad')(k:Hx w' bad' w'' bad''):Hx w bad w'' bad'':=
 ⟨fun x u hb hu=>let⟨a,b⟩:=h.cell x u hb hu;k.cell x u a b,fun x u n hb hu=>let⟨a,b⟩:=h.map x u n hb hu;k.map x u n a b⟩
theorem add_block(x:Addr)(j:Nat):(x.add j).block=x.block:=by unfold Addr.add;split<;>rfl
theorem add_add(a:Addr)(i j:Nat):(a.add i).add j=a.add (i+j):=by
 unfold Addr.add;split<;>split<;>simp_all<;>omega
theorem zfS(g off k:Nat):(⟨g,off,none⟩:Addr).add k=⟨g,off+k,none⟩:=by
 unfold Addr.add;split<;>simp_all
theorem cell_of_heap{w w':World}{x:Addr}(h:w'.heap[x.block]?=w.heap[x.block]?):w'.cell? x=w.cell? x:=by simp[World.cell?,h]
theorem CRep.mono{w w':World}{bad bad':Nat->Prop}(hx:Hx w bad w' bad'){v:Value}{x:CV}(h:CRep w bad v x):CRep w' bad' v x:=by
 have key:∀(y:Addr) (j:Nat) (u:Value),¬ bad y.block->w.cell? (y.add j)=some u->¬ bad' y.block /\ w'.cell? (y.add j)=some u:=fun y j u hb hu=>by
  have:=hx.cell (y.add j) u (by rw[add_block];exact hb) hu
  rwa [add_block]at this
 induction h with
 |c v=>exact .c v
 |sl a n cap raws cells hn hm hl ho hc hr ih=>
  refine .sl a n cap raws cells hn hm hl ho (fun j u hj=>?_) ih
  obtain⟨y,rfl,hb,hu⟩:=hc j u hj
  exact⟨y,rfl,key y j u hb hu⟩
 |fn g vs caps hl hr ih=>exact .fn g vs caps hl ih
 |bx x raws cells hl ho hc hr ih=>exact .bx x raws cells hl ho (fun j u hj=>key x j u (hc j u hj).1 (hc j u hj).2) ih
 |mp g raws ks vs hg hm hl ho hr ih=>
  obtain⟨es,n,h1,h2,h3⟩:=hm
  obtain⟨h4,h5⟩:=hx.map g es n hg h1
  exact .mp g raws ks vs h4 ⟨es,n,h5,h2,h3⟩ hl ho ih
theorem CReps.mono{w w':World}{bad bad':Nat->Prop}(hx:Hx w bad w' bad'){raws:List Value}{cells:List CV}(h:CReps w bad raws cells):CReps w' bad' raws cells:=
 ⟨h.len,h.one,fun j u c hu hc=>(h.rep j u c hu hc).mono hx⟩
theorem zde.heap{w w':World}{g:Nat}{ks:List MK}{raws:List Value}(h:zde w g ks raws)(e:w'.heap[g]?=w.heap[g]?):zde w' g ks raws:=by
 obtain⟨es,n,h1,h2⟩:=h
 exact⟨es,n,by rw[e];exact h1,h2⟩
theorem OTR.mono{w w':World}{bad bad':Nat->Prop}(hx:Hx w bad w' bad'){v:Value}{t:OT}{hs:List Nat}(h:OTR w bad v t hs):(∀ g ∈ hs,w'.heap[g]?=w.heap[g]?)->OTR w' bad' v t hs:=by
 induction h with
 |p v c h=>exact fun _=>.p v c (h.mono hx)
 |z a sz=>exact fun _=>.z a sz
 |zp a sz=>exact fun _=>.zp a sz
 |sp g base n cap cur e fr sz cells hg hfr hn hm hs hl ho h=>exact fun hk=>.sp g base n cap cur e fr sz cells (by rw[hk g (by simp)];exact hg) hfr hn hm hs hl ho fun j u t hu ht=>(h j u t hu ht).mono hx
 |sl g base n cap cur e fr sz cells hss hg hfr hn hm hs hl hhl ho h ih=>
  intro hk
  refine .sl g base n cap cur e fr sz cells hss (by rw[hk g (by simp)];exact hg) hfr hn hm hs hl hhl ho fun j u t hs' hu ht hh=>ih j u t hs' hu ht hh fun g' hg'=>hk g' ?_
  exact List.mem_cons_of_mem _ (List.mem_flatten.2 ⟨hs',List.mem_of_getElem? hh,hg'⟩)
structure Ext (w:World) (m:Mem) (bad0:Nat->Prop) (w':World) (m':Mem) (bad0':Nat->Prop):Prop where
 pure:Hx w (Bad m bad0) w' (Bad m' bad0')
 ref:∀ i,m.ρ i=.un \/ m'.ρ i=.dead \/ m'.ρ i=m.ρ i
 shp:∀ i g base n,m'.ρ i=.at_ g base->m.ρ i=.at_ g base->Shp w g n->Shp w' g n
theorem Ext.refl(w:World)(m:Mem)(bad0:Nat->Prop):Ext w m bad0 w m bad0:=⟨Hx.same fun _ h=>h,fun _=>.inr (.inr rfl),fun _ _ _ _ _ _ h=>h⟩
theorem Shp.heap{w w':World}{g n:Nat}(e:w'.heap[g]?=w.heap[g]?)(h:Shp w g n):Shp w' g n:=by
 obtain⟨cur,t,fr,h1,h2⟩:=h
 exact⟨cur,t,fr,by rw[e];exact h1,h2⟩
section
variable {w w':World} {m m':Mem} {bad0 bad0':Nat->Prop}
theorem RefR.one{s:Stat}{off:Nat}{v:Value}(h:RefR s off v):v.oneCell'=true:=by
 cases s with
 |at_ g base=>cases h;rfl
 |dead=>exact h
 |_=>exact h.elim
theorem SlR.one{s:Stat}{off sz n:Nat}{v:Value}(h:SlR w s off sz n v):v.oneCell'=true:=by
 cases s with
 |at_ g base=>rcases h with⟨_,_,rfl⟩ |⟨_,rfl,_⟩<;>rfl
 |vd=>obtain⟨_,_,rfl⟩:=h;rfl
 |dead=>exact h
 |_=>exact h.elim
theorem MpR.one{s:Stat}{v:Value}(h:MpR s v):v.oneCell'=true:=by
 cases s with
 |at_ g base=>cases h;rfl
 |dead=>exact h
 |_=>exact h.elim
theorem Ext.refR(E:Ext w m bad0 w' m' bad0'){b:Id}{off:Nat}{v:Value}(h:RefR (m.ρ b) off v):RefR (m'.ρ b) off v:=by
 rcases E.ref b with h1|h1|h1
 ·rw[h1]at h;exact h.elim
 ·rw[h1];exact h.one
 ·rw[h1];exact h
theorem Ext.slR(E:Ext w m bad0 w' m' bad0'){b:Id}{off sz n:Nat}{v:Value}(h:SlR w (m.ρ b) off sz n v):SlR w' (m'.ρ b) off sz n v:=by
 rcases E.ref b with h1|h1|h1
 ·rw[h1]at h;exact h.elim
 ·rw[h1];exact h.one
 ·rw[h1]
  cases hs:m.ρ b with
  |un=>rw[hs]at h;exact h
  |vd=>rw[hs]at h;exact h
  |dead=>rw[hs]at h;exact h
  |at_ g base=>
   rw[hs]at h
   rcases h with h |⟨cap,h2,h3,h4,h5⟩
   ·exact .inl h
   ·exact .inr ⟨cap,h2,h3,h4,E.shp b g base _ (h1.trans hs) hs h5⟩
theorem Ext.mpR(E:Ext w m bad0 w' m' bad0'){b:Id}{v:Value}(h:MpR (m.ρ b) v):MpR (m'.ρ b) v:=by
 rcases E.ref b with h1|h1|h1
 ·rw[h1]at h;exact h.elim
 ·rw[h1];exact h.one
 ·rw[h1];exact h
theorem Ext.ac(E:Ext w m bad0 w' m' bad0'){v:Value}{x:AC}(h:zbN w m bad0 v x):zbN w' m' bad0' v x:=by
 cases x with
 |p x=>exact CRep.mono E.pure h
 |z=>exact h
 |ref b off=>exact E.refR h
 |sl b off sz n=>exact E.slR h
 |mp b=>exact E.mpR h
 |ep cells pos=>
  obtain⟨y,raws,hv,hc,hr⟩:=h
  refine⟨y,raws,hv,fun j u hj=>?_,hr.mono E.pure⟩
  obtain⟨hb,hu⟩:=hc j u hj
  have:=E.pure.cell (y.add j) u (by rw[add_block];exact hb) hu
  rwa [add_block]at this
 |fn g caps=>
  obtain⟨vs,hv,hl,h1,h2⟩:=h
  exact⟨vs,hv,hl,fun j u b hu hb=>E.refR (h1 j u b hu hb),fun j u c hu hc=>CRep.mono E.pure (h2 j u c hu hc)⟩
 |own t=>exact h
 |yl l=>exact h
 |bad=>trivial
theorem Ext.av(E:Ext w m bad0 w' m' bad0'){v:Value}{x:AV}(h:AVRep w m bad0 v x):AVRep w' m' bad0' v x:=by
 induction h with
 |cell v x h=>exact .cell v x (E.ac h)
 |agg cs xs hl ho h=>exact .agg cs xs hl ho fun j u x hu hx=>E.ac (h j u x hu hx)
 |tup vs xs hl h ih=>exact .tup vs xs hl ih
 |bad v=>exact .bad v
theorem Ext.cell(E:Ext w m bad0 w' m' bad0'){hs:List Nat}(hk:∀ g ∈ hs,w'.heap[g]?=w.heap[g]?){v:Value}{x:AC}(h:zeV w m bad0 hs v x):zeV w' m' bad0' hs v x:=by
 cases x with
 |own t=>exact OTR.mono E.pure h hk
 |p x=>exact Ext.ac E (x:=.p x) h
 |z=>exact Ext.ac E (x:=.z) h
 |ref b off=>exact Ext.ac E (x:=.ref b off) h
 |sl b off sz n=>exact Ext.ac E (x:=.sl b off sz n) h
 |mp b=>exact Ext.ac E (x:=.mp b) h
 |ep c k=>exact Ext.ac E (x:=.ep c k) h
 |fn g c=>exact Ext.ac E (x:=.fn g c) h
 |yl l=>exact Ext.ac E (x:=.yl l) h
 |bad=>trivial
theorem Ext.cells(E:Ext w m bad0 w' m' bad0'){i:Id}(h1:m'.ρ i=m.ρ i)(h2:∀ j,m'.hid i j=m.hid i j)(h3:∀ g base,m.ρ i=.at_ g base->w'.heap[g]?=w.heap[g]?)(h4:∀ j,∀ g ∈ m.hid i j,w'.heap[g]?=w.heap[g]?)
  {l:List AC} (h:zaq w m bad0 i l):zaq w' m' bad0' i l:=by
 unfold zaq at h ⊢
 rw[h1]
 cases hs:m.ρ i with
 |un=>rw[hs]at h;exact h
 |vd=>rw[hs]at h;exact h
 |dead=>rw[hs]at h;exact h
 |at_ g base=>
  rw[hs]at h
  obtain⟨cur,e,fr,hg,hfr,hl,hc⟩:=h
  refine⟨cur,e,fr,by rw[h3 g base hs];exact hg,hfr,hl,fun j u x hu hx=>?_⟩
  obtain⟨ho,hr⟩:=hc j u x hu hx
  exact⟨ho,by rw[h2];exact E.cell (h4 j) hr⟩
theorem Ext.blk(E:Ext w m bad0 w' m' bad0'){i:Id}(h1:m'.ρ i=m.ρ i)(h2:∀ j,m'.hid i j=m.hid i j)(h3:∀ g base,m.ρ i=.at_ g base->w'.heap[g]?=w.heap[g]?)(h4:∀ j,∀ g ∈ m.hid i j,w'.heap[g]?=w.heap[g]?)
  {b:Blk} (h:BlkR w m bad0 i b):BlkR w' m' bad0' i b:=by
 cases b with
 |cells l=>exact E.cells h1 h2 h3 h4 h
 |pure l=>exact E.cells h1 h2 h3 h4 h
 |map ks vs=>
  obtain⟨g,base,raws,h5,h6,h7,h8⟩:=h
  exact⟨g,base,raws,by rw[h1];exact h5,h6.heap (h3 g base h5),h7,fun j u x hu hx=>⟨(h8 j u x hu hx).1,E.ac (h8 j u x hu hx).2⟩⟩
end
structure MemOk (w:World) (prot bad0:Nat->Prop) (m:Mem):Prop where
 lt:∀ g,Own m g->g < w.heap.size /\ ¬ prot g /\ ¬ bad0 g
 inj:∀ i j g b b',isF i=false->isF j=false->m.ρ i=.at_ g b->m.ρ j=.at_ g b'->i=j
 sep:∀ i g b j k,isF i=false->m.ρ i=.at_ g b->g ∉ m.hid j k
 hnd:∀ i j,(m.hid i j).Nodup
 hdj:∀ i j i' j' g,g ∈ m.hid i j->g ∈ m.hid i' j'->i=i' /\ j=j'
end Go.Hw
end
section
namespace Go.Hw
class Globals where
 G:Nat->Option (List CV)
variable [Globals]
open Go.RowKit (Below)
structure Acc where
 l:Nat
 xs:List (List EV)
 k:Nat
 live:Bool
structure St where
 env:Nat->AV
 hp:Id->Option Blk
 gen:Nat
 acc:Option Acc
def putE (env:Nat->AV)(d:Option Nat)(x:AV):Nat->AV:=
 match d with
 |some d=>fun s=>if s=d then x else env s
 |none=>env
def St.put(st:St)(d:Option Nat)(x:AV):St:={ st with env:=putE st.env d x }
def hput (hp:Id->Option Blk):List (Id × Option Blk)->Id->Option Blk
 |[],x=>hp x
 |(b,v)::r,x=>if x=b then v else hput hp r x
def St.app(st:St)(u:List (Id × Option Blk)):St:={ st with hp:=hput st.hp u }
def zhh:Value->AC
 |.slice none 0 0=>.z
 |v=>.p (.c v)
def zhg:Value->AV
 |.slice none 0 0=>.cell .z
 |.slice _ _ _=>.bad
 |.agg cs=>if cs.toList.all (·.oneCell') then .agg (cs.toList.map zhh) else .bad
 |.tuple _=>.bad
 |v=>.cell (.p (.c v))
def evAV (env:Nat->AV):Operand->AV
 |.tmp t=>env t
 |.const v=>zhg v
 |.global g=>match Globals.G g with
  |some cs=>.cell (.ep cs 0)
  |none=>.bad
 |.func f=>.cell (.p (.c (.func (.func f) #[] #[])))
abbrev St.ev(st:St):Operand->AV:=evAV st.env
def ndO:Obj->Prop
 |.cells _ _ _=>False
 |.map _ _=>False
 |_=>True
def zbM(w:World)(b:Nat):Prop:=∀ o,w.heap[b]?=some o->ndO o
theorem zbM.of{w:World}{b:Nat}{o:Obj}(h:w.heap[b]?=some o)(ho:ndO o):zbM w b:=fun o' h'=>by rw[h]at h';cases h';exact ho
theorem zbM.cells{w:World}{b:Nat}(h:zbM w b){cs:Array Value}{e:TypeId}{f:Nat × Nat}(hc:w.heap[b]?=some (.cells cs e f)):False:=h _ hc
theorem zbM.map{w:World}{b:Nat}(h:zbM w b){es:Array MapEntry}{n:Nat}(hc:w.heap[b]?=some (.map es n)):False:=h _ hc
structure Cx where
 prot:Nat->Prop
 bad0:Nat->Prop
 w0:World
 N:Nat
 perm:Nat->Prop
 marks:List Nat
 loop:Option Nat
 out:Nat->Prop
 fore:Id->Stat
 wi:World
 seq:Nat->List (List EV)->Nat->Bool->(Nat->Prop)->(Nat->Prop)->World->Prop
 also:Nat->Prop
 /-- Calls that have been deferred. -/
 dfr:List Deferred:=[]
 /-- A slot that is not written, and what it holds. -/
 pin:Option (Nat × Value):=none
def zeY(D:Nat):Deferred:={ target:=.collected D,args:=#[] }
structure JExt (C:Cx) (st:St) (a:Act):Prop where
 defers:a.defers=C.marks.map zeY++C.dfr
 nodup:C.marks.Nodup
 marks:∀ D,D ∈ C.marks->C.prot D /\ ¬ C.bad0 D /\ C.w0.heap[D]?=some (.deferred (some []))
 perm:∀ b,C.perm b->C.prot b /\ ¬ C.out b
 outb:∀ b,C.out b->C.bad0 b
 loop:∀ l,C.loop=some l->C.prot l /\ ¬ C.bad0 l /\ ∃ r,C.w0.heap[l]?=some (.loop r)
 seq:∀ l xs k live,st.acc=some ⟨l,xs,k,live⟩->C.seq l xs k live (fun b=>b < C.w0.heap.size /\ (¬ C.prot b \/ b ∈ C.marks \/ C.also b)) C.out C.w0
 fore:∀ x g base,C.fore (.f x)=.at_ g base->C.perm g /\ C.bad0 g
 also:∀ b,C.also b->b < C.w0.heap.size /\ (C.bad0 b \/ (C.prot b /\ zbM C.w0 b))
 pin:∀ t v,C.pin=some (t,v)->a.tmps.getD t undef=v
theorem JExt.of{C:Cx}{st st':St}{a a':Act}(h:JExt C st a)(hd:a'.defers=a.defers)(he:st'.acc=st.acc)(hp:∀ t v,C.pin=some (t,v)->a'.tmps.getD t undef=a.tmps.getD t undef:=by intros;rfl):JExt C st' a':=
 ⟨hd.trans h.defers,h.nodup,h.marks,h.perm,h.outb,h.loop,fun l xs k v e=>h.seq l xs k v (he ▸ e),h.fore,h.also,fun t v e=>(hp t v e).trans (h.pin t v e)⟩
structure J (C:Cx) (st:St) (a:Act) (w:World) (m:Mem):Prop where
 size:a.tmps.size=C.N
 ext:JExt C st a
 os:w.os=C.w0.os
 tape:w.tape=C.w0.tape
 output:w.output=C.w0.output
 grown:C.w0.heap.size<=w.heap.size
 kept:∀ b,C.prot b->w.heap[b]?=C.w0.heap[b]?
 protlt:∀ b,C.prot b->b < C.w0.heap.size
 badlt:∀ b,C.bad0 b->b < w.heap.size
 mem:MemOk w C.prot C.bad0 m
 env:∀ s,AVRep w m C.bad0 (a.tmps.getD s undef) (st.env s)
 hp:∀ i b,st.hp i=some b->isF i=false /\ BlkR w m C.bad0 i b
 gen:∀ g i k,st.gen < g->m.ρ (.o g i k)=.un
 fore:∀ x,m.ρ (.f x)=C.fore (.f x)
 arg:∀ x,isK x=true->(isO x=true /\ C.fore x=.un) \/ m.ρ x=.dead \/ m.ρ x=C.fore x
 argS:∀ x g base n,isK x=true->C.fore x ≠ .un->m.ρ x=.at_ g base->Shp C.wi g n->Shp w g n
 glob:∀ g cs,Globals.G g=some cs->AVRep w m C.bad0 (.pointer (some ⟨g,0,none⟩)) (.cell (.ep cs 0))
theorem znt(t:Array Value)(d s:Nat)(v:Value)(hd:d < t.size):(t.setIfInBounds d v).getD s undef=if s=d then v else t.getD s undef:=by
 simp only[Array.getD_eq_getD_getElem?,Array.getElem?_setIfInBounds]
 by_cases h:d=s
 ·subst h;simp[hd]
 ·rw[if_neg h,if_neg (fun e=>h e.symm)]
def zgG(C:Cx)(d:Option Nat):Prop:=∀ k,d=some k->k < C.N /\ ∀ v,C.pin ≠ some (k,v)
theorem J.put{C:Cx}{st:St}{a:Act}{w:World}{m:Mem}(h:J C st a w m){d:Option Nat}(hd:zgG C d){v:Value}{x:AV}
  (hv:AVRep w m C.bad0 v x):J C (st.put d x) (a.put d v) w m:=by
 cases d with
 |none=>exact h
 |some d=>
  have hp:∀ t u,C.pin=some (t,u)->(a.put (some d) v).tmps.getD t undef=a.tmps.getD t undef:=fun t u e=>by
   simp only[Act.put]
   rw[znt _ _ _ _ (by rw[h.size];exact(hd d rfl).1),if_neg (fun e'=>(hd d rfl).2 u (by rw[<- e'];exact e))]
  refine⟨by simp[Act.put,h.size],h.ext.of rfl rfl hp,h.os,h.tape,h.output,h.grown,h.kept,h.protlt,h.badlt,h.mem,fun s=>?_,h.hp,h.gen,h.fore,h.arg,h.argS,h.glob⟩
  simp only[Act.put,St.put,putE]
  rw[znt _ _ _ _ (by rw[h.size];exact(hd d rfl).1)]
  split
  ·exact hv
  ·exact h.env s
theorem zf3(w:World)(m:Mem)(bad0:Nat->Prop)(v:Value):zbN w m bad0 v (zhh v):=by
 unfold zhh
 split
 ·exact⟨none,rfl⟩
 ·exact .c v
theorem zmM(w:World)(m:Mem)(bad0:Nat->Prop)(v:Value):AVRep w m bad0 v (zhg v):=by
 unfold zhg
 split
 ·exact .cell _ _ ⟨none,rfl⟩
 ·exact .bad _
 ·rename_i cs
  split
  ·rename_i h1
   refine .agg cs _ (by simp) (fun u hu=>by rw[List.all_eq_true]at h1;exact h1 u hu) (fun j u x hu hx=>?_)
   rw[List.getElem?_map]at hx
   have:cs.toList[j]?=some u:=by simpa using hu
   rw[this]at hx
   simp at hx
   subst hx
   exact zf3 w m bad0 u
  ·exact .bad _
 ·exact .bad _
 ·exact .cell _ _ (.c _)
theorem J.ev{C:Cx}{st:St}{a:Act}{w:World}{m:Mem}(h:J C st a w m)(x:Operand):AVRep w m C.bad0 (a.eval x) (evAV st.env x):=by
 cases x with
 |tmp t=>exact h.env t
 |const v=>exact zmM w m _ v
 |global g=>
  show AVRep w m C.bad0 (.pointer (some ⟨g,0,none⟩)) (evAV st.env (.global g))
  simp only[evAV]
  split
  ·rename_i cs hg;exact h.glob g cs hg
  ·exact .bad _
 |func f=>exact .cell _ _ (.c _)
section
variable {w:World} {m:Mem} {bad0:Nat->Prop} {v:Value}
theorem zck{u:Value}(h:AVRep w m bad0 v (.cell (.p (.c u)))):v=u:=by
 cases h with
 |cell v x h=>cases h;rfl
theorem zar{x:AC}(h:AVRep w m bad0 v (.cell x)):zbN w m bad0 v x:=by
 cases h with
 |cell v x h=>exact h
theorem zsW{xs:List AC}(h:AVRep w m bad0 v (.agg xs)):∃ cs:Array Value,v=.agg cs /\ cs.size=xs.length /\ (∀ u ∈ cs.toList,u.oneCell'=true) /\
  ∀(j:Nat) (u:Value) (x:AC),cs[j]?=some u->xs[j]?=some x->zbN w m bad0 u x:=by
 cases h with
 |agg cs xs hl ho h=>exact⟨cs,rfl,hl,ho,h⟩
theorem zsV{xs:List AV}(h:AVRep w m bad0 v (.tup xs)):∃ vs:Array Value,v=.tuple vs /\ vs.size=xs.length /\
  ∀(j:Nat) (u:Value) (x:AV),vs[j]?=some u->xs[j]?=some x->AVRep w m bad0 u x:=by
 cases h with
 |tup vs xs hl h=>exact⟨vs,rfl,hl,h⟩
end
abbrev iV(k:IntKind)(n:Int):AV:=.cell (.p (.c (.int k n)))
abbrev bV(b:Bool):AV:=.cell (.p (.c (.bool b)))
abbrev sV(s:ByteArray):AV:=.cell (.p (.c (.string s)))
def shlI (k:IntKind)(a b:Int):Int:=k.wrap (a * 2 ^ (min b.toNat k.bits))
def shrI (k:IntKind)(a b:Int):Int:=a.fdiv (2 ^ (min b.toNat k.bits))
def eqI (a b:Int):Bool:=a == b
def ltI (a b:Int):Bool:=decide (a < b)
def andB (a b:Bool):Bool:=a && b
def orB (a b:Bool):Bool:=a || b
def eqB (a b:Bool):Bool:=a == b
def eqS (a b:ByteArray):Bool:=a.toList == b.toList
def zpI(op:BinOp)(k:IntKind)(a b:Int):Option Value:=
 match op with
 |.add=>some (.int k (k.wrap (a+b)))
 |.sub=>some (.int k (k.wrap (a - b)))
 |.mul=>some (.int k (k.wrap (a * b)))
 |.quo=>if b=0 then none else some (.int k (k.wrap (a.tdiv b)))
 |.rem=>if b=0 then none else some (.int k (a.tmod b))
 |.and=>some (.int k (bits .and k a b))
 |.or=>some (.int k (bits .or k a b))
 |.xor=>some (.int k (bits .xor k a b))
 |.andNot=>some (.int k (bits .andNot k a b))
 |.eql=>some (.bool (eqI a b))
 |.neq=>some (.bool (!eqI a b))
 |.lss=>some (.bool (ltI a b))
 |.leq=>some (.bool (!ltI b a))
 |.gtr=>some (.bool (ltI b a))
 |.geq=>some (.bool (!ltI a b))
 |_=>none
def zoH(op:BinOp)(x y:ByteArray):Option Value:=
 match op with
 |.add=>if((x.size+y.size:Nat):Int) > IntKind.i64.max then none else some (.string (x++y))
 |.eql=>some (.bool (eqS x y))
 |.neq=>some (.bool (!eqS x y))
 |.lss=>some (.bool (Op.bytesLess x.toList y.toList))
 |_=>none
def zjB(P:Program)(op:BinOp)(t:TypeId)(x y:Value):Option Value:=
 match x,y with
 |.int k a,.int k' b=>
  match op with
  |.shl=>if b < 0 then none else some (.int k (shlI k a b))
  |.shr=>if b < 0 then none else some (.int k (shrI k a b))
  |op=>if k=k' then zpI op k a b else none
 |.string a,.string b=>zoH op a b
 |.bool a,.bool b=>
  match op,P.underlying t with
  |.eql,some .bool=>some (.bool (eqB a b))
  |.neq,some .bool=>some (.bool (!(eqB a b)))
  |_,_=>none
 |.iface _ _,.nilIface=>
  match op,P.underlying t with
  |.eql,some (.interface _)=>some (.bool false)
  |.neq,some (.interface _)=>some (.bool true)
  |_,_=>none
 |.nilIface,.nilIface=>
  match op,P.underlying t with
  |.eql,some (.interface ms)=>if ms.isEmpty then some (.bool true) else none
  |.neq,some (.interface ms)=>if ms.isEmpty then some (.bool false) else none
  |_,_=>none
 |_,_=>none
theorem zjj{P:Program}{w:World}(d:Nat){t tx:TypeId}{ms}{vx:Value}(h:P.underlying t=some (.interface ms)):(Op.equalIn (d+1) t (.iface tx vx) .nilIface).run P w=.ok false w:=by
 simp[Op.equalIn,run_underlying h]
theorem zji{P:Program}{w:World}(d:Nat){t:TypeId}{ms}(h:P.underlying t=some (.interface ms)):(Op.equalIn (d+1) t .nilIface .nilIface).run P w=.ok true w:=by
 simp[Op.equalIn,run_underlying h]
theorem zhq{P:Program}{w:World}{t tx:TypeId}{ms}{vx:Value}(h:P.underlying t=some (.interface ms)):(Op.equal t (.iface tx vx) .nilIface).run P w=.ok false w:=zjj 9999 h
theorem zhp{P:Program}{w:World}{t:TypeId}{ms}(h:P.underlying t=some (.interface ms)):(Op.equal t .nilIface .nilIface).run P w=.ok true w:=zji 9999 h
theorem zjh{P:Program}{w:World}(d:Nat){t:TypeId}{ms:Array (String × TypeId)}(h:P.underlying t=some (.interface ms))(he:ms.isEmpty=true):(Op.eqGuardIn (d+1) t .nilIface .nilIface).run P w=.ok false w:=by
 simp[Op.eqGuardIn,run_underlying h,he]
theorem zho{P:Program}{w:World}{t:TypeId}{ms:Array (String × TypeId)}{op:BinOp}{ox oy:Operand}(h:P.underlying t=some (.interface ms))(he:ms.isEmpty=true):(Go.eqGuard op t ox oy .nilIface .nilIface).run P w=.ok () w:=by
 have hg:(Op.eqGuardIn Op.maxDepth t .nilIface .nilIface).run P w=.ok false w:=zjh 9999 h he
 cases op<;>simp[Go.eqGuard]<;>split<;>simp[hg]
theorem znN{P:Program}{op:BinOp}{t:TypeId}{x y:Value}{v:Value}(h:zjB P op t x y=some v)(w:World)(ox oy:Operand) :
  (do Go.eqGuard op t ox oy x y;Go.binOp op t x y:Sem Value).run P w=.ok v w:=by
 unfold zjB at h
 split at h
 ·rename_i k a k' b
  have hg:∀ op,(Go.eqGuard op t ox oy (.int k a) (.int k' b)).run P w=.ok () w:=by
   intro op;cases op<;>simp[Go.eqGuard]
  split at h
  ·split at h
   ·cases h
   ·rename_i hb;cases h;simp[hg,Go.binOp,Op.shift,hb,shlI,shrI]
  ·split at h
   ·cases h
   ·rename_i hb;cases h;simp[hg,Go.binOp,Op.shift,hb,shlI,shrI]
  ·split at h
   ·rename_i hk
    subst hk
    simp only[Sem.run_bind,hg,Result.andThen_ok]
    cases op<;>simp[zpI]at h<;>(try subst h)<;>(try simp[Go.binOp,Op.intArith,Op.intBits,Op.intCmp,bits,eqI,ltI]) <;>
     first
     |(obtain⟨h0,rfl⟩:=h;simp[Op.intDiv,h0];done)
     |(rw[<- decide_not];congr 1;exact propext ⟨fun h=>by omega,fun h=>by omega⟩)
     |rfl
   ·cases h
 ·rename_i a b
  have hg:∀ op,(Go.eqGuard op t ox oy (.string a) (.string b)).run P w=.ok () w:=by
   intro op;cases op<;>simp[Go.eqGuard]
  simp only[Sem.run_bind,hg,Result.andThen_ok]
  cases op<;>simp[zoH]at h<;>(try subst h)<;>(try simp[Go.binOp,Op.stringOp,eqS])
  obtain⟨h0,rfl⟩:=h
  simp;omega
 ·rename_i a b
  have hg:∀ op,(Go.eqGuard op t ox oy (.bool a) (.bool b)).run P w=.ok () w:=by
   intro op;cases op<;>simp[Go.eqGuard]
  split at h
  ·rename_i hu;cases h;simp only[Sem.run_bind,hg,Result.andThen_ok];exact run_eql_bool w t a b hu
  ·rename_i hu;cases h;simp only[Sem.run_bind,hg,Result.andThen_ok];exact run_neq_bool w t a b hu
  ·cases h
 ·rename_i tx vx
  have hg:∀ op,(Go.eqGuard op t ox oy (.iface tx vx) .nilIface).run P w=.ok () w:=by
   intro op;cases op<;>simp[Go.eqGuard]
  split at h
  ·rename_i hu;cases h;simp only[Sem.run_bind,hg,Result.andThen_ok,Go.binOp];simp[zhq hu]
  ·rename_i hu;cases h;simp only[Sem.run_bind,hg,Result.andThen_ok,Go.binOp];simp[zhq hu]
  ·cases h
 ·split at h
  ·rename_i hu
   split at h
   ·rename_i he;cases h;simp only[Sem.run_bind,zho hu he,Result.andThen_ok,Go.binOp];simp[zhp hu]
   ·cases h
  ·rename_i hu
   split at h
   ·rename_i he;cases h;simp only[Sem.run_bind,zho hu he,Result.andThen_ok,Go.binOp];simp[zhp hu]
   ·cases h
  ·cases h
 ·cases h
def znM(op:UnOp)(x:Value):Option Value:=
 match op,x with
 |.neg,.int k n=>some (.int k (k.wrap (0 - n)))
 |.xor,.int k n=>some (.int k (bits .xor k (if k.signed then -1 else k.max) n))
 |.not,.bool b=>some (.bool !b)
 |_,_=>none
theorem zoz{P:Program}{op:UnOp}{x:Value}{v:Value}(h:znM op x=some v)(w:World):(Op.unary op x).run P w=.ok v w:=by
 unfold znM at h
 split at h<;>first|cases h|skip
 all_goals simp[Op.unary,Op.intArith,Op.intBits,bits]
end Go.Hw
end
section
namespace Go.Hw
variable [Globals]
def szOf (P:Program)(t:TypeId):Option Nat:=(P.info? t).map (·.size)
def aggB (P:Program)(t:TypeId):Option Bool:=
 match P.underlying t with
 |some (.struct _)|some (.array _ _)=>some true
 |some _=>some false
 |none=>none
def AC.one:AC->Bool
 |.p (.c u)=>u.oneCell'
 |.bad=>false
 |.own _=>false
 |_=>true
def AV.cells?:AV->Option (List AC)
 |.cell x=>if x.one then some [x] else none
 |.agg xs=>some xs
 |_=>none
def AC.plain:AC->Bool
 |.own _=>false
 |_=>true
def otCV:OT->CV
 |.p c=>c
 |.sp _ n cells=>.sl n cells
 |.sl _ n cells=>.sl n (go cells)
where
 go:List OT->List CV
  |[]=>[]
  |x::r=>otCV x::go r
def AC.toCV:AC->Option CV
 |.p x=>some x
 |.z=>some (.sl 0 [])
 |_=>none
def AC.cv:AC->Option CV
 |.p x=>some x
 |.z=>some (.sl 0 [])
 |.own t=>some (otCV t)
 |.ep cells 0=>some (.bx cells)
 |_=>none
def toCVs:List AC->Option (List CV)
 |[]=>some []
 |x::r=>match x.toCV,toCVs r with
  |some c,some l=>some (c::l)
  |_,_=>none
def cvs:List AC->Option (List CV)
 |[]=>some []
 |x::r=>match x.cv,cvs r with
  |some c,some l=>some (c::l)
  |_,_=>none
def Blk.cv:Blk->Option (List CV)
 |.pure l=>some l
 |.cells l=>cvs l
 |.map _ _=>none
def live (hp:Id->Option Blk)(b:Id):Bool:=(hp b).isSome
def rdS (hp:Id->Option Blk):AC->Option (Nat × List CV)
 |.p (.sl n cells)=>some (n,cells)
 |.z=>some (0,[])
 |.sl b off sz n=>match(hp b).bind Blk.cv with
  |some cs=>if off+n * sz<=cs.length then some (n,(cs.drop off).take (n * sz)) else none
  |none=>none
 |_=>none
def lenS (hp:Id->Option Blk):AC->Option Nat
 |.p (.sl n _)=>some n
 |.z=>some 0
 |.sl b _ _ n=>if live hp b then some n else none
 |_=>none
def zst(b:UInt8):CV:=.c (.int .u8 (b.toNat:Int))
def zbj(l:List UInt8):List CV:=l.map zst
def zbJ:List CV->Option (List UInt8)
 |[]=>some []
 |.c (.int .u8 n)::r=>(zbJ r).map (UInt8.ofNat n.toNat::·)
 |_=>none
def zeX(P:Program)(t:TypeId)(xs:List AC)(off:Nat):Option AV:=
 match aggB P t,szOf P t with
 |some true,some s=>if off+s<=xs.length then some (.agg ((xs.drop off).take s)) else none
 |some false,_=>(xs[off]?).map .cell
 |_,_=>none
def zam(P:Program)(t:TypeId)(xs:List CV)(off:Nat):Option AV:=
 match aggB P t,szOf P t with
 |some true,some s=>if off+s<=xs.length then some (.agg (((xs.drop off).take s).map .p)) else none
 |some false,_=>(xs[off]?).map fun x=>.cell (.p x)
 |_,_=>none
def zgY(P:Program)(t:TypeId)(xs:List AC)(off:Nat):Option (List AC):=
 match aggB P t,szOf P t with
 |some true,some s=>some ((xs.drop off).take s)
 |some false,_=>some ((xs.drop off).take 1)
 |_,_=>none
def zeG(P:Program)(hp:Id->Option Blk)(t:TypeId)(x:AV):Option AV:=
 match x with
 |.cell (.ref b off)=>match hp b with
  |some (.pure l)=>zam P t l off
  |some (.cells l)=>match zgY P t l off with
   |some s=>if s.all AC.plain then zeX P t l off else none
   |none=>none
  |_=>none
 |.cell (.ep cells pos)=>zam P t cells pos
 |.cell (.p (.bx cells))=>zam P t cells 0
 |_=>none
def zkR(P:Program)(hp:Id->Option Blk)(src dst:TypeId)(x:AV):Option AV:=
 match P.underlying src,P.underlying dst,x with
 |some _,some (.int k),.cell (.p (.c (.int _ n)))=>some (iV k (k.wrap n))
 |some _,some .string,.cell (.p (.c (.string s)))=>some (sV s)
 |some (.slice e),some .string,.cell x=>
  match P.underlying e,rdS hp x with
  |some (.int .u8),some (n,cells)=>if cells.length=n then(zbJ cells).map fun l=>sV ⟨l.toArray⟩ else none
  |_,_=>none
 |_,_,_=>none
def zfK(hp:Id->Option Blk)(x:AV)(n:Nat):Option AV:=
 match x with
 |.cell (.ref b off)=>if live hp b then some (.cell (.ref b (off+n))) else none
 |.cell (.ep cells pos)=>some (.cell (.ep cells (pos+n)))
 |.cell (.p (.bx cells))=>some (.cell (.ep cells n))
 |_=>none
def zcJ(P:Program)(hp:Id->Option Blk)(s:TypeId)(x:AV)(f:Nat):Option AV:=
 match P.underlying s with
 |some (.struct fields)=>
  match fields[f]? with
  |some fd=>
   match szOf P fd.type with
   |some (_+1)=>zfK hp x fd.offset
   |_=>none
  |none=>none
 |_=>none
def zkQ(P:Program)(s:TypeId)(x:AV)(f:Nat):Option AV:=
 match P.underlying s,x with
 |some (.struct fields),.agg xs=>(fields[f]?).bind fun fd=>zeX P fd.type xs fd.offset
 |_,_=>none
def zcI(P:Program)(hp:Id->Option Blk)(t:TypeId)(x i:AV):Option AV:=
 match i with
 |.cell (.p (.c (.int _ n)))=>
  match P.underlying t with
  |some (.slice e)=>
   match szOf P e,x with
   |some s,.cell (.p (.sl m cells))=>if(0<=n /\ n < m) /\ n.toNat * s < cells.length then some (.cell (.ep cells (n.toNat * s))) else none
   |some s,.cell (.sl b off sz m)=>if(0<=n /\ n < m) /\ live hp b=true /\ sz=s then some (.cell (.ref b (off+n.toNat * s))) else none
   |_,_=>none
  |some (.array len e)=>
   match szOf P e with
   |some s=>if 0<=n /\ n < len then zfK hp x (n.toNat * s) else none
   |none=>none
  |_=>none
 |_=>none
def zkO(P:Program)(t:TypeId)(x i:AV):Option AV:=
 match i with
 |.cell (.p (.c (.int _ n)))=>
  match P.underlying t,x with
  |some (.array len e),.agg xs=>if 0<=n /\ n < len then(szOf P e).bind fun s=>zeX P e xs (n.toNat * s) else none
  |some .string,.cell (.p (.c (.string s)))=>if 0<=n then(s[n.toNat]?).map fun b=>iV .u8 (b.toNat:Int) else none
  |_,_=>none
 |_=>none
def bound(x:Option AV)(d:Nat):Option Int:=
 match x with
 |none=>some d
 |some (.cell (.p (.c (.int _ n))))=>some n
 |_=>none
def zhs(P:Program)(hp:Id->Option Blk)(t:TypeId)(x:AV)(lo hi mx:Option AV):Option AV:=
 match P.underlying t,x with
 |some .string,.cell (.p (.c (.string s)))=>
  match bound lo 0,bound hi s.size,mx with
  |some l,some h,none=>if 0<=l /\ l<=h /\ h<=s.size then some (sV (s.extract l.toNat h.toNat)) else none
  |_,_,_=>none
 |some (.slice e),.cell x=>
  match lenS hp x,szOf P e with
  |some n,some s=>
   match bound lo 0,bound hi n,mx with
   |some l,some h,none=>
    if 0<=l /\ l<=h /\ h<=n then
     match x with
     |.p (.sl _ cells)=>some (.cell (.p (.sl (h - l).toNat ((cells.drop (l.toNat * s)).take ((h - l).toNat * s)))))
     |.z=>some (.cell .z)
     |.sl b off sz _=>if sz=s then some (.cell (.sl b (off+l.toNat * s) s (h - l).toNat)) else none
     |_=>none
    else none
   |some l,some h,some (.cell (.p (.c (.int _ m))))=>if hi.isSome=true /\ l=0 /\ h=0 /\ m=0 then some (.cell .z) else none
   |_,_,_=>none
  |_,_=>none
 |some (.pointer a),.cell (.ep cells pos)=>
  match P.underlying a with
  |some (.array n e)=>
   match szOf P e with
   |some s=>match lo,hi,mx with
    |none,none,none=>if n<=1099511627776 /\ pos+n * s<=cells.length then some (.cell (.p (.sl n ((cells.drop pos).take (n * s))))) else none
    |_,_,_=>none
   |none=>none
  |_=>none
 |some (.array n e),.cell (.ep cells pos)=>
  match szOf P e with
  |some s=>match lo,hi,mx with
   |none,none,none=>if n<=1099511627776 /\ pos+n * s<=cells.length then some (.cell (.p (.sl n ((cells.drop pos).take (n * s))))) else none
   |_,_,_=>none
  |none=>none
 |_,_=>none
def zaC{α:Type}(cells:List α)(off:Nat):List α->List α
 |[]=>cells
 |x::xs=>zaC (cells.set off x) (off+1) xs
def ziQ(place:Nat->Option (Nat × Nat))(cells:List AC):List (Nat × List AC)->Option (List AC)
 |[]=>some cells
 |(i,v)::rest=>
  match place i with
  |none=>none
  |some (off,size)=>if v.length ≠ size \/ off+v.length > cells.length then none else ziQ place (zaC cells off v) rest
def zfL(ev:Operand->AV):List (Nat × Operand)->Option (List (Nat × List AC))
 |[]=>some []
 |(i,x)::r=>match(ev x).cells?,zfL ev r with
  |some cs,some l=>some ((i,cs)::l)
  |_,_=>none
def zfT(P:Program):List Field->Option (List (Nat × Nat))
 |[]=>some []
 |fd::r=>match szOf P fd.type,zfT P r with
  |some s,some l=>some ((fd.offset,s)::l)
  |_,_=>none
def zaP(P:Program)(t:TypeId):Option (List AC):=
 match P.info? t with
 |some i=>match i.zero with
  |some z=>if z.cells.toList.all (·.oneCell') then some (z.cells.toList.map zhh) else none
  |none=>none
 |none=>none
def zjH(P:Program)(t:TypeId)(parts:List (Nat × Operand))(ev:Operand->AV):Option AV:=
 match P.underlying t,zaP P t,zfL ev parts with
 |some (.struct fields),some zero,some ps=>(zfT P fields.toList).bind fun pl=>(ziQ (fun i=>pl[i]?) zero ps).map .agg
 |some (.array _ e),some zero,some ps=>(szOf P e).bind fun s=>(ziQ (fun i=>some (i * s,s)) zero ps).map .agg
 |_,_,_=>none
def zd4(P:Program)(hp:Id->Option Blk)(b:Builtin)(argTypes:List TypeId)(args:List AV):Option AV:=
 match b,argTypes,args with
 |.len,t::_,[x]=>
  match P.underlying t,x with
  |some .string,.cell (.p (.c (.string s)))=>some (iV .i64 (s.size:Int))
  |some (.array n _),_=>some (iV .i64 (n:Int))
  |some (.slice _),.cell x=>(lenS hp x).map fun n=>iV .i64 (n:Int)
  |_,_=>none
 |.max,_,[.cell (.p (.c (.int k x))),.cell (.p (.c (.int _ y)))]=>some (iV k (if y > x then y else x))
 |.min,_,[.cell (.p (.c (.int k x))),.cell (.p (.c (.int _ y)))]=>some (iV k (if y < x then y else x))
 |_,_,_=>none
def eqOk (P:Program)(t:TypeId):Bool:=!P.stoodInHeld t && !P.eqGuardType P.depth t
def zeP(P:Program):List Field->List AC->List AC->Option Bool
 |[],_,_=>some true
 |f::fs,xs,ys=>
  match aggB P f.type,P.underlying f.type,xs[f.offset]?,ys[f.offset]?,zeP P fs xs ys with
  | some false, some (.int _), some (.p (.c (.int k a))), some (.p (.c (.int k' b))), some r => if f.name ≠ "_" ∧ k = k' then some (andB (eqI a b) r) else none
  | some false, some .string, some (.p (.c (.string a))), some (.p (.c (.string b))), some r => if f.name ≠ "_" then some (andB (eqS a b) r) else none
  |_,_,_,_,_=>none
def zwM:List AC->List AC->Option Bool
 |[],[]=>some true
 |.p (.c (.int k a))::xs,.p (.c (.int k' b))::ys=>if k=k' then(zwM xs ys).map (a == b && ·) else none
 |_,_=>none
def zkk(P:Program)(e:TypeId)(xs ys:List AC):List Nat->Option Bool
 |[]=>some true
 |i::is=>
  match xs[i]?,ys[i]?,zkk P e xs ys is with
  |some (.p (.c (.int k a))),some (.p (.c (.int k' b))),some r=>if k=k' then some (andB (eqI a b) r) else none
  |_,_,_=>none
def intT (P:Program)(e:TypeId):Bool:=match P.underlying e with|some (.int _)=>szOf P e == some 1|_=>false
def qeq (P:Program)(op:BinOp)(t:TypeId)(xs ys:List AC):Option AV:=
 match P.underlying t,eqOk P t,op with
 |some (.struct fs),true,.eql=>(zeP P fs.toList xs ys).map bV
 |some (.struct fs),true,.neq=>(zeP P fs.toList xs ys).map fun b=>bV !b
 |some (.array n e),true,.eql=>if intT P e=true then(zkk P e xs ys (List.range' 0 n)).map bV else none
 |some (.array n e),true,.neq=>if intT P e=true then(zkk P e xs ys (List.range' 0 n)).map fun b=>bV !b else none
 |_,_,_=>none
def zhP:MK->MK->Bool
 |.i k _,.i k' _=>k == k'
 |.s _,.s _=>true
 |_,_=>false
def zcc:List MK->MK->Option Nat
 |[],_=>none
 |k::ks,n=>if k=n then some 0 else(zcc ks n).map (·+1)
def mget {α:Type}(ks:List MK)(vs:List α)(n:MK):Option α:=(zcc ks n).bind (vs[·]?)
def zlf(ks:List MK)(n:MK):List MK:=if(zcc ks n).isSome then ks else ks++[n]
def zha{α:Type}(ks:List MK)(vs:List α)(n:MK)(x:α):List α:=match zcc ks n with
 |some i=>vs.set i x
 |none=>vs++[x]
def mdel {α:Type}(ks:List MK)(vs:List α)(n:MK):List α:=match zcc ks n with
 |some i=>vs.eraseIdx i
 |none=>vs
def keyC (P:Program)(kt:TypeId)(ks:List MK)(y:AV):Option MK:=match P.underlying kt,y with
 |some (.int k),.cell (.p (.c (.int k' n)))=>if k'=k then(if ks.all (zhP (.i k n))=true then some (.i k n) else none) else none
 |some .string,.cell (.p (.c (.string s)))=>if ks.all (zhP (.s s.data.toList))=true then some (.s s.data.toList) else none
 |_,_=>none
def zdI(P:Program)(t:TypeId):Option AC:=
 match P.info? t with
 |some i=>match i.zero with
  |some z=>if z.oneCell' then some (zhh z) else none
  |none=>none
 |none=>none
def outK (z:AC)(ok:Bool)(r:Option AC):AV:=match r with
 |some y=>if ok then .tup [.cell y,bV true] else .cell y
 |none=>if ok then .tup [.cell z,bV false] else .cell z
def zfg(P:Program)(hp:Id->Option Blk)(t:TypeId)(x i:AV)(ok:Bool):Option AV:=
 match P.underlying t with
 |some (.map kt e)=>
  match zdI P e with
  |some z=>
   match x with
   |.cell (.p (.mp ks vs))=>(keyC P kt ks i).map fun n=>outK z ok ((mget ks vs n).map .p)
   |.cell (.mp b)=>match hp b with
    |some (.map ks vs)=>(keyC P kt ks i).map fun n=>outK z ok (mget ks vs n)
    |_=>none
   |.cell (.p (.c (.map none)))=>(keyC P kt [] i).map fun _=>outK z ok none
   |_=>none
  |none=>none
 |_=>none
def zcu:List AC->Option (List Value)
 |[]=>some []
 |.p (.c u)::r=>(zcu r).map (u::·)
 |_::_=>none
def zkP(P:Program)(t:TypeId)(x:AV):Option AV:=
 match P.underlying t with
 |none=>none
 |some (.interface _)=>none
 |some _=>match x with
  |.cell (.p (.c u))=>some (.cell (.p (.c (.iface t u))))
  |.agg xs=>(zcu xs).map fun us=>.cell (.p (.c (.iface t (.agg us.toArray))))
  |_=>none
def zpt:Value->AV
 |.agg vs=>if vs.toList.all (fun u=>u.oneCell') then .agg (vs.toList.map fun u=>.p (.c u)) else .bad
 |u=>.cell (.p (.c u))
def zix(P:Program)(asserted:TypeId)(ok:Bool)(x:AV):Option AV:=
 match P.underlying asserted with
 |none=>none
 |some (.interface _)=>none
 |some _=>match x with
  |.cell (.p (.c (.iface t u)))=>if t=asserted then some (if ok then .tup [zpt u,bV true] else zpt u) else none
  |_=>none
def qval (P:Program)(hp:Id->Option Blk)(ev:Operand->AV)(op:Op):Option AV:=
 match op with
 |.move x=>some (ev x)
 |.assign x=>some (ev x)
 |.pick c a b=>match ev c with
  |.cell (.p (.c (.bool t)))=>some (if t then ev a else ev b)
  |_=>none
 |.binOp op t x y _=>match ev x,ev y with
  |.cell (.p (.c u)),.cell (.p (.c v))=>(zjB P op t u v).map fun r=>.cell (.p (.c r))
  |.agg xs,.agg ys=>qeq P op t xs ys
  |_,_=>none
 |.unOp op _ x=>match ev x with
  |.cell (.p (.c u))=>(znM op u).map fun r=>.cell (.p (.c r))
  |_=>none
 |.convert src dst x=>zkR P hp src dst (ev x)
 |.load t x=>zeG P hp t (ev x)
 |.nilCheck x=>zfK hp (ev x) 0
 |.fieldAddr s x f=>zcJ P hp s (ev x) f
 |.field s x f=>zkQ P s (ev x) f
 |.indexAddr t x i=>zcI P hp t (ev x) (ev i)
 |.index t x i=>zkO P t (ev x) (ev i)
 |.slice t x lo hi mx=>zhs P hp t (ev x) (lo.map ev) (hi.map ev) (mx.map ev)
 |.extract t i=>match ev t with
  |.tup xs=>xs[i]?
  |_=>none
 |.build t parts=>zjH P t parts.toList ev
 |.lookup t x i ok=>zfg P hp t (ev x) (ev i) ok
 |.call { callee:=.builtin b,args:=args,argTypes:=ts }=>zd4 P hp b ts.toList (args.toList.map ev)
 |.makeInterface t x=>zkP P t (ev x)
 |.typeAssert x _ t ok=>zix P t ok (ev x)
 |_=>none
end Go.Hw
end
section
namespace Go.Hw
variable [Globals]
open Go.RowKit (Below)
structure Seg (w:World) (m:Mem) (bad0:Nat->Prop) (raws:List Value) (acs:List AC):Prop where
 len:raws.length=acs.length
 one:∀ u ∈ raws,u.oneCell'=true
 rep:∀(j:Nat) (u:Value) (x:AC),raws[j]?=some u->acs[j]?=some x->zbN w m bad0 u x
section
variable {w:World} {m:Mem} {bad0:Nat->Prop} {raws:List Value} {acs:List AC}
theorem Seg.ofC{cells:List CV}(h:CReps w (Bad m bad0) raws cells):Seg w m bad0 raws (cells.map .p):=by
 refine⟨by simpa using h.len,h.one,fun j u x hu hx=>?_⟩
 rw[List.getElem?_map]at hx
 cases hc:cells[j]? with
 |none=>simp[hc]at hx
 |some c=>simp[hc]at hx;subst hx;exact h.rep j u c hu hc
theorem Seg.agg(h:Seg w m bad0 raws acs):AVRep w m bad0 (.agg raws.toArray) (.agg acs):=
 .agg _ _ (by simpa using h.len) (by simpa using h.one) fun j u x hu hx=>h.rep j u x (by simpa using hu) hx
theorem Seg.sub(h:Seg w m bad0 raws acs)(a n:Nat):Seg w m bad0 ((raws.drop a).take n) ((acs.drop a).take n):=by
 refine⟨by simp[h.len],fun u hu=>h.one u (List.mem_of_mem_drop (List.mem_of_mem_take hu)),fun j u x hu hx=>?_⟩
 rw[List.getElem?_take]at hu hx
 split at hu<;>simp_all
 exact h.rep _ u x hu hx
theorem Seg.get(h:Seg w m bad0 raws acs){i:Nat}{x:AC}(hx:acs[i]?=some x):∃ u,raws[i]?=some u /\ zbN w m bad0 u x:=by
 have hi:i < raws.length:=by
  rw[h.len]
  rcases Nat.lt_or_ge i acs.length with h|h
  ·exact h
  ·simp[List.getElem?_eq_none h]at hx
 exact⟨raws[i],List.getElem?_eq_getElem hi,h.rep i _ x (List.getElem?_eq_getElem hi) hx⟩
theorem Seg.ofAgg{v:Value}{xs:List AC}(h:AVRep w m bad0 v (.agg xs)):∃ cs:Array Value,v=.agg cs /\ Seg w m bad0 cs.toList xs:=by
 obtain⟨cs,rfl,hl,ho,hr⟩:=zsW h
 exact⟨cs,rfl,by simpa using hl,ho,fun j u x hu hx=>hr j u x (by simpa using hu) hx⟩
theorem Seg.append{r1 r2:List Value}{a1 a2:List AC}(h:Seg w m bad0 r1 a1)(k:Seg w m bad0 r2 a2):Seg w m bad0 (r1++r2) (a1++a2):=by
 refine⟨by simp[h.len,k.len],fun u hu=>?_,fun j u x hu hx=>?_⟩
 ·rcases List.mem_append.1 hu with h'|h'
  ·exact h.one u h'
  ·exact k.one u h'
 ·rcases Nat.lt_or_ge j r1.length with hj|hj
  ·rw[List.getElem?_append_left hj]at hu
   rw[List.getElem?_append_left (by rw[<- h.len];exact hj)]at hx
   exact h.rep j u x hu hx
  ·rw[List.getElem?_append_right hj]at hu
   rw[List.getElem?_append_right (by rw[<- h.len];exact hj),<- h.len]at hx
   exact k.rep _ u x hu hx
theorem Seg.set(h:Seg w m bad0 raws acs)(i:Nat){u:Value}{x:AC}(ho:u.oneCell'=true)(hu:zbN w m bad0 u x):Seg w m bad0 (raws.set i u) (acs.set i x):=by
 refine⟨by simp[h.len],fun v hv=>?_,fun j v y hv hy=>?_⟩
 ·rcases List.mem_or_eq_of_mem_set hv with h'|rfl
  ·exact h.one v h'
  ·exact ho
 ·rw[List.getElem?_set]at hv hy
  split at hv
  ·rename_i e
   subst e
   split at hv
   ·rename_i hlt
    cases hv
    rw[if_pos rfl,if_pos (by rw[<- h.len];exact hlt)]at hy
    cases hy;exact hu
   ·cases hv
  ·rename_i e
   rw[if_neg e]at hy
   exact h.rep j v y hv hy
end
theorem zik{P:Program}{t s:Nat}(h:szOf P t=some s):∃ i,P.info? t=some i /\ i.size=s:=by
 unfold szOf at h
 cases hi:P.info? t with
 |none=>simp[hi]at h
 |some i=>simp[hi]at h;exact⟨i,rfl,h⟩
theorem zdL{P:Program}{t:TypeId}{b:Bool}(h:aggB P t=some b)(w:World):(isAgg t).run P w=.ok b w:=by
 unfold aggB at h
 split at h<;>first|cases h|skip
 ·rename_i hu;simp[isAgg,run_underlying hu]
 ·rename_i hu;simp[isAgg,run_underlying hu]
 ·rename_i d hs ha hu
  simp only[isAgg,Sem.run_bind,run_underlying hu,Result.andThen_ok]
  cases d<;>first|rfl|exact(hs _ rfl).elim|exact(ha _ _ rfl).elim
theorem run_sizeOf{P:Program}{t s:Nat}(h:szOf P t=some s)(w:World):(sizeOf t).run P w=.ok s w:=by
 obtain⟨i,hi,hs⟩:=zik h
 simp[sizeOf,typeInfo,hi,hs]
section
variable {P:Program} {w:World} {m:Mem} {bad0:Nat->Prop}
theorem zm7{raws:Array Value}{acs:List AC}(hs:Seg w m bad0 raws.toList acs){t:TypeId}{off:Nat}{out:AV}(h:zeX P t acs off=some out) :
  ∃ v,(part t raws off).run P w=.ok v w /\ AVRep w m bad0 v out:=by
 unfold zeX at h
 split at h
 ·rename_i s h1 h2
  split at h
  ·rename_i hle
   cases h
   refine⟨.agg (raws.extract off (off+s)),by simp[part,zdL h1,run_sizeOf h2],?_⟩
   have:=(hs.sub off s).agg
   have e:((raws.toList.drop off).take s).toArray=raws.extract off (off+s):=by
    apply Array.ext';simp[List.extract,Nat.add_sub_cancel_left]
   rwa [e]at this
  ·cases h
 ·rename_i h1
  cases hx:acs[off]? with
  |none=>simp[hx]at h
  |some x=>
   simp[hx]at h
   subst h
   obtain⟨u,hu,hr⟩:=hs.get hx
   have hu':raws[off]?=some u:=by simpa using hu
   exact⟨u,by simp[part,zdL h1,hu'],.cell _ _ hr⟩
 ·cases h
theorem znl{a:Addr}{raws:List Value}{acs:List AC}(hl:raws.length=acs.length)(ho:∀(j:Nat) (u:Value),raws[j]?=some u->u.oneCell'=true)
  (hc:∀(j:Nat) (u:Value),raws[j]?=some u->w.cell? (a.add j)=some u)
  {t:TypeId} {off:Nat} (hr:∀(j:Nat) (u:Value) (x:AC),off<=j->(∀ s,zgY P t acs off=some s->j < off+s.length)->raws[j]?=some u->acs[j]?=some x->zbN w m bad0 u x)
  {out:AV} (h:zeX P t acs off=some out):∃ v,(loadVar t (a.add off)).run P w=.ok v w /\ AVRep w m bad0 v out:=by
 unfold zeX at h
 split at h
 ·rename_i s h1 h2
  split at h
  ·rename_i hle
   cases h
   have hl1:((raws.drop off).take s).length=s:=by simp[hl];omega
   have hl2:((acs.drop off).take s).length=s:=by simp;omega
   have hrun:=run_loadCells_list (P:=P) (w:=w) (a.add off) ((raws.drop off).take s) (fun j v hj=>by
    rw[List.getElem?_take]at hj
    split at hj
    ·rw[add_add];exact hc _ _ (by simpa using hj)
    ·cases hj)
   rw[hl1]at hrun
   refine⟨.agg ((raws.drop off).take s).toArray,by simp[loadVar,zdL h1,run_sizeOf h2,hrun],Seg.agg ⟨by simp[hl],fun u hu=>?_,fun j u x hu hx=>?_⟩⟩
   ·obtain⟨j,hj⟩:=List.getElem?_of_mem hu
    rw[List.getElem?_take]at hj
    split at hj
    ·exact ho _ u (by simpa using hj)
    ·cases hj
   ·rw[List.getElem?_take]at hu hx
    split at hu
    ·rename_i hlt
     rw[if_pos hlt]at hx
     refine hr (off+j) u x (Nat.le_add_right _ _) (fun s' hs'=>?_) (by simpa using hu) (by simpa using hx)
     have e:zgY P t acs off=some ((acs.drop off).take s):=by simp[zgY,h1,h2]
     rw[e]at hs';cases hs'
     rw[hl2];omega
    ·cases hu
  ·cases h
 ·rename_i h1
  cases hx:acs[off]? with
  |none=>simp[hx]at h
  |some x=>
   simp[hx]at h
   subst h
   have hi:off < raws.length:=by
    rw[hl]
    rcases Nat.lt_or_ge off acs.length with h|h
    ·exact h
    ·simp[List.getElem?_eq_none h]at hx
   have hu:=List.getElem?_eq_getElem hi
   refine⟨raws[off],by simp[loadVar,zdL h1,hc _ _ hu],.cell _ _ (hr off _ x (Nat.le_refl _) (fun s' hs'=>?_) hu hx)⟩
   have hlt:off < acs.length:=hl ▸ hi
   have e:zgY P t acs off=some ((acs.drop off).take 1):=by
    unfold zgY;rw[h1]
   rw[e]at hs';cases hs'
   simp;omega
 ·cases h
theorem zjI{t:TypeId}{l:List CV}{off:Nat}:zam P t l off=zeX P t (l.map .p) off:=by
 unfold zam zeX
 cases aggB P t with
 |none=>rfl
 |some b=>
  cases b with
  |false=>simp only[List.getElem?_map];cases l[off]?<;>rfl
  |true=>
   cases szOf P t with
   |none=>rfl
   |some s=>simp
def OwnB (m:Mem)(b:Id)(g:Nat):Prop:=(∃ base,m.ρ b=.at_ g base) \/ ∃ j,g ∈ m.hid b j
theorem ztd(l:List OT):otCV.go l=l.map otCV:=by
 induction l with
 |nil=>rfl
 |cons x l ih=>simp[otCV.go,ih]
theorem ziW{g base:Nat}{cur:Array Value}{e:TypeId}{fr:Nat × Nat}(hg:w.heap[g]?=some (.cells cur e fr)){j:Nat}{u:Value}(h:cur[base+j]?=some u) :
  w.cell? ((⟨g,base,none⟩:Addr).add j)=some u:=by
 rw[zfS]
 simpa [World.cell?,hg]using h
theorem zh0{bad':Nat->Prop}{g base n cap:Nat}{cur:Array Value}{e:TypeId}{fr:Nat × Nat}(hg:w.heap[g]?=some (.cells cur e fr))(hbad:¬ bad' g)(hn:n<=cap)(hm:cap<=maxLen){cells:List CV}(hs:base+cells.length<=cur.size)
  (ho:∀(j:Nat) (u:Value) (c:CV),cur[base+j]?=some u->cells[j]?=some c->u.oneCell'=true)
  (h:∀(j:Nat) (u:Value) (c:CV),cur[base+j]?=some u->cells[j]?=some c->CRep w bad' u c):CRep w bad' (.slice (some ⟨g,base,none⟩) n cap) (.sl n cells):=by
 have hl:((cur.toList.drop base).take cells.length).length=cells.length:=by simp;omega
 have hget:∀(j:Nat) (u:Value),((cur.toList.drop base).take cells.length)[j]?=some u->j < cells.length /\ cur[base+j]?=some u:=fun j u hj=>by
  rw[List.getElem?_take]at hj
  split at hj
  ·rename_i hlt;exact⟨hlt,by simpa using hj⟩
  ·cases hj
 refine .sl _ n cap ((cur.toList.drop base).take cells.length) cells hn hm hl (fun u hu=>?_) (fun j u hj=>?_) fun j u c hj hc=>h j u c (hget j u hj).2 hc
 ·obtain⟨j,hj⟩:=List.getElem?_of_mem hu
  obtain⟨hlt,hu⟩:=hget j u hj
  exact ho j u _ hu (List.getElem?_eq_getElem hlt)
 ·exact⟨_,rfl,hbad,ziW hg (hget j u hj).2⟩
theorem OTR.cv{bad bad':Nat->Prop}(hb:∀ g,bad' g->bad g){v:Value}{t:OT}{hs:List Nat}(h:OTR w bad v t hs):(∀ g ∈ hs,¬ bad' g)->CRep w bad' v (otCV t):=by
 have hx:Hx w bad w bad':=Hx.same fun g hn hg=>hn (hb g hg)
 induction h with
 |p v c h=>exact fun _=>h.mono hx
 |z a sz=>exact fun _=>.sl a 0 0 [] [] (Nat.le_refl _) (Nat.zero_le _) rfl (by simp) (by simp) (by simp)
 |zp a sz=>exact fun _=>.sl a 0 0 [] [] (Nat.le_refl _) (Nat.zero_le _) rfl (by simp) (by simp) (by simp)
 |sp g base n cap cur e fr sz cells hg hfr hn hm hs hl ho h=>
  intro hk
  refine zh0 hg (hk g (by simp)) hn hm ?_ ho fun j u c hu hc=>(h j u c hu hc).mono hx
  have:=Nat.mul_le_mul_right sz hn
  omega
 |sl g base n cap cur e fr sz cells hss hg hfr hn hm hs hl hhl ho h ih=>
  intro hk
  simp only[otCV,ztd]
  have key:∀(j:Nat) (c:CV),(cells.map otCV)[j]?=some c->∃ t hs',cells[j]?=some t /\ hss[j]?=some hs' /\ c=otCV t:=fun j c hc=>by
   rw[List.getElem?_map]at hc
   cases ht:cells[j]? with
   |none=>simp[ht]at hc
   |some t=>
    simp[ht]at hc
    have hlt:j < hss.length:=by
     rw[hhl]
     rcases Nat.lt_or_ge j cells.length with h|h
     ·exact h
     ·simp[h]at ht
    exact⟨t,hss[j],rfl,List.getElem?_eq_getElem hlt,hc.symm⟩
  refine zh0 hg (hk g (by simp)) hn hm ?_ (fun j u c hu hc=>?_) fun j u c hu hc=>?_
  ·have:=Nat.mul_le_mul_right sz hn
   simp;omega
  ·obtain⟨t,hs',h1,h2,rfl⟩:=key j c hc
   exact ho j u t hu h1
  ·obtain⟨t,hs',h1,h2,rfl⟩:=key j c hc
   exact ih j u t hs' hu h1 h2 fun g' hg'=>hk g' (List.mem_cons_of_mem _ (List.mem_flatten.2 ⟨hs',List.mem_of_getElem? h2,hg'⟩))
theorem zmK:∀ {l:List AC} {cs:List CV},cvs l=some cs->cs.length=l.length /\ ∀(j:Nat) (c:CV),cs[j]?=some c->∃ x,l[j]?=some x /\ x.cv=some c
 |[],cs,h=>by simp[cvs]at h;subst h;simp
 |x::r,cs,h=>by
  simp only[cvs]at h
  split at h
  ·rename_i c l h1 h2
   cases h
   obtain⟨h3,h4⟩:=zmK h2
   refine⟨by simp[h3],fun j d hj=>?_⟩
   cases j with
   |zero=>simp at hj;subst hj;exact⟨x,rfl,h1⟩
   |succ j=>simpa using h4 j d (by simpa using hj)
  ·cases h
@[simp] theorem ztK(l:List CV):cvs (l.map .p)=some l:=by
 induction l with
 |nil=>rfl
 |cons x l ih=>simp[cvs,ih,AC.cv]
@[simp] theorem zoE(l:List CV):toCVs (l.map .p)=some l:=by
 induction l with
 |nil=>rfl
 |cons x l ih=>simp[toCVs,ih,AC.toCV]
theorem zeV.cv{bad':Nat->Prop}(hb:∀ g,bad' g->Bad m bad0 g){hs:List Nat}(hh:∀ g ∈ hs,¬ bad' g){v:Value}{x:AC}(h:zeV w m bad0 hs v x){c:CV}(hx:x.cv=some c):CRep w bad' v c:=by
 unfold AC.cv at hx
 split at hx
 ·cases hx;exact CRep.mono (Hx.same fun g hn hg=>hn (hb g hg)) h
 ·cases hx;obtain⟨a,rfl⟩:=h;exact .sl a 0 0 [] [] (Nat.le_refl _) (Nat.zero_le _) rfl (by simp) (by simp) (by simp)
 ·cases hx;exact OTR.cv hb h hh
 ·cases hx
  obtain⟨x,raws,rfl,hc,hr⟩:=h
  have hr':=hr.mono (Hx.same fun g hn hg=>hn (hb g hg))
  exact .bx x raws _ hr'.len hr'.one (fun j u hj=>⟨fun hg=>(hc j u hj).1 (hb _ hg),(hc j u hj).2⟩) hr'.rep
 ·cases hx
theorem CRep.nil(bad:Nat->Prop)(a:Option Addr):CRep w bad (.slice a 0 0) (.sl 0 []):=.sl a 0 0 [] [] (Nat.le_refl _) (Nat.zero_le _) rfl (by simp) (by simp) (by simp)
def Blk.ac:Blk->Option (List AC)
 |.cells l=>some l
 |.pure l=>some (l.map .p)
 |.map _ _=>none
theorem Blk.cv_ac{b:Blk}{cs:List CV}(h:b.cv=some cs):∃ l,b.ac=some l /\ cvs l=some cs:=by
 cases b with
 |cells l=>exact⟨l,rfl,h⟩
 |pure l=>exact⟨_,rfl,by simpa [Blk.cv]using h⟩
 |map ks vs=>cases h
theorem BlkR.ac{i:Id}{b:Blk}{l:List AC}(h:BlkR w m bad0 i b)(hl:b.ac=some l):zaq w m bad0 i l:=by
 cases b<;>simp only[Blk.ac,Option.some.injEq,reduceCtorEq]at hl
 ·subst hl;exact h
 ·subst hl;exact h
theorem zmc{hp:Id->Option Blk}(hH:∀ i b,hp i=some b->isF i=false /\ BlkR w m bad0 i b){v:Value}{x:AC}(h:zbN w m bad0 v x){n:Nat}{cells:List CV}(hx:rdS hp x=some (n,cells))
  {bad':Nat->Prop} (hb:∀ g,bad' g->Bad m bad0 g) (hh:∀ b off sz k,x=.sl b off sz k->∀ g,OwnB m b g->¬ bad' g):CRep w bad' v (.sl n cells):=by
 have hx0:Hx w (Bad m bad0) w bad':=Hx.same fun g hn hg=>hn (hb g hg)
 unfold rdS at hx
 split at hx
 ·cases hx;exact CRep.mono hx0 h
 ·cases hx;obtain⟨a,rfl⟩:=h;exact CRep.nil _ a
 ·rename_i b off sz k
  split at hx
  ·rename_i cs hcs
   split at hx
   ·rename_i hle
    cases hx
    rw[Option.bind_eq_some_iff]at hcs
    obtain⟨bl,hbl,hcv⟩:=hcs
    obtain⟨_,hR⟩:=hH b bl hbl
    obtain⟨l,hl,hc⟩:=Blk.cv_ac hcv
    have hR:=hR.ac hl
    obtain⟨hc1,hc2⟩:=zmK hc
    unfold zaq at hR
    have h':SlR w (m.ρ b) off sz n v:=h
    cases hs:m.ρ b with
    |un=>rw[hs]at hR;exact hR.elim
    |dead=>rw[hs]at hR;exact hR.elim
    |vd=>
     rw[hs]at hR h'
     obtain⟨rfl,a,rfl⟩:=h'
     rw[Nat.zero_mul,List.take_zero]
     exact CRep.nil _ a
    |at_ g base=>
     rw[hs]at hR h'
     obtain⟨cur,e,fr,hg,hfr,hlen,hcell⟩:=hR
     rcases h' with⟨rfl,a,rfl⟩ |⟨cap,rfl,h3,h4,h5⟩
     ·rw[Nat.zero_mul,List.take_zero];exact CRep.nil _ a
     ·have hbad:=hh b off sz n rfl
      have hget:∀(j:Nat) (c:CV),((cs.drop off).take (n * sz))[j]?=some c->∃ x,l[off+j]?=some x /\ x.cv=some c:=fun j c hj=>by
       rw[List.getElem?_take]at hj
       split at hj
       ·exact hc2 _ _ (by simpa using hj)
       ·cases hj
      refine zh0 hg (hbad g (.inl ⟨base,hs⟩)) h3 h4 ?_ (fun j u c hu hc=>?_) fun j u c hu hc=>?_
      ·have h6:((cs.drop off).take (n * sz)).length=n * sz:=by simp;omega
       rw[h6];omega
      ·obtain⟨x,hx1,hx2⟩:=hget j c hc
       exact(hcell (off+j) u x (by rw[<- Nat.add_assoc];exact hu) hx1).1
      ·obtain⟨x,hx1,hx2⟩:=hget j c hc
       exact zeV.cv hb (fun g' hg'=>hbad g' (.inr ⟨_,hg'⟩)) (hcell (off+j) u x (by rw[<- Nat.add_assoc];exact hu) hx1).2 hx2
   ·cases hx
  ·cases hx
 ·cases hx
theorem zmz{hp:Id->Option Blk}(hH:∀ i b,hp i=some b->isF i=false /\ BlkR w m bad0 i b){v:Value}{x:AC}(h:zbN w m bad0 v x){n:Nat}(hx:lenS hp x=some n):∃ a cap,v=.slice a n cap /\ n<=cap /\ cap<=maxLen:=by
 unfold lenS at hx
 split at hx
 ·cases hx
  cases h with
  |sl a n cap raws cells hn hm hl ho hc hr=>exact⟨a,cap,rfl,hn,hm⟩
 ·cases hx;obtain⟨a,rfl⟩:=h;exact⟨a,0,rfl,Nat.le_refl _,Nat.zero_le _⟩
 ·rename_i b off sz k
  split at hx
  ·rename_i hl
   cases hx
   unfold live at hl
   rw[Option.isSome_iff_exists]at hl
   obtain⟨bl,hbl⟩:=hl
   have hR:=(hH b bl hbl).2
   have h':SlR w (m.ρ b) off sz n v:=h
   cases hs:m.ρ b with
   |un=>rw[hs]at h';exact h'.elim
   |dead=>
    cases bl with
    |cells l=>simp only[BlkR,zaq,hs]at hR
    |pure l=>simp only[BlkR,zaq,hs]at hR
    |map ks vs=>obtain⟨_,_,_,e,_⟩:=hR;rw[hs]at e;cases e
   |vd=>rw[hs]at h';obtain⟨rfl,a,rfl⟩:=h';exact⟨a,0,rfl,Nat.le_refl _,Nat.zero_le _⟩
   |at_ g base=>
    rw[hs]at h'
    rcases h' with⟨rfl,a,rfl⟩ |⟨cap,rfl,h3,h4,h5⟩
    ·exact⟨a,0,rfl,Nat.le_refl _,Nat.zero_le _⟩
    ·exact⟨_,cap,rfl,h3,h4⟩
  ·cases hx
 ·cases hx
theorem zgk{hp:Id->Option Blk}(hH:∀ i b,hp i=some b->isF i=false /\ BlkR w m bad0 i b){v:Value}{b:Id}{off:Nat}(h:RefR (m.ρ b) off v)(hl:live hp b=true):∃ g base,m.ρ b=.at_ g base /\ v=.pointer (some ⟨g,base+off,none⟩):=by
 unfold live at hl
 rw[Option.isSome_iff_exists]at hl
 obtain⟨bl,hbl⟩:=hl
 have hR:=(hH b bl hbl).2
 cases hs:m.ρ b with
 |un=>rw[hs]at h;exact h.elim
 |vd=>rw[hs]at h;exact h.elim
 |at_ g base=>rw[hs]at h;exact⟨g,base,rfl,h⟩
 |dead=>
  cases bl with
  |cells l=>simp only[BlkR,zaq,hs]at hR
  |pure l=>simp only[BlkR,zaq,hs]at hR
  |map ks vs=>obtain⟨_,_,_,e,_⟩:=hR;rw[hs]at e;cases e
theorem zoL{t:TypeId}{l s:List AC}{off:Nat}(h:zgY P t l off=some s){j:Nat}{x:AC}(h1:off<=j)(h2:j < off+s.length)(hx:l[j]?=some x):x ∈ s:=by
 have e:∃ k,s=(l.drop off).take k:=by
  unfold zgY at h
  split at h<;>simp at h<;>exact⟨_,h.symm⟩
 obtain⟨k,rfl⟩:=e
 have:j - off < k:=by simp at h2;omega
 refine List.mem_of_getElem? (i:=j - off) ?_
 rw[List.getElem?_take,if_pos this,List.getElem?_drop]
 rw[show off+(j - off)=j by omega];exact hx
theorem zeV.plain{hs:List Nat}{v:Value}{x:AC}(h:zeV w m bad0 hs v x)(hx:x.plain=true):zbN w m bad0 v x:=by
 cases x<;>first|exact h|simp[AC.plain]at hx
theorem ziw{hp:Id->Option Blk}(hH:∀ i b,hp i=some b->isF i=false /\ BlkR w m bad0 i b){t:TypeId}{v:Value}{x out:AV}(hv:AVRep w m bad0 v x)(h:zeG P hp t x=some out) :
  ∃ r,(Instr.loadAt t v).run P w=.ok r w /\ AVRep w m bad0 r out:=by
 have blk:∀ {b:Id} {off:Nat} {bl:Blk} {l:List AC},hp b=some bl->bl.ac=some l->RefR (m.ρ b) off v->zeX P t l off=some out->(∀ s,zgY P t l off=some s->s.all AC.plain=true) ->
   ∃ r,(Instr.loadAt t v).run P w=.ok r w /\ AVRep w m bad0 r out:=by
  intro b off bl l hb hl hv hp' hpl
  obtain⟨g,base,hs,rfl⟩:=zgk hH hv (by simp[live,hb])
  have hR:=((hH b bl hb).2).ac hl
  unfold zaq at hR
  rw[hs]at hR
  obtain⟨cur,e,fr,hg,hfr,hlen,hcell⟩:=hR
  have hlr:((cur.toList.drop base).take l.length).length=l.length:=by simp;omega
  have hget:∀(j:Nat) (u:Value),((cur.toList.drop base).take l.length)[j]?=some u->j < l.length /\ cur[base+j]?=some u:=fun j u hj=>by
   rw[List.getElem?_take]at hj
   split at hj
   ·rename_i hlt;exact⟨hlt,by simpa using hj⟩
   ·cases hj
  obtain⟨r,hrun,hr⟩:=znl (P:=P) (m:=m) (bad0:=bad0) (a:=⟨g,base,none⟩) (t:=t) (off:=off) hlr (fun j u hj=>by
    obtain⟨hlt,hu⟩:=hget j u hj
    exact(hcell j u _ hu (List.getElem?_eq_getElem hlt)).1) (fun j u hj=>ziW hg (hget j u hj).2) (fun j u x h1 h2 hu hx=>by
    obtain⟨hlt,hu⟩:=hget j u hu
    refine(hcell j u x hu hx).2.plain ?_
    cases hsg:zgY P t l off with
    |none=>
     unfold zeX at hp'
     unfold zgY at hsg
     split at hp'<;>simp_all
    |some s=>exact List.all_eq_true.1 (hpl s hsg) x (zoL hsg h1 (h2 s hsg) hx)) hp'
  rw[zfS]at hrun
  exact⟨r,by simpa [Instr.loadAt,Instr.sureAddr]using hrun,hr⟩
 have pur:∀ {y:Addr} {raws:List Value} {cells:List CV} {pos:Nat},v=.pointer (some (y.add pos))->(∀(j:Nat) (u:Value),raws[j]?=some u->w.cell? (y.add j)=some u)->CReps w (Bad m bad0) raws cells->zam P t cells pos=some out ->
   ∃ r,(Instr.loadAt t v).run P w=.ok r w /\ AVRep w m bad0 r out:=by
  intro y raws cells pos e hc hr h
  subst e
  rw[zjI]at h
  have hS:=Seg.ofC hr
  obtain⟨r,hrun,hr'⟩:=znl (P:=P) (a:=y) hS.len (fun j u hj=>hS.one u (List.mem_of_getElem? hj)) hc (fun j u x _ _ hu hx=>hS.rep j u x hu hx) h
  exact⟨r,by simpa [Instr.loadAt,Instr.sureAddr]using hrun,hr'⟩
 unfold zeG at h
 split at h
 ·rename_i b off
  have hv:=zar hv
  split at h
  ·rename_i l hb
   rw[zjI]at h
   refine blk hb rfl hv h fun s hs=>?_
   rw[List.all_eq_true]
   intro x hx
   have hm:x ∈ l.map AC.p:=by
    unfold zgY at hs
    split at hs<;>simp only[Option.some.injEq,reduceCtorEq]at hs<;>subst hs<;>exact List.mem_of_mem_drop (List.mem_of_mem_take hx)
   obtain⟨c,_,rfl⟩:=List.mem_map.1 hm
   rfl
  ·rename_i l hb
   split at h
   ·rename_i s hs
    split at h
    ·rename_i hall
     exact blk hb rfl hv h fun s' hs'=>by rw[hs]at hs';cases hs';exact hall
    ·cases h
   ·cases h
  ·cases h
 ·rename_i cells pos
  obtain⟨y,raws,e,hc,hr⟩:=zar hv
  exact pur e (fun j u hj=>(hc j u hj).2) hr h
 ·rename_i cells
  have hv:=zar hv
  cases hv with
  |bx y raws cells hl ho hc hr=>exact pur (pos:=0) (y:=y) (by simp[Addr.add]) (fun j u hj=>(hc j u hj).2) ⟨hl,ho,hr⟩ h
 ·cases h
theorem zjs{bad:Nat->Prop}{raws:List Value}{cells:List CV}(h:CReps w bad raws cells){l:List UInt8}(hl:zbJ cells=some l) :
  ∃ ns:List Int,raws=ns.map (Value.int .u8) /\ l=ns.map (fun n=>UInt8.ofNat n.toNat):=by
 obtain⟨h1,h2,h3⟩:=h
 induction cells generalizing raws l with
 |nil=>simp[zbJ]at hl;subst hl;exact⟨[],by simpa using List.eq_nil_of_length_eq_zero h1,rfl⟩
 |cons c cells ih=>
  cases raws with
  |nil=>simp at h1
  |cons u raws=>
   have hc:=h3 0 u c rfl rfl
   unfold zbJ at hl
   split at hl
   ·rename_i heq;cases heq
   ·rename_i n r heq
    simp at heq
    obtain⟨rfl,rfl⟩:=heq
    cases hr:zbJ cells with
    |none=>simp[hr]at hl
    |some l'=>
     simp[hr]at hl
     subst hl
     cases hc
     obtain⟨ns,rfl,rfl⟩:=ih hr (by simpa using h1) (fun u hu=>h2 u (by simp[hu])) (fun j u c hu hc=>h3 (j+1) u c (by simpa using hu) (by simpa using hc))
     exact⟨n::ns,rfl,rfl⟩
   ·cases hl
theorem zpb{hp:Id->Option Blk}(hH:∀ i b,hp i=some b->isF i=false /\ BlkR w m bad0 i b){src dst:TypeId}{v:Value}{x out:AV}(hv:AVRep w m bad0 v x)(h:zkR P hp src dst x=some out) :
  ∃ r,(convert src dst v).run P w=.ok r w /\ AVRep w m bad0 r out:=by
 unfold zkR at h
 split at h
 ·rename_i h1 h2
  cases h
  cases zck hv
  exact⟨_,by simp only[convert,Sem.run_bind,run_underlying h1,run_underlying h2,Result.andThen_ok];rfl,.cell _ _ (.c _)⟩
 ·rename_i h1 h2
  cases h
  cases zck hv
  exact⟨_,by simp only[convert,Sem.run_bind,run_underlying h1,run_underlying h2,Result.andThen_ok];rfl,.cell _ _ (.c _)⟩
 ·rename_i e x h1 h2
  split at h
  ·rename_i n cells h3 h4
   split at h
   ·rename_i hlen
    cases hl:zbJ cells with
    |none=>simp[hl]at h
    |some l=>
     simp[hl]at h
     subst h
     have hc:=zmc hH (zar hv) h4 (bad':=fun _=>False) (fun _ h=>h.elim) (fun _ _ _ _ _ _ _ h=>h)
     cases hc with
     |sl a n' cap raws cells' hn hm hl0 ho hc hr=>
      obtain⟨ns,rfl,rfl⟩:=zjs ⟨hl0,ho,hr⟩ hl
      have hnl:ns.length=n:=by rw[List.length_map]at hl0;rw[hl0];exact hlen
      have e1:(⟨(ns.map fun(n:Int)=>UInt8.ofNat n.toNat).toArray⟩:ByteArray)=ns.foldl (fun r n=>r.push (UInt8.ofNat n.toNat)) ByteArray.empty:=by
       rw[foldl_push_bytes];simp
      refine⟨.string ⟨(ns.map fun(n:Int)=>UInt8.ofNat n.toNat).toArray⟩,?_,.cell _ (.p (.c _)) (.c _)⟩
      rw[e1]
      simp only[convert,Sem.run_bind,run_underlying h1,run_underlying h2,run_underlying h3,Result.andThen_ok]
      cases a with
      |none=>
       cases ns with
       |nil=>simp[Conv.bytesToString]
       |cons n0 ns=>obtain⟨y,hy,_⟩:=hc 0 _ rfl;cases hy
      |some y=>
       refine run_bytesToString w y n cap ns ?_
       have:=run_loadCells_list (P:=P) (w:=w) y (ns.map (Value.int .u8)) (fun j v hj=>by obtain⟨y',e,_,h⟩:=hc j v hj;cases e;exact h)
       simpa [hnl]using this
   ·cases h
  ·cases h
 ·cases h
end
end Go.Hw
end
section
namespace Go.Hw
variable [Globals]
open Go.RowKit (Below)
open Go.MapKept
theorem zh5:∀ {ks:List MK} {n:MK} {i:Nat},zcc ks n=some i->i < ks.length
 |k::ks,n,i,h=>by
  unfold zcc at h
  split at h
  ·cases h;simp
  ·cases hr:zcc ks n with
   |none=>simp[hr]at h
   |some j=>simp[hr]at h;subst h;have:=zh5 hr;simp;omega
theorem zlg:∀ {ks:List MK} {n:MK} {i:Nat},zcc ks n=some i->ks[i]?=some n
 |k::ks,n,i,h=>by
  unfold zcc at h
  split at h
  ·rename_i e;cases h;simp[e]
  ·cases hr:zcc ks n with
   |none=>simp[hr]at h
   |some j=>simp[hr]at h;subst h;simpa using zlg hr
def MK.desc:MK->TypeDesc
 |.i k _=>.int k
 |.s _=>.string
 |.pr _ _=>.bool
def MK.isK:MK->Bool
 |.pr _ _=>false
 |_=>true
theorem znR{x y:MK}(hx:x.isK=true)(h:zhP x y=true):Instr.sameNow x.desc (kval x) (kval y)=some (decide (y=x)):=by
 cases x with
 |i k n=>
  cases y with
  |i k' n'=>
   simp only[zhP,beq_iff_eq]at h
   subst h
   simp only[MK.desc,kval,Instr.sameNow,if_true,MK.i.injEq,true_and,Option.some.injEq]
   by_cases e:n'=n
   ·subst e;simp
   ·have:(n == n')=false:=by simpa using fun e':n=n'=>e e'.symm
    rw[this];simp[e]
  |pr a b=>cases h
  |s x=>cases h
 |pr a b=>cases hx
 |s a=>
  cases y with
  |s b=>
   simp only[MK.desc,kval,Instr.sameNow,MK.s.injEq,Option.some.injEq]
   by_cases e:b=a
   ·subst e;simp only[decide_true];exact(bytes_beq _ _).2 rfl
   ·simp only[e,decide_false]
    rw[Bool.eq_false_iff]
    intro h2
    have:=(bytes_beq _ _).1 h2
    injection this with h3
    have h4:=congrArg Array.toList h3
    simp at h4
    exact e h4.symm
  |i k n=>cases h
  |pr a b=>cases h
theorem zhD{n:MK}(hx:n.isK=true):∀(es:List MapEntry) (ks:List MK) (raws:List Value) (i:Nat),ks.all (zhP n)=true->es.map (·.key)=ks.map kval->es.map (·.val)=raws ->
  Instr.findNow n.desc (kval n) es i=some ((zcc ks n).bind fun j=>(raws[j]?).map fun u=>(i+j,u))
 |[],[],raws,i,hp,hk,hv=>by simp[Instr.findNow,zcc]
 |[],k::ks,raws,i,hp,hk,hv=>by simp at hk
 |e::es,[],raws,i,hp,hk,hv=>by simp at hk
 |e::es,k::ks,raws,i,hp,hk,hv=>by
  simp at hk
  obtain⟨h1,h2⟩:=hk
  subst hv
  simp only[List.all_cons,Bool.and_eq_true]at hp
  unfold Instr.findNow zcc
  rw[h1,znR hx hp.1]
  by_cases hkn:k=n
  ·subst hkn;simp
  ·rw[if_neg hkn]
   simp only[hkn,decide_false]
   rw[zhD hx es ks _ (i+1) hp.2 h2 rfl]
   cases hr:zcc ks n with
   |none=>simp
   |some j=>simp;congr 1;funext u;simp;omega
theorem zjN{n:MK}(hx:n.isK=true):IsKey n.desc (kval n):=by
 cases n with
 |i k n=>rfl
 |s x=>trivial
 |pr a b=>cases hx
structure KeyRun (P:Program) (w:World) (kt:TypeId) (ks:List MK) (n:MK):Prop where
 check:∀ em,(Instr.checkKey em 10000 kt (kval n)).run P w=.ok () w
 find:∀(es:List MapEntry) (raws:List Value),es.map (·.key)=ks.map kval->es.map (·.val)=raws->(Instr.findKey kt (kval n) es).run P w=.ok ((zcc ks n).bind fun j=>(raws[j]?).map fun u=>(j,u)) w
 stays:(Instr.keyThatStays (kval n) (kval n)).run P w=.ok (kval n) w
theorem KeyRun.mk'{P:Program}{kt:TypeId}{ks:List MK}{n:MK}(hx:n.isK=true)(hu:P.underlying kt=some n.desc)(ha:ks.all (zhP n)=true)(w:World):KeyRun P w kt ks n:=
 ⟨fun em=>run_checkKey hu (zjN hx) em 9999,fun es raws hk hv=>by
  have:=zhD hx es ks raws 0 ha hk hv
  rw[run_findKey hu this];simp,run_keyThatStays (zjN hx)⟩
theorem zgy{P:Program}{m:Mem}{bad0:Nat->Prop}{w:World}{kt:TypeId}{ks:List MK}{i:Value}{y:AV}{n:MK}(hi:AVRep w m bad0 i y)(h:keyC P kt ks y=some n):i=kval n /\ ∀ w',KeyRun P w' kt ks n:=by
 unfold keyC at h
 split at h
 ·rename_i k k' n' hu
  split at h
  ·rename_i e
   subst e
   split at h
   ·rename_i ha
    cases h
    exact⟨zck hi,KeyRun.mk' rfl hu ha⟩
   ·cases h
  ·cases h
 ·rename_i s hu
  split at h
  ·rename_i ha
   cases h
   refine⟨?_,KeyRun.mk' rfl hu ha⟩
   rw[zck hi]
   simp only[kval]
  ·cases h
 ·cases h
section
variable {P:Program} {w:World} {t kt e:TypeId}
theorem znK{z:AC}(h:zdI P e=some z)(w:World)(m:Mem)(bad0:Nat->Prop):∃ u,(zeroValue e).run P w=.ok u w /\ u.oneCell'=true /\ zbN w m bad0 u z:=by
 unfold zdI at h
 split at h
 ·rename_i i hi
  split at h
  ·rename_i z' hz
   split at h
   ·rename_i ho
    cases h
    exact⟨z',by simp[zeroValue,typeInfo,run_program,hi,hz],ho,zf3 w m bad0 z'⟩
   ·cases h
  ·cases h
 ·cases h
theorem zjg(ht:P.underlying t=some (.map kt e)){z:Value}(hz:(zeroValue e).run P w=.ok z w){g:Nat}{ks:List MK}{raws:List Value}
  (hm:zde w g ks raws) {n:MK} (K:KeyRun P w kt ks n) (ok:Bool) :
  (Instr.lookup t (.map (some g)) (kval n) ok).run P w=.ok (match mget ks raws n with
   |some u=>if ok then .tuple #[u,.bool true] else u
   |none=>if ok then .tuple #[z,.bool false] else z) w:=by
 obtain⟨es,c,h1,h2,h3⟩:=hm
 have hf:=K.find es.toList raws h2 h3
 have hc:=K.check es.isEmpty
 unfold mget
 cases hr:zcc ks n with
 |none=>
  rw[hr]at hf
  simp only[Option.bind_none]at hf ⊢
  cases ok<;>simp[Instr.lookup,run_underlying ht,MapKept.run_getObj_map h1,hc,hf,Result.andThen,hz]
 |some j=>
  rw[hr]at hf
  have hl:ks.length=raws.length:=by
   have a1:=congrArg List.length h2
   have a2:=congrArg List.length h3
   simp at a1 a2;omega
  have hj:=zh5 hr
  rw[hl]at hj
  simp only[Option.bind_some,List.getElem?_eq_getElem hj,Option.map_some]at hf ⊢
  cases ok<;>simp[Instr.lookup,run_underlying ht,MapKept.run_getObj_map h1,hc,hf,Result.andThen]
theorem zjf(ht:P.underlying t=some (.map kt e)){z:Value}(hz:(zeroValue e).run P w=.ok z w){n:MK}(K:KeyRun P w kt [] n)(ok:Bool) :
  (Instr.lookup t (.map none) (kval n) ok).run P w=.ok (if ok then .tuple #[z,.bool false] else z) w:=by
 have hf:=K.find [] [] rfl rfl
 have hc:=K.check true
 simp only[zcc,Option.bind_none]at hf
 cases ok<;>simp[Instr.lookup,run_underlying ht,hc,hf,Result.andThen,hz]
theorem zj6(ht:P.underlying t=some (.map kt e)){g:Nat}{ks:List MK}{raws:List Value}
  (hm:zde w g ks raws) {n:MK} (K:KeyRun P w kt ks n) (u:Value) :
  ∃ es' c',(Instr.mapUpdate t (.map (some g)) (kval n) u).run P w=.ok () { w with heap:=w.heap.setIfInBounds g (.map es' c') } /\ es'.toList.map (·.key)=(zlf ks n).map kval /\ es'.toList.map (·.val)=zha ks raws n u:=by
 obtain⟨es,c,h1,h2,h3⟩:=hm
 have hf:=K.find es.toList raws h2 h3
 have hc:=K.check false
 have hst:=K.stays
 unfold zlf zha
 have hl:ks.length=raws.length:=by
  have a1:=congrArg List.length h2
  have a2:=congrArg List.length h3
  simp at a1 a2;omega
 cases hr:zcc ks n with
 |none=>
  rw[hr]at hf
  simp only[Option.bind_none]at hf
  exact⟨es.push { key:=kval n,val:=u,born:=c },c+1,
   by simp[Instr.mapUpdate,run_underlying ht,MapKept.run_getObj_map h1,hc,hf,MapKept.run_setObj_map _ h1,Result.andThen],by simp[h2],by simp[h3]⟩
 |some j=>
  rw[hr]at hf
  have hj:=zh5 hr
  have hkj:=zlg hr
  rw[hl]at hj
  simp only[Option.bind_some,List.getElem?_eq_getElem hj,Option.map_some]at hf
  have hje:j < es.size:=by
   have a2:=congrArg List.length h3
   simp at a2;omega
  have hke:(es[j]).key=kval n:=by
   have:=congrArg (·[j]?) h2
   simp[hkj,hje]at this
   exact this
  refine⟨es.modify j fun e=>{ e with key:=kval n,val:=u },c,?_,?_,?_⟩
  ·simp[Instr.mapUpdate,run_underlying ht,MapKept.run_getObj_map h1,hc,hf,Array.getElem?_eq_getElem hje,hke,hst,MapKept.run_setObj_map _ h1,Result.andThen]
  ·have:=modify_keys (es:=es) j (fun e=>{ e with key:=kval n,val:=u }) (fun e he=>by
    rw[Array.getElem?_eq_getElem hje]at he;cases he;exact hke.symm)
   rw[this,h2];simp
  ·subst h3
   apply List.ext_getElem?
   intro k
   simp only[List.getElem?_map,Array.getElem?_toList,Array.getElem?_modify,List.getElem?_set]
   by_cases hkj':j=k
   ·subst hkj';simp[hje]
   ·simp[hkj']
theorem zgv{α β:Type}(f:α->β):∀(l:List α) (i:Nat),(l.eraseIdx i).map f=(l.map f).eraseIdx i
 |[],_=>rfl
 |x::l,0=>rfl
 |x::l,i+1=>by simp[zgv f l i]
theorem znS(ht:P.underlying t=some (.map kt e)){g:Nat}{ks:List MK}{raws:List Value}
  (hm:zde w g ks raws) {n:MK} (K:KeyRun P w kt ks n) (kt' ty:TypeId) :
  ∃ es' c',(Builtin.delete_ #[t,kt'] ty #[.map (some g),kval n]).run P w=.ok (.tuple #[]) { w with heap:=w.heap.setIfInBounds g (.map es' c') } /\ es'.toList.map (·.key)=(mdel ks ks n).map kval /\ es'.toList.map (·.val)=mdel ks raws n:=by
 obtain⟨es,c,h1,h2,h3⟩:=hm
 have hf:=K.find es.toList raws h2 h3
 have hc:=K.check es.isEmpty
 unfold mdel
 have hl:ks.length=raws.length:=by
  have a1:=congrArg List.length h2
  have a2:=congrArg List.length h3
  simp at a1 a2;omega
 cases hr:zcc ks n with
 |none=>
  rw[hr]at hf
  simp only[Option.bind_none]at hf
  exact⟨es,c,by simp[Builtin.delete_,run_underlying ht,MapKept.run_getObj_map h1,hc,hf,MapKept.run_setObj_map _ h1,Result.andThen],h2,h3⟩
 |some j=>
  rw[hr]at hf
  have hj:=zh5 hr
  rw[hl]at hj
  have hje:j < es.size:=by
   have a2:=congrArg List.length h3
   simp at a2;omega
  simp only[Option.bind_some,List.getElem?_eq_getElem hj,Option.map_some]at hf
  have he:(es.eraseIdxIfInBounds j).toList=es.toList.eraseIdx j:=by
   unfold Array.eraseIdxIfInBounds;rw[dif_pos hje];simp
  refine⟨es.eraseIdxIfInBounds j,c,by simp[Builtin.delete_,run_underlying ht,MapKept.run_getObj_map h1,hc,hf,MapKept.run_setObj_map _ h1,Result.andThen],?_,?_⟩
  ·rw[he,zgv,h2,<- zgv]
  ·rw[he,zgv,h3]
end
theorem zrn{α:Type}{ks:List MK}{raws:List Value}{vs:List α}(hl:raws.length=vs.length)(n:MK) :
  (mget ks raws n=none /\ mget ks vs n=none) \/ ∃(j:Nat) (u:Value) (x:α),mget ks raws n=some u /\ mget ks vs n=some x /\ raws[j]?=some u /\ vs[j]?=some x:=by
 unfold mget
 cases zcc ks n with
 |none=>exact .inl ⟨rfl,rfl⟩
 |some j=>
  simp only[Option.bind_some]
  rcases Nat.lt_or_ge j raws.length with h|h
  ·exact .inr ⟨j,raws[j],vs[j],by simp[h],by simp[<- hl,h],by simp[h],by simp[<- hl,h]⟩
  ·exact .inl ⟨by simp[h],by simp[<- hl,h]⟩
theorem zj0{w:World}{m:Mem}{bad0:Nat->Prop}{u v:Value}{x y:AV}(h1:AVRep w m bad0 u x)(h2:AVRep w m bad0 v y):AVRep w m bad0 (.tuple #[u,v]) (.tup [x,y]):=by
 refine .tup _ _ rfl (fun j a b ha hb=>?_)
 match j,ha,hb with
 |0,ha,hb=>simp at ha hb;subst ha hb;exact h1
 |1,ha,hb=>simp at ha hb;subst ha hb;exact h2
 |j+2,ha,hb=>simp at hb
theorem zms{w:World}{m:Mem}{bad0:Nat->Prop}{i:Id}{v:Value}{ks:List MK}{vs:List AC}(h:BlkR w m bad0 i (.map ks vs))(hv:MpR (m.ρ i) v) :
  ∃ g base raws,m.ρ i=.at_ g base /\ v=.map (some g) /\ zde w g ks raws /\ raws.length=vs.length /\ ∀(j:Nat) (u:Value) (x:AC),raws[j]?=some u->vs[j]?=some x->u.oneCell'=true /\ zbN w m bad0 u x:=by
 obtain⟨g,base,raws,hρ,h1,h2,h3⟩:=h
 rw[hρ]at hv
 exact⟨g,base,raws,hρ,hv,h1,h2,h3⟩
theorem zme{P:Program}{w:World}{m:Mem}{bad0:Nat->Prop}{hp:Id->Option Blk}(hH:∀ i b,hp i=some b->isF i=false /\ BlkR w m bad0 i b){t:TypeId}{v i:Value}{x y:AV}{ok:Bool}(hv:AVRep w m bad0 v x)(hi:AVRep w m bad0 i y){out:AV}(h:zfg P hp t x y ok=some out) :
  ∃ r,(Instr.lookup t v i ok).run P w=.ok r w /\ AVRep w m bad0 r out:=by
 unfold zfg at h
 split at h
 ·rename_i kt e ht
  split at h
  ·rename_i z hz
   obtain⟨u0,hz1,hz2,hz3⟩:=znK hz w m bad0
   have hb:∀ b:Bool,AVRep w m bad0 (.bool b) (.cell (.p (.c (.bool b)))):=fun b=>.cell _ _ (.c _)
   have fin:∀ {α:Type} {g:Nat} {ks:List MK} {raws:List Value} {vs:List α} (f:α->AC) {n:MK},KeyRun P w kt ks n->zde w g ks raws->raws.length=vs.length->(∀(j:Nat) (u:Value) (x:α),raws[j]?=some u->vs[j]?=some x->zbN w m bad0 u (f x)) ->
     ∃ r,(Instr.lookup t (.map (some g)) (kval n) ok).run P w=.ok r w /\ AVRep w m bad0 r (outK z ok ((mget ks vs n).map f)):=by
    intro α g ks raws vs f n K hm hl hr
    refine⟨_,zjg ht hz1 hm K ok,?_⟩
    rcases zrn (ks:=ks) hl n with⟨h1,h2⟩ |⟨j,u,x,h1,h2,h3,h4⟩
    ·rw[h1,h2]
     simp only[Option.map_none,outK]
     cases ok
     ·exact .cell _ _ hz3
     ·exact zj0 (.cell _ _ hz3) (hb _)
    ·rw[h1,h2]
     simp only[Option.map_some,outK]
     cases ok
     ·exact .cell _ _ (hr j u x h3 h4)
     ·exact zj0 (.cell _ _ (hr j u x h3 h4)) (hb _)
   split at h
   ·rename_i ks vs
    rw[Option.map_eq_some_iff]at h
    obtain⟨n,hn,rfl⟩:=h
    obtain⟨rfl,K⟩:=zgy hi hn
    cases zar hv with
    |mp g raws _ _ hg hm hl ho hr=>exact fin AC.p (K w) hm hl fun j u c hu hc=>hr j u c hu hc
   ·rename_i b
    split at h
    ·rename_i ks vs hb'
     rw[Option.map_eq_some_iff]at h
     obtain⟨n,hn,rfl⟩:=h
     obtain⟨rfl,K⟩:=zgy hi hn
     obtain⟨g,base,raws,_,rfl,hm,hl,hr⟩:=zms (hH _ _ hb').2 (zar hv)
     have:=fin id (K w) hm hl fun j u c hu hc=>(hr j u c hu hc).2
     rwa [Option.map_id]at this
    ·cases h
   ·rw[Option.map_eq_some_iff]at h
    obtain⟨n,hn,rfl⟩:=h
    obtain⟨rfl,K⟩:=zgy hi hn
    have ev:=zck hv
    subst ev
    refine⟨_,zjf ht hz1 (K w) ok,?_⟩
    cases ok
    ·exact .cell _ _ hz3
    ·exact zj0 (.cell _ _ hz3) (hb _)
   ·cases h
  ·cases h
 ·cases h
theorem zpv{α:Type}{R:Value->α->Prop}{ks:List MK}{raws:List Value}{vs:List α}{n:MK}{u0:Value}{x0:α}(hl:raws.length=vs.length)(h0:R u0 x0)
  (h:∀(j:Nat) (u:Value) (x:α),raws[j]?=some u->vs[j]?=some x->R u x) :
  (zha ks raws n u0).length=(zha ks vs n x0).length /\ ∀(j:Nat) (u:Value) (x:α),(zha ks raws n u0)[j]?=some u->(zha ks vs n x0)[j]?=some x->R u x:=by
 unfold zha
 cases zcc ks n with
 |some i=>
  refine⟨by simpa using hl,fun j u x hu hx=>?_⟩
  simp only[List.getElem?_set]at hu hx
  split at hu
  ·rename_i e
   subst e
   split at hu
   ·rename_i hlt
    cases hu
    rw[if_pos rfl,if_pos (by omega)]at hx
    cases hx;exact h0
   ·cases hu
  ·rename_i e
   rw[if_neg e]at hx
   exact h j u x hu hx
 |none=>
  refine⟨by simp[hl],fun j u x hu hx=>?_⟩
  rcases Nat.lt_or_ge j raws.length with hj|hj
  ·rw[List.getElem?_append_left hj]at hu
   rw[List.getElem?_append_left (by omega)]at hx
   exact h j u x hu hx
  ·rw[List.getElem?_append_right hj]at hu
   rw[List.getElem?_append_right (by omega),<- hl]at hx
   cases hk:j - raws.length with
   |zero=>rw[hk]at hu hx;simp at hu hx;subst hu hx;exact h0
   |succ m=>rw[hk]at hu;simp at hu
theorem zro{α:Type}{R:Value->α->Prop}{ks:List MK}{raws:List Value}{vs:List α}{n:MK}(hl:raws.length=vs.length)
  (h:∀(j:Nat) (u:Value) (x:α),raws[j]?=some u->vs[j]?=some x->R u x) :
  (mdel ks raws n).length=(mdel ks vs n).length /\ ∀(j:Nat) (u:Value) (x:α),(mdel ks raws n)[j]?=some u->(mdel ks vs n)[j]?=some x->R u x:=by
 unfold mdel
 cases zcc ks n with
 |some i=>
  refine⟨by simp[List.length_eraseIdx,hl],fun j u x hu hx=>?_⟩
  rw[List.getElem?_eraseIdx]at hu hx
  split at hu
  ·rename_i e;rw[if_pos e]at hx;exact h _ _ _ hu hx
  ·rename_i e;rw[if_neg e]at hx;exact h _ _ _ hu hx
 |none=>exact⟨hl,h⟩
end Go.Hw
end
section
namespace Go.Hw
variable [Globals]
open Go.RowKit (Below)
theorem zsS{w:World}{m:Mem}{bad0:Nat->Prop}{vs:List Value}{xs:List AC}(hv:Seg w m bad0 vs xs):∀(off k:Nat) (raws:Array Value) (acs:List AC),Seg w m bad0 raws.toList acs ->
  Seg w m bad0 (((vs.zipIdx k).foldl (fun(cs:Array Value) (p:Value × Nat)=>cs.setIfInBounds (off+p.2) p.1) raws)).toList (zaC acs (off+k) xs):=by
 induction vs generalizing xs with
 |nil=>
  intro off k raws acs h
  have:xs=[]:=List.eq_nil_of_length_eq_zero (by rw[<- hv.len];rfl)
  subst this
  exact h
 |cons v vs ih=>
  intro off k raws acs h
  cases xs with
  |nil=>have:=hv.len;simp at this
  |cons x xs=>
   have h1:Seg w m bad0 vs xs:=⟨by simpa using hv.len,fun u hu=>hv.one u (by simp[hu]),fun j u y hu hy=>hv.rep (j+1) u y (by simpa using hu) (by simpa using hy)⟩
   have h2:=h.set (off+k) (hv.one v (by simp)) (hv.rep 0 v x rfl rfl)
   rw[<- Array.toList_setIfInBounds]at h2
   have:=ih h1 off (k+1) _ _ h2
   simpa [zaC,List.zipIdx_cons,Nat.add_assoc]using this
theorem zmm{w:World}{m:Mem}{bad0:Nat->Prop}{v:Value}{x:AC}(h:zbN w m bad0 v x)(hx:x.one=true):v.oneCell'=true:=by
 cases x with
 |p x=>
  cases x with
  |c u=>cases h;exact hx
  |sl m cs=>cases h;rfl
  |fn g caps=>cases h;rfl
  |bx cs=>cases h;rfl
  |mp ks vs=>cases h;rfl
 |z=>obtain⟨a,rfl⟩:=h;rfl
 |ref b off=>exact RefR.one h
 |sl b off sz n=>exact SlR.one h
 |mp b=>exact MpR.one h
 |ep cs pos=>obtain⟨y,raws,rfl,_⟩:=h;rfl
 |fn g caps=>obtain⟨vs,rfl,_⟩:=h;rfl
 |yl l=>cases h;rfl
 |own t=>exact h.elim
 |bad=>simp[AC.one]at hx
theorem cells_one{v:Value}(h:v.oneCell'=true):v.cells=#[v]:=by cases v<;>simp_all [Value.oneCell',Value.cells]
theorem ziV{w:World}{m:Mem}{bad0:Nat->Prop}{v:Value}{x:AV}(h:AVRep w m bad0 v x){acs:List AC}(hx:x.cells?=some acs):Seg w m bad0 v.cells.toList acs:=by
 cases x with
 |cell x=>
  simp only[AV.cells?]at hx
  split at hx
  ·rename_i ho
   cases hx
   have hv:=zar h
   rw[cells_one (zmm hv ho)]
   refine⟨rfl,by simpa using zmm hv ho,fun j u y hu hy=>?_⟩
   cases j with
   |zero=>simp at hu hy;subst hu hy;exact hv
   |succ j=>simp at hu
  ·cases hx
 |agg xs=>
  simp[AV.cells?]at hx
  subst hx
  obtain⟨cs,rfl,hs⟩:=Seg.ofAgg h
  exact hs
 |tup xs=>simp[AV.cells?]at hx
 |bad=>simp[AV.cells?]at hx
theorem zh9{w:World}{m:Mem}{bad0:Nat->Prop}{ev:Operand->AV}{ρv:Operand->Value}(he:∀ x,AVRep w m bad0 (ρv x) (ev x))(place:Nat->Option (Nat × Nat)):∀(parts:List (Nat × Operand)) (ps:List (Nat × List AC)),
  zfL ev parts=some ps->∀(raws:Array Value) (acs acs':List AC),Seg w m bad0 raws.toList acs->ziQ place acs ps=some acs' ->
  ∃ raws':Array Value,Instr.fill place raws (parts.map fun p=>(p.1,ρv p.2))=some raws' /\ Seg w m bad0 raws'.toList acs'
 |[],ps,hp,raws,acs,acs',hs,hf=>by
  simp[zfL]at hp
  subst hp
  simp[ziQ]at hf
  subst hf
  exact⟨raws,rfl,hs⟩
 |(i,x)::r,ps,hp,raws,acs,acs',hs,hf=>by
  simp only[zfL]at hp
  split at hp
  ·rename_i cs l h1 h2
   cases hp
   have hx:=ziV (he x) h1
   simp only[ziQ]at hf
   split at hf
   ·cases hf
   ·rename_i off size hpl
    split at hf
    ·cases hf
    ·rename_i hc
     have hlen:(ρv x).cells.size=cs.length:=by have:=hx.len;simpa using this
     have hlen2:raws.size=acs.length:=by have:=hs.len;simpa using this
     have h3:=zsS hx off 0 raws acs hs
     rw[Nat.add_zero]at h3
     obtain⟨raws',hr,hs'⟩:=zh9 he place r l h2 _ _ acs' h3 hf
     refine⟨raws',?_,hs'⟩
     have hcond:((ρv x).cells.size ≠ size || off+(ρv x).cells.size > raws.size)=false:=by
      simp only[Bool.or_eq_false_iff,decide_eq_false_iff_not]
      omega
     simp only[List.map_cons,Instr.fill,hpl,hcond,Bool.false_eq_true,if_false]
     rw[<- hr,<- Array.foldl_toList,Array.toList_zipIdx]
  ·cases hp
theorem zht{P:Program}:∀(fs:List Field) (pl:List (Nat × Nat)),zfT P fs=some pl->fs.mapM (fun f=>(P.info? f.type).map fun i=>(f.offset,i.size))=some pl
 |[],pl,h=>by simp[zfT]at h;subst h;rfl
 |f::fs,pl,h=>by
  simp only[zfT]at h
  split at h
  ·rename_i s l h1 h2
   cases h
   obtain⟨i,hi,rfl⟩:=zik h1
   simp[List.mapM_cons,hi,zht fs l h2]
  ·cases h
theorem zej{P:Program}{t:TypeId}{zs:List AC}(h:zaP P t=some zs)(w:World)(m:Mem)(bad0:Nat->Prop):∃ i z,P.info? t=some i /\ i.zero=some z /\ Seg w m bad0 z.cells.toList zs:=by
 unfold zaP at h
 split at h
 ·rename_i i hi
  split at h
  ·rename_i z hz
   split at h
   ·rename_i ho
    cases h
    refine⟨i,z,hi,hz,by simp,fun u hu=>by rw[List.all_eq_true]at ho;exact ho u hu,fun j u x hu hx=>?_⟩
    rw[List.getElem?_map,hu]at hx
    simp at hx
    subst hx
    exact zf3 w m bad0 u
   ·cases h
  ·cases h
 ·cases h
def zl1(w:World)(m:Mem)(bad0:Nat->Prop):Option Value->Option AV->Prop
 |none,none=>True
 |some v,some x=>AVRep w m bad0 v x
 |_,_=>False
theorem zeB{w:World}{m:Mem}{bad0:Nat->Prop}{v:Option Value}{x:Option AV}(h:zl1 w m bad0 v x){d:Nat}{l:Int}(hb:bound x d=some l) :
  v=none /\ l=d \/ ∃ k,v=some (.int k l):=by
 unfold bound at hb
 split at hb
 ·cases hb
  cases v with
  |none=>exact .inl ⟨rfl,rfl⟩
  |some v=>cases h
 ·cases hb
  cases v with
  |none=>cases h
  |some v=>cases zck h;exact .inr ⟨_,rfl⟩
 ·cases hb
theorem zjF{P:Program}{w:World}(b:Bool)(len cap:Nat){lo hi:Option Value}{l h:Int}(hl:lo=none /\ l=(0:Nat) \/ ∃ k,lo=some (.int k l))(hh:hi=none /\ h=len \/ ∃ k,hi=some (.int k h))
  (h0:0<=l) (h1:l<=h) (h2:h<=cap):(Instr.sliceBounds b len cap lo hi none).run P w=.ok (l.toNat,h.toNat,cap) w:=by
 have hc:(h.toNat:Int)=h:=by omega
 rcases hl with⟨rfl,rfl⟩ |⟨kl,rfl⟩<;>rcases hh with⟨rfl,rfl⟩ |⟨kh,rfl⟩ <;>
  simp_all [Instr.sliceBounds,Instr.sliceBound,asIntOf]<;>omega
theorem zeO{P:Program}{w:World}{m:Mem}{bad0:Nat->Prop}{d:Nat}{rx ry:Array Value}{xs ys:List AC}(hx:Seg w m bad0 rx.toList xs)(hy:Seg w m bad0 ry.toList ys) :
  ∀(fs:List Field) {b:Bool},zeP P fs xs ys=some b->(Op.eqFields (d+1) rx ry fs).run P w=.ok b w
 |[],b,h=>by simp[zeP]at h;subst h;simp[Op.eqFields]
 |f::fs,b,h=>by
  unfold zeP at h
  split at h
  ·rename_i k a k' c r h1 h2 h3 h4 h5
   split at h
   ·rename_i hc
    obtain⟨hn,rfl⟩:=hc
    cases h
    obtain⟨u,hu,hru⟩:=hx.get h3
    obtain⟨v,hv,hrv⟩:=hy.get h4
    cases hru;cases hrv
    have hu':rx[f.offset]?=some (.int k a):=by simpa using hu
    have hv':ry[f.offset]?=some (.int k c):=by simpa using hv
    have ih:=zeO (d:=d) hx hy fs h5
    simp only[Op.eqFields,hn,ne_eq,not_false_eq_true,if_true,Sem.run_bind]
    simp only[part,zdL h1,Sem.run_bind,Result.andThen_ok,Bool.false_eq_true,if_false,hu',hv',Sem.run_pure,run_equalIn_int (P:=P) w d f.type k _ a c h2]
    unfold andB eqI
    cases hac:(a == c)<;>simp[ih]
   ·cases h
  ·rename_i a c r h1 h2 h3 h4 h5
   split at h
   ·rename_i hn
    cases h
    obtain⟨u,hu,hru⟩:=hx.get h3
    obtain⟨v,hv,hrv⟩:=hy.get h4
    cases hru;cases hrv
    have hu':rx[f.offset]?=some (.string a):=by simpa using hu
    have hv':ry[f.offset]?=some (.string c):=by simpa using hv
    have ih:=zeO (d:=d) hx hy fs h5
    simp only[Op.eqFields,hn,ne_eq,not_false_eq_true,if_true,Sem.run_bind]
    simp only[part,zdL h1,Sem.run_bind,Result.andThen_ok,Bool.false_eq_true,if_false,hu',hv',Sem.run_pure,run_equalIn_string (P:=P) w d f.type a c h2]
    unfold andB eqS
    cases hac:(a.toList == c.toList)<;>simp[ih]
   ·cases h
  ·cases h
section
variable {P:Program} (w:World)
def zf2(d:Nat)(e:TypeId)(n:Nat)(xs ys:Array Value):List Nat->Sem Bool
 |[]=>pure true
 |i::is=>do
  let a <- part e xs (i * n)
  let b <- part e ys (i * n)
  let r <- Op.equalIn d e a b
  if(!r)=true then pure false else zf2 d e n xs ys is
theorem zfa(d:Nat)(t e:TypeId)(len n:Nat)(xs ys:Array Value)(ht:P.underlying t=some (.array len e))(hn:(sizeOf e).run P w=.ok n w) :
  (Op.equalIn (d+1) t (.agg xs) (.agg ys)).run P w=(zf2 d e n xs ys (List.range' 0 len)).run P w:=by
 simp only[Op.equalIn,Sem.run_bind,run_underlying ht,Result.andThen_ok,hn,Std.Legacy.Range.forIn_eq_forIn_range',Std.Legacy.Range.size]
 simp only[Nat.sub_zero,Nat.add_sub_cancel,Nat.div_one]
 generalize List.range' 0 len=fs
 clear hn
 induction fs generalizing w with
 |nil=>simp[zf2]
 |cons f fs ih=>
  simp only[List.forIn_cons,zf2,Sem.run_bind]
  generalize (part e xs (f * n)).run P w=r1
  cases r1 with
  |ok a w1=>
   simp only[Result.andThen_ok]
   generalize (part e ys (f * n)).run P w1=r2
   cases r2 with
   |ok b w2=>
    simp only[Result.andThen_ok]
    generalize (Op.equalIn d e a b).run P w2=r3
    cases r3 with
    |ok r w3=>
     cases r
     ·simp only[Result.andThen_ok,Bool.not_false,if_true,Sem.run_pure]
     ·simp only[Result.andThen_ok,Bool.not_true,Bool.false_eq_true,if_false,Sem.run_pure]
      exact ih w3
    |halt x w3=>simp[Result.andThen]
   |halt x w2=>simp[Result.andThen]
  |halt x w1=>simp[Result.andThen]
theorem ziR{w:World}{m:Mem}{bad0:Nat->Prop}{d:Nat}{e:TypeId}{ki:IntKind}{rx ry:Array Value}{xs ys:List AC}(hx:Seg w m bad0 rx.toList xs)(hy:Seg w m bad0 ry.toList ys)
  (h1:aggB P e=some false) (h2:P.underlying e=some (.int ki)):∀(is:List Nat) {b:Bool},zkk P e xs ys is=some b->(zf2 (d+1) e 1 rx ry is).run P w=.ok b w
 |[],b,h=>by simp[zkk]at h;subst h;simp[zf2]
 |i::is,b,h=>by
  unfold zkk at h
  split at h
  ·rename_i k a k' c r h3 h4 h5
   split at h
   ·rename_i hc
    subst hc
    cases h
    obtain⟨u,hu,hru⟩:=hx.get h3
    obtain⟨v,hv,hrv⟩:=hy.get h4
    cases hru;cases hrv
    have hu':rx[i]?=some (.int k a):=by simpa using hu
    have hv':ry[i]?=some (.int k c):=by simpa using hv
    have ih:=ziR (d:=d) hx hy h1 h2 is h5
    simp only[zf2,Sem.run_bind,Nat.mul_one]
    simp only[part,zdL h1,Sem.run_bind,Result.andThen_ok,Bool.false_eq_true,if_false,hu',hv',Sem.run_pure,run_equalIn_int (P:=P) w d e k _ a c h2]
    unfold andB eqI
    cases hac:(a == c)<;>simp[ih]
   ·cases h
  ·cases h
end
theorem zlj{P:Program}{e:TypeId}(h:intT P e=true):∃ k,P.underlying e=some (.int k) /\ szOf P e=some 1 /\ aggB P e=some false:=by
 unfold intT at h
 split at h
 ·rename_i k hu;exact⟨k,hu,by simpa using h,by simp[aggB,hu]⟩
 ·cases h
theorem zs6{P:Program}{w:World}{m:Mem}{bad0:Nat->Prop}{op:BinOp}{t:TypeId}{rx ry:Array Value}{xs ys:List AC}(hx:Seg w m bad0 rx.toList xs)(hy:Seg w m bad0 ry.toList ys){out:AV}
  (h:qeq P op t xs ys=some out) (ox oy:Operand):∃ v,(do Go.eqGuard op t ox oy (.agg rx) (.agg ry);Go.binOp op t (.agg rx) (.agg ry):Sem Value).run P w=.ok v w /\ AVRep w m bad0 v out:=by
 unfold qeq at h
 split at h
 ·rename_i fs h1 h2
  cases hb:zeP P fs.toList xs ys with
  |none=>simp[hb]at h
  |some b=>
   simp[hb]at h
   subst h
   simp only[eqOk,Bool.and_eq_true,Bool.not_eq_true']at h2
   have hf:P.fieldsOf t=fs:=by simp[Program.fieldsOf,h1]
   have hr:=zeO (d:=9998) hx hy fs.toList hb
   refine⟨.bool b,?_,.cell _ _ (.c _)⟩
   rw[Sem.run_bind,run_eqGuard_agg w _ t ox oy rx ry h2.2]
   simp only[Result.andThen_ok]
   rw[run_eql_struct,show(10000:Nat)=9999+1 from rfl,run_equalIn_agg w 9999 t rx ry (by rw[hf];exact h1) h2.1,hf,hr]
   rfl
 ·rename_i fs h1 h2
  cases hb:zeP P fs.toList xs ys with
  |none=>simp[hb]at h
  |some b=>
   simp[hb]at h
   subst h
   simp only[eqOk,Bool.and_eq_true,Bool.not_eq_true']at h2
   have hf:P.fieldsOf t=fs:=by simp[Program.fieldsOf,h1]
   have hr:=zeO (d:=9998) hx hy fs.toList hb
   refine⟨.bool !b,?_,.cell _ _ (.c _)⟩
   rw[Sem.run_bind,run_eqGuard_agg w _ t ox oy rx ry h2.2]
   simp only[Result.andThen_ok]
   rw[run_neq_struct,show(10000:Nat)=9999+1 from rfl,run_equalIn_agg w 9999 t rx ry (by rw[hf];exact h1) h2.1,hf,hr]
   rfl
 ·rename_i n e h1 h2
  split at h
  ·rename_i hi
   cases hb:zkk P e xs ys (List.range' 0 n) with
   |none=>simp[hb]at h
   |some b=>
    simp[hb]at h
    subst h
    simp only[eqOk,Bool.and_eq_true,Bool.not_eq_true']at h2
    obtain⟨k,hu,hs,ha⟩:=zlj hi
    have hr:=ziR (d:=9998) hx hy ha hu _ hb
    refine⟨.bool b,?_,.cell _ _ (.c _)⟩
    rw[Sem.run_bind,run_eqGuard_agg w _ t ox oy rx ry h2.2]
    simp only[Result.andThen_ok]
    rw[run_eql_struct,show(10000:Nat)=9999+1 from rfl,zfa w 9999 t e n 1 rx ry h1 (run_sizeOf hs w),hr]
    rfl
  ·cases h
 ·rename_i n e h1 h2
  split at h
  ·rename_i hi
   cases hb:zkk P e xs ys (List.range' 0 n) with
   |none=>simp[hb]at h
   |some b=>
    simp[hb]at h
    subst h
    simp only[eqOk,Bool.and_eq_true,Bool.not_eq_true']at h2
    obtain⟨k,hu,hs,ha⟩:=zlj hi
    have hr:=ziR (d:=9998) hx hy ha hu _ hb
    refine⟨.bool !b,?_,.cell _ _ (.c _)⟩
    rw[Sem.run_bind,run_eqGuard_agg w _ t ox oy rx ry h2.2]
    simp only[Result.andThen_ok]
    rw[run_neq_struct,show(10000:Nat)=9999+1 from rfl,zfa w 9999 t e n 1 rx ry h1 (run_sizeOf hs w),hr]
    rfl
  ·cases h
 ·cases h
section
variable {P:Program} {w:World} {m:Mem} {bad0:Nat->Prop}
theorem zn3{ev:Operand->AV}{ρv:Operand->Value}(he:∀ x,AVRep w m bad0 (ρv x) (ev x)){t:TypeId}{parts:Array (Nat × Operand)}{out:AV}(h:zjH P t parts.toList ev=some out) :
  ∃ r,(Instr.build t (parts.map fun(i,x)=>(i,ρv x))).run P w=.ok r w /\ AVRep w m bad0 r out:=by
 unfold zjH at h
 have hmap:(parts.map fun(i,x)=>(i,ρv x)).toList=parts.toList.map fun p=>(p.1,ρv p.2):=by simp
 split at h
 ·rename_i fields zero ps hu hz hp
  cases hpl:zfT P fields.toList with
  |none=>simp[hpl]at h
  |some pl=>
   simp[hpl]at h
   obtain⟨acs',hf,rfl⟩:=h
   obtain⟨i,z,hi,hz',hs⟩:=zej hz w m bad0
   obtain⟨raws',hr,hs'⟩:=zh9 he (fun i=>pl[i]?) parts.toList ps hp z.cells zero acs' hs hf
   refine⟨_,run_build w t _ raws' ?_,by have:=hs'.agg;simpa using this⟩
   simp only[Program.built,hi,hu,hz',zht _ _ hpl,hmap]
   simpa using hr
 ·rename_i n e zero ps hu hz hp
  cases hs0:szOf P e with
  |none=>simp[hs0]at h
  |some s=>
   simp[hs0]at h
   obtain⟨acs',hf,rfl⟩:=h
   obtain⟨ie,hie,rfl⟩:=zik hs0
   obtain⟨i,z,hi,hz',hs⟩:=zej hz w m bad0
   obtain⟨raws',hr,hs'⟩:=zh9 he (fun i=>some (i * ie.size,ie.size)) parts.toList ps hp z.cells zero acs' hs hf
   refine⟨_,run_build w t _ raws' ?_,by have:=hs'.agg;simpa using this⟩
   simp only[Program.built,hi,hu,hz',hie,hmap]
   exact hr
 ·cases h
theorem zg2{hp:Id->Option Blk}(hH:∀ i b,hp i=some b->isF i=false /\ BlkR w m bad0 i b){v:Value}{x out:AV}{n:Nat}(hv:AVRep w m bad0 v x)(h:zfK hp x n=some out) :
  ∃ a:Addr,v=.pointer (some a) /\ AVRep w m bad0 (.pointer (some (a.add n))) out:=by
 unfold zfK at h
 split at h
 ·rename_i b off
  split at h
  ·rename_i hl
   cases h
   obtain⟨g,base,hs,rfl⟩:=zgk hH (zar hv) hl
   refine⟨_,rfl,.cell _ _ ?_⟩
   show RefR (m.ρ b) (off+n) _
   rw[hs,zfS,Nat.add_assoc];rfl
  ·cases h
 ·rename_i cells pos
  cases h
  obtain⟨y,raws,rfl,hc⟩:=zar hv
  exact⟨_,rfl,.cell _ _ ⟨y,raws,by rw[add_add],hc⟩⟩
 ·rename_i cells
  cases h
  have hv:=zar hv
  cases hv with
  |bx y raws cells hl ho hc hr=>exact⟨_,rfl,.cell _ _ ⟨y,raws,rfl,hc,hl,ho,hr⟩⟩
 ·cases h
theorem zjn{hp:Id->Option Blk}(hH:∀ i b,hp i=some b->isF i=false /\ BlkR w m bad0 i b){s:TypeId}{f:Nat}{v:Value}{x out:AV}(hv:AVRep w m bad0 v x)(h:zcJ P hp s x f=some out) :
  ∃ r,(Instr.fieldAt s v f).run P w=.ok r w /\ AVRep w m bad0 r out:=by
 unfold zcJ at h
 split at h
 ·rename_i fields hu
  split at h
  ·rename_i fd hf
   split at h
   ·rename_i k hs
    obtain⟨a,rfl,hr⟩:=zg2 hH hv h
    exact⟨_,by simp[Instr.fieldAt,run_underlying hu,hf,Instr.sureAddr,fieldPlace,run_sizeOf hs],hr⟩
   ·cases h
  ·cases h
 ·cases h
theorem zn2{s:TypeId}{f:Nat}{v:Value}{x out:AV}(hv:AVRep w m bad0 v x)(h:zkQ P s x f=some out):∃ r,(Instr.field s v f).run P w=.ok r w /\ AVRep w m bad0 r out:=by
 unfold zkQ at h
 split at h
 ·rename_i fields xs hu
  cases hf:fields[f]? with
  |none=>simp[hf]at h
  |some fd=>
   simp[hf]at h
   obtain⟨cs,rfl,hs⟩:=Seg.ofAgg hv
   obtain⟨v,hrun,hv'⟩:=zm7 hs h
   exact⟨v,by simp[Instr.field,run_underlying hu,hf,asAgg,hrun],hv'⟩
 ·cases h
theorem zjm{hp:Id->Option Blk}(hH:∀ i b,hp i=some b->isF i=false /\ BlkR w m bad0 i b){t:TypeId}{v i:Value}{x y out:AV}(hv:AVRep w m bad0 v x)(hi:AVRep w m bad0 i y)(h:zcI P hp t x y=some out) :
  ∃ r,(Instr.indexAt t v i).run P w=.ok r w /\ AVRep w m bad0 r out:=by
 unfold zcI at h
 split at h
 ·rename_i k n
  cases zck hi
  split at h
  ·rename_i e hu
   have hrun:∀(a:Addr) (len cap s:Nat),szOf P e=some s->0<=n /\ n < len->(Instr.indexAt t (.slice (some a) len cap) (.int k n)).run P w=.ok (.pointer (some (a.add (n.toNat * s)))) w:=by
    intro a len cap s hs hn
    simp[Instr.indexAt,asIntOf,run_underlying hu,run_sizeOf hs,hn]
   split at h
   ·rename_i s q cells hs
    split at h
    ·rename_i hn
     cases h
     cases zar hv with
     |sl a n' cap raws cells hn' hm hl ho hc hr=>
      cases a with
      |none=>
       obtain⟨z,e,_⟩:=hc 0 _ (List.getElem?_eq_getElem (show 0 < raws.length by rw[hl];omega))
       cases e
      |some a=>
       exact⟨_,hrun a q cap s hs hn.1,.cell _ _ ⟨a,raws,rfl,fun j u hj=>by obtain⟨z,e,h1,h2⟩:=hc j u hj;cases e;exact⟨h1,h2⟩,⟨hl,ho,hr⟩⟩⟩
    ·cases h
   ·rename_i s b off sz q hs
    split at h
    ·rename_i hn
     obtain⟨hn,hl,rfl⟩:=hn
     cases h
     have h':SlR w (m.ρ b) off sz q v:=zar hv
     unfold live at hl
     rw[Option.isSome_iff_exists]at hl
     obtain⟨bl,hbl⟩:=hl
     have hR:=(hH b bl hbl).2
     cases hst:m.ρ b with
     |un=>rw[hst]at h';exact h'.elim
     |dead=>
      cases bl with
      |cells l=>simp only[BlkR,zaq,hst]at hR
      |pure l=>simp only[BlkR,zaq,hst]at hR
      |map ks vs=>obtain⟨_,_,_,e,_⟩:=hR;rw[hst]at e;cases e
     |vd=>rw[hst]at h';obtain⟨rfl,_⟩:=h';omega
     |at_ g base=>
      rw[hst]at h'
      rcases h' with⟨rfl,_⟩ |⟨cap,rfl,h3,h4,h5⟩
      ·omega
      ·refine⟨_,hrun _ q cap sz hs hn,.cell _ _ ?_⟩
       show RefR (m.ρ b) _ _
       rw[hst,zfS,Nat.add_assoc];rfl
    ·cases h
   ·cases h
  ·rename_i len e hu
   split at h
   ·rename_i s hs
    split at h
    ·rename_i hn
     obtain⟨a,rfl,hr⟩:=zg2 hH hv h
     exact⟨_,by simp[Instr.indexAt,asIntOf,run_underlying hu,run_sizeOf hs,hn,Instr.sureAddr],hr⟩
    ·cases h
   ·cases h
  ·cases h
 ·cases h
theorem zn0{t:TypeId}{v i:Value}{x y out:AV}(hv:AVRep w m bad0 v x)(hi:AVRep w m bad0 i y)(h:zkO P t x y=some out):∃ r,(Instr.index t v i).run P w=.ok r w /\ AVRep w m bad0 r out:=by
 unfold zkO at h
 split at h
 ·rename_i k n
  cases zck hi
  split at h
  ·rename_i len e xs hu
   split at h
   ·rename_i hn
    cases hs:szOf P e with
    |none=>simp[hs]at h
    |some s=>
     simp[hs]at h
     obtain⟨cs,rfl,hs'⟩:=Seg.ofAgg hv
     obtain⟨v,hrun,hv'⟩:=zm7 hs' h
     exact⟨v,by simp[Instr.index,asIntOf,run_underlying hu,hn,run_sizeOf hs,hrun],hv'⟩
   ·cases h
  ·rename_i s hu
   split at h
   ·rename_i hn
    cases hb:s[n.toNat]? with
    |none=>simp[hb]at h
    |some b=>
     simp[hb]at h
     subst h
     cases zck hv
     exact⟨.int .u8 (b.toNat:Int),by simp[Instr.index,asIntOf,run_underlying hu,hn,hb],.cell _ _ (.c _)⟩
   ·cases h
  ·cases h
 ·cases h
theorem zj2{bad:Nat->Prop}{raws:List Value}{cells:List CV}(h:CReps w bad raws cells)(a n:Nat):CReps w bad ((raws.drop a).take n) ((cells.drop a).take n):=by
 refine⟨by simp[h.len],fun u hu=>h.one u (List.mem_of_mem_drop (List.mem_of_mem_take hu)),fun j u c hu hc=>?_⟩
 rw[List.getElem?_take]at hu hc
 split at hu<;>simp_all
 exact h.rep _ u c hu hc
theorem znY{hp:Id->Option Blk}(hH:∀ i b,hp i=some b->isF i=false /\ BlkR w m bad0 i b){t:TypeId}{v:Value}{x out:AV}{lo hi mx:Option Value}{lo' hi' mx':Option AV}(hv:AVRep w m bad0 v x)(hlo:zl1 w m bad0 lo lo')(hhi:zl1 w m bad0 hi hi')(hmx:zl1 w m bad0 mx mx')
  (h:zhs P hp t x lo' hi' mx'=some out):∃ r,(Instr.sliceAt t v lo hi mx).run P w=.ok r w /\ AVRep w m bad0 r out:=by
 unfold zhs at h
 split at h
 ·rename_i s hu
  split at h
  ·rename_i l hh hl hh'
   split at h
   ·rename_i hb
    cases h
    cases zck hv
    cases mx with
    |some m=>cases hmx
    |none=>
     have hrun:=zjF (P:=P) (w:=w) false s.size s.size (zeB hlo hl) (zeB hhi hh') hb.1 hb.2.1 hb.2.2
     exact⟨.string (s.extract l.toNat hh.toNat),by simp[Instr.sliceAt,Instr.slice,run_underlying hu,hrun],.cell _ _ (.c _)⟩
   ·cases h
  ·cases h
 ·rename_i e x hu
  split at h
  ·rename_i n s hsl hs
   split at h
   ·rename_i l hh hl hh'
    split at h
    ·rename_i hb
     obtain⟨a,cap,rfl,hn,hm⟩:=zmz hH (zar hv) hsl
     cases mx with
     |some m=>cases hmx
     |none=>
      have hrun:=zjF (P:=P) (w:=w) true n cap (zeB hlo hl) (zeB hhi hh') hb.1 hb.2.1 (by omega)
      have hrun':(Instr.sliceAt t (.slice a n cap) lo hi none).run P w=.ok (.slice (if cap=l.toNat then a else a.map (·.add (l.toNat * s))) (hh.toNat - l.toNat) (cap - l.toNat)) w:=by
       simp[Instr.sliceAt,Instr.slice,run_underlying hu,hrun,run_sizeOf hs]
      have hlen:hh.toNat - l.toNat=(hh - l).toNat:=by omega
      rw[hlen]at hrun'
      split at h
      ·rename_i n' cells
       cases h
       cases zar hv with
       |sl _ _ _ raws _ hn' hm' hl' ho' hc' hr'=>
        have hr:CReps w (Bad m bad0) raws cells:=⟨hl',ho',hr'⟩
        have hsub:=zj2 hr (l.toNat * s) ((hh - l).toNat * s)
        refine⟨_,hrun',.cell _ _ (.sl _ _ _ _ _ (by omega) (by omega) hsub.len hsub.one (fun j u hj=>?_) hsub.rep)⟩
        rw[List.getElem?_take]at hj
        split at hj
        ·rename_i hlt
         rw[List.getElem?_drop]at hj
         obtain⟨y,rfl,hbd,hu⟩:=hc' _ _ hj
         have hne:cap ≠ l.toNat:=by
          intro e
          have:(hh - l).toNat=0:=by omega
          rw[this]at hlt;simp at hlt
         exact⟨y.add (l.toNat * s),by simp[hne],by rw[add_block];exact hbd,by rw[add_add];exact hu⟩
        ·cases hj
      ·cases h
       obtain⟨a',e⟩:=zar hv
       cases e
       have h0:(hh - l).toNat=0:=by omega
       have hz:∃ a',(Value.slice (if 0=l.toNat then a else a.map (fun y:Addr=>y.add (l.toNat * s))) (hh - l).toNat (0 - l.toNat))=.slice a' 0 0:=⟨_,by rw[h0,Nat.zero_sub]⟩
       exact⟨_,hrun',.cell _ .z hz⟩
      ·rename_i b off sz k
       split at h
       ·rename_i hsz
        cases h
        subst hsz
        have hk:k=n:=by
         simp only[lenS]at hsl
         split at hsl
         ·cases hsl;rfl
         ·cases hsl
        subst hk
        have h':SlR w (m.ρ b) off sz k (.slice a k cap):=zar hv
        refine⟨_,hrun',.cell _ _ ?_⟩
        show SlR w (m.ρ b) _ _ _ _
        cases hst:m.ρ b with
        |un=>rw[hst]at h';exact h'.elim
        |dead=>rfl
        |vd=>
         rw[hst]at h'
         obtain⟨rfl,a',e⟩:=h'
         cases e
         have h0:(hh - l).toNat=0:=by omega
         exact⟨h0,_,by rw[h0,Nat.zero_sub]⟩
        |at_ g base=>
         rw[hst]at h'
         rcases h' with⟨rfl,a',e⟩ |⟨cap',e,h3,h4,h5⟩
         ·cases e
          have h0:(hh - l).toNat=0:=by omega
          exact .inl ⟨h0,_,by rw[h0,Nat.zero_sub]⟩
         ·cases e
          by_cases hc:cap=l.toNat
          ·have h0:(hh - l).toNat=0:=by omega
           exact .inl ⟨h0,_,by rw[h0,hc,Nat.sub_self]⟩
          ·right
           refine⟨cap - l.toNat,?_,by omega,by omega,?_⟩
           ·rw[if_neg hc];simp only[Option.map_some,zfS,Nat.add_assoc]
           ·have e1:base+(off+l.toNat * sz)+(cap - l.toNat) * sz=base+off+cap * sz:=by
             have:l.toNat * sz<=cap * sz:=Nat.mul_le_mul_right _ (by omega)
             rw[Nat.sub_mul];omega
            rw[e1];exact h5
       ·cases h
      ·cases h
    ·cases h
   ·rename_i l hh km m' hl hh'
    split at h
    ·rename_i hz
     cases h
     obtain⟨hsome,rfl,rfl,rfl⟩:=hz
     obtain⟨a,cap,rfl,hn,hm⟩:=zmz hH (zar hv) hsl
     cases mx with
     |none=>cases hmx
     |some mv=>
      cases zck hmx
      have hlo2:=zeB hlo hl
      have hhi2:=zeB hhi hh'
      have hrun:(Instr.sliceBounds true n cap lo hi (some (.int km 0))).run P w=.ok (0,0,0) w:=by
       rcases hhi2 with⟨rfl,e⟩ |⟨kh,rfl⟩
       ·cases hi' with
        |none=>cases hsome
        |some y=>cases hhi
       ·rcases hlo2 with⟨rfl,_⟩ |⟨kl,rfl⟩<;>simp[Instr.sliceBounds,Instr.sliceBound,asIntOf]
      exact⟨.slice a 0 0,by simp[Instr.sliceAt,Instr.slice,run_underlying hu,hrun,run_sizeOf hs],.cell _ .z ⟨a,rfl⟩⟩
    ·cases h
   ·cases h
  ·cases h
 ·rename_i a cells pos hu
  split at h
  ·rename_i n e hua
   split at h
   ·rename_i s hs
    split at h
    ·split at h
     ·rename_i hle
      cases h
      cases lo with
      |some _=>cases hlo
      |none=>
      cases hi with
      |some _=>cases hhi
      |none=>
      cases mx with
      |some _=>cases hmx
      |none=>
      obtain⟨y,raws,rfl,hc,hr⟩:=zar hv
      have hrun:(Instr.sliceBounds false n n none none none).run P w=.ok (0,n,n) w:=by simp[Instr.sliceBounds]
      have hsub:=zj2 hr pos (n * s)
      refine⟨.slice (some (y.add pos)) n n,by simp[Instr.sliceAt,Instr.slice,run_underlying hu,run_underlying hua,asAddr,hrun,run_sizeOf hs,Addr.add],.cell _ _ (.sl _ _ _ _ _ (Nat.le_refl _) (by unfold maxLen;omega) hsub.len hsub.one (fun j u hj=>?_) hsub.rep)⟩
      rw[List.getElem?_take]at hj
      split at hj
      ·rw[List.getElem?_drop]at hj
       obtain⟨hb,hu⟩:=hc _ _ hj
       exact⟨_,rfl,by rw[add_block];exact hb,by rw[add_add];exact hu⟩
      ·cases hj
     ·cases h
    ·cases h
   ·cases h
  ·cases h
 ·rename_i n e cells pos hu
  split at h
  ·rename_i s hs
   split at h
   ·split at h
    ·rename_i hle
     cases h
     cases lo with
     |some _=>cases hlo
     |none=>
     cases hi with
     |some _=>cases hhi
     |none=>
     cases mx with
     |some _=>cases hmx
     |none=>
     obtain⟨y,raws,rfl,hc,hr⟩:=zar hv
     have hrun:(Instr.sliceBounds false n n none none none).run P w=.ok (0,n,n) w:=by simp[Instr.sliceBounds]
     have hsub:=zj2 hr pos (n * s)
     refine⟨.slice (some (y.add pos)) n n,by simp[Instr.sliceAt,run_underlying hu,Instr.sureAddr,hrun,run_sizeOf hs,Addr.add],.cell _ _ (.sl _ _ _ _ _ (Nat.le_refl _) (by unfold maxLen;omega) hsub.len hsub.one (fun j u hj=>?_) hsub.rep)⟩
     rw[List.getElem?_take]at hj
     split at hj
     ·rw[List.getElem?_drop]at hj
      obtain⟨hb,hu⟩:=hc _ _ hj
      exact⟨_,rfl,by rw[add_block];exact hb,by rw[add_add];exact hu⟩
     ·cases hj
    ·cases h
   ·cases h
  ·cases h
 ·cases h
theorem zkS{hp:Id->Option Blk}(hH:∀ i b,hp i=some b->isF i=false /\ BlkR w m bad0 i b){b:Builtin}{ts:Array TypeId}{ty:TypeId}{consts:Array Bool}{vs:Array Value}{xs:List AV}{out:AV}(hl:vs.size=xs.length)(hv:∀(j:Nat) (u:Value) (x:AV),vs[j]?=some u->xs[j]?=some x->AVRep w m bad0 u x)
  (h:zd4 P hp b ts.toList xs=some out):∃ s,builtin b ts ty consts vs=(do pure (.value (<- s)):Sem Next) /\ ∃ r,s.run P w=.ok r w /\ AVRep w m bad0 r out:=by
 unfold zd4 at h
 split at h
 ·rename_i t ts' x hts
  have hvs:∃ v,vs=#[v]:=by
   obtain⟨l⟩:=vs
   match l,hl with
   |[v],_=>exact⟨v,rfl⟩
  obtain⟨v,rfl⟩:=hvs
  have hx:=hv 0 v x rfl rfl
  have ht:ts[0]?=some t:=by rw[<- Array.getElem?_toList,hts];rfl
  refine⟨_,rfl,?_⟩
  split at h
  ·rename_i s hu
   cases h
   cases zck hx
   exact⟨_,by simp[Builtin.len_,ht,run_underlying hu];rfl,.cell _ _ (.c _)⟩
  ·rename_i n e hu
   cases h
   exact⟨_,by simp[Builtin.len_,ht,run_underlying hu];rfl,.cell _ _ (.c _)⟩
  ·rename_i e x hu
   cases hsl:lenS hp x with
   |none=>simp[hsl]at h
   |some n=>
    simp[hsl]at h
    subst h
    obtain⟨a,cap,rfl,_⟩:=zmz hH (zar hx) hsl
    exact⟨_,by simp[Builtin.len_,ht,run_underlying hu];rfl,.cell _ _ (.c _)⟩
  ·cases h
 ·rename_i k x k' y
  cases h
  have hvs:∃ u v,vs=#[u,v]:=by
   obtain⟨l⟩:=vs
   match l,hl with
   |[u,v],_=>exact⟨u,v,rfl⟩
  obtain⟨u,v,rfl⟩:=hvs
  cases zck (hv 0 u _ rfl rfl)
  cases zck (hv 1 v _ rfl rfl)
  exact⟨_,rfl,_,run_max_int2 w _ _ k k' x y,.cell _ _ (.c _)⟩
 ·rename_i k x k' y
  cases h
  have hvs:∃ u v,vs=#[u,v]:=by
   obtain⟨l⟩:=vs
   match l,hl with
   |[u,v],_=>exact⟨u,v,rfl⟩
  obtain⟨u,v,rfl⟩:=hvs
  cases zck (hv 0 u _ rfl rfl)
  cases zck (hv 1 v _ rfl rfl)
  exact⟨_,rfl,_,run_min_int2 w _ _ k k' x y,.cell _ _ (.c _)⟩
 ·cases h
theorem zpq{ev:Operand->AV}{ρv:Operand->Value}(he:∀ x,AVRep w m bad0 (ρv x) (ev x))(o:Option Operand):zl1 w m bad0 (o.map ρv) (o.map ev):=by
 cases o with
 |none=>trivial
 |some x=>exact he x
theorem zgJ:∀ {raws:List Value} {xs:List AC} {us:List Value},Seg w m bad0 raws xs->zcu xs=some us->raws=us
 |raws,[],us,h,e=>by
  cases e
  exact List.length_eq_zero_iff.1 h.len
 |[],x::xs,us,h,e=>by have:=h.len;simp at this
 |v::raws,x::xs,us,h,e=>by
  cases x with
  |p c=>
   cases c with
   |c u=>
    cases h2:zcu xs with
    |none=>simp[zcu,h2]at e
    |some us'=>
     simp[zcu,h2]at e
     subst e
     have h0:=h.rep 0 v (.p (.c u)) rfl rfl
     have hv:v=u:=by cases h0;rfl
     have hs:Seg w m bad0 raws xs:=⟨by have:=h.len;simpa using this,fun u hu=>h.one u (by simp[hu]),fun j u x hu hx=>h.rep (j+1) u x (by simpa using hu) (by simpa using hx)⟩
     rw[hv,zgJ hs h2]
   |_=>simp[zcu]at e
  |_=>simp[zcu]at e
theorem zn1{v:Value}{x out:AV}{t:TypeId}(hv:AVRep w m bad0 v x)(h:zkP P t x=some out):∃ r,(Instr.makeInterface t v).run P w=.ok r w /\ AVRep w m bad0 r out:=by
 unfold zkP at h
 split at h
 ·cases h
 ·cases h
 ·rename_i d hn hu
  have hr:(Instr.makeInterface t v).run P w=.ok (.iface t v) w:=by
   unfold Instr.makeInterface
   rw[Sem.run_bind,run_underlying hu]
   cases d<;>first|rfl|exact(hn _ rfl).elim
  refine⟨_,hr,?_⟩
  split at h
  ·cases h;cases zck hv;exact .cell _ _ (.c _)
  ·rename_i xs
   obtain⟨cs,rfl,hs⟩:=Seg.ofAgg hv
   cases hc:zcu xs with
   |none=>simp[hc]at h
   |some us=>
    simp[hc]at h
    subst h
    rw[<- zgJ hs hc]
    exact .cell _ _ (.c _)
  ·cases h
theorem zk8(u:Value):AVRep w m bad0 u (zpt u):=by
 unfold zpt
 split
 ·rename_i vs
  split
  ·rename_i ha
   refine .agg vs _ (by simp) (fun u hu=>List.all_eq_true.1 ha u hu) (fun j u x hu hx=>?_)
   rw[List.getElem?_map,Array.getElem?_toList,hu]at hx
   cases hx;exact .c _
  ·exact .bad _
 ·exact .cell _ _ (.c _)
theorem zmg{v:Value}{x out:AV}{xt t:TypeId}{ok:Bool}(hv:AVRep w m bad0 v x)(h:zix P t ok x=some out):∃ r,(Instr.typeAssert v xt t ok).run P w=.ok r w /\ AVRep w m bad0 r out:=by
 unfold zix at h
 split at h
 ·cases h
 ·cases h
 ·rename_i d hn hu
  split at h
  ·rename_i t' u
   split at h
   ·rename_i he
    subst he
    cases h
    cases zck hv
    have hr:(Instr.typeAssert (.iface t' u) xt t' ok).run P w=.ok (if ok then .tuple #[u,.bool true] else u) w:=by
     unfold Instr.typeAssert
     rw[Sem.run_bind,run_underlying hu]
     cases d<;>first |(simp;done)|exact(hn _ rfl).elim
    refine⟨_,hr,?_⟩
    cases ok with
    |false=>exact zk8 u
    |true=>
     refine .tup _ _ rfl fun j w' y hw hy=>?_
     match j with
     |0=>simp at hw hy;subst hw;subst hy;exact zk8 u
     |1=>simp at hw hy;subst hw;subst hy;exact .cell _ _ (.c _)
     |j+2=>simp at hw
   ·cases h
  ·cases h
theorem zm5{o:Oper}{hp:Id->Option Blk}(hH:∀ i b,hp i=some b->isF i=false /\ BlkR w m bad0 i b)
  {ev:Operand->AV} {ρv:Operand->Value} (he:∀ x,AVRep w m bad0 (ρv x) (ev x)) {out:AV} (h:qval P hp ev o.op=some out) :
  ∃ v,(execOp ρv o).run P w=.ok (.value v) w /\ AVRep w m bad0 v out:=by
 have fin:∀ s:Sem Value,execOp ρv o=(do pure (.value (<- s)):Sem Next)->(∃ r,s.run P w=.ok r w /\ AVRep w m bad0 r out) ->
   ∃ v,(execOp ρv o).run P w=.ok (.value v) w /\ AVRep w m bad0 v out:=by
  rintro s e ⟨v,hr,h3⟩
  exact⟨v,by rw[e];simp[hr],h3⟩
 obtain⟨dst,op,ty,pos,after,guard⟩:=o
 simp only at h fin ⊢
 cases op<;>simp only[qval]at h<;>try (cases h;done)
 case move x=>cases h;exact⟨_,rfl,he x⟩
 case assign x=>cases h;exact⟨_,rfl,he x⟩
 case pick c a b=>
  split at h
  ·rename_i t ht
   cases h
   have hc:=he c
   rw[ht]at hc
   have hc:=zck hc
   refine⟨if t then ρv a else ρv b,by simp[execOp,hc,asBool],?_⟩
   split<;>exact he _
  ·cases h
 case build t parts=>exact fin _ rfl (zn3 he h)
 case load t x=>exact fin _ rfl (ziw hH (he x) h)
 case lookup t x i ok=>exact fin _ rfl (zme hH (he x) (he i) h)
 case nilCheck x=>
  obtain⟨a,hv,hr⟩:=zg2 hH (he x) h
  exact⟨_,by simp[execOp,hv];rfl,by simpa [Addr.add]using hr⟩
 case binOp op t x y ty'=>
  split at h
  ·rename_i u v hx hy
   cases hb:zjB P op t u v with
   |none=>simp[hb]at h
   |some r=>
    simp[hb]at h
    subst h
    have h1:=he x
    have h2:=he y
    rw[hx]at h1;rw[hy]at h2
    have h1:=zck h1
    have h2:=zck h2
    have:=znN hb w x y
    refine⟨r,?_,.cell _ _ (.c _)⟩
    simp only[execOp,h1,h2]
    rw[Sem.run_bind,this]
    rfl
  ·rename_i xs ys hx hy
   have h1:=he x
   have h2:=he y
   rw[hx]at h1;rw[hy]at h2
   obtain⟨cx,e1,s1⟩:=Seg.ofAgg h1
   obtain⟨cy,e2,s2⟩:=Seg.ofAgg h2
   obtain⟨r,hr,hv⟩:=zs6 s1 s2 h x y
   refine⟨r,?_,hv⟩
   simp only[execOp,e1,e2]
   rw[Sem.run_bind,hr]
   rfl
  ·cases h
 case unOp op t x=>
  split at h
  ·rename_i u hx
   cases hb:znM op u with
   |none=>simp[hb]at h
   |some r=>
    simp[hb]at h
    subst h
    have h1:=he x
    rw[hx]at h1
    have h1:=zck h1
    exact⟨r,by simp[execOp,h1,zoz hb w],.cell _ _ (.c _)⟩
  ·cases h
 case makeInterface t x=>exact fin _ rfl (zn1 (he x) h)
 case typeAssert x xt t ok=>exact fin _ rfl (zmg (he x) h)
 case convert src dst x=>exact fin _ rfl (zpb hH (he x) h)
 case slice t x lo hi mx=>exact fin _ rfl (znY hH (he x) (zpq he lo) (zpq he hi) (zpq he mx) h)
 case fieldAddr s x f=>exact fin _ rfl (zjn hH (he x) h)
 case field s x f=>exact fin _ rfl (zn2 (he x) h)
 case indexAddr t x i=>exact fin _ rfl (zjm hH (he x) (he i) h)
 case index t x i=>exact fin _ rfl (zn0 (he x) (he i) h)
 case extract t i=>
  split at h
  ·rename_i xs hx
   have h1:=he t
   rw[hx]at h1
   obtain⟨vs,hv,hl,hr⟩:=zsV h1
   have hi:i < vs.size:=by
    rw[hl]
    rcases Nat.lt_or_ge i xs.length with h'|h'
    ·exact h'
    ·simp[List.getElem?_eq_none h']at h
   refine⟨vs[i],?_,hr i _ _ (Array.getElem?_eq_getElem hi) h⟩
   simp[execOp,hv,Instr.extract,hi]
  ·cases h
 case call c=>
  obtain⟨callee,args,ts⟩:=c
  cases callee<;>simp only at h<;>try (cases h;done)
  rename_i b
  obtain⟨s,hs,hr⟩:=zkS (ty:=ty) (consts:=args.map fun|.const _=>true|_=>false) (vs:=args.map ρv) hH (by simp) (fun j u x hu hx=>by
   simp at hu hx
   obtain⟨x1,hx1,rfl⟩:=hu
   obtain⟨x2,hx2,rfl⟩:=hx
   rw[hx1]at hx2;cases hx2
   exact he _) h
  refine fin s ?_ hr
  simp only[execOp,resolve,invoke,pure_bind]
  exact hs
end
end Go.Hw
end
section
namespace Go.Hw
variable [Globals]
open Go.RowKit (Below)
def Stp (m m':Mem)(g i:Nat):Prop:=∀ x,m.ρ x=.un->(∀ k,x ≠ .o g i k)->m'.ρ x=.un
structure Upd (w:World) (m:Mem) (bad0 prot:Nat->Prop) (w':World) (m':Mem) (g i:Nat) (u:List (Id × Option Blk)):Prop where
 ext:Ext w m bad0 w' m' bad0
 mem:MemOk w' prot bad0 m'
 os:w'.os=w.os
 tape:w'.tape=w.tape
 output:w'.output=w.output
 size:w.heap.size<=w'.heap.size
 turn:∀ k,k < w.heap.size->¬ Own m k->w'.heap[k]?=w.heap[k]?
 put:∀ b k,(b,some k) ∈ u->isF b=false /\ BlkR w' m' bad0 b k
 keep:∀ b,(∀ v,(b,v) ∉ u)->m'.ρ b=m.ρ b /\ (∀ j,m'.hid b j=m.hid b j) /\ (∀ q base,isF b=false->m.ρ b=.at_ q base->w'.heap[q]?=w.heap[q]?) /\ ∀ j,∀ q ∈ m.hid b j,w'.heap[q]?=w.heap[q]?
 fore:∀ x,m'.ρ (.f x)=m.ρ (.f x)
 step:Stp m m' g i
theorem zll{hp:Id->Option Blk}:∀ {u:List (Id × Option Blk)} {b:Id} {k:Blk},hput hp u b=some k->(b,some k) ∈ u \/ ((∀ v,(b,v) ∉ u) /\ hp b=some k)
 |[],b,k,h=>.inr ⟨by simp,h⟩
 |(c,v)::r,b,k,h=>by
  simp only[hput]at h
  split at h
  ·rename_i e;subst e;subst h;exact .inl (by simp)
  ·rename_i e
   rcases zll h with h |⟨h1,h2⟩
   ·exact .inl (List.mem_cons_of_mem _ h)
   ·refine .inr ⟨fun v' hv'=>?_,h2⟩
    rcases List.mem_cons.1 hv' with h3|h3
    ·cases h3;exact e rfl
    ·exact h1 v' h3
section
variable {C:Cx} {st:St} {a:Act} {w w':World} {m m':Mem} {g i:Nat} {u:List (Id × Option Blk)} {bad0 prot:Nat->Prop}
theorem J.upd(h:J C st a w m)(U:Upd w m C.bad0 C.prot w' m' g i u)(hg:g<=st.gen):J C (st.app u) a w' m':=by
 have hprot:∀ b,C.prot b->w'.heap[b]?=w.heap[b]?:=fun b hb=>U.turn b (Nat.lt_of_lt_of_le (h.protlt b hb) h.grown) fun ho=>(h.mem.lt b ho).2.1 hb
 refine⟨h.size,h.ext.of rfl rfl,U.os.trans h.os,U.tape.trans h.tape,U.output.trans h.output,Nat.le_trans h.grown U.size,fun b hb=>(hprot b hb).trans (h.kept b hb),h.protlt,fun b hb=>Nat.lt_of_lt_of_le (h.badlt b hb) U.size,U.mem,fun s=>U.ext.av (h.env s),fun b k hb=>?_,fun g' i' k' hlt=>?_,fun x=>(U.fore x).trans (h.fore x),fun x hx=>?_,fun x q base n hx hf hk hs=>?_,fun q cs hq=>U.ext.av (h.glob q cs hq)⟩
 ·rcases zll hb with hb |⟨h1,h2⟩
  ·exact U.put b k hb
  ·obtain⟨h3,h4⟩:=h.hp b k h2
   obtain⟨k1,k2,k3,k4⟩:=U.keep b h1
   exact⟨h3,U.ext.blk k1 k2 (fun q base hq=>k3 q base h3 hq) k4 h4⟩
 ·refine U.step _ (h.gen g' i' k' hlt) fun k'' e=>?_
  cases e
  have:st.gen < g:=hlt
  omega
 ·rcases U.ext.ref x with e|e|e
  ·rcases h.arg x hx with h1|h1|h1
   ·exact .inl h1
   ·rw[e]at h1;cases h1
   ·cases x with
    |o g i k=>exact .inl ⟨rfl,h1.symm.trans e⟩
    |a k=>exact .inr (.inr ((U.step _ e (fun _ e=>by cases e)).trans (e.symm.trans h1)))
    |_=>cases hx
  ·exact .inr (.inl e)
  ·rw[e];exact h.arg x hx
 ·rcases U.ext.ref x with e|e|e
  ·rcases h.arg x hx with h1|h1|h1
   ·exact(hf h1.2).elim
   ·rw[e]at h1;cases h1
   ·exact(hf (h1.symm.trans e)).elim
  ·rw[e]at hk;cases hk
  ·exact U.ext.shp _ q base n hk (e.symm.trans hk) (h.argS x q base n hx hf (e.symm.trans hk) hs)
theorem Upd.still(hm:MemOk w prot bad0 m):Upd w m bad0 prot w m g i []:=
 ⟨Ext.refl ..,hm,rfl,rfl,rfl,Nat.le_refl _,fun _ _ _=>rfl,by simp,fun b _=>⟨rfl,fun _=>rfl,fun _ _ _ _=>rfl,fun _ _ _=>rfl⟩,fun _=>rfl,fun x h _=>h⟩
def Mem.set(m:Mem)(x:Id)(s:Stat):Mem:=⟨fun i=>if i=x then s else m.ρ i,fun i j=>if i=x then [] else m.hid i j⟩
theorem Own.set{x:Id}{s:Stat}{q:Nat}(h:Own (m.set x s) q):(∃ base,s=.at_ q base) \/ Own m q:=by
 rcases h with⟨b,base,h1,h2⟩ |⟨b,j,h1⟩
 ·simp only[Mem.set]at h2
  split at h2
  ·exact .inl ⟨base,h2⟩
  ·exact .inr (.inl ⟨b,base,h1,h2⟩)
 ·simp only[Mem.set]at h1
  split at h1
  ·cases h1
  ·exact .inr (.inr ⟨b,j,h1⟩)
theorem MemOk.grow(hm:MemOk w prot bad0 m)(hsz:w.heap.size<=w'.heap.size){x:Id}{s:Stat}(hs:∀ q base,s=.at_ q base->w.heap.size<=q /\ q < w'.heap.size)(hp:∀ b,prot b->b < w.heap.size)(hb:∀ b,bad0 b->b < w.heap.size):MemOk w' prot bad0 (m.set x s):=by
 have old:∀ q,Own m q->q < w.heap.size:=fun q h=>(hm.lt q h).1
 refine⟨fun q hq=>?_,fun b c q b1 b2 h1 h2 h3 h4=>?_,fun b q b1 c k h1 h2 h3=>?_,fun b j=>?_,fun b j c k q h1 h2=>?_⟩
 ·rcases hq.set with⟨base,e⟩|hq
  ·obtain⟨k1,k2⟩:=hs q base e
   exact⟨k2,fun h=>by have:=hp q h;omega,fun h=>by have:=hb q h;omega⟩
  ·obtain⟨k1,k2,k3⟩:=hm.lt q hq
   exact⟨Nat.lt_of_lt_of_le k1 hsz,k2,k3⟩
 ·simp only[Mem.set]at h3 h4
  split at h3<;>split at h4
  ·simp_all
  ·have k1:=(hs q b1 h3).1
   have:=old q (.inl ⟨c,b2,h2,h4⟩);omega
  ·have k1:=(hs q b2 h4).1
   have:=old q (.inl ⟨b,b1,h1,h3⟩);omega
  ·exact hm.inj b c q b1 b2 h1 h2 h3 h4
 ·simp only[Mem.set]at h2 h3
  split at h3
  ·cases h3
  ·split at h2
   ·have k1:=(hs q b1 h2).1
    have:=old q (.inr ⟨c,k,h3⟩);omega
   ·exact hm.sep b q b1 c k h1 h2 h3
 ·simp only[Mem.set]
  split
  ·exact List.nodup_nil
  ·exact hm.hnd b j
 ·simp only[Mem.set]at h1 h2
  split at h1
  ·cases h1
  ·split at h2
   ·cases h2
   ·exact hm.hdj b j c k q h1 h2
theorem Upd.alloc(hm:MemOk w prot bad0 m)(hp:∀ b,prot b->b < w.heap.size)(hb:∀ b,bad0 b->b < w.heap.size){k:Nat}(hun:m.ρ (.o g i k)=.un){cur:Array Value}{e:TypeId}{fr:Nat × Nat}
  (hheap:w'.heap=w.heap.push (.cells cur e fr)) (hos:w'.os=w.os) (ht:w'.tape=w.tape) (hout:w'.output=w.output) (hfr:fr.2=fr.1 \/ cur.size<=fr.1)
  {bl:Blk} {l:List AC} (hl:bl.ac=some l) (hle:l.length<=cur.size) (hc:∀(j:Nat) (u:Value) (x:AC),cur[j]?=some u->l[j]?=some x->u.oneCell'=true /\ zbN w m bad0 u x) :
  Upd w m bad0 prot w' (m.set (.o g i k) (.at_ w.heap.size 0)) g i [(.o g i k,some bl)]:=by
 have hsz:w'.heap.size=w.heap.size+1:=by rw[hheap];simp
 have hold:∀ q,q < w.heap.size->w'.heap[q]?=w.heap[q]?:=fun q hq=>by rw[hheap,Array.getElem?_push,if_neg (by omega)]
 have hnew:w'.heap[w.heap.size]?=some (.cells cur e fr):=by rw[hheap];simp
 have E:Ext w m bad0 w' (m.set (.o g i k) (.at_ w.heap.size 0)) bad0:=by
  refine⟨Hx.blocks fun q hq hn=>⟨?_,hold q hq⟩,fun x=>?_,fun x q base n _ hx hs=>?_⟩
  ·rintro(ho|ho)
   ·rcases ho.set with⟨base,e⟩|ho
    ·cases e;omega
    ·exact hn (.inl ho)
   ·exact hn (.inr ho)
  ·simp only[Mem.set]
   split
   ·rename_i e;subst e;exact .inl hun
   ·exact .inr (.inr rfl)
  ·obtain⟨c1,c2,c3,c4,c5⟩:=hs
   exact Shp.heap (hold q (lt_of_heap c4)) ⟨c1,c2,c3,c4,c5⟩
 refine⟨E,hm.grow (by omega) (fun q base e=>by cases e;exact⟨Nat.le_refl _,by omega⟩) hp hb,hos,ht,hout,by omega,fun q hq _=>hold q hq,fun b bl' hb'=>?_,fun b hb'=>?_,fun x=>?_,fun x hx hne=>?_⟩
 ·simp only[List.mem_singleton,Prod.mk.injEq,Option.some.injEq]at hb'
  obtain⟨rfl,rfl⟩:=hb'
  have hR:zaq w' (m.set (.o g i k) (.at_ w.heap.size 0)) bad0 (.o g i k) l:=by
   unfold zaq
   simp only[Mem.set,if_true]
   refine⟨cur,e,fr,hnew,hfr,by omega,fun j u x hu hx=>?_⟩
   rw[Nat.zero_add]at hu
   obtain⟨h1,h2⟩:=hc j u x hu hx
   refine⟨h1,?_⟩
   have h3:=E.ac h2
   cases x<;>first|exact h3|exact h2.elim
  refine⟨rfl,?_⟩
  cases bl'<;>simp only[Blk.ac,Option.some.injEq,reduceCtorEq]at hl
  ·subst hl;exact hR
  ·subst hl;exact hR
 ·have hne:b ≠ .o g i k:=fun e=>hb' (some bl) (by simp[e])
  simp only[Mem.set,if_neg hne]
  exact⟨trivial,fun _=>trivial,fun q base hf hq=>hold q (hm.lt q (.inl ⟨b,base,hf,hq⟩)).1,fun j q hq=>hold q (hm.lt q (.inr ⟨b,j,hq⟩)).1⟩
 ·simp[Mem.set]
 ·simp only[Mem.set,if_neg (hne k)];exact hx
theorem Upd.alloc0(hm:MemOk w prot bad0 m)(hp:∀ b,prot b->b < w.heap.size)(hb:∀ b,bad0 b->b < w.heap.size){k:Nat}(hun:m.ρ (.o g i k)=.un){cur:Array Value}{e:TypeId}{fr:Nat × Nat}
  (hheap:w'.heap=w.heap.push (.cells cur e fr)) (hos:w'.os=w.os) (ht:w'.tape=w.tape) (hout:w'.output=w.output) :
  Upd w m bad0 prot w' (m.set (.o g i k) .dead) g i [(.o g i k,none)]:=by
 have hsz:w'.heap.size=w.heap.size+1:=by rw[hheap];simp
 have hold:∀ q,q < w.heap.size->w'.heap[q]?=w.heap[q]?:=fun q hq=>by rw[hheap,Array.getElem?_push,if_neg (by omega)]
 have E:Ext w m bad0 w' (m.set (.o g i k) .dead) bad0:=by
  refine⟨Hx.blocks fun q hq hn=>⟨?_,hold q hq⟩,fun x=>?_,fun x q base n _ hx hs=>?_⟩
  ·rintro(ho|ho)
   ·rcases ho.set with⟨base,e⟩|ho
    ·cases e
    ·exact hn (.inl ho)
   ·exact hn (.inr ho)
  ·simp only[Mem.set]
   split
   ·rename_i e;subst e;exact .inl hun
   ·exact .inr (.inr rfl)
  ·obtain⟨c1,c2,c3,c4,c5⟩:=hs
   exact Shp.heap (hold q (lt_of_heap c4)) ⟨c1,c2,c3,c4,c5⟩
 refine⟨E,hm.grow (by omega) (fun q base e=>by cases e) hp hb,hos,ht,hout,by omega,fun q hq _=>hold q hq,fun b bl' hb'=>?_,fun b hb'=>?_,fun x=>?_,fun x hx hne=>?_⟩
 ·simp at hb'
 ·have hne:b ≠ .o g i k:=fun e=>hb' none (by simp[e])
  simp only[Mem.set,if_neg hne]
  exact⟨trivial,fun _=>trivial,fun q base hf hq=>hold q (hm.lt q (.inl ⟨b,base,hf,hq⟩)).1,fun j q hq=>hold q (hm.lt q (.inr ⟨b,j,hq⟩)).1⟩
 ·simp[Mem.set]
 ·simp only[Mem.set,if_neg (hne k)];exact hx
theorem zeD(g:Nat)(e:TypeId)(fr:Nat × Nat):∀(vs:List Value) (o:Nat) (w:World) (cur:Array Value),w.heap[g]?=some (.cells cur e fr) ->
  (w.setCells g o vs).heap[g]?=some (.cells (zaC cur.toList o vs).toArray e fr) /\ (∀ k,k ≠ g->(w.setCells g o vs).heap[k]?=w.heap[k]?) /\ (w.setCells g o vs).os=w.os /\
   (w.setCells g o vs).tape=w.tape /\ (w.setCells g o vs).output=w.output /\ (w.setCells g o vs).heap.size=w.heap.size
 |[],o,w,cur,h=>⟨by simpa [World.setCells,zaC]using h,fun _ _=>rfl,rfl,rfl,rfl,rfl⟩
 |v::vs,o,w,cur,h=>by
  have h1:(w.setCell ⟨g,o,none⟩ v).heap[g]?=some (.cells (cur.setIfInBounds o v) e fr):=by
   simp only[World.setCell,Array.getElem?_modify,h];rfl
  have h2:∀ k,k ≠ g->(w.setCell ⟨g,o,none⟩ v).heap[k]?=w.heap[k]?:=fun k hk=>by
   simp only[World.setCell,Array.getElem?_modify];rw[if_neg (fun e=>hk e.symm)]
  obtain⟨a1,a2,a3,a4,a5,a6⟩:=zeD g e fr vs (o+1) _ _ h1
  refine⟨?_,fun k hk=>(a2 k hk).trans (h2 k hk),a3,a4,a5,a6.trans (by simp[World.setCell])⟩
  have:(cur.setIfInBounds o v).toList=cur.toList.set o v:=by simp
  rw[this]at a1
  exact a1
theorem zaY{α:Type}:∀(vs:List α) (l:List α) (o:Nat),(zaC l o vs).length=l.length
 |[],l,o=>rfl
 |v::vs,l,o=>by simp[zaC,zaY vs]
theorem zgX{α:Type}:∀(vs:List α) (l:List α) (o j:Nat),(zaC l o vs)[j]?=if o<=j /\ j < o+vs.length /\ j < l.length then vs[j - o]? else l[j]?
 |[],l,o,j=>by rw[if_neg (by simp;omega)];rfl
 |v::vs,l,o,j=>by
  rw[zaC,zgX vs,List.length_set,List.length_cons]
  by_cases h1:o+1<=j /\ j < o+1+vs.length /\ j < l.length
  ·rw[if_pos h1,if_pos (by omega),show j - o=(j - (o+1))+1 by omega,List.getElem?_cons_succ]
  ·rw[if_neg h1,List.getElem?_set]
   by_cases h2:o=j
   ·subst h2
    by_cases h3:o < l.length
    ·rw[if_pos rfl,if_pos h3,if_pos (by omega)];simp
    ·rw[if_pos rfl,if_neg h3,if_neg (by omega)];simp;omega
   ·rw[if_neg h2,if_neg (by omega)]
def Mem.hide(m:Mem)(x:Id)(f:Nat->List Nat):Mem:=⟨m.ρ,fun i j=>if i=x then f j else m.hid i j⟩
theorem Upd.store(hm:MemOk w prot bad0 m){b:Id}(hF:isF b=false){bl:Blk}(hR:BlkR w m bad0 b bl){q base:Nat}(hst:m.ρ b=.at_ q base){l:List AC}(hl:bl.ac=some l){vs:List Value}{xs:List AC}(hv:Seg w m bad0 vs xs)
  {off:Nat} (hle:off+xs.length<=l.length) {bl':Blk} (hl':bl'.ac=some (zaC l off xs)) :
  Upd w m bad0 prot (w.setCells q (base+off) vs) (m.hide b fun j=>if off<=j /\ j < off+xs.length then [] else m.hid b j) g i [(b,some bl')]:=by
 have hC:=hR.ac hl
 unfold zaq at hC
 rw[hst]at hC
 obtain⟨cur,e,fr,hg,hfr,hlen,hcell⟩:=hC
 obtain⟨a1,a2,a3,a4,a5,a6⟩:=zeD q e fr vs (base+off) w cur hg
 have hown:Own m q:=.inl ⟨b,base,hF,hst⟩
 have own':∀ k,Own (m.hide b fun j=>if off<=j /\ j < off+xs.length then [] else m.hid b j) k->Own m k:=by
  rintro k (⟨c,bs,h1,h2⟩ |⟨c,j,h1⟩)
  ·exact .inl ⟨c,bs,h1,h2⟩
  ·simp only[Mem.hide]at h1
   split at h1
   ·split at h1
    ·cases h1
    ·exact .inr ⟨b,j,h1⟩
   ·exact .inr ⟨c,j,h1⟩
 have hid':∀ c j k,k ∈ (m.hide b fun j=>if off<=j /\ j < off+xs.length then [] else m.hid b j).hid c j->k ∈ m.hid c j:=by
  intro c j k h1
  simp only[Mem.hide]at h1
  split at h1
  ·rename_i e;subst e
   split at h1
   ·cases h1
   ·exact h1
  ·exact h1
 have E:Ext w m bad0 (w.setCells q (base+off) vs) (m.hide b fun j=>if off<=j /\ j < off+xs.length then [] else m.hid b j) bad0:=by
  refine⟨Hx.blocks fun k hk hn=>⟨?_,a2 k fun e=>hn (.inl (e ▸ hown))⟩,fun x=>.inr (.inr rfl),fun x k bs n _ hx hs=>?_⟩
  ·rintro(ho|ho)
   ·exact hn (.inl (own' k ho))
   ·exact hn (.inr ho)
  ·by_cases hk:k=q
   ·subst hk
    obtain⟨c1,c2,c3,c4,c5,c6⟩:=hs
    rw[hg]at c4;cases c4
    exact⟨_,_,_,a1,by simpa [zaY]using c5,by simpa [zaY]using c6⟩
   ·exact Shp.heap (a2 k hk) hs
 have sep:∀ j,∀ k ∈ m.hid b j,k ≠ q:=fun j k hk e=>hm.sep b q base b j hF hst (e ▸ hk)
 refine⟨E,⟨fun k hk=>by rw[a6];exact hm.lt k (own' k hk),hm.inj,fun c k bs d j h1 h2 h3=>hm.sep c k bs d j h1 h2 (hid' d j k h3),fun c j=>?_,fun c j d k q' h1 h2=>hm.hdj c j d k q' (hid' _ _ _ h1) (hid' _ _ _ h2)⟩,a3,a4,a5,by rw[a6];exact Nat.le_refl _,fun k hk hn=>a2 k fun e=>hn (e ▸ hown),fun c bl'' hc=>?_,fun c hc=>?_,fun x=>rfl,fun x hx _=>hx⟩
 ·simp only[Mem.hide]
  split
  ·split
   ·exact List.nodup_nil
   ·exact hm.hnd b j
  ·exact hm.hnd c j
 ·simp only[List.mem_singleton,Prod.mk.injEq,Option.some.injEq]at hc
  obtain⟨rfl,rfl⟩:=hc
  refine⟨hF,?_⟩
  have hR':zaq (w.setCells q (base+off) vs) (m.hide c fun j=>if off<=j /\ j < off+xs.length then [] else m.hid c j) bad0 c (zaC l off xs):=by
   unfold zaq
   show match m.ρ c with|.vd=>_|.at_ g base=>_|_=>_
   rw[hst]
   refine⟨_,e,fr,a1,by simpa [zaY]using hfr,by simpa [zaY]using hlen,fun j u x hu hx=>?_⟩
   have hu:(zaC cur.toList (base+off) vs)[base+j]?=some u:=by simpa using hu
   rw[zgX]at hu hx
   rw[hv.len]at hu
   have hjl:j < l.length:=by
    split at hx
    ·omega
    ·rcases Nat.lt_or_ge j l.length with h|h
     ·exact h
     ·simp[h]at hx
   have hcl:base+j < cur.toList.length:=by simp;omega
   by_cases hin:off<=j /\ j < off+xs.length
   ·rw[if_pos (by omega)]at hu hx
    rw[show base+j - (base+off)=j - off by omega]at hu
    refine⟨hv.one u (List.mem_of_getElem? hu),?_⟩
    have h3:=E.ac (hv.rep _ u x hu hx)
    cases x<;>first|exact h3|exact(hv.rep _ u _ hu hx).elim
   ·rw[if_neg (by omega)]at hu hx
    obtain⟨h1,h2⟩:=hcell j u x (by simpa using hu) hx
    refine⟨h1,?_⟩
    have:(m.hide c fun j=>if off<=j /\ j < off+xs.length then [] else m.hid c j).hid c j=m.hid c j:=by simp[Mem.hide,if_neg hin]
    rw[this]
    exact E.cell (fun k hk=>a2 k (sep j k hk)) h2
  cases bl''<;>simp only[Blk.ac,Option.some.injEq,reduceCtorEq]at hl'
  ·subst hl';exact hR'
  ·rw[<- hl']at hR';exact hR'
 ·have hne:c ≠ b:=fun e=>hc (some bl') (by simp[e])
  refine⟨rfl,fun j=>by simp[Mem.hide,hne],fun k bs hf hk=>a2 k fun e=>?_,fun j k hk=>a2 k fun e=>?_⟩
  ·subst e;exact hne (hm.inj c b k bs base hf hF hk hst)
  ·subst e;exact hm.sep b k base c j hF hst hk
end
end Go.Hw
end
section
namespace Go.Hw
variable [Globals]
open Go.RowKit (Below)
def zaR(P:Program)(e:TypeId):Option (Nat × Nat):=
 match P.info? e with
 |some i=>match i.zero with
  |some z=>if z.cells.size=i.size then some (i.size,i.bytes) else none
  |none=>none
 |none=>none
theorem zjQ{P:Program}{e sz by_:Nat}(h:zaR P e=some (sz,by_)):∃ i z,P.info? e=some i /\ i.zero=some z /\ z.cells.size=i.size /\ i.size=sz /\ i.bytes=by_:=by
 unfold zaR at h
 split at h
 ·rename_i i hi
  split at h
  ·rename_i z hz
   split at h
   ·rename_i hs;cases h;exact⟨i,z,hi,hz,hs,rfl,rfl⟩
   ·cases h
  ·cases h
 ·cases h
def Blk.len:Blk->Nat
 |.pure l=>l.length
 |.cells l=>l.length
 |.map _ _=>0
def Blk.ok:Blk->Bool
 |.map _ _=>false
 |_=>true
def Blk.sub(b:Blk)(off n:Nat):Blk:=match b with
 |.pure l=>.pure ((l.drop off).take n)
 |.cells l=>.cells ((l.drop off).take n)
 |b=>b
def Blk.drp(b:Blk)(off:Nat):Blk:=match b with
 |.pure l=>.pure (l.drop off)
 |.cells l=>.cells (l.drop off)
 |b=>b
def Blk.plain:Blk->Bool
 |.pure _=>true
 |.cells l=>l.all AC.plain
 |.map _ _=>false
def Blk.app:Blk->Blk->Blk
 |.pure a,.pure b=>.pure (a++b)
 |.pure a,.cells b=>match toCVs b with
  |some cs=>.pure (a++cs)
  |none=>.cells (a.map .p++b)
 |.cells a,.cells b=>.cells (a++b)
 |.cells a,.pure b=>.cells (a++b.map .p)
 |a,_=>a
theorem Seg.toCVs{w:World}{m:Mem}{bad0:Nat->Prop}:∀ {raws:List Value} {acs:List AC},Seg w m bad0 raws acs->∀ {cs:List CV},toCVs acs=some cs->Seg w m bad0 raws (cs.map .p)
 |raws,[],h,cs,hc=>by simp[Go.Hw.toCVs]at hc;subst hc;exact h
 |[],x::acs,h,cs,hc=>by have:=h.len;simp at this
 |u::raws,x::acs,h,cs,hc=>by
  simp only[Go.Hw.toCVs]at hc
  split at hc
  ·rename_i c l h1 h2
   cases hc
   have ih:=Seg.toCVs (raws:=raws) (acs:=acs) ⟨by simpa using h.len,fun u hu=>h.one u (by simp[hu]),fun j u y hu hy=>h.rep (j+1) u y (by simpa using hu) (by simpa using hy)⟩ h2
   refine⟨by simp[ih.len],h.one,fun j v y hv hy=>?_⟩
   cases j with
   |succ j=>exact ih.rep j v y (by simpa using hv) (by simpa using hy)
   |zero=>
    simp at hv hy;subst hv hy
    have h3:=h.rep 0 u x rfl rfl
    cases x<;>simp only[AC.toCV,Option.some.injEq,reduceCtorEq]at h1
    ·subst h1;exact h3
    ·subst h1;obtain⟨a,rfl⟩:=h3;exact CRep.nil _ a
  ·cases hc
def srcB (P:Program)(hp:Id->Option Blk)(tx:TypeId)(sz:Nat)(x:AV):Option (Nat × Blk):=
 match P.underlying tx,x with
 |some (.slice _),.cell (.p (.sl n cells))=>if cells.length=n * sz then some (n,.pure cells) else none
 |some (.slice _),.cell .z=>some (0,.pure [])
 |some (.slice _),.cell (.sl b off _ n)=>match hp b with
  |some bl=>if off+n * sz<=bl.len /\ (bl.sub off (n * sz)).plain=true then some (n,bl.sub off (n * sz)) else none
  |none=>none
 |some .string,.cell (.p (.c (.string s)))=>if sz=1 then some (s.size,.pure (zbj s.data.toList)) else none
 |_,_=>none
section
variable {P:Program} {w:World} {m:Mem} {bad0:Nat->Prop}
theorem zsO{hp:Id->Option Blk}(hH:∀ i b,hp i=some b->isF i=false /\ BlkR w m bad0 i b){tx:TypeId}{sz:Nat}(hpos:0 < sz){v:Value}{x:AV}(hv:AVRep w m bad0 v x){n:Nat}{bl:Blk}(h:srcB P hp tx sz x=some (n,bl)) :
  ∃ raws acs,Src P sz tx v n raws w /\ bl.ac=some acs /\ Seg w m bad0 raws acs:=by
 unfold srcB at h
 split at h
 ·rename_i e k cells hu
  split at h
  ·rename_i hlen
   cases h
   cases zar hv with
   |sl a _ cap raws _ hn hm hl ho hc hr=>
    refine⟨raws,_,?_,rfl,Seg.ofC ⟨hl,ho,hr⟩⟩
    cases a with
    |some a=>exact Src.ofSlice w hu a _ cap raws (by rw[hl,hlen]) (fun j u hj=>by obtain⟨y,e,_,h⟩:=hc j u hj;cases e;exact h) ho
    |none=>
     cases hraw:raws with
     |cons u r=>rw[hraw]at hc;obtain⟨y,e,_⟩:=hc 0 u rfl;cases e
     |nil=>
      have hm0:n=0:=by
       rw[hraw,hlen]at hl
       rcases Nat.mul_eq_zero.1 hl.symm with e|e
       ·exact e
       ·omega
      subst hm0
      exact Src.ofNil w hu cap
  ·cases h
 ·rename_i e hu
  cases h
  obtain⟨a,rfl⟩:=zar hv
  refine⟨[],[],?_,rfl,⟨rfl,by simp,by simp⟩⟩
  cases a with
  |none=>exact Src.ofNil w hu 0
  |some a=>exact Src.ofSlice w hu a 0 0 [] (by simp) (by simp) (by simp)
 ·rename_i e b off sz' k hu
  split at h
  ·rename_i b' hb
   split at h
   ·rename_i hc
    obtain⟨hle,hpl⟩:=hc
    cases h
    have hR:=(hH b b' hb).2
    have hsl:SlR w (m.ρ b) off sz' n v:=zar hv
    obtain⟨l,hl⟩:∃ l,b'.ac=some l:=by
     cases b' with
     |cells l=>exact⟨_,rfl⟩
     |pure l=>exact⟨_,rfl⟩
     |map ks vs=>simp[Blk.plain,Blk.sub]at hpl
    have hsub:(b'.sub off (n * sz)).ac=some ((l.drop off).take (n * sz)):=by
     cases b'<;>simp only[Blk.ac,Option.some.injEq,reduceCtorEq]at hl
     ·subst hl;rfl
     ·subst hl;simp[Blk.sub,Blk.ac]
    have hlen:b'.len=l.length:=by
     cases b'<;>simp only[Blk.ac,Option.some.injEq,reduceCtorEq]at hl
     ·subst hl;rfl
     ·subst hl;simp[Blk.len]
    have hplain:∀ x ∈ (l.drop off).take (n * sz),x.plain=true:=by
     cases b'<;>simp only[Blk.ac,Option.some.injEq,reduceCtorEq]at hl
     ·subst hl;simpa [Blk.plain,Blk.sub,List.all_eq_true]using hpl
     ·subst hl
      intro x hx
      obtain⟨c,_,rfl⟩:=List.mem_map.1 (List.mem_of_mem_drop (List.mem_of_mem_take hx))
      rfl
    rw[hlen]at hle
    have hC:=hR.ac hl
    unfold zaq at hC
    cases hs:m.ρ b with
    |un=>rw[hs]at hC;exact hC.elim
    |dead=>rw[hs]at hC;exact hC.elim
    |vd=>
     rw[hs]at hC hsl
     obtain⟨rfl,a,rfl⟩:=hsl
     refine⟨[],_,?_,hsub,by rw[Nat.zero_mul,List.take_zero];exact⟨rfl,by simp,by simp⟩⟩
     cases a with
     |none=>exact Src.ofNil w hu 0
     |some a=>exact Src.ofSlice w hu a 0 0 [] (by simp) (by simp) (by simp)
    |at_ g base=>
     rw[hs]at hC hsl
     obtain⟨cur,e',fr,hg,hfr,hlen',hcell⟩:=hC
     rcases hsl with⟨rfl,a,rfl⟩ |⟨cap,rfl,h3,h4,h5⟩
     ·refine⟨[],_,?_,hsub,by rw[Nat.zero_mul,List.take_zero];exact⟨rfl,by simp,by simp⟩⟩
      cases a with
      |none=>exact Src.ofNil w hu 0
      |some a=>exact Src.ofSlice w hu a 0 0 [] (by simp) (by simp) (by simp)
     ·have hrl:((cur.toList.drop (base+off)).take (n * sz)).length=n * sz:=by simp;omega
      have hget:∀(j:Nat) (u:Value),((cur.toList.drop (base+off)).take (n * sz))[j]?=some u->j < n * sz /\ cur[base+off+j]?=some u:=fun j u hj=>by
       rw[List.getElem?_take]at hj
       split at hj
       ·rename_i hlt;exact⟨hlt,by simpa using hj⟩
       ·cases hj
      have hone:∀ u ∈ (cur.toList.drop (base+off)).take (n * sz),u.oneCell'=true:=fun u hu=>by
       obtain⟨j,hj⟩:=List.getElem?_of_mem hu
       obtain⟨hlt,hu⟩:=hget j u hj
       have:off+j < l.length:=by omega
       exact(hcell (off+j) u _ (by rw[<- Nat.add_assoc];exact hu) (List.getElem?_eq_getElem this)).1
      refine⟨(cur.toList.drop (base+off)).take (n * sz),_,Src.ofSlice w hu _ n cap _ hrl (fun j u hj=>ziW hg (hget j u hj).2) hone,hsub,⟨by rw[hrl];simp;omega,hone,fun j u x hj hx=>?_⟩⟩
      have hpx:=hplain x (List.mem_of_getElem? hx)
      rw[List.getElem?_take,if_pos (hget j u hj).1,List.getElem?_drop]at hx
      exact(hcell (off+j) u x (by rw[<- Nat.add_assoc];exact(hget j u hj).2) hx).2.plain hpx
   ·cases h
  ·cases h
 ·rename_i s hu
  split at h
  ·rename_i hsz
   cases h
   subst hsz
   cases zck hv
   refine⟨byteCells s,_,Src.ofString w hu s,rfl,by simp[byteCells,zbj],fun u hu=>?_,fun j u c hu hc=>?_⟩
   ·simp[byteCells]at hu;obtain⟨b,_,rfl⟩:=hu;rfl
   ·simp[byteCells,zbj]at hu hc
    obtain⟨b,hb1,rfl⟩:=hu
    obtain⟨b',hb2,rfl⟩:=hc
    rw[hb1]at hb2;cases hb2
    exact .c _
  ·cases h
 ·cases h
theorem zqj{t tx ty e:TypeId}{i:TypeInfo}{z:Value}(ht:P.underlying t=some (.slice e))(hi:P.info? e=some i)(hz:i.zero=some z)(hzs:z.cells.size=i.size)
  {n:Nat} {v:Value} {raws:List Value} (hl:raws.length=n * i.size) (X:Nat->Nat->Prop)
  (ho:(n=0 /\ ∃ a,v=.slice a 0 0) \/ ∃ g base cap cur e' fr,v=.slice (some ⟨g,base,none⟩) n cap /\ w.heap[g]?=some (.cells cur e' fr) /\ (fr.2=fr.1 \/ cur.size<=fr.1) /\ n<=cap /\ cap<=maxLen /\ base+cap * i.size<=cur.size /\ (cur.toList.drop base).take (n * i.size)=raws /\ X g base)
  {x:Value} {k:Nat} {news:List Value} (hs:Src P i.size tx x k news w) (h63:n+k<=1099511627776) (hby:(n+k) * i.bytes<=140737488355328) :
  (n=0 /\ k=0 /\ ∃ a,(Builtin.append_ #[t,tx] ty #[v,x]).run P w=.ok (.slice a 0 0) w) \/
  (∃ g base cap cur e' fr,X g base /\ w.heap[g]?=some (.cells cur e' fr) /\ (fr.2=fr.1 \/ cur.size<=fr.1) /\ n+k<=cap /\ cap<=maxLen /\ base+cap * i.size<=cur.size /\ (cur.toList.drop base).take (n * i.size)=raws /\
   (Builtin.append_ #[t,tx] ty #[v,x]).run P w=.ok (.slice (some ⟨g,base,none⟩) (n+k) cap) (w.setCells g (base+n * i.size) news)) \/
  ∃ cap cur w',(Builtin.append_ #[t,tx] ty #[v,x]).run P w=.ok (.slice (some ⟨w.heap.size,0,none⟩) (n+k) cap) w' /\ w'.heap=w.heap.push (.cells cur e (0,0)) /\ w'.os=w.os /\ w'.tape=w.tape /\ w'.output=w.output /\
   n+k<=cap /\ cap<=maxLen /\ cur.size=cap * i.size /\ cur.toList.take ((n+k) * i.size)=raws++news:=by
 have hmax:n+k<=maxLen:=by unfold maxLen;omega
 have hnl:(raws++news).length=(n+k) * i.size:=by rw[List.length_append,hl,hs.newsLen,Nat.add_mul]
 have grown:∀(base:Option Addr) (cap:Nat),v=.slice base n cap->(Builtin.firstCells i.size n (.slice base n cap)).run P w.drew=.ok raws.toArray w.drew->cap < n+k ->
   ∃ cap cur w',(Builtin.append_ #[t,tx] ty #[v,x]).run P w=.ok (.slice (some ⟨w.heap.size,0,none⟩) (n+k) cap) w' /\ w'.heap=w.heap.push (.cells cur e (0,0)) /\ w'.os=w.os /\ w'.tape=w.tape /\ w'.output=w.output /\
   n+k<=cap /\ cap<=maxLen /\ cur.size=cap * i.size /\ cur.toList.take ((n+k) * i.size)=raws++news:=by
  intro base cap ev hold hc
  subst ev
  have hr:=run_append_grow_src (P:=P) w t tx ty e i z ht hi hz base n cap raws hold x k news hs hc (by omega) (growslice_fits (by omega) hby)
  have hge:=grownCap_ge w (n+k) cap e
  refine⟨grownCap w (n+k) cap e,(raws++news).toArray++Builtin.zeroCells z.cells (grownCap w (n+k) cap e - (n+k)),_,hr,rfl,rfl,rfl,rfl,hge,grownCap_le_maxLen w (n+k) cap e hmax,?_,?_⟩
  ·simp only[Array.size_append,List.size_toArray,size_zeroCells,hzs,hnl,<- Nat.add_mul]
   congr 1;omega
  ·rw[Array.toList_append,<- hnl];exact List.take_left
 rcases ho with⟨rfl,a,rfl⟩ |⟨g,base,cap,cur,e',fr,rfl,hg,hfr,hnc,hm,hcs,htk,hX⟩
 ·have h0:raws=[]:=List.eq_nil_of_length_eq_zero (by simpa using hl)
  subst h0
  by_cases hm0:k=0
  ·subst hm0
   have hn0:news=[]:=List.eq_nil_of_length_eq_zero (by have:=hs.newsLen;simpa using this)
   subst hn0
   refine .inl ⟨rfl,rfl,a,?_⟩
   rcases hs.kind with⟨e1,hk⟩|hk<;>cases a<;>simp[Builtin.append_,run_underlying ht,run_underlying hk,sizeOf,typeInfo,hi,hs.len,hs.cells,storeCells]
  ·refine .inr (.inr (grown a 0 rfl ?_ (by omega)))
   cases a with
   |none=>exact run_firstCells_none w.drew i.size 0 0 0
   |some a=>exact run_firstCells_some w.drew i.size 0 a 0 0 [] (by simp) (by simp)
 ·have hcell:∀(j:Nat) (u:Value),raws[j]?=some u->cur[base+j]?=some u:=fun j u hj=>by
   rw[<- htk,List.getElem?_take]at hj
   split at hj
   ·simpa using hj
   ·cases hj
  by_cases hroom:n+k<=cap
  ·have hsz:base+n * i.size+news.length<=cur.size:=by
    have:=Nat.mul_le_mul_right i.size hroom
    rw[hs.newsLen];rw[Nat.add_mul]at this;omega
   refine .inr (.inl ⟨g,base,cap,cur,e',fr,hX,hg,hfr,hroom,hm,hcs,htk,?_⟩)
   exact run_append_room_src (P:=P) w t tx ty e i ht hi g base n cap x k news hs hroom (fun j hj=>by
    have:base+n * i.size+j < cur.size:=by omega
    simp[World.cell?,hg,this]) (fun j hj=>by
    have:base+n * i.size+j < cur.size:=by omega
    simp only[World.frozen?,hg]
    rcases hfr with h|h
    ·simp;omega
    ·simp;omega)
  ·exact .inr (.inr (grown _ cap rfl (run_firstCells_some (P:=P) w.drew i.size n ⟨g,base,none⟩ n cap raws hl fun j u hj=>ziW hg (hcell j u hj)) (by omega)))
end
def Mem.move(m:Mem)(b x:Id)(off:Nat)(s:Stat):Mem:=⟨fun i=>if i=x then s else if i=b then .dead else m.ρ i,fun i j=>if i=x then m.hid b (off+j) else if i=b then [] else m.hid i j⟩
section
variable {w w':World} {m:Mem} {bad0 prot:Nat->Prop} {g i:Nat}
theorem Own.move{b x:Id}{off:Nat}{s:Stat}{q:Nat}(h:Own (m.move b x off s) q):(∃ base,s=.at_ q base) \/ Own m q:=by
 rcases h with⟨c,base,h1,h2⟩ |⟨c,j,h1⟩
 ·simp only[Mem.move]at h2
  split at h2
  ·exact .inl ⟨base,h2⟩
  ·split at h2
   ·cases h2
   ·exact .inr (.inl ⟨c,base,h1,h2⟩)
 ·simp only[Mem.move]at h1
  split at h1
  ·exact .inr (.inr ⟨b,_,h1⟩)
  ·split at h1
   ·cases h1
   ·exact .inr (.inr ⟨c,j,h1⟩)
theorem Mem.move_hid{b x:Id}{off:Nat}{s:Stat}{c:Id}{j q:Nat}(h:q ∈ (m.move b x off s).hid c j):(c=x /\ q ∈ m.hid b (off+j)) \/ (c ≠ x /\ c ≠ b /\ q ∈ m.hid c j):=by
 simp only[Mem.move]at h
 split at h
 ·rename_i e;exact .inl ⟨e,h⟩
 ·rename_i e
  split at h
  ·cases h
  ·rename_i e2;exact .inr ⟨e,e2,h⟩
theorem MemOk.move(hm:MemOk w prot bad0 m)(hsz:w.heap.size<=w'.heap.size){b x:Id}{off:Nat}{s:Stat}(hF:isF b=false)(hs:∀ q base,s=.at_ q base->(∃ bs,m.ρ b=.at_ q bs) \/ (w.heap.size<=q /\ q < w'.heap.size))(hp:∀ b,prot b->b < w.heap.size)(hb:∀ b,bad0 b->b < w.heap.size):MemOk w' prot bad0 (m.move b x off s):=by
 have old:∀ q,Own m q->q < w.heap.size:=fun q h=>(hm.lt q h).1
 have key:∀ c q bs,isF c=false->(m.move b x off s).ρ c=.at_ q bs->(c=x /\ s=.at_ q bs) \/ (c ≠ x /\ c ≠ b /\ m.ρ c=.at_ q bs):=fun c q bs hf h=>by
  simp only[Mem.move]at h
  split at h
  ·rename_i e;exact .inl ⟨e,h⟩
  ·rename_i e
   split at h
   ·cases h
   ·rename_i e2;exact .inr ⟨e,e2,h⟩
 refine⟨fun q hq=>?_,fun c d q b1 b2 h1 h2 h3 h4=>?_,fun c q b1 d k h1 h2 h3=>?_,fun c j=>?_,fun c j d k q h1 h2=>?_⟩
 ·have o:Own m q->q < w'.heap.size /\ ¬ prot q /\ ¬ bad0 q:=fun hq=>by
   obtain⟨k1,k2,k3⟩:=hm.lt q hq
   exact⟨Nat.lt_of_lt_of_le k1 hsz,k2,k3⟩
  rcases hq.move with⟨base,e⟩|hq
  ·rcases hs q base e with⟨bs,h⟩ |⟨k1,k2⟩
   ·exact o (.inl ⟨b,bs,hF,h⟩)
   ·exact⟨k2,fun h=>by have:=hp q h;omega,fun h=>by have:=hb q h;omega⟩
  ·exact o hq
 ·rcases key c q b1 h1 h3 with⟨rfl,e1⟩ |⟨n1,n2,e1⟩<;>rcases key d q b2 h2 h4 with⟨rfl,e2⟩ |⟨n3,n4,e2⟩
  ·rfl
  ·rcases hs q b1 e1 with⟨bs,h⟩ |⟨k1,k2⟩
   ·exact(n4 (hm.inj d b q b2 bs h2 hF e2 h)).elim
   ·have:=old q (.inl ⟨d,b2,h2,e2⟩);omega
  ·rcases hs q b2 e2 with⟨bs,h⟩ |⟨k1,k2⟩
   ·exact(n2 (hm.inj c b q b1 bs h1 hF e1 h)).elim
   ·have:=old q (.inl ⟨c,b1,h1,e1⟩);omega
  ·exact hm.inj c d q b1 b2 h1 h2 e1 e2
 ·have hh:∃ d' k',q ∈ m.hid d' k':=by
   rcases Mem.move_hid h3 with⟨_,h⟩ |⟨_,_,h⟩
   ·exact⟨_,_,h⟩
   ·exact⟨_,_,h⟩
  obtain⟨d',k',hh⟩:=hh
  rcases key c q b1 h1 h2 with⟨rfl,e1⟩ |⟨n1,n2,e1⟩
  ·rcases hs q b1 e1 with⟨bs,h⟩ |⟨k1,k2⟩
   ·exact hm.sep b q bs d' k' hF h hh
   ·have:=old q (.inr ⟨_,_,hh⟩);omega
  ·exact hm.sep c q b1 d' k' h1 e1 hh
 ·simp only[Mem.move]
  split
  ·exact hm.hnd _ _
  ·split
   ·exact List.nodup_nil
   ·exact hm.hnd _ _
 ·rcases Mem.move_hid h1 with⟨e1,h3⟩ |⟨n1,n2,h3⟩<;>rcases Mem.move_hid h2 with⟨e2,h4⟩ |⟨n3,n4,h4⟩
  ·have:=hm.hdj _ _ _ _ q h3 h4
   exact⟨e1.trans e2.symm,by omega⟩
  ·exact(n4 (hm.hdj _ _ _ _ q h3 h4).1.symm).elim
  ·exact(n2 (hm.hdj _ _ _ _ q h3 h4).1).elim
  ·exact hm.hdj _ _ _ _ q h3 h4
theorem Blk.drp_ac{bl:Blk}{l:List AC}(h:bl.ac=some l)(off:Nat):(bl.drp off).ac=some (l.drop off):=by
 cases bl<;>simp only[Blk.ac,Option.some.injEq,reduceCtorEq]at h
 ·subst h;rfl
 ·subst h;simp[Blk.drp,Blk.ac]
theorem Blk.len_ac{bl:Blk}{l:List AC}(h:bl.ac=some l):bl.len=l.length:=by
 cases bl<;>simp only[Blk.ac,Option.some.injEq,reduceCtorEq]at h
 ·subst h;rfl
 ·subst h;simp[Blk.len]
theorem Blk.app_ac{bl bn:Blk}{l:List AC}(h:bl.ac=some l){ns:List AC}(hn:bn.ac=some ns){raws:List Value}(hs:Seg w m bad0 raws ns):∃ ns',(bl.app bn).ac=some (l++ns') /\ Seg w m bad0 raws ns':=by
 cases bl<;>simp only[Blk.ac,Option.some.injEq,reduceCtorEq]at h<;>cases bn<;>simp only[Blk.ac,Option.some.injEq,reduceCtorEq]at hn<;>subst h<;>subst hn
 ·exact⟨_,rfl,hs⟩
 ·exact⟨_,rfl,hs⟩
 ·rename_i a b
  simp only[Blk.app]
  cases hc:Go.Hw.toCVs b with
  |none=>exact⟨_,rfl,hs⟩
  |some cs=>exact⟨cs.map .p,by simp[Blk.ac],hs.toCVs hc⟩
 ·rename_i a b;exact⟨b.map .p,by simp[Blk.app,Blk.ac],hs⟩
theorem znJ{x:Id}{w':World}{m':Mem}{bl:Blk}{l:List AC}(hl:bl.ac=some l)(h:zaq w' m' bad0 x l):BlkR w' m' bad0 x bl:=by
 cases bl<;>simp only[Blk.ac,Option.some.injEq,reduceCtorEq]at hl
 ·subst hl;exact h
 ·subst hl;exact h
theorem Ext.move(hm:MemOk w prot bad0 m){b x:Id}(hun:m.ρ x=.un){off:Nat}{s:Stat}(hs:∀ q base,s=.at_ q base->Own m q \/ w.heap.size<=q)(hw:∀ k,k < w.heap.size->¬ Own m k->w'.heap[k]?=w.heap[k]?)
  (hsh:∀ i q base n,m.ρ i=.at_ q base->Shp w q n->Shp w' q n):Ext w m bad0 w' (m.move b x off s) bad0:=by
 refine⟨Hx.blocks fun k hk hn=>⟨?_,hw k hk fun h=>hn (.inl h)⟩,fun c=>?_,fun i q base n _ h=>hsh i q base n h⟩
 ·rintro(ho|ho)
  ·rcases ho.move with⟨base,e⟩|ho
   ·rcases hs k base e with h|h
    ·exact hn (.inl h)
    ·omega
   ·exact hn (.inl ho)
  ·exact hn (.inr ho)
 ·simp only[Mem.move]
  split
  ·rename_i e;subst e;exact .inl hun
  ·split
   ·exact .inr (.inl rfl)
   ·exact .inr (.inr rfl)
theorem ziG{b x:Id}{off:Nat}{s:Stat}:(m.move b x off s).ρ x=s:=by simp[Mem.move]
theorem zqi{P:Program}(hm:MemOk w prot bad0 m)(hp:∀ b,prot b->b < w.heap.size)(hbl:∀ b,bad0 b->b < w.heap.size)(hun:m.ρ (.o g i 0)=.un)
  {t tx ty e:TypeId} {inf:TypeInfo} {z:Value} (ht:P.underlying t=some (.slice e)) (hi:P.info? e=some inf) (hz:inf.zero=some z) (hzs:z.cells.size=inf.size)
  {b:Id} (hF:isF b=false) {bl:Blk} (hR:BlkR w m bad0 b bl) {l:List AC} (hl:bl.ac=some l) {off n:Nat} (hend:off+n * inf.size=l.length) {v:Value} (hv:SlR w (m.ρ b) off inf.size n v)
  {x:Value} {k:Nat} {news:List Value} (hs:Src P inf.size tx x k news w) {bn:Blk} {ns:List AC} (hn:bn.ac=some ns) (hseg:Seg w m bad0 news ns) (h63:n+k<=1099511627776) (hby:(n+k) * inf.bytes<=140737488355328) :
  ∃ v' w' m',(Builtin.append_ #[t,tx] ty #[v,x]).run P w=.ok v' w' /\ Upd w m bad0 prot w' m' g i [(b,none),(.o g i 0,some ((bl.drp off).app bn))] /\ zbN w' m' bad0 v' (.sl (.o g i 0) 0 inf.size (n+k)):=by
 have hC:=hR.ac hl
 have hbx:b ≠ .o g i 0:=fun e=>by
  subst e
  unfold zaq at hC;rw[hun]at hC;exact hC
 obtain⟨ns',hac,hseg'⟩:=Blk.app_ac (Blk.drp_ac hl off) hn hseg
 have hnslen:ns'.length=k * inf.size:=by rw[<- hseg'.len];exact hs.newsLen
 have hdl:(l.drop off).length=n * inf.size:=by simp;omega
 -- what is common
 have fin:∀ {w':World} {s:Stat} {v':Value},(Builtin.append_ #[t,tx] ty #[v,x]).run P w=.ok v' w'->w'.os=w.os->w'.tape=w.tape->w'.output=w.output->w.heap.size<=w'.heap.size ->
   (∀ q base,s=.at_ q base->(∃ bs,m.ρ b=.at_ q bs) \/ (w.heap.size<=q /\ q < w'.heap.size))->(∀ q,q < w.heap.size->(∀ bs,m.ρ b ≠ .at_ q bs)->w'.heap[q]?=w.heap[q]?) ->
   (∀ i q base n,m.ρ i=.at_ q base->Shp w q n->Shp w' q n)->(Ext w m bad0 w' (m.move b (.o g i 0) off s) bad0->zaq w' (m.move b (.o g i 0) off s) bad0 (.o g i 0) (l.drop off++ns'))->SlR w' s 0 inf.size (n+k) v' ->
   ∃ v' w' m',(Builtin.append_ #[t,tx] ty #[v,x]).run P w=.ok v' w' /\ Upd w m bad0 prot w' m' g i [(b,none),(.o g i 0,some ((bl.drp off).app bn))] /\ zbN w' m' bad0 v' (.sl (.o g i 0) 0 inf.size (n+k)):=by
  intro w' s v' hrun h1 h2 h3 h4 hst hw hsh hcells hsl
  have hw2:∀ q,q < w.heap.size->¬ Own m q->w'.heap[q]?=w.heap[q]?:=fun q hq hno=>hw q hq fun bs e=>hno (.inl ⟨b,bs,hF,e⟩)
  have E:Ext w m bad0 w' (m.move b (.o g i 0) off s) bad0:=Ext.move hm hun (fun q base e=>by
   rcases hst q base e with⟨bs,h⟩ |⟨h,_⟩
   ·exact .inl (.inl ⟨b,bs,hF,h⟩)
   ·exact .inr h) hw2 hsh
  refine⟨v',w',_,hrun,⟨E,hm.move h4 hF hst hp hbl,h1,h2,h3,h4,hw2,fun c bl' hc=>?_,fun c hc=>?_,fun y=>?_,fun y hy hne=>?_⟩,?_⟩
  ·simp only[List.mem_cons,Prod.mk.injEq,reduceCtorEq,and_false,Option.some.injEq,List.not_mem_nil,or_false,false_or]at hc
   obtain⟨rfl,rfl⟩:=hc
   exact⟨rfl,znJ hac (hcells E)⟩
  ·have n1:c ≠ b:=fun e=>hc none (by simp[e])
   have n2:c ≠ .o g i 0:=fun e=>hc (some ((bl.drp off).app bn)) (by simp[e])
   refine⟨by simp[Mem.move,n1,n2],fun j=>by simp[Mem.move,n1,n2],fun q bs hf hq=>hw q (hm.lt q (.inl ⟨c,bs,hf,hq⟩)).1 fun bs' e=>n1 (hm.inj c b q bs bs' hf hF hq e),fun j q hq=>hw q (hm.lt q (.inr ⟨c,j,hq⟩)).1 fun bs' e=>hm.sep b q bs' c j hF e hq⟩
  ·have n1:Id.f y ≠ b:=fun e=>by rw[<- e]at hF;cases hF
   simp[Mem.move,n1]
  ·have n1:y ≠ b:=fun e=>by
    subst e;unfold zaq at hC;rw[hy]at hC;exact hC
   simp only[Mem.move,if_neg (hne 0),if_neg n1];exact hy
  ·show SlR w' _ _ _ _ _
   simpa [Mem.move]using hsl
 have hown:∀ q bs,m.ρ b=.at_ q bs->Own m q:=fun q bs h=>.inl ⟨b,bs,hF,h⟩
 -- the old cells
 obtain⟨raws,hrl,ho,hold⟩:∃ raws:List Value,raws.length=n * inf.size /\ ((n=0 /\ ∃ a,v=.slice a 0 0) \/ ∃ q base cap cur e' fr,v=.slice (some ⟨q,base,none⟩) n cap /\ w.heap[q]?=some (.cells cur e' fr) /\ (fr.2=fr.1 \/ cur.size<=fr.1) /\ n<=cap /\ cap<=maxLen /\ base+cap * inf.size<=cur.size /\ (cur.toList.drop base).take (n * inf.size)=raws /\ ∃ bs,m.ρ b=.at_ q bs /\ base=bs+off) /\
   ∀(j:Nat) (u:Value) (y:AC),raws[j]?=some u->(l.drop off)[j]?=some y->u.oneCell'=true /\ zeV w m bad0 (m.hid b (off+j)) u y:=by
  unfold zaq at hC
  cases hst:m.ρ b with
  |un=>rw[hst]at hC;exact hC.elim
  |dead=>rw[hst]at hC;exact hC.elim
  |vd=>
   rw[hst]at hC hv
   obtain⟨rfl,a,rfl⟩:=hv
   exact⟨[],by simp,.inl ⟨rfl,a,rfl⟩,by simp⟩
  |at_ q bs=>
   rw[hst]at hC hv
   obtain⟨cur,e',fr,hg,hfr,hlen,hcell⟩:=hC
   rcases hv with⟨rfl,a,rfl⟩ |⟨cap,rfl,h3,h4,h5⟩
   ·exact⟨[],by simp,.inl ⟨rfl,a,rfl⟩,by simp⟩
   ·obtain⟨c1,c2,c3,c4,c5,c6⟩:=h5
    rw[hg]at c4;cases c4
    refine⟨(cur.toList.drop (bs+off)).take (n * inf.size),by simp;omega,.inr ⟨q,bs+off,cap,cur,e',fr,rfl,hg,hfr,h3,h4,c6,rfl,bs,rfl,rfl⟩,fun j u y hu hy=>?_⟩
    rw[List.getElem?_take]at hu
    split at hu
    ·exact hcell (off+j) u y (by rw[<- Nat.add_assoc];simpa using hu) (by simpa using hy)
    ·cases hu
 have hrl2:raws.length=(l.drop off).length:=by rw[hrl,hdl]
 -- the cells of a row that holds the old ones and the new ones
 have row:∀ {w':World} {m':Mem} {cur':Array Value} {base:Nat},Ext w m bad0 w' m' bad0->(∀ j,m'.hid (.o g i 0) j=m.hid b (off+j))->(∀ j,∀ q ∈ m.hid b j,w'.heap[q]?=w.heap[q]?)->(∀ j u,cur'[base+j]?=some u->j < (l.drop off++ns').length->(raws++news)[j]?=some u) ->
   ∀(j:Nat) (u:Value) (y:AC),cur'[base+j]?=some u->(l.drop off++ns')[j]?=some y->u.oneCell'=true /\ zeV w' m' bad0 (m'.hid (.o g i 0) j) u y:=by
  intro w' m' cur' base E hh hk hcur j u y hu hy
  have hj:j < (l.drop off++ns').length:=by
   rcases Nat.lt_or_ge j (l.drop off++ns').length with h|h
   ·exact h
   ·rw[List.getElem?_eq_none h]at hy;cases hy
  have hu:=hcur j u hu hj
  rw[hh]
  rcases Nat.lt_or_ge j raws.length with hlt|hge
  ·rw[List.getElem?_append_left hlt]at hu
   rw[List.getElem?_append_left (by rw[<- hrl2];exact hlt)]at hy
   obtain⟨h1,h2⟩:=hold j u y hu hy
   exact⟨h1,E.cell (hk _) h2⟩
  ·rw[List.getElem?_append_right hge]at hu
   rw[List.getElem?_append_right (by rw[<- hrl2];exact hge),<- hrl2]at hy
   have h3:=hseg'.rep _ u y hu hy
   refine⟨hseg'.one u (List.mem_of_getElem? hu),?_⟩
   have h4:=E.ac h3
   cases y<;>first|exact h4|exact h3.elim
 have hidold:∀ j,∀ q ∈ m.hid b j,q < w.heap.size /\ ∀ bs,m.ρ b ≠ .at_ q bs:=fun j q hq=>⟨(hm.lt q (.inr ⟨b,j,hq⟩)).1,fun bs e=>hm.sep b q bs b j hF e hq⟩
 have happ:=zqj (ty:=ty) ht hi hz hzs hrl (fun q base=>∃ bs,m.ρ b=.at_ q bs /\ base=bs+off) (by
  rcases ho with h |⟨q,base,cap,cur,e',fr,h1,h2,h3,h4,h5,h6,h7,h8⟩
  ·exact .inl h
  ·exact .inr ⟨q,base,cap,cur,e',fr,h1,h2,h3,h4,h5,h6,h7,h8⟩) hs h63 hby
 rcases happ with⟨rfl,rfl,a,hrun⟩ |⟨q,base,cap,cur,e',fr,⟨bs,hbs,rfl⟩,hg,hfr,hroom,hmx,hcs,htk,hrun⟩ |⟨cap,cur,w',hrun,hheap,h1,h2,h3,hc1,hc2,hc3,hc4⟩
 ·refine fin (s:=.vd) hrun rfl rfl rfl (Nat.le_refl _) (fun _ _ e=>by cases e) (fun _ _ _=>rfl) (fun _ _ _ _ _ h=>h) (fun E=>?_) ⟨by simp,a,rfl⟩
  unfold zaq
  rw[ziG]
  have e1:l.drop off=[]:=List.eq_nil_of_length_eq_zero (by rw[hdl];simp)
  have e2:ns'=[]:=List.eq_nil_of_length_eq_zero (by rw[hnslen];simp)
  rw[e1,e2];rfl
 ·-- in place
  obtain⟨a1,a2,a3,a4,a5,a6⟩:=zeD q e' fr news (bs+off+n * inf.size) w cur hg
  have hsz:bs+off+(n+k) * inf.size<=cur.size:=by
   have:=Nat.mul_le_mul_right inf.size hroom;omega
  have hshp:∀ i q' base n',m.ρ i=.at_ q' base->Shp w q' n'->Shp (w.setCells q (bs+off+n * inf.size) news) q' n':=fun i q' base n' _ h=>by
   by_cases hk:q'=q
   ·subst hk
    obtain⟨c1,c2,c3,c4,c5,c6⟩:=h
    rw[hg]at c4;cases c4
    exact⟨_,_,_,a1,by simpa [zaY]using c5,by simpa [zaY]using c6⟩
   ·exact Shp.heap (a2 q' hk) h
  refine fin (s:=.at_ q (bs+off)) hrun a3 a4 a5 (by rw[a6];exact Nat.le_refl _) (fun q' base' e=>by cases e;exact .inl ⟨bs,hbs⟩) (fun q' _ h=>a2 q' fun e=>h bs (e ▸ hbs)) hshp (fun E=>?_) (.inr ⟨cap,rfl,hroom,hmx,⟨_,_,_,a1,by simpa [zaY]using hfr,by simpa [zaY]using hcs⟩⟩)
  unfold zaq
  rw[ziG]
  refine⟨_,e',fr,a1,by simpa [zaY]using hfr,?_,row (w':=w.setCells q (bs+off+n * inf.size) news) (m':=m.move b (.o g i 0) off (.at_ q (bs+off))) E (fun j=>by simp[Mem.move]) (fun j q' hq'=>a2 q' fun e=>(hidold j q' hq').2 bs (e ▸ hbs)) fun j u hu hj=>?_⟩
  ·simp only[List.size_toArray,zaY,Array.length_toList,List.length_append,hdl,hnslen]
   rw[Nat.add_mul]at hsz;omega
  ·have hu:(zaC cur.toList (bs+off+n * inf.size) news)[bs+off+j]?=some u:=by simpa using hu
   rw[zgX,hs.newsLen]at hu
   simp only[List.length_append,hdl,hnslen]at hj
   rw[Nat.add_mul]at hsz
   rcases Nat.lt_or_ge j (n * inf.size) with hlt|hge
   ·rw[if_neg (by omega)]at hu
    rw[List.getElem?_append_left (by omega),<- htk,List.getElem?_take,if_pos hlt,List.getElem?_drop]
    exact hu
   ·rw[if_pos (by simp;omega)]at hu
    rw[List.getElem?_append_right (by omega),hrl]
    rw[show bs+off+j - (bs+off+n * inf.size)=j - n * inf.size by omega]at hu
    exact hu
 ·have hnew:w'.heap[w.heap.size]?=some (.cells cur e (0,0)):=by rw[hheap];simp
  have hold':∀ q,q < w.heap.size->w'.heap[q]?=w.heap[q]?:=fun q hq=>by rw[hheap,Array.getElem?_push,if_neg (by omega)]
  have hsz':w'.heap.size=w.heap.size+1:=by rw[hheap];simp
  have hc5:(n+k) * inf.size<=cur.size:=by rw[hc3];exact Nat.mul_le_mul_right _ hc1
  refine fin (s:=.at_ w.heap.size 0) hrun h1 h2 h3 (by omega) (fun q base e=>by cases e;exact .inr ⟨Nat.le_refl _,by omega⟩) (fun q hq _=>hold' q hq) (fun i q base n' _ h=>by
   obtain⟨c1,c2,c3,c4,c5⟩:=h
   exact Shp.heap (hold' q (lt_of_heap c4)) ⟨c1,c2,c3,c4,c5⟩) (fun E=>?_) (.inr ⟨cap,rfl,hc1,hc2,⟨_,_,_,hnew,.inl rfl,by simp[hc3]⟩⟩)
  unfold zaq
  rw[ziG]
  refine⟨cur,e,(0,0),hnew,.inl rfl,?_,row (w':=w') (m':=m.move b (.o g i 0) off (.at_ w.heap.size 0)) E (fun j=>by simp[Mem.move]) (fun j q' hq'=>hold' q' (hidold j q' hq').1) fun j u hu hj=>?_⟩
  ·simp only[List.length_append,hdl,hnslen];rw[Nat.add_mul]at hc5;omega
  ·simp only[List.length_append,hdl,hnslen]at hj
   rw[<- hc4,List.getElem?_take,if_pos (by rw[Nat.add_mul];omega)]
   simpa using hu
end
end Go.Hw
end
section
namespace Go.Hw
variable [Globals]
open Go.RowKit (Below)
def Gh (st st':St):Prop:=∀(C:Cx) (a:Act) (w:World) (m:Mem),J C st a w m->∃ m',J C st' a w m'
theorem Gh.refl(st:St):Gh st st:=fun _ _ _ m h=>⟨m,h⟩
theorem Gh.trans{s1 s2 s3:St}(h:Gh s1 s2)(k:Gh s2 s3):Gh s1 s3:=fun C a w m hJ=>let⟨m',h'⟩:=h C a w m hJ;k C a w m' h'
def otA (t:OT):AC:=match t with|.p c=>.p c|t=>.own t
def otO (x:Id):OT->AC × Option Blk
 |.p c=>(.p c,none)
 |.sp sz n cells=>(.sl x 0 sz n,some (.pure cells))
 |.sl sz n cells=>(.sl x 0 sz n,some (.cells (cells.map otA)))
theorem zte{w:World}{m:Mem}{bad0:Nat->Prop}{t:OT}{v:Value}{hs:List Nat}(h:OTR w (Bad m bad0) v t hs):zeV w m bad0 hs v (otA t):=by
 cases t with
 |p c=>cases h with|p _ _ h=>exact h
 |sp sz n cells=>exact h
 |sl sz n cells=>exact h
def open1(g i:Nat)(b:Id)(j:Nat)(hp:Id->Option Blk):Id->Option Blk:=match hp b with
 |some (.cells l)=>match l[j]? with
  |some (.own t)=>hput hp ((b,some (.cells (l.set j (otO (.o g i j) t).1)))::(match(otO (.o g i j) t).2 with|some k=>[(.o g i j,some k)]|none=>[]))
  |_=>hp
 |_=>hp
def openAt(g i:Nat)(b:Id):Nat->Nat->(Id->Option Blk)->Id->Option Blk
 |_,0,hp=>hp
 |off,n+1,hp=>openAt g i b (off+1) n (open1 g i b off hp)
def Mem.out(m:Mem)(b:Id)(j:Nat)(x:Id)(s:Stat)(hss:List (List Nat)):Mem:=
 ⟨fun i=>if i=x then s else m.ρ i,fun i k=>if i=x then hss.getD k [] else if i=b /\ k=j then [] else m.hid i k⟩
section
variable {C:Cx} {st:St} {a:Act} {w w':World} {m m':Mem} {bad0 prot:Nat->Prop} {g i:Nat}
theorem zh6{hss:List (List Nat)}{k q:Nat}(h:q ∈ hss.getD k []):∃ hs,hss[k]?=some hs /\ q ∈ hs:=by
 rw[List.getD_eq_getElem?_getD]at h
 cases hk:hss[k]? with
 |none=>rw[hk]at h;simp at h
 |some hs=>rw[hk]at h;exact⟨hs,rfl,h⟩
theorem zg8:∀ {hss:List (List Nat)},hss.flatten.Nodup->(∀ l ∈ hss,l.Nodup) /\ ∀(k k':Nat) (l l':List Nat) (q:Nat),k < k'->hss[k]?=some l->hss[k']?=some l'->q ∈ l->q ∈ l'->False
 |[],h=>⟨by simp,by simp⟩
 |x::r,h=>by
  rw[List.flatten_cons,List.nodup_append]at h
  obtain⟨h1,h2,h3⟩:=h
  obtain⟨i1,i2⟩:=zg8 h2
  refine⟨fun l hl=>?_,fun k k' l l' q hk h4 h5 h6 h7=>?_⟩
  ·rcases List.mem_cons.1 hl with rfl|hl
   ·exact h1
   ·exact i1 l hl
  ·cases k' with
   |zero=>omega
   |succ k'=>
    have h5:r[k']?=some l':=by simpa using h5
    cases k with
    |zero=>
     simp at h4;subst h4
     exact h3 q h6 q (List.mem_flatten.2 ⟨l',List.mem_of_getElem? h5,h7⟩) rfl
    |succ k=>exact i2 k k' l l' q (by omega) (by simpa using h4) h5 h6 h7
theorem Mem.out_ok(hm:MemOk w prot bad0 m){b x:Id}{j:Nat}{s:Stat}{hss:List (List Nat)}(hs:(s=.vd /\ hss=[]) \/ ∃ q base,s=.at_ q base /\ m.hid b j=q::hss.flatten):MemOk w prot bad0 (m.out b j x s hss) /\ ∀ q,Own (m.out b j x s hss) q->Own m q:=by
 have sub:∀ k q,q ∈ hss.getD k []->q ∈ m.hid b j:=fun k q hq=>by
  obtain⟨l,h1,h2⟩:=zh6 hq
  rcases hs with⟨_,e⟩ |⟨r,base,_,e⟩
  ·subst e;simp at h1
  ·rw[e];exact List.mem_cons_of_mem _ (List.mem_flatten.2 ⟨l,List.mem_of_getElem? h1,h2⟩)
 have rt:∀ q base,s=.at_ q base->q ∈ m.hid b j /\ ∀ k,q ∉ hss.getD k []:=fun q base e=>by
  rcases hs with⟨e2,_⟩ |⟨r,base,e2,e3⟩
  ·rw[e2]at e;cases e
  ·rw[e2]at e;cases e
   refine⟨by rw[e3];simp,fun k hk=>?_⟩
   obtain⟨l,h1,h2⟩:=zh6 hk
   have:=hm.hnd b j
   rw[e3]at this
   exact(List.nodup_cons.1 this).1 (List.mem_flatten.2 ⟨l,List.mem_of_getElem? h1,h2⟩)
 have hid:∀ c k q,q ∈ (m.out b j x s hss).hid c k->(c=x /\ q ∈ hss.getD k []) \/ (c ≠ x /\ ¬ (c=b /\ k=j) /\ q ∈ m.hid c k):=fun c k q hq=>by
  simp only[Mem.out]at hq
  split at hq
  ·rename_i e;exact .inl ⟨e,hq⟩
  ·rename_i e
   split at hq
   ·cases hq
   ·rename_i e2;exact .inr ⟨e,e2,hq⟩
 have hidm:∀ c k q,q ∈ (m.out b j x s hss).hid c k->∃ c' k',q ∈ m.hid c' k':=fun c k q hq=>by
  rcases hid c k q hq with⟨_,h⟩ |⟨_,_,h⟩
  ·exact⟨b,j,sub k q h⟩
  ·exact⟨c,k,h⟩
 have key:∀ c q bs,(m.out b j x s hss).ρ c=.at_ q bs->(c=x /\ s=.at_ q bs) \/ (c ≠ x /\ m.ρ c=.at_ q bs):=fun c q bs h=>by
  simp only[Mem.out]at h
  split at h
  ·rename_i e;exact .inl ⟨e,h⟩
  ·rename_i e;exact .inr ⟨e,h⟩
 have own:∀ q,Own (m.out b j x s hss) q->Own m q:=by
  rintro q (⟨c,base,h1,h2⟩ |⟨c,k,h1⟩)
  ·rcases key c q base h2 with⟨_,e⟩ |⟨_,e⟩
   ·exact .inr ⟨b,j,(rt q base e).1⟩
   ·exact .inl ⟨c,base,h1,e⟩
  ·obtain⟨c',k',h⟩:=hidm c k q h1
   exact .inr ⟨c',k',h⟩
 refine⟨⟨fun q hq=>hm.lt q (own q hq),fun c d q b1 b2 h1 h2 h3 h4=>?_,fun c q b1 d k h1 h2 h3=>?_,fun c k=>?_,fun c k c' k' q h1 h2=>?_⟩,own⟩
 ·rcases key c q b1 h3 with⟨e1,e2⟩ |⟨n1,e2⟩<;>rcases key d q b2 h4 with⟨e3,e4⟩ |⟨n2,e4⟩
  ·exact e1.trans e3.symm
  ·exact(hm.sep d q b2 b j h2 e4 (rt q b1 e2).1).elim
  ·exact(hm.sep c q b1 b j h1 e2 (rt q b2 e4).1).elim
  ·exact hm.inj c d q b1 b2 h1 h2 e2 e4
 ·rcases key c q b1 h2 with⟨e1,e2⟩ |⟨n1,e2⟩
  ·obtain⟨k1,k2⟩:=rt q b1 e2
   rcases hid d k q h3 with⟨_,h⟩ |⟨_,h5,h⟩
   ·exact k2 k h
   ·exact h5 (hm.hdj d k b j q h k1)
  ·obtain⟨c',k',h⟩:=hidm d k q h3
   exact hm.sep c q b1 c' k' h1 e2 h
 ·simp only[Mem.out]
  split
  ·rw[List.getD_eq_getElem?_getD]
   cases hk:hss[k]? with
   |none=>simp
   |some l=>
    simp only[Option.getD_some]
    rcases hs with⟨_,e⟩ |⟨r,base,_,e⟩
    ·subst e;simp at hk
    ·have:=hm.hnd b j
     rw[e]at this
     exact(zg8 (List.nodup_cons.1 this).2).1 l (List.mem_of_getElem? hk)
  ·split
   ·exact List.nodup_nil
   ·exact hm.hnd c k
 ·rcases hid c k q h1 with⟨e1,h3⟩ |⟨n1,n2,h3⟩<;>rcases hid c' k' q h2 with⟨e2,h4⟩ |⟨n3,n4,h4⟩
  ·refine⟨e1.trans e2.symm,?_⟩
   obtain⟨l,p1,p2⟩:=zh6 h3
   obtain⟨l',p3,p4⟩:=zh6 h4
   rcases hs with⟨_,e⟩ |⟨r,base,_,e⟩
   ·subst e;simp at p1
   ·have:=hm.hnd b j
    rw[e]at this
    have hp:=(zg8 (List.nodup_cons.1 this).2).2
    rcases Nat.lt_trichotomy k k' with hlt|heq|hlt
    ·exact(hp k k' l l' q hlt p1 p3 p2 p4).elim
    ·exact heq
    ·exact(hp k' k l' l q hlt p3 p1 p4 p2).elim
  ·exact(n4 (hm.hdj _ _ _ _ q h4 (sub k q h3))).elim
  ·exact(n2 (hm.hdj _ _ _ _ q h3 (sub k' q h4))).elim
  ·exact hm.hdj _ _ _ _ q h3 h4
theorem OTR.root{bad:Nat->Prop}{v:Value}{t:OT}{hs:List Nat}(h:OTR w bad v t hs){sz n:Nat}{l:List OT}(ht:t=.sl sz n l \/ ∃ cs,t=.sp sz n cs /\ l=cs.map .p):∃ s hss,((s=.vd /\ hss=[] /\ l=[]) \/ ∃ q base,s=.at_ q base /\ hs=q::hss.flatten /\
  ∃ cur e fr,w.heap[q]?=some (.cells cur e fr) /\ (fr.2=fr.1 \/ cur.size<=fr.1) /\ base+l.length<=cur.size /\ ∀(j:Nat) (u:Value) (t:OT),cur[base+j]?=some u->l[j]?=some t->u.oneCell'=true /\ OTR w bad u t (hss.getD j [])) /\ SlR w s 0 sz n v:=by
 cases h with
 |p v c h=>
  rcases ht with ht |⟨cs,ht,_⟩<;>cases ht
 |z a sz'=>
  rcases ht with ht |⟨cs,ht,_⟩<;>cases ht
  exact⟨.vd,[],.inl ⟨rfl,rfl,rfl⟩,rfl,a,rfl⟩
 |zp a sz'=>
  rcases ht with ht |⟨cs,ht,rfl⟩<;>cases ht
  exact⟨.vd,[],.inl ⟨rfl,rfl,rfl⟩,rfl,a,rfl⟩
 |sp q base n' cap cur e fr sz' cells hg hfr hn hm hsz hl ho h=>
  rcases ht with ht |⟨cs,ht,rfl⟩<;>cases ht
  have hle:=Nat.mul_le_mul_right sz hn
  refine⟨.at_ q base,[],.inr ⟨q,base,rfl,rfl,cur,e,fr,hg,hfr,by simp;omega,fun j u t hu ht=>?_⟩,.inr ⟨cap,rfl,hn,hm,cur,e,fr,hg,hfr,by simpa using hsz⟩⟩
  rw[List.getElem?_map]at ht
  cases hc:cells[j]? with
  |none=>simp[hc]at ht
  |some c=>simp[hc]at ht;subst ht;exact⟨ho j u c hu hc,by simpa using OTR.p u c (h j u c hu hc)⟩
 |sl q base n' cap cur e fr sz' cells hss hg hfr hn hm hsz hl hhl ho h=>
  rcases ht with ht |⟨cs,ht,_⟩<;>cases ht
  have hle:=Nat.mul_le_mul_right sz hn
  refine⟨.at_ q base,hss,.inr ⟨q,base,rfl,rfl,cur,e,fr,hg,hfr,by omega,fun j u t hu ht=>⟨ho j u t hu ht,?_⟩⟩,.inr ⟨cap,rfl,hn,hm,cur,e,fr,hg,hfr,by simpa using hsz⟩⟩
  have hj:j < hss.length:=by
   rw[hhl]
   rcases Nat.lt_or_ge j l.length with h|h
   ·exact h
   ·rw[List.getElem?_eq_none h]at ht;cases ht
  rw[List.getD_eq_getElem?_getD,List.getElem?_eq_getElem hj]
  exact h j u t _ hu ht (List.getElem?_eq_getElem hj)
theorem zaq.get{b:Id}{l:List AC}(h:zaq w m bad0 b l){j:Nat}{x:AC}(hx:l[j]?=some x):∃ q base cur e fr u,m.ρ b=.at_ q base /\ w.heap[q]?=some (.cells cur e fr) /\ cur[base+j]?=some u /\ zeV w m bad0 (m.hid b j) u x:=by
 unfold zaq at h
 have hj:j < l.length:=by
  rcases Nat.lt_or_ge j l.length with h|h
  ·exact h
  ·simp[h]at hx
 cases hs:m.ρ b with
 |un=>rw[hs]at h;exact h.elim
 |dead=>rw[hs]at h;exact h.elim
 |vd=>rw[hs]at h;simp only at h;subst h;simp at hj
 |at_ q base=>
  rw[hs]at h
  obtain⟨cur,e,fr,h1,h2,h3,h4⟩:=h
  have hb:base+j < cur.size:=by omega
  exact⟨q,base,cur,e,fr,cur[base+j],rfl,h1,Array.getElem?_eq_getElem hb,(h4 j _ x (Array.getElem?_eq_getElem hb) hx).2⟩
theorem getElem?_set'{α:Type}{l:List α}{j k:Nat}{x y:α}(h:(l.set j x)[k]?=some y):(k=j /\ y=x /\ j < l.length) \/ (k ≠ j /\ l[k]?=some y):=by
 rw[List.getElem?_set]at h
 split at h
 ·rename_i e
  split at h
  ·cases h;exact .inl ⟨e.symm,rfl,by assumption⟩
  ·cases h
 ·rename_i e;exact .inr ⟨fun e'=>e e'.symm,h⟩
theorem zaq.swap(E:Ext w m bad0 w m' bad0){b:Id}{l:List AC}(h:zaq w m bad0 b l)(hρ:m'.ρ b=m.ρ b){j:Nat}{c:AC}(hk:∀ k,k ≠ j->m'.hid b k=m.hid b k)
  (hc:∀ q base cur e fr u,m.ρ b=.at_ q base->w.heap[q]?=some (.cells cur e fr)->cur[base+j]?=some u->zeV w m bad0 (m.hid b j) u (l.getD j .bad)->zeV w m' bad0 (m'.hid b j) u c):zaq w m' bad0 b (l.set j c):=by
 unfold zaq at h ⊢
 rw[hρ]
 cases hs:m.ρ b with
 |un=>rw[hs]at h;exact h
 |dead=>rw[hs]at h;exact h
 |vd=>rw[hs]at h;simp only at h ⊢;subst h;rfl
 |at_ q base=>
  rw[hs]at h
  obtain⟨cur,e,fr,h1,h2,h3,h4⟩:=h
  refine⟨cur,e,fr,h1,h2,by simpa using h3,fun k u x hu hx=>?_⟩
  rcases getElem?_set' hx with⟨rfl,rfl,hlt⟩ |⟨hne,hx⟩
  ·have hlk:=List.getElem?_eq_getElem hlt
   obtain⟨h5,h6⟩:=h4 k u _ hu hlk
   exact⟨h5,hc q base cur e fr u hs h1 hu (by rw[List.getD_eq_getElem?_getD,hlk];exact h6)⟩
  ·obtain⟨h5,h6⟩:=h4 k u x hu hx
   exact⟨h5,by rw[hk k hne];exact E.cell (fun _ _=>rfl) h6⟩
theorem Upd.names(hm:MemOk w prot bad0 m')(E:Ext w m bad0 w m' bad0){u:List (Id × Option Blk)}(hput:∀ b k,(b,some k) ∈ u->isF b=false /\ BlkR w m' bad0 b k)(hkeep:∀ b,(∀ v,(b,v) ∉ u)->m'.ρ b=m.ρ b /\ ∀ j,m'.hid b j=m.hid b j)
  (hf:∀ x,m'.ρ (.f x)=m.ρ (.f x)) (hst:Stp m m' g i):Upd w m bad0 prot w m' g i u:=
 ⟨E,hm,rfl,rfl,rfl,Nat.le_refl _,fun _ _ _=>rfl,hput,fun b hb=>⟨(hkeep b hb).1,(hkeep b hb).2,fun _ _ _ _=>rfl,fun _ _ _=>rfl⟩,hf,hst⟩
theorem Upd.openP(hm:MemOk w prot bad0 m){b:Id}(hF:isF b=false){l:List AC}(hR:zaq w m bad0 b l){j:Nat}{c:CV}(hj:l[j]?=some (.own (.p c))):Upd w m bad0 prot w m g i [(b,some (.cells (l.set j (.p c))))]:=by
 refine Upd.names hm (Ext.refl ..) (fun d k hd=>?_) (fun _ _=>⟨rfl,fun _=>rfl⟩) (fun _=>rfl) (fun x h _=>h)
 simp only[List.mem_singleton,Prod.mk.injEq,Option.some.injEq]at hd
 obtain⟨rfl,rfl⟩:=hd
 refine⟨hF,zaq.swap (Ext.refl ..) hR rfl (fun _ _=>rfl) fun _ _ _ _ _ u _ _ _ hu=>?_⟩
 rw[List.getD_eq_getElem?_getD,hj]at hu
 have h2:OTR w (Bad m bad0) u (.p c) (m.hid d j):=hu
 generalize m.hid d j=hs at h2
 cases h2 with
 |p _ _ h=>exact h
theorem Upd.openS(hm:MemOk w prot bad0 m){b:Id}(hF:isF b=false){k:Nat}(hun:m.ρ (.o g i k)=.un){l:List AC}(hR:zaq w m bad0 b l){j:Nat}{t:OT}(hj:l[j]?=some (.own t)){bl:Blk}(ht:(otO (.o g i k) t).2=some bl) :
  ∃ m',Upd w m bad0 prot w m' g i [(b,some (.cells (l.set j (otO (.o g i k) t).1))),(.o g i k,some bl)] /\ ∀ k',k' ≠ k->m'.ρ (.o g i k')=m.ρ (.o g i k'):=by
 obtain⟨q0,b0,cur0,e0,fr0,u0,hst,hg0,hu0,hc0⟩:=hR.get hj
 have hO:OTR w (Bad m bad0) u0 t (m.hid b j):=hc0
 obtain⟨sz,n,lo,hlo,he⟩:∃ sz n lo,(t=.sl sz n lo \/ ∃ cs,t=.sp sz n cs /\ lo=cs.map .p) /\ (otO (.o g i k) t).1=.sl (.o g i k) 0 sz n:=by
  cases t with
  |p c=>simp[otO]at ht
  |sp sz n cs=>exact⟨sz,n,_,.inr ⟨cs,rfl,rfl⟩,rfl⟩
  |sl sz n lo=>exact⟨sz,n,lo,.inl rfl,rfl⟩
 obtain⟨s,hss,hs,hsl⟩:=hO.root hlo
 have hs':(s=.vd /\ hss=[]) \/ ∃ q base,s=.at_ q base /\ m.hid b j=q::hss.flatten:=by
  rcases hs with⟨h1,h2,_⟩ |⟨q,base,h1,h2,_⟩
  ·exact .inl ⟨h1,h2⟩
  ·exact .inr ⟨q,base,h1,h2⟩
 obtain⟨hok,hown⟩:=Mem.out_ok hm (x:=.o g i k) hs'
 have hbx:b ≠ .o g i k:=fun e=>by rw[e,hun]at hst;cases hst
 have E:Ext w m bad0 w (m.out b j (.o g i k) s hss) bad0:=by
  refine⟨Hx.same fun q hn=>?_,fun c=>?_,fun _ _ _ _ _ _ h=>h⟩
  ·rintro(ho|ho)
   ·exact hn (.inl (hown q ho))
   ·exact hn (.inr ho)
  ·simp only[Mem.out]
   split
   ·rename_i e;subst e;exact .inl hun
   ·exact .inr (.inr rfl)
 refine⟨m.out b j (.o g i k) s hss,Upd.names hok E (fun d bl' hd=>?_) (fun d hd=>?_) (fun x=>?_) (fun x hx hne=>?_),fun k' hk'=>?_⟩
 ·simp only[List.mem_cons,Prod.mk.injEq,Option.some.injEq,List.not_mem_nil,or_false]at hd
  rcases hd with⟨rfl,rfl⟩ |⟨rfl,rfl⟩
  ·refine⟨hF,zaq.swap E hR (by simp[Mem.out,hbx]) (fun k' hk'=>by simp[Mem.out,hbx,hk']) fun q base cur e fr u p1 p2 p3 hu=>?_⟩
   rw[hst]at p1;cases p1
   rw[hg0]at p2;cases p2
   rw[hu0]at p3;cases p3
   rw[he]
   show SlR w ((m.out d j (.o g i k) s hss).ρ (.o g i k)) 0 sz n u0
   simpa [Mem.out]using hsl
  ·refine⟨rfl,?_⟩
   have hcells:zaq w (m.out b j (.o g i k) s hss) bad0 (.o g i k) (lo.map otA):=by
    unfold zaq
    have hρ:(m.out b j (.o g i k) s hss).ρ (.o g i k)=s:=by simp[Mem.out]
    rw[hρ]
    rcases hs with⟨rfl,rfl,rfl⟩ |⟨q,base,rfl,_,cur,e,fr,p1,p2,p3,p4⟩
    ·rfl
    ·refine⟨cur,e,fr,p1,p2,by simpa using p3,fun j' u x hu hx=>?_⟩
     rw[List.getElem?_map]at hx
     cases hlj:lo[j']? with
     |none=>simp[hlj]at hx
     |some t'=>
      simp[hlj]at hx;subst hx
      obtain⟨p5,p6⟩:=p4 j' u t' hu hlj
      refine⟨p5,?_⟩
      have hh:(m.out b j (.o g i k) (.at_ q base) hss).hid (.o g i k) j'=hss.getD j' []:=by simp[Mem.out]
      rw[hh]
      exact zte (OTR.mono E.pure p6 fun _ _=>rfl)
   rcases hlo with rfl |⟨cs,rfl,rfl⟩
   ·simp only[otO,Option.some.injEq]at ht
    subst ht;exact hcells
   ·simp only[otO,Option.some.injEq]at ht
    subst ht
    have e1:(cs.map OT.p).map otA=cs.map .p:=by rw[List.map_map];rfl
    rw[e1]at hcells;exact hcells
 ·have n1:d ≠ b:=fun e=>hd _ (by rw[e];exact List.mem_cons_self ..)
  have n2:d ≠ .o g i k:=fun e=>hd (some bl) (by simp[e])
  exact⟨by simp[Mem.out,n2],fun j'=>by simp[Mem.out,n2,n1]⟩
 ·simp[Mem.out]
 ·simp only[Mem.out,if_neg (hne k)];exact hx
 ·simp[Mem.out,hk']
theorem J.open1(hJ:J C st a w m)(hg:g<=st.gen)(b:Id)(j:Nat)(hun:m.ρ (.o g i j)=.un):∃ m',J C { st with hp:=open1 g i b j st.hp } a w m' /\ ∀ x,m.ρ x=.un->x ≠ .o g i j->m'.ρ x=.un:=by
 have same:J C { st with hp:=st.hp } a w m:=hJ
 unfold Go.Hw.open1
 split
 ·rename_i l hb
  split
  ·rename_i t ht
   obtain⟨hF,hR⟩:=hJ.hp b _ hb
   have hR:zaq w m C.bad0 b l:=hR
   cases ho:(otO (.o g i j) t).2 with
   |none=>
    obtain⟨c,rfl⟩:∃ c,t=.p c:=by cases t<;>simp[otO]at ho;exact⟨_,rfl⟩
    exact⟨m,hJ.upd (Upd.openP (g:=g) (i:=i) hJ.mem hF hR ht) hg,fun x hx _=>hx⟩
   |some k=>
    obtain⟨m',U,hk⟩:=Upd.openS (g:=g) (i:=i) hJ.mem hF hun hR ht ho
    refine⟨m',hJ.upd U hg,fun x hx hne=>?_⟩
    by_cases hxo:∃ k',x=.o g i k'
    ·obtain⟨k',rfl⟩:=hxo
     have:k' ≠ j:=fun e=>hne (by rw[e])
     rw[hk k' this];exact hx
    ·exact U.step x hx fun k' e=>hxo ⟨k',e⟩
  ·exact⟨m,same,fun x hx _=>hx⟩
 ·exact⟨m,same,fun x hx _=>hx⟩
theorem J.openAt(b:Id):∀(n off:Nat) (st:St) (m:Mem),J C st a w m->g<=st.gen->(∀ k,off<=k->m.ρ (.o g i k)=.un)->∃ m',J C { st with hp:=openAt g i b off n st.hp } a w m' /\ Stp m m' g i
 |0,off,st,m,hJ,hg,hun=>⟨m,hJ,fun x h _=>h⟩
 |n+1,off,st,m,hJ,hg,hun=>by
  obtain⟨m1,h1,h2⟩:=hJ.open1 (i:=i) hg b off (hun off (Nat.le_refl _))
  obtain⟨m2,h3,h4⟩:=J.openAt b n (off+1) _ m1 h1 hg fun k hk=>h2 _ (hun k (by omega)) fun e=>by cases e;omega
  exact⟨m2,h3,fun x hx hne=>h4 x (h2 x hx (hne off)) hne⟩
end
end Go.Hw
end
section
namespace Go.Hw
variable [Globals]
open Go.RowKit (Below)
def otC:AC->Option OT
 |.p c=>some (.p c)
 |.own t=>some t
 |.z=>some (.sp 1 0 [])
 |_=>none
def otCs:List AC->Option (List OT)
 |[]=>some []
 |x::r=>match otC x,otCs r with
  |some t,some l=>some (t::l)
  |_,_=>none
def zje(bl:Blk)(off sz n:Nat):Option OT:=match bl with
 |.pure cs=>if off+n * sz<=cs.length then some (.sp sz n ((cs.drop off).take (n * sz))) else none
 |.cells l=>if off+n * sz<=l.length then(otCs ((l.drop off).take (n * sz))).map (.sl sz n) else none
 |.map _ _=>none
def znB(b:Id)(j:Nat)(hp:Id->Option Blk):Id->Option Blk:=match hp b with
 |some (.cells l)=>match l[j]? with
  |some (.sl q off sz n)=>match hp q with
   |some bl=>match zje bl off sz n with
    |some t=>if q=b then hp else hput hp [(b,some (.cells (l.set j (.own t)))),(q,none)]
    |none=>hp
   |none=>hp
  |_=>hp
 |_=>hp
def St.close(st:St)(b:Id)(j:Nat):St:={ st with hp:=znB b j st.hp }
theorem znc:∀ {l:List AC} {ts:List OT},otCs l=some ts->ts.length=l.length /\ ∀(j:Nat) (t:OT),ts[j]?=some t->∃ x,l[j]?=some x /\ otC x=some t
 |[],ts,h=>by simp[otCs]at h;subst h;simp
 |x::r,ts,h=>by
  simp only[otCs]at h
  split at h
  ·rename_i t l h1 h2
   cases h
   obtain⟨h3,h4⟩:=znc h2
   refine⟨by simp[h3],fun j d hj=>?_⟩
   cases j with
   |zero=>simp at hj;subst hj;exact⟨x,rfl,h1⟩
   |succ j=>simpa using h4 j d (by simpa using hj)
  ·cases h
def Mem.into(m:Mem)(b:Id)(j:Nat)(q:Id)(hs:List Nat):Mem:=⟨fun i=>if i=q then .dead else m.ρ i,fun i k=>if i=q then [] else if i=b /\ k=j then hs else m.hid i k⟩
def Mem.kill(m:Mem)(q:Id):Mem:=⟨fun i=>if i=q then .dead else m.ρ i,fun i k=>if i=q then [] else m.hid i k⟩
section
variable {C:Cx} {st:St} {a:Act} {w w':World} {m m':Mem} {bad0 prot:Nat->Prop} {g i:Nat}
theorem Mem.into_ok(hm:MemOk w prot bad0 m){b q:Id}{j:Nat}(hF:isF q=false){hs:List Nat}(hnd:hs.Nodup)(hsub:∀ k ∈ hs,(∃ base,m.ρ q=.at_ k base) \/ ∃ n,k ∈ m.hid q n):MemOk w prot bad0 (m.into b j q hs) /\ ∀ k,Own (m.into b j q hs) k->Own m k:=by
 have hid:∀ c n k,k ∈ (m.into b j q hs).hid c n->(c ≠ q /\ c=b /\ n=j /\ k ∈ hs) \/ (c ≠ q /\ ¬ (c=b /\ n=j) /\ k ∈ m.hid c n):=fun c n k h=>by
  simp only[Mem.into]at h
  split at h
  ·cases h
  ·rename_i e
   split at h
   ·rename_i e2;exact .inl ⟨e,e2.1,e2.2,h⟩
   ·rename_i e2;exact .inr ⟨e,e2,h⟩
 have key:∀ c k bs,(m.into b j q hs).ρ c=.at_ k bs->c ≠ q /\ m.ρ c=.at_ k bs:=fun c k bs h=>by
  simp only[Mem.into]at h
  split at h
  ·cases h
  ·rename_i e;exact⟨e,h⟩
 have own:∀ k,Own (m.into b j q hs) k->Own m k:=by
  rintro k (⟨c,bs,h1,h2⟩ |⟨c,n,h⟩)
  ·exact .inl ⟨c,bs,h1,(key c k bs h2).2⟩
  ·rcases hid c n k h with⟨_,_,_,h⟩ |⟨_,_,h⟩
   ·rcases hsub k h with⟨bs,h⟩ |⟨n',h⟩
    ·exact .inl ⟨q,bs,hF,h⟩
    ·exact .inr ⟨q,n',h⟩
   ·exact .inr ⟨c,n,h⟩
 have sepq:∀ c k bs,isF c=false->c ≠ q->m.ρ c=.at_ k bs->k ∉ hs:=fun c k bs h1 h2 h3 h4=>by
  rcases hsub k h4 with⟨bs',h⟩ |⟨n,h⟩
  ·exact h2 (hm.inj c q k bs bs' h1 hF h3 h)
  ·exact hm.sep c k bs q n h1 h3 h
 have sepd:∀ c n k,c ≠ q->k ∈ m.hid c n->k ∉ hs:=fun c n k h1 h2 h3=>by
  rcases hsub k h3 with⟨bs',h⟩ |⟨n',h⟩
  ·exact hm.sep q k bs' c n hF h h2
  ·exact h1 (hm.hdj c n q n' k h2 h).1
 refine⟨⟨fun k hk=>hm.lt k (own k hk),fun c d k b1 b2 h1 h2 h3 h4=>hm.inj c d k b1 b2 h1 h2 (key _ _ _ h3).2 (key _ _ _ h4).2,fun c k b1 d n h1 h2 h3=>?_,fun c n=>?_,fun c n c' n' k h1 h2=>?_⟩,own⟩
 ·obtain⟨k1,k2⟩:=key c k b1 h2
  rcases hid d n k h3 with⟨_,_,_,h⟩ |⟨_,_,h⟩
  ·exact sepq c k b1 h1 k1 k2 h
  ·exact hm.sep c k b1 d n h1 k2 h
 ·simp only[Mem.into]
  split
  ·exact List.nodup_nil
  ·split
   ·exact hnd
   ·exact hm.hnd c n
 ·rcases hid c n k h1 with⟨_,e1,e2,h3⟩ |⟨n1,_,h3⟩<;>rcases hid c' n' k h2 with⟨_,e3,e4,h4⟩ |⟨n2,_,h4⟩
  ·exact⟨e1.trans e3.symm,e2.trans e4.symm⟩
  ·exact(sepd c' n' k n2 h4 h3).elim
  ·exact(sepd c n k n1 h3 h4).elim
  ·exact hm.hdj _ _ _ _ k h3 h4
theorem zjO{f:Nat->List Nat}(h1:∀ k,(f k).Nodup)(h2:∀ k k' q,q ∈ f k->q ∈ f k'->k=k'):∀ n off,((List.range' off n).map f).flatten.Nodup
 |0,off=>by simp
 |n+1,off=>by
  rw[List.range'_succ,List.map_cons,List.flatten_cons,List.nodup_append]
  refine⟨h1 off,zjO h1 h2 n (off+1),fun x hx y hy e=>?_⟩
  subst e
  rw[List.mem_flatten]at hy
  obtain⟨l,hl,hy⟩:=hy
  rw[List.mem_map]at hl
  obtain⟨k,hk,rfl⟩:=hl
  rw[List.mem_range']at hk
  obtain⟨d,hd,rfl⟩:=hk
  have:=h2 _ _ x hx hy
  omega
theorem Upd.closed(hm:MemOk w prot bad0 m){b q:Id}(hF:isF b=false)(hFq:isF q=false)(hqb:q ≠ b){l:List AC}(hR:zaq w m bad0 b l){j off sz n:Nat}(hj:l[j]?=some (.sl q off sz n)){bl:Blk}(hq:BlkR w m bad0 q bl){t:OT}(ht:zje bl off sz n=some t) :
  ∃ m',Upd w m bad0 prot w m' g i [(b,some (.cells (l.set j (.own t)))),(q,none)]:=by
 obtain⟨q0,b0,cur0,e0,fr0,u0,hst,hg0,hu0,hc0⟩:=hR.get hj
 have hS:SlR w (m.ρ q) off sz n u0:=hc0
 -- the tree and its blocks
 obtain⟨hs,hnd,hsub,hO⟩:∃ hs:List Nat,hs.Nodup /\ (∀ k ∈ hs,(∃ base,m.ρ q=.at_ k base) \/ ∃ n,k ∈ m.hid q n) /\ OTR w (Bad m bad0) u0 t hs:=by
  obtain⟨lq,hlq⟩:∃ lq,bl.ac=some lq:=by
   cases bl with
   |cells l=>exact⟨_,rfl⟩
   |pure l=>exact⟨_,rfl⟩
   |map ks vs=>simp[zje]at ht
  have hC:=hq.ac hlq
  have hnil:∀ a,n=0->OTR w (Bad m bad0) (.slice a 0 0) t []:=fun a e=>by
   subst e
   cases bl with
   |pure cs=>
    simp only[zje,Nat.zero_mul,List.take_zero]at ht
    split at ht
    ·cases ht;exact .zp a sz
    ·cases ht
   |cells l=>
    simp only[zje,Nat.zero_mul,List.take_zero,otCs,Option.map_some]at ht
    split at ht
    ·cases ht;exact .z a sz
    ·cases ht
   |map ks vs=>simp[zje]at ht
  unfold zaq at hC
  cases hsq:m.ρ q with
  |un=>rw[hsq]at hC;exact hC.elim
  |dead=>rw[hsq]at hC;exact hC.elim
  |vd=>
   rw[hsq]at hS
   obtain⟨e,a,rfl⟩:=hS
   exact⟨[],List.nodup_nil,by simp,hnil a e⟩
  |at_ k base=>
   rw[hsq]at hS hC
   obtain⟨cur,e,fr,hg,hfr,hlen,hcell⟩:=hC
   rcases hS with⟨e,a,rfl⟩ |⟨cap,rfl,h3,h4,c1,c2,c3,c4,c5,c6⟩
   ·exact⟨[],List.nodup_nil,by simp,hnil a e⟩
   ·rw[hg]at c4;cases c4
    cases bl with
    |pure cs=>
     simp only[Blk.ac,Option.some.injEq]at hlq
     subst hlq
     simp only[zje]at ht
     split at ht
     ·rename_i hle
      cases ht
      have hget:∀(j:Nat) (c:CV),((cs.drop off).take (n * sz))[j]?=some c->(cs.map AC.p)[off+j]?=some (.p c):=fun j c hj=>by
       rw[List.getElem?_take]at hj
       split at hj
       ·rw[List.getElem?_drop]at hj;rw[List.getElem?_map,hj];rfl
       ·cases hj
      refine⟨[k],by simp,fun k' hk'=>.inl ⟨base,by simpa using (List.mem_singleton.1 hk' ▸ rfl)⟩,.sp k (base+off) n cap cur e fr sz _ hg hfr h3 h4 c6 (by simp;omega) (fun j u c hu hc=>?_) fun j u c hu hc=>?_⟩
      ·exact(hcell (off+j) u _ (by rw[<- Nat.add_assoc];exact hu) (hget j c hc)).1
      ·exact(hcell (off+j) u _ (by rw[<- Nat.add_assoc];exact hu) (hget j c hc)).2
     ·cases ht
    |map ks vs=>simp[zje]at ht
    |cells l'=>
     simp only[Blk.ac,Option.some.injEq]at hlq
     subst hlq
     simp only[zje]at ht
     split at ht
     ·rename_i hle
      rw[Option.map_eq_some_iff]at ht
      obtain⟨ts,hts,rfl⟩:=ht
      obtain⟨ht1,ht2⟩:=znc hts
      have hl2:((l'.drop off).take (n * sz)).length=n * sz:=by simp;omega
      have hget:∀(j:Nat) (t:OT),ts[j]?=some t->j < n * sz /\ ∃ x,l'[off+j]?=some x /\ otC x=some t:=fun j t hj=>by
       obtain⟨x,hx,ho⟩:=ht2 j t hj
       rw[List.getElem?_take]at hx
       split at hx
       ·exact⟨by assumption,x,by simpa using hx,ho⟩
       ·cases hx
      -- an emptied cell has no blocks
      let f:Nat->List Nat:=fun j=>match l'[j]? with|some (.own _)=>m.hid q j|_=>[]
      have hf:∀ j k,k ∈ f j->k ∈ m.hid q j:=fun j k hk=>by
       simp only[f]at hk
       split at hk
       ·exact hk
       ·cases hk
      refine⟨k::((List.range' off (n * sz)).map f).flatten,?_,?_,.sl k (base+off) n cap cur e fr sz ts ((List.range' off (n * sz)).map f) hg hfr h3 h4 c6 (by rw[ht1,hl2]) (by simp[ht1,hl2]) (fun j u t hu hc=>?_) fun j u t hs hu hc hh=>?_⟩
      ·rw[List.nodup_cons]
       refine⟨fun hmem=>?_,zjO (fun j=>?_) (fun j j' q' h1 h2=>(hm.hdj _ _ _ _ q' (hf j q' h1) (hf j' q' h2)).2) _ _⟩
       ·obtain⟨lx,hlx,hk⟩:=List.mem_flatten.1 hmem
        obtain⟨j',_,rfl⟩:=List.mem_map.1 hlx
        exact hm.sep q k base q j' hFq hsq (hf j' k hk)
       ·simp only[f]
        split
        ·exact hm.hnd q j
        ·exact List.nodup_nil
      ·intro k' hk'
       rcases List.mem_cons.1 hk' with rfl|hk'
       ·exact .inl ⟨base,rfl⟩
       ·obtain⟨lx,hlx,hk⟩:=List.mem_flatten.1 hk'
        obtain⟨j',_,rfl⟩:=List.mem_map.1 hlx
        exact .inr ⟨j',hf j' k' hk⟩
      ·obtain⟨_,x,hx,ho⟩:=hget j t hc
       exact(hcell (off+j) u x (by rw[<- Nat.add_assoc];exact hu) hx).1
      ·obtain⟨hlt,x,hx,ho⟩:=hget j t hc
       have hcx:=(hcell (off+j) u x (by rw[<- Nat.add_assoc];exact hu) hx).2
       rw[List.getElem?_map,List.getElem?_range' hlt]at hh
       simp only[Option.map_some,Option.some.injEq,Nat.one_mul]at hh
       subst hh
       cases x<;>simp only[otC,Option.some.injEq,reduceCtorEq]at ho
       ·subst ho
        have:f (off+j)=[]:=by simp only[f,hx]
        rw[this];exact .p _ _ hcx
       ·subst ho
        obtain⟨a,rfl⟩:=hcx
        have:f (off+j)=[]:=by simp only[f,hx]
        rw[this];exact .zp a 1
       ·subst ho
        have:f (off+j)=m.hid q (off+j):=by simp only[f,hx]
        rw[this];exact hcx
     ·cases ht
 obtain⟨hok,hown⟩:=Mem.into_ok hm (b:=b) (j:=j) hFq hnd hsub
 have E:Ext w m bad0 w (m.into b j q hs) bad0:=by
  refine⟨Hx.same fun k hn=>?_,fun c=>?_,fun _ _ _ _ _ _ h=>h⟩
  ·rintro(ho|ho)
   ·exact hn (.inl (hown k ho))
   ·exact hn (.inr ho)
  ·simp only[Mem.into]
   split
   ·exact .inr (.inl rfl)
   ·exact .inr (.inr rfl)
 refine⟨m.into b j q hs,Upd.names hok E (fun d bl' hd=>?_) (fun d hd=>?_) (fun x=>?_) (fun x hx _=>?_)⟩
 ·simp only[List.mem_cons,Prod.mk.injEq,Option.some.injEq,List.not_mem_nil,or_false,reduceCtorEq,and_false]at hd
  obtain⟨rfl,rfl⟩:=hd
  have hbq:d ≠ q:=fun e=>hqb e.symm
  refine⟨hF,zaq.swap E hR (by simp[Mem.into,hbq]) (fun k' hk'=>by simp[Mem.into,hbq,hk']) fun q' base cur e fr u p1 p2 p3 hu=>?_⟩
  rw[hst]at p1;cases p1
  rw[hg0]at p2;cases p2
  rw[hu0]at p3;cases p3
  have hh:(m.into d j q hs).hid d j=hs:=by simp[Mem.into,hbq]
  rw[hh]
  exact OTR.mono E.pure hO fun _ _=>rfl
 ·have n1:d ≠ b:=fun e=>hd _ (by rw[e];exact List.mem_cons_self ..)
  have n2:d ≠ q:=fun e=>hd none (by simp[e])
  exact⟨by simp[Mem.into,n2],fun j'=>by simp[Mem.into,n2,n1]⟩
 ·have n2:Id.f x ≠ q:=fun e=>by rw[<- e]at hFq;cases hFq
  simp[Mem.into,n2]
 ·have hx':x ≠ q:=fun e=>by
   subst e
   rw[hx]at hS;exact hS
  simp only[Mem.into,if_neg hx'];exact hx
theorem Gh.close(st:St)(b:Id)(j:Nat):Gh st (st.close b j):=by
 intro C a w m hJ
 unfold St.close znB
 split
 ·rename_i l hb
  split
  ·rename_i q off sz n hj
   split
   ·rename_i bl hq
    split
    ·rename_i t ht
     split
     ·exact⟨m,hJ⟩
     ·rename_i hne
      obtain⟨hF,hR⟩:=hJ.hp b _ hb
      obtain⟨hFq,hRq⟩:=hJ.hp q _ hq
      obtain⟨m',U⟩:=Upd.closed (g:=0) (i:=0) hJ.mem hF hFq hne hR hj hRq ht
      exact⟨m',hJ.upd U (Nat.zero_le _)⟩
    ·exact⟨m,hJ⟩
   ·exact⟨m,hJ⟩
  ·exact⟨m,hJ⟩
 ·exact⟨m,hJ⟩
end
end Go.Hw
end
