import Derived.Laws.Cells
import Derived.Laws.Build
import Derived.Test.YtdoajjnobfjkcaaGreatM0
set_option linter.all false
noncomputable section
namespace Go.World
def dL (w:World)(r:Nat)(o:Obj):World:={w with heap:=w.heap.setIfInBounds r o}
end Go.World
namespace Go.PB
open Go
section
section
variable {P:Program} {g:Gh} {h:aj} {w w':World}
def fZ {r:Nat}(e:w'.heap[r]?=w.heap[r]?):w'.shape? r=w.shape? r:=by simp[World.shape?,e]
def bc.NZ (hr:bc P g h w){c:Nat}(hf:g.fz c):¬qO g h c:=by
 rintro⟨l,o,az,hb,hm⟩
 exact(hr.qJ l o c az hb hm).1 hf
def aI.Gx {o:aI}(e:o.zp=none)(f:Nat)(k:D):o.xi f k=none:=by
 cases o<;>try rfl
 case bg kt vk l st c=>cases vk<;>first|rfl|cases e
def aI.nk {o o1:aI}{f:Nat}{k:D}(e:o.xi f k=some o1):o.zp=some f:=by
 cases o<;>try (cases e;done)
 case bg kt vk l st c=>
  cases vk with
  |data et=>cases e
  |IZ=>cases e
  |bY f' et=>
   simp only[aI.xi]at e
   split at e
   ·rename_i h;subst h;rfl
   ·cases e
def aj.Kl {h:aj}{b f:Nat}{k:D}{o:aI}(e:h.at (.el b f k)=some o):∃x,h.get b=some x/\x.xi f k=some o:=by
 change (h.get b).bind (fun x=>x.xi f k)=_ at e
 cases hg:h.get b with
 |none=>rw[hg]at e;cases e
 |some x=>rw[hg]at e;exact⟨x,rfl,e⟩
def aj.BB {h:aj}{b f:Nat}{k:D}{o x:aI}(hg:h.get b=some x)(e:x.xi f k=some o):h.at (.el b f k)=some o:=by
 show (h.get b).bind (fun x=>x.xi f k)=_
 rw[hg];exact e
structure Jq (g:Gh)(h:aj):Prop where
 Jt:∀b o,h.get b=some o->b<h.next
 lt:∀b x,g.m b=some x->b<h.next
 FJ:∀f k x,g.s f k=some x->f<h.next
 BF:∀b o f,h.get b=some o->o.zp=some f->f<h.next
 fu:∀b b' o o' f,h.get b=some o->h.get b'=some o'->o.zp=some f->o'.zp=some f->b=b'
 sk:∀b o f k x,h.get b=some o->o.zp=some f->g.s f k=some x->(∃o1,o.xi f k=some o1)/\∃y,g.m b=some y
 al:∀b b' f k,h.get b=some (.qQ b' f k)->(∃x,g.m b=some x/\g.s f k=some x)/\∃y,g.m b'=some y
def bc.nm (hr:bc P g h w):Jq g h:=⟨hr.Jt,hr.lt,hr.FJ,hr.BF,hr.fu,hr.sk,hr.al⟩
def Jq.M0 (n:Jq g h)(a:∀l aL az,g.at l=some (aL,az)->aL<w.heap.size)
 (b:∀l l' aL az base' o o',h.at l=some o->h.at l'=some o'->g.at l=some (aL,az)->g.at l'=some (aL,base')->l=l')
 (c:∀l o aL az,h.at l=some o->g.at l=some (aL,az)->¬g.fz aL/\∃o',w.heap[aL]?=some o'/\cV P g w o az o')
 (d:∀c,g.fz c->c<w.heap.size):bc P g h w:=⟨n.Jt,n.lt,n.FJ,n.BF,n.fu,n.sk,n.al,a,b,c,d⟩
def aI.Ae {o:aI}(ho:o.nC=some o){b f:Nat}{k:D}:o≠ .qQ b f k:=fun e=>by subst e;cases ho
def Jq.put (n:Jq g h){b:Nat}{o o':aI}(hb:h.get b=some o)(hf:o'.zp=none)(ho:o'.nC=some o'):Jq g (h.put b (some o')):=by
 have hget:∀b1 o1,(h.put b (some o')).get b1=some o1->(b1=b/\o1=o')\/(b1≠b/\h.get b1=some o1):=fun b1 o1 h1=>by
  rw[aj.fe]at h1
  by_cases e:b1=b
  ·rw[ag8 e]at h1;cases h1;exact .inl ⟨e,rfl⟩
  ·rw[ag4 e]at h1;exact .inr ⟨e,h1⟩
 refine⟨fun b1 o1 h1=>?_,n.lt,n.FJ,fun b1 o1 f h1 h2=>?_,fun b1 b2 o1 o2 f h1 h2 h3 h4=>?_,fun b1 o1 f k x h1 h2 h3=>?_,fun b1 b2 f k h1=>?_⟩
 ·rcases hget _ _ h1 with ⟨rfl,_⟩| ⟨_,h1⟩
  ·exact n.Jt _ _ hb
  ·exact n.Jt _ _ h1
 ·rcases hget _ _ h1 with ⟨_,rfl⟩| ⟨_,h1⟩
  ·rw[hf]at h2;cases h2
  ·exact n.BF _ _ _ h1 h2
 ·rcases hget _ _ h1 with ⟨_,rfl⟩| ⟨_,h1⟩
  ·rw[hf]at h3;cases h3
  ·rcases hget _ _ h2 with ⟨_,rfl⟩| ⟨_,h2⟩
   ·rw[hf]at h4;cases h4
   ·exact n.fu _ _ _ _ _ h1 h2 h3 h4
 ·rcases hget _ _ h1 with ⟨_,rfl⟩| ⟨_,h1⟩
  ·rw[hf]at h2;cases h2
  ·exact n.sk _ _ _ _ _ h1 h2 h3
 ·rcases hget _ _ h1 with ⟨_,e⟩| ⟨_,h1⟩
  ·exact absurd e.symm (aI.Ae ho)
  ·exact n.al _ _ _ _ h1
def Jq.drop (n:Jq g h)(b:Nat):Jq g (h.put b none):=by
 have hget:∀b1 o1,(h.put b none).get b1=some o1->h.get b1=some o1:=fun b1 o1 h1=>by
  rw[aj.fe]at h1
  by_cases e:b1=b
  ·rw[ag8 e]at h1;cases h1
  ·rwa [ag4 e]at h1
 exact⟨fun b1 o1 h1=>n.Jt _ _ (hget _ _ h1),n.lt,n.FJ,fun b1 o1 f h1 h2=>n.BF _ _ _ (hget _ _ h1) h2,fun b1 b2 o1 o2 f h1 h2 h3 h4=>n.fu _ _ _ _ _ (hget _ _ h1) (hget _ _ h2) h3 h4,
  fun b1 o1 f k x h1 h2 h3=>n.sk _ _ _ _ _ (hget _ _ h1) h2 h3,fun b1 b2 f k h1=>n.al _ _ _ _ (hget _ _ h1)⟩
def Jq.new (n:Jq g h){o:aI}(hf:∀f,o.zp=some f->f=h.next)(ho:o.nC=some o):Jq g (h.new o):=by
 have hget:∀b1 o1,(h.new o).get b1=some o1->(b1=h.next/\o1=o)\/(b1≠h.next/\h.get b1=some o1):=fun b1 o1 h1=>by
  rw[aj.eL]at h1
  by_cases e:b1=h.next
  ·rw[ag8 e]at h1;cases h1;exact .inl ⟨e,rfl⟩
  ·rw[ag4 e]at h1;exact .inr ⟨e,h1⟩
 refine⟨fun b1 o1 h1=>?_,fun b x h1=>aiv (n.lt b x h1),fun f k x h1=>aiv (n.FJ f k x h1),fun b1 o1 f h1 h2=>?_,fun b1 b2 o1 o2 f h1 h2 h3 h4=>?_,fun b1 o1 f k x h1 h2 h3=>?_,fun b1 b2 f k h1=>?_⟩
 ·rcases hget _ _ h1 with ⟨rfl,_⟩| ⟨_,h1⟩
  ·exact Nat.lt_succ_self _
  ·exact aiv (n.Jt _ _ h1)
 ·rcases hget _ _ h1 with ⟨_,rfl⟩| ⟨_,h1⟩
  ·rw[hf _ h2];exact Nat.lt_succ_self _
  ·exact aiv (n.BF _ _ _ h1 h2)
 ·rcases hget _ _ h1 with ⟨h5,rfl⟩| ⟨_,_⟩
  ·rcases hget _ _ h2 with ⟨h6,rfl⟩| ⟨_,h2⟩
   ·rw[h5,h6]
   ·have:=n.BF _ _ _ h2 h4;rw[hf _ h3]at this;exact absurd this (ai8 _)
  ·rename_i k1
   rcases hget _ _ h2 with ⟨h6,rfl⟩| ⟨_,h2⟩
   ·have:=n.BF _ _ _ k1 h3;rw[hf _ h4]at this;exact absurd this (ai8 _)
   ·exact n.fu _ _ _ _ _ k1 h2 h3 h4
 ·rcases hget _ _ h1 with ⟨_,rfl⟩| ⟨_,h1⟩
  ·have:=n.FJ _ _ _ h3;rw[hf _ h2]at this;exact absurd this (ai8 _)
  ·exact n.sk _ _ _ _ _ h1 h2 h3
 ·rcases hget _ _ h1 with ⟨_,e⟩| ⟨_,h1⟩
  ·exact absurd e.symm (aI.Ae ho)
  ·exact n.al _ _ _ _ h1
def Gh.oS (g:Gh)(b aL az:Nat):Gh:={g with m:=fun x=>if x=b then some (aL,az)else g.m x}
def Gh.iq (g:Gh)(b aL az:Nat):(g.oS b aL az).m b=some (aL,az):=by simp[Gh.oS]
def Gh.gl (g:Gh){b aL az x:Nat}(e:x≠b):(g.oS b aL az).m x=g.m x:=by simp[Gh.oS,e]
def Gh.aaa (g:Gh){b aL az:Nat}{l:Xn}(e:l≠ .aL b):(g.oS b aL az).at l=g.at l:=by
 cases l with
 |aL x=>exact Gh.gl g fun h=>e (by rw[h])
 |el x f k=>rfl
def Gh.Jl (g:Gh)(b aL az:Nat):(g.oS b aL az).at (.aL b)=some (aL,az):=Gh.iq g b aL az
def Jq.oS (n:Jq g h){b aL az:Nat}(hb:b<h.next)(ha:∀b' f k,h.get b≠some (.qQ b' f k)):Jq (g.oS b aL az) h:=by
 refine⟨n.Jt,fun b1 x h1=>?_,n.FJ,n.BF,n.fu,fun b1 o f k x h1 h2 h3=>?_,fun b1 b2 f k h1=>?_⟩
 ·by_cases e:b1=b
  ·rw[e];exact hb
  ·rw[Gh.gl g e]at h1;exact n.lt _ _ h1
 ·obtain⟨k1,y,k2⟩:=n.sk _ _ _ _ _ h1 h2 h3
  refine⟨k1,?_⟩
  by_cases e:b1=b
  ·exact⟨_,by rw[e];exact Gh.iq g b aL az⟩
  ·exact⟨y,by rw[Gh.gl g e];exact k2⟩
 ·by_cases e:b1=b
  ·rw[e]at h1;exact absurd h1 (ha _ _ _)
  ·obtain⟨k1,y,k2⟩:=n.al _ _ _ _ h1
   refine⟨by rw[Gh.gl g e];exact k1,?_⟩
   by_cases e2:b2=b
   ·exact⟨_,by rw[e2];exact Gh.iq g b aL az⟩
   ·exact⟨y,by rw[Gh.gl g e2];exact k2⟩
def aj.Cs {b:Nat}{o':aI}(ho:o'.nC=some o'):(h.put b (some o')).at (.aL b)=some o':=aj.fO (by rw[aj.fe,ag8 rfl]) ho
def aj.RN {b:Nat}{o o':aI}(hb:h.get b=some o)(hf:o.zp=none)(hf':o'.zp=none){l:Xn}(e:l≠ .aL b):(h.put b (some o')).at l=h.at l:=by
 cases l with
 |aL x=>
  show ((h.put b (some o')).get x).bind _=(h.get x).bind _
  rw[aj.fe,ag4 (fun h=>e (by rw[h]))]
 |el x f k=>
  show ((h.put b (some o')).get x).bind (fun o=>o.xi f k)=(h.get x).bind (fun o=>o.xi f k)
  rw[aj.fe]
  by_cases e1:x=b
  ·subst e1;rw[ag8 rfl,hb]
   show o'.xi f k=o.xi f k
   rw[aI.Gx hf,aI.Gx hf']
  ·rw[ag4 e1]
def aj.Ga {b:Nat}{l:Xn}{o:aI}(e:(h.put b none).at l=some o):h.at l=some o:=by
 cases l with
 |aL x=>
  change ((h.put b none).get x).bind _=_ at e
  rw[aj.fe]at e
  by_cases e1:x=b
  ·rw[ag8 e1]at e;cases e
  ·rw[ag4 e1]at e;exact e
 |el x f k=>
  change ((h.put b none).get x).bind (fun o=>o.xi f k)=_ at e
  rw[aj.fe]at e
  by_cases e1:x=b
  ·rw[ag8 e1]at e;cases e
  ·rw[ag4 e1]at e;exact e
def aj.RM {b:Nat}{l:Xn}{o:aI}(e:(h.put b none).at l=some o):l≠ .aL b:=by
 intro h1;subst h1
 change ((h.put b none).get b).bind _=_ at e
 rw[aj.fe,ag8 rfl]at e;cases e
def aj.XK {o:aI}(hf:∀f k,o.xi f k=none){l:Xn}{o1:aI}(e:(h.new o).at l=some o1)(hn:l≠ .aL h.next):h.at l=some o1:=by
 cases l with
 |aL x=>
  change ((h.new o).get x).bind _=_ at e
  rw[aj.eL,ag4 (fun h1=>hn (by rw[h1]))]at e;exact e
 |el x f k=>
  change ((h.new o).get x).bind (fun o=>o.xi f k)=_ at e
  rw[aj.eL]at e
  by_cases e1:x=h.next
  ·rw[ag8 e1]at e
   have:=hf f k
   change o.xi f k=_ at e
   rw[this]at e;cases e
  ·rw[ag4 e1]at e;exact e
def bc.Ly (hr:bc P g h w){b aL az:Nat}{o o':aI}{co co':Obj}(hb:h.get b=some o)(hm:g.m b=some (aL,az))
 (hco:w.heap[aL]?=some co)(hheap:w'.heap=w.heap.setIfInBounds aL co')(hos:w'.os=w.os/\w'.output=w.output/\w'.tape=w.tape)
 (hshape:∀s,w.shape? aL=some s->w'.shape? aL=some s)
 (ho:eC g w g w'->cV P g w' o' az co')(hf:o.zp=none:=by rfl)(hf':o'.zp=none:=by rfl)(hoo:o.nC=some o:=by rfl)(hoo':o'.nC=some o':=by rfl):
 bc P g (h.put b (some o')) w'/\hJ g h w g (h.put b (some o')) w':=by
 have hlt:aL<w.heap.size:=hr.Xd b aL az hm
 have hother:∀c,c≠aL->w'.heap[c]?=w.heap[c]?:=fun c hc=>by
  rw[hheap,ahH (by omega)]
 have hsame:w'.heap[aL]?=some co':=by rw[hheap,ahA hlt]
 have hsz:w'.heap.size=w.heap.size:=by rw[hheap];simp
 have hnf:¬g.fz aL:=(hr.Xg b o aL az hb hm hoo).1
 have hmono:eC g w g w':=⟨fun _ _ e=>e,fun _ e=>e,fun c hc=>hother c (fun e=>hnf (e▸hc)),fun c s hs=>by
  by_cases e:c=aL
  ·subst e;exact hshape s hs
  ·rw[fZ (hother c e)];exact hs,fun _ _ _ e=>e⟩
 have hat:∀l o1,(h.put b (some o')).at l=some o1->(l= .aL b/\o1=o')\/(l≠ .aL b/\h.at l=some o1):=fun l o1 e=>by
  by_cases e1:l= .aL b
  ·subst e1;rw[aj.Cs hoo']at e;cases e;exact .inl ⟨rfl,rfl⟩
  ·rw[aj.RN hb hf hf' e1]at e;exact .inr ⟨e1,e⟩
 have hbat:=aj.fO hb hoo
 have hold:∀l o1,(h.put b (some o')).at l=some o1->∃o2,h.at l=some o2:=fun l o1 e=>by
  rcases hat l o1 e with ⟨rfl,_⟩| ⟨_,h1⟩
  ·exact⟨o,hbat⟩
  ·exact⟨o1,h1⟩
 refine⟨(hr.nm.put hb hf' hoo').M0 ?_ ?_ ?_ ?_,⟨hmono,by omega,?_,fun c _ hc=>?_,fun _ _ h=> .inl h,aho _,hos⟩⟩
 ·intro l blk1 base1 h1;rw[hsz];exact hr.nv _ _ _ h1
 ·intro l1 l2 blk1 base1 base2 o1 o2 h1 h2 m1 m2
  obtain⟨_,g1⟩:=hold _ _ h1;obtain⟨_,g2⟩:=hold _ _ h2
  exact hr.nw _ _ _ _ _ _ _ g1 g2 m1 m2
 ·intro l o1 blk1 base1 h1 m1
  rcases hat l o1 h1 with ⟨rfl,rfl⟩| ⟨hne,h1⟩
  ·change g.m b=_ at m1
   rw[hm]at m1;cases m1
   exact⟨hnf,co',hsame,ho hmono⟩
  ·obtain⟨n1,o2,ho2,hr2⟩:=hr.qJ _ _ _ _ h1 m1
   have hne:blk1≠aL:=fun ee=>hne (hr.nw _ _ _ _ _ _ _ h1 hbat (ee▸m1) hm)
   exact⟨n1,o2,(hother _ hne).trans ho2,hr2.mono hmono⟩
 ·intro c hc;rw[hsz];exact hr.mE c hc
 ·intro c hc hno
  exact hother c (fun e=>hno ⟨.aL b,o,az,hbat,e▸hm⟩)
 ·obtain⟨l,o1,base1,hl,hm1⟩:=hc
  obtain⟨o2,h2⟩:=hold _ _ hl
  exact⟨l,o2,base1,h2,hm1⟩
def eC.push (hr:bc P g h w){b:Nat}(hm:g.m b=none){co:Obj}(hheap:w'.heap=w.heap.push co)(az:Nat):
 eC g w (g.oS b w.heap.size az) w':=
 ⟨fun b1 x h1=>by rw[Gh.gl g (fun e=>by subst e;rw[hm]at h1;cases h1)];exact h1,fun _ e=>e,
   fun c hc=>by rw[hheap];have:=hr.mE c hc;rw[ajO];rw[ag4 (by omega)],
   fun c s hs=>by
    have hc:c<w.heap.size:=by
     unfold World.shape? at hs
     cases e:w.heap[c]? with
     |none=>rw[e]at hs;cases hs
     |some _=>exact(ahn.1 e).1
    rw[fZ (w:=w)]
    ·exact hs
    ·rw[hheap,ajO,ag4 (by omega)],fun _ _ _ e=>e⟩
def bc.real (hr:bc P g h w){b:Nat}{o:aI}{co:Obj}(hb:h.get b=some o)(hm:g.m b=none)
 (hheap:w'.heap=w.heap.push co)(hos:w'.os=w.os/\w'.output=w.output/\w'.tape=w.tape)
 (ho:eC g w (g.oS b w.heap.size 0) w'->cV P (g.oS b w.heap.size 0) w' o 0 co)(hoo:o.nC=some o:=by rfl):
 bc P (g.oS b w.heap.size 0) h w'/\hJ g h w (g.oS b w.heap.size 0) h w':=by
 have hmono:=eC.push hr hm hheap 0
 have hother:∀c,c<w.heap.size->w'.heap[c]?=w.heap[c]?:=fun c hc=>by rw[hheap,ajO,ag4 (by omega)]
 have hsz:w'.heap.size=w.heap.size+1:=by rw[hheap];simp
 have hcase:∀l blk1 base1,(g.oS b w.heap.size 0).at l=some (blk1,base1)->(l= .aL b/\blk1=w.heap.size/\base1=0)\/(l≠ .aL b/\g.at l=some (blk1,base1)):=fun l blk1 base1 h1=>by
  by_cases e:l= .aL b
  ·subst e;rw[Gh.Jl]at h1;cases h1;exact .inl ⟨rfl,rfl,rfl⟩
  ·rw[Gh.aaa g e]at h1;exact .inr ⟨e,h1⟩
 refine⟨(hr.nm.oS (hr.Jt _ _ hb) (fun b' f k e=>by rw[hb]at e;cases e;cases hoo)).M0 ?_ ?_ ?_ ?_,⟨hmono,by omega,fun c hc _=>hother c hc,?_,fun _ _ h=> .inl h,aho _,hos⟩⟩
 ·intro l blk1 base1 h1
  rcases hcase _ _ _ h1 with ⟨_,rfl,_⟩| ⟨_,h1⟩
  ·omega
  ·have:=hr.nv _ _ _ h1;omega
 ·intro l1 l2 blk1 base1 base2 o1 o2 h1 h2 m1 m2
  rcases hcase _ _ _ m1 with ⟨rfl,rfl,_⟩| ⟨_,m1⟩
  ·rcases hcase _ _ _ m2 with ⟨rfl,_,_⟩| ⟨_,m2⟩
   ·rfl
   ·have:=hr.nv _ _ _ m2;omega
  ·rcases hcase _ _ _ m2 with ⟨rfl,rfl,_⟩| ⟨_,m2⟩
   ·have:=hr.nv _ _ _ m1;omega
   ·exact hr.nw _ _ _ _ _ _ _ h1 h2 m1 m2
 ·intro l o1 blk1 base1 h1 m1
  rcases hcase _ _ _ m1 with ⟨rfl,rfl,rfl⟩| ⟨_,m1⟩
  ·rw[aj.fO hb hoo]at h1;cases h1
   exact⟨fun hf=>by have:=hr.mE _ hf;omega,co,by rw[hheap];simp,ho hmono⟩
  ·obtain⟨n1,o2,ho2,hr2⟩:=hr.qJ _ _ _ _ h1 m1
   exact⟨n1,o2,(hother _ (hr.nv _ _ _ m1)).trans ho2,hr2.mono hmono⟩
 ·intro c hc;have:=hr.mE c hc;omega
 ·rintro c hc ⟨l,o1,base1,hl,hm1⟩
  rcases hcase _ _ _ hm1 with ⟨_,rfl,_⟩| ⟨_,hm1⟩
  ·omega
  ·exact⟨l,o1,base1,hl,hm1⟩
def bc.wQ (hr:bc P g h w):g.m h.next=none:=by
 cases e:g.m h.next with
 |none=>rfl
 |some x=>exact absurd (hr.lt _ _ e) (ai8 _)
structure oC (n:Nat)(o:aI):Prop where
 zp:∀f,o.zp=some f->f=n
 xi:∀f k,o.xi f k=none
 nC:o.nC=some o
def oC.bare {n:Nat}{o:aI}(hf:o.zp=none)(ho:o.nC=some o):oC n o:=⟨fun f e=>(by rw[hf]at e;cases e),aI.Gx hf,ho⟩
def oC.map (n kt e c:Nat):oC n (.bg kt (.bY n e) [] [] c):=⟨fun f h=>(by cases h;rfl),fun f k=>(by
 simp only[aI.xi]
 split
 ·rfl
 ·rfl),rfl⟩
def bc.N8 (hr:bc P g h w)(o:aI)(hno:oC h.next o:=by exact oC.bare rfl rfl):bc P g (h.new o) w/\hJ g h w g (h.new o) w:=by
 obtain⟨hf,hf',hoo⟩:=hno
 have hat:∀l o1 aL az,(h.new o).at l=some o1->g.at l=some (aL,az)->h.at l=some o1:=fun l o1 aL az h1 m1=>
  aj.XK hf' h1 (fun e=>by subst e;have:g.m h.next=some (aL,az):=m1;rw[hr.wQ]at this;cases this)
 refine⟨(hr.nm.new hf hoo).M0 hr.nv ?_ ?_ hr.mE,⟨eC.refl g w,aho _,fun _ _ _=>rfl,?_,fun _ _ h=> .inl h,by simp,rfl,rfl,rfl⟩⟩
 ·intro l l' aL az base' o1 o2 h1 h2 m1 m2
  exact hr.nw _ _ _ _ _ _ _ (hat _ _ _ _ h1 m1) (hat _ _ _ _ h2 m2) m1 m2
 ·intro l o1 aL az h1 m1
  exact hr.qJ _ _ _ _ (hat _ _ _ _ h1 m1) m1
 ·rintro c _ ⟨l,o1,base1,hl,hm1⟩
  exact⟨l,o1,base1,hat _ _ _ _ hl hm1,hm1⟩
def bc.drop (hr:bc P g h w)(b:Nat):bc P g (h.put b none) w/\hJ g h w g (h.put b none) w:=by
 refine⟨(hr.nm.drop b).M0 hr.nv ?_ ?_ hr.mE,⟨eC.refl g w,aho _,fun _ _ _=>rfl,?_,fun _ _ h=> .inl h,aho _,rfl,rfl,rfl⟩⟩
 ·intro l1 l2 aL az base' o1 o2 h1 h2 m1 m2
  exact hr.nw _ _ _ _ _ _ _ (aj.Ga h1) (aj.Ga h2) m1 m2
 ·intro l o1 aL az h1 m1;exact hr.qJ _ _ _ _ (aj.Ga h1) m1
 ·rintro c _ ⟨l,o1,base1,hl,hm1⟩;exact⟨l,o1,base1,aj.Ga hl,hm1⟩
def bc.same (hr:bc P g h w)(hheap:w'.heap=w.heap)(hos:w'.os=w.os/\w'.output=w.output/\w'.tape=w.tape):bc P g h w'/\hJ g h w g h w':=by
 have hmono:eC g w g w':=⟨fun _ _ e=>e,fun _ e=>e,fun c _=>by rw[hheap],fun c s hs=>by rw[fZ (w:=w) (by rw[hheap])];exact hs,fun _ _ _ e=>e⟩
 refine⟨hr.nm.M0 (fun b x y e=>by rw[hheap];exact hr.nv b x y e) hr.nw ?_ (fun c hc=>by rw[hheap];exact hr.mE c hc),
  ⟨hmono,by rw[hheap];exact aho _,fun c _ _=>by rw[hheap],fun _ _ e=>e,fun _ _ h=> .inl h,aho _,hos⟩⟩
 intro l o aL az h1 m1
 obtain⟨n,o',ho,hr'⟩:=hr.qJ _ _ _ _ h1 m1
 exact⟨n,o',by rw[hheap];exact ho,hr'.mono hmono⟩
def bc.move (hr:bc P g h w){b aL az off:Nat}{o o':aI}{co co':Obj}(hb:h.get b=some o)(hm:g.m b=some (aL,az))
 (hco:w.heap[aL]?=some co)(hheap:w'.heap=w.heap.setIfInBounds aL co')(hos:w'.os=w.os/\w'.output=w.output/\w'.tape=w.tape)
 (hshape:∀s,w.shape? aL=some s->w'.shape? aL=some s)
 (ho:eC g w (g.oS h.next aL (az+off)) w'->cV P (g.oS h.next aL (az+off)) w' o' (az+off) co')(hf:o.zp=none:=by rfl)(hf':o'.zp=none:=by rfl)(hoo:o.nC=some o:=by rfl)(hoo':o'.nC=some o':=by rfl):
 bc P (g.oS h.next aL (az+off)) ((h.put b none).new o') w'/\hJ g h w (g.oS h.next aL (az+off)) ((h.put b none).new o') w':=by
 have hn:g.m h.next=none:=hr.wQ
 have hlt:aL<w.heap.size:=hr.Xd b aL az hm
 have hother:∀c,c≠aL->w'.heap[c]?=w.heap[c]?:=fun c hc=>by
  rw[hheap,ahH (by omega)]
 have hsame:w'.heap[aL]?=some co':=by rw[hheap,ahA hlt]
 have hsz:w'.heap.size=w.heap.size:=by rw[hheap];simp
 have hnf:¬g.fz aL:=(hr.Xg b o aL az hb hm hoo).1
 have hbat:=aj.fO hb hoo
 have hmono:eC g w (g.oS h.next aL (az+off)) w':=⟨fun b1 x h1=>by rw[Gh.gl g (fun e=>by subst e;rw[hn]at h1;cases h1)];exact h1,fun _ e=>e,
  fun c hc=>hother c (fun e=>hnf (e▸hc)),fun c s hs=>by
  by_cases e:c=aL
  ·subst e;exact hshape s hs
  ·rw[fZ (hother c e)];exact hs,fun _ _ _ e=>e⟩
 have hget:∀l o1,((h.put b none).new o').at l=some o1->l≠ .aL h.next->l≠ .aL b/\h.at l=some o1:=fun l o1 h1 e=>by
  have h2:=aj.XK (fun f k=>aI.Gx hf' f k) h1 (by simpa using e)
  exact⟨aj.RM h2,aj.Ga h2⟩
 have hnew:((h.put b none).new o').at (.aL h.next)=some o':=aj.fO (by rw[aj.eL,ag8 (by simp)]) hoo'
 have hcase:∀l blk1 base1,(g.oS h.next aL (az+off)).at l=some (blk1,base1)->(l= .aL h.next/\blk1=aL/\base1=az+off)\/(l≠ .aL h.next/\g.at l=some (blk1,base1)):=fun l blk1 base1 h1=>by
  by_cases e:l= .aL h.next
  ·subst e;rw[Gh.Jl]at h1;cases h1;exact .inl ⟨rfl,rfl,rfl⟩
  ·rw[Gh.aaa g e]at h1;exact .inr ⟨e,h1⟩
 have hnm:Jq (g.oS h.next aL (az+off)) ((h.put b none).new o'):=
  ((hr.nm.drop b).new (fun f e=>by rw[hf']at e;cases e) hoo').oS (by simp) (fun b' f k e=>by rw[aj.eL,ag8 (by simp)]at e;cases e;cases hoo')
 refine⟨hnm.M0 ?_ ?_ ?_ ?_,⟨hmono,by omega,?_,fun c _ hc=>?_,fun _ _ h=> .inl h,by simp,hos⟩⟩
 ·intro l blk1 base1 h1
  rw[hsz]
  rcases hcase _ _ _ h1 with ⟨_,rfl,_⟩| ⟨_,h1⟩
  ·exact hlt
  ·exact hr.nv _ _ _ h1
 ·intro l1 l2 blk1 base1 base2 o1 o2 h1 h2 m1 m2
  rcases hcase _ _ _ m1 with ⟨rfl,rfl,_⟩| ⟨e1,m0⟩
  ·rcases hcase _ _ _ m2 with ⟨rfl,_,_⟩| ⟨e2,m2⟩
   ·rfl
   ·obtain⟨n2,g2⟩:=hget _ _ h2 e2
    exact absurd (hr.nw _ _ _ _ _ _ _ g2 hbat m2 hm) n2
  ·obtain⟨n1,g1⟩:=hget _ _ h1 e1
   have m1':=m0
   rcases hcase _ _ _ m2 with ⟨rfl,rfl,_⟩| ⟨e2,m2⟩
   ·exact absurd (hr.nw _ _ _ _ _ _ _ g1 hbat m1' hm) n1
   ·exact hr.nw _ _ _ _ _ _ _ g1 (hget _ _ h2 e2).2 m1' m2
 ·intro l o1 blk1 base1 h1 m1
  rcases hcase _ _ _ m1 with ⟨rfl,rfl,rfl⟩| ⟨e,m1⟩
  ·rw[hnew]at h1;cases h1
   exact⟨hnf,co',hsame,ho hmono⟩
  ·obtain⟨n1,g1⟩:=hget _ _ h1 e
   obtain⟨f1,o2,ho2,hr2⟩:=hr.qJ _ _ _ _ g1 m1
   have hne:blk1≠aL:=fun ee=>n1 (hr.nw _ _ _ _ _ _ _ g1 hbat (ee▸m1) hm)
   exact⟨f1,o2,(hother _ hne).trans ho2,hr2.mono hmono⟩
 ·intro c hc;rw[hsz];exact hr.mE c hc
 ·intro c hc hno
  exact hother c (fun e=>hno ⟨.aL b,o,az,hbat,e▸hm⟩)
 ·obtain⟨l,o1,base1,hl,hm1⟩:=hc
  rcases hcase _ _ _ hm1 with ⟨_,rfl,_⟩| ⟨e,hm1⟩
  ·exact⟨.aL b,o,az,hbat,hm⟩
  ·exact⟨l,o1,base1,(hget _ _ hl e).2,hm1⟩
end
def eN (c:Array Value)(k:Nat):List Value->Array Value
 | []=>c
 |v::r=>eN (c.setIfInBounds k v) (k+1) r
@[simp] def rS (c:Array Value)(k:Nat)(vs:List Value):(eN c k vs).size=c.size:=by
 induction vs generalizing c k with
 |nil=>rfl
 |cons v r ih=>simp[eN,ih]
def vc (vs:List Value):∀(c:Array Value) (k j:Nat),k+vs.length<=c.size->(eN c k vs)[j]?=if k<=j/\j<k+vs.length then vs[j-k]? else c[j]?:=by
 induction vs with
 |nil=>intro c k j _;simp only[eN,aix,air];rw[ag4 (by omega)]
 |cons v r ih=>
  intro c k j hk
  simp only[ahv]at hk
  simp only[eN]
  rw[ih _ _ _ (by simp;omega)]
  by_cases h1:k+1<=j/\j<k+1+r.length
  ·rw[ag8 h1,ag8 (by simp only[ahv];omega)]
   rw[show j-k=(j-(k+1))+1 by omega,aik]
  ·rw[ag4 h1]
   by_cases h2:j=k
   ·subst h2;rw[ag8 (by simp only[ahv];omega),ahA (by omega)];simp
   ·rw[ahH (by omega),ag4 (by simp only[ahv];omega)]
def Tp {w:World}{aL off:Nat}{c:Array Value}{e:TypeId}{fr:Nat×Nat}(h:w.heap[aL]?=some (.cells c e fr))(v:Value):
 w.setCell ⟨aL,off,none⟩ v=w.dL aL (.cells (c.setIfInBounds off v) e fr):=by
 obtain⟨hlt,hc⟩:=ahn.1 h
 unfold World.setCell World.dL
 congr 1
 apply ajv
 intro i
 rw[akg]
 by_cases e:aL=i
 ·subst e;rw[ag8 rfl,ahA hlt,h];rfl
 ·rw[ag4 e,ahH e]
def LZ (w:World)(r:Nat)(o o':Obj):(w.dL r o).dL r o'=w.dL r o':=by
 unfold World.dL
 congr 1
 apply ajv
 intro i
 by_cases e:r=i
 ·subst e;simp[ajN]
 ·simp[e]
def dZ {w:World}{r:Nat}{o':Obj}(h:r<w.heap.size):(w.dL r o').heap[r]?=some o':=by
 unfold World.dL;exact ahA h
def im {P:Program}(aL off:Nat)(e:TypeId)(lo hi:Nat):∀(vs:List Value) (i:Nat) (c:Array Value) (w:World),
 w.heap[aL]?=some (.cells c e (lo,hi))->off+i+vs.length<=c.size->(∀v∈vs,v.oneCell'=true)->(∀j,j<c.size->¬(lo<=j/\j<hi))->
 (storeCells ⟨aL,off,none⟩ vs i).run P w= .ok () (w.dL aL (.cells (eN c (off+i) vs) e (lo,hi))):=by
 intro vs
 induction vs with
 |nil=>
  intro i c w h _ _ _
  simp only[storeCells,Sem.run_pure,eN]
  congr 1
  unfold World.dL
  obtain⟨hlt,hc⟩:=ahn.1 h
  have:w.heap.setIfInBounds aL (.cells c e (lo,hi))=w.heap:=by
   apply ajv
   intro j
   by_cases ej:aL=j
   ·subst ej;rw[ahA hlt,h]
   ·rw[ahH ej]
  rw[this]
 |cons v r ih=>
  intro i c w h hb ho hf
  simp only[ahv]at hb
  have hlt:=(ahn.1 h).1
  have ha:(Addr.add ⟨aL,off,none⟩ i)=⟨aL,off+i,none⟩:=by
   unfold Addr.add;by_cases hi:i=0
   ·subst hi;simp
   ·simp[hi]
  have hcell:w.cell? ⟨aL,off+i,none⟩=some (c[off+i]'(by omega)):=by
   simp[World.cell?,h,show off+i<c.size by omega]
  have hfr:w.frozen? ⟨aL,off+i,none⟩=false:=by
   have:=hf (off+i) (by omega)
   simp only[World.frozen?,h]
   simpa using this
  simp only[storeCells,Sem.run_bind,ha,run_store P w _ v _ (ho v (by simp)),hcell,hfr,agZ,ahN,Result.andThen_ok]
  rw[Tp h,ih (i+1) (c.setIfInBounds (off+i) v) _ (dZ hlt) (by simp;omega) (fun v hv=>ho v (by simp[hv])) (by simpa using hf),LZ]
  simp only[eN,aiW]
def oz {P:Program}{w:World}{aL off n:Nat}(vs:List Value)(hn:vs.length=n)(h:ei w aL off vs):
 (loadCells ⟨aL,off,none⟩ n).run P w= .ok vs.toArray w:=by
 subst hn
 refine run_loadCells_list w _ vs fun j v hj=>?_
 have:(Addr.add ⟨aL,off,none⟩ j)=⟨aL,off+j,none⟩:=by
  unfold Addr.add;by_cases hi:j=0
  ·subst hi;simp
  ·simp[hi]
 rw[this];exact h j v hj
def oZ (aL off n:Nat):(Addr.add ⟨aL,off,none⟩ n)=⟨aL,off+n,none⟩:=by
 unfold Addr.add;by_cases hi:n=0
 ·subst hi;simp
 ·simp[hi]
end
section
section
variable {P:Program} {g:Gh} {h:aj} {w w':World}
def Lk {S:TypeId->D->List BV}(hS:∀t d d',(S t d).length=(S t d').length):∀(fs:List Field) (i:Nat) (d d':D),(gk S fs i d).length=(gk S fs i d').length:=by
 intro fs
 induction fs with
 |nil=>intros;rfl
 |cons f r ih=>intro i d d';simp only[gk,ahc];rw[hS f.type (d.aa i) (d'.aa i),ih (i+1) d d']
def Me:∀(n:Nat) (t:TypeId) (d d':D),(dM P n t d).length=(dM P n t d').length:=by
 intro n
 induction n with
 |zero=>intros;rfl
 |succ n ih=>
  intro t d d'
  simp only[dM]
  cases hu:P.underlying t with
  |none=>rfl
  |some td=>cases td<;>first|rfl|exact Lk ih _ _ _ _
def aq.HA {as bs:List BV}{vs:List Value}(h:aq P g w (as++bs) vs):∃us xs,vs=us++xs/\aq P g w as us/\aq P g w bs xs:=by
 refine⟨vs.take as.length,vs.drop as.length,(aii _ _).symm,?_,?_⟩
 ·simpa using h.take as.length
 ·simpa using h.drop as.length
def aew {n:Nat}(ih:∀{t:TypeId} {d:D} {cs:List Value},z7 P n t=true->nG P g.fz w t d cs->aq P g w (dM P n t d) cs)(d:D):
 ∀(fs:List Field) (i:Nat) (css:List (List Value)),Ic (z7 P n) fs=true->css.length=fs.length->(∀j f cs,fs[j]?=some f->css[j]?=some cs->nG P g.fz w f.type (d.aa (i+j)) cs)->
  aq P g w (gk (dM P n) fs i d) css.flatten:=by
 intro fs
 induction fs with
 |nil=>
  intro i css _ hl _
  have:css=[]:=ahy.1 (by simpa using hl)
  subst this;exact aq.nil
 |cons f r ihr=>
  intro i css hf hl hi
  cases css with
  |nil=>simp at hl
  |cons c cr=>
   simp only[Ic,ag2]at hf
   simp only[gk,ajA]
   refine(ih hf.1 (hi 0 f c (by simp) (by simp))).append (ihr (i+1) cr hf.2 (by simpa using hl) fun j f' cs hj hc=>?_)
   have:=hi (j+1) f' cs (by simpa using hj) (by simpa using hc)
   rwa [show i+(j+1)=i+1+j by omega]at this
def nG.M0:∀(n:Nat) {t:TypeId} {d:D} {cs:List Value},z7 P n t=true->nG P g.fz w t d cs->aq P g w (dM P n t d) cs:=by
 intro n
 induction n with
 |zero=>intro t d cs hf;simp[z7]at hf
 |succ n ih=>
  intro t d cs hf h
  simp only[z7]at hf
  cases h with
  |int hu=>simp only[dM,hu];exact aq.cons (by simp[ao]) aq.nil
  |bool hu=>simp only[dM,hu];exact aq.cons (by simp[ao]) aq.nil
  |b8 hu=>simp only[dM,hu];exact aq.cons (by simp[ao]) aq.nil
  |cX hu h0=>simp only[dM,hu];exact aq.cons (by simp only[ao];exact .inl ⟨h0,.inl trivial⟩) aq.nil
  |empty hu h0 a c=>simp only[dM,hu];exact aq.cons (by simp only[ao];exact .inl ⟨h0,.inr ⟨a,c,rfl⟩⟩) aq.nil
  |slice hu aL off c vs hb hc hl hi hat=>simp only[dM,hu];exact aq.cons (by simp only[ao];exact .inr ⟨aL,off,c,rfl,hc,hb,vs,⟨hl,hi⟩,hat⟩) aq.nil
  |struct hu css hl hi=>
   simp only[hu]at hf
   simp only[dM,hu]
   exact aew ih d _ 0 css hf hl (by simpa using hi)
def agc {n:Nat}(ih:∀{t:TypeId} {d:D} {cs:List Value},z7 P n t=true->aq P g w (dM P n t d) cs->nG P g.fz w t d cs)(d:D):
 ∀(fs:List Field) (i:Nat) (cs:List Value),Ic (z7 P n) fs=true->aq P g w (gk (dM P n) fs i d) cs->
  ∃css:List (List Value),css.length=fs.length/\cs=css.flatten/\∀j f c,fs[j]?=some f->css[j]?=some c->nG P g.fz w f.type (d.aa (i+j)) c:=by
 intro fs
 induction fs with
 |nil=>intro i cs _ hv;simp only[gk,aq]at hv;subst hv;exact⟨[],rfl,rfl,fun j f c hj=>by simp at hj⟩
 |cons f r ihr=>
  intro i cs hf hv
  simp only[Ic,ag2]at hf
  simp only[gk]at hv
  obtain⟨us,xs,rfl,h1,h2⟩:=hv.HA
  obtain⟨css,k1,k2,k3⟩:=ihr (i+1) xs hf.2 h2
  refine⟨us::css,by simp[k1],by simp[k2],fun j f' c hj hc=>?_⟩
  cases j with
  |zero=>simp at hj hc;subst hj;subst hc;exact ih hf.1 h1
  |succ j=>
   have:=k3 j f' c (by simpa using hj) (by simpa using hc)
   rwa [show i+1+j=i+(j+1)by omega]at this
def nG.of:∀(n:Nat) {t:TypeId} {d:D} {cs:List Value},z7 P n t=true->aq P g w (dM P n t d) cs->nG P g.fz w t d cs:=by
 intro n
 induction n with
 |zero=>intro t d cs hf;simp[z7]at hf
 |succ n ih=>
  intro t d cs hf h
  simp only[z7]at hf
  simp only[dM]at h
  cases hu:P.underlying t with
  |none=>simp[hu]at hf
  |some td=>
   simp only[hu]at hf h
   cases td with
   |int k=>obtain⟨v,rfl,hv⟩:=h.one;simp only[ao]at hv;subst hv;exact .int hu
   |bool=>obtain⟨v,rfl,hv⟩:=h.one;simp only[ao]at hv;subst hv;exact .bool hu
   |string=>obtain⟨v,rfl,hv⟩:=h.one;simp only[ao]at hv;subst hv;exact .b8 hu
   |slice e=>
    obtain⟨v,rfl,hv⟩:=h.one
    simp only[ao]at hv
    rcases hv with ⟨h0,rfl| ⟨a,c,rfl⟩⟩| ⟨aL,off,c,rfl,hc,hb,vs,⟨hl,hi⟩,hat⟩
    ·exact .cX hu h0
    ·exact .empty hu h0 a c
    ·exact .slice hu aL off c vs hb hc hl hi hat
   |struct fs=>
    obtain⟨css,k1,rfl,k3⟩:=agc ih d _ 0 cs hf h
    exact .struct hu css k1 (by simpa using k3)
   |_=>simp at hf
def ft {t:TypeId}(h:cQ P t=true):z7 P 8 t=true/\kb P t=some (P.cellsOf t)/\0<P.cellsOf t/\∀d,(aK P t d).length=P.cellsOf t:=by
 simp only[cQ,ag2]at h
 obtain⟨h1,h2⟩:=h
 split at h2
 ·rename_i n hn
  simp only[ag2]at h2
  have hc:P.cellsOf t=n:=by
   unfold kb at hn
   simp only[ahY]at hn
   obtain⟨i,hi,rfl⟩:=hn
   simp[Program.cellsOf,hi]
  have h0:0<n:=by have:=h2.1;simp[Nat.blt]at this;omega
  have hl:(aK P t (.z 0)).length=n:=ahh h2.2
  rw[hc]
  exact⟨h1,hn,h0,fun d=>(Me 8 t d (.z 0)).trans hl⟩
 ·cases h2
def nG.yU {t:TypeId}{d:D}{cs:List Value}(hd:cQ P t=true)(h:nG P g.fz w t d cs):aq P g w (aK P t d) cs:=nG.M0 8 (ft hd).1 h
def nG.abL {t:TypeId}{d:D}{cs:List Value}(hd:cQ P t=true)(h:aq P g w (aK P t d) cs):nG P g.fz w t d cs:=nG.of 8 (ft hd).1 h
def nG.length {fz:Nat->Prop}{t:TypeId}{d:D}{cs:List Value}(hd:cQ P t=true)(h:nG P fz w t d cs):cs.length=P.cellsOf t:=by
 have:=(nG.yU (g:=⟨fun _=>none,fz,fun _ _=>none⟩) hd h).length
 rw[this];exact(ft hd).2.2.2 d
def QX {S:TypeId->D->List BV}(hS:∀t d,(S t d).all BV.one=true):∀(fs:List Field) (i:Nat) (d:D),(gk S fs i d).all BV.one=true:=by
 intro fs
 induction fs with
 |nil=>intros;rfl
 |cons f r ih=>intro i d;simp only[gk,aiL,hS,ih,ahI]
def Tq:∀(n:Nat) (t:TypeId) (d:D),(dM P n t d).all BV.one=true:=by
 intro n
 induction n with
 |zero=>intros;rfl
 |succ n ih=>
  intro t d
  simp only[dM]
  cases P.underlying t with
  |none=>rfl
  |some td=>cases td<;>first|rfl|exact QX ih _ _ _
def RZ {e:TypeId}(l:List D):(Fh P e l).all BV.one=true:=by
 unfold Fh
 rw[List.all_flatMap]
 exact ahG.2 fun d _=>Tq 8 e d
def RY (e:TypeId):Fh P e []=[]:=rfl
def IT (e:TypeId)(x:D)(l:List D):Fh P e (x::l)=aK P e x++Fh P e l:=rfl
def cI.nil {fz:Nat->Prop}{e:TypeId}:cI P fz w e [] []:=⟨by simp,fun i x hx=>by simp at hx⟩
def cI.cons {fz:Nat->Prop}{e:TypeId}{x:D}{l:List D}{cs vs:List Value}(hc:cs.length=P.cellsOf e)(hx:nG P fz w e x cs)(h:cI P fz w e l vs):cI P fz w e (x::l) (cs++vs):=by
 refine⟨by rw[ahc,hc,h.1,ahv,aiu,aiT,ajq],fun i y hy=>?_⟩
 cases i with
 |zero=>
  simp at hy;subst hy
  rw[ajR,ajU,<-hc,List.take_left];exact hx
 |succ i=>
  have:=h.2 i y (by simpa using hy)
  rw[show (i+1)*P.cellsOf e=cs.length+i*P.cellsOf e by rw[hc,aiu,aiT,ajq],aj6]
  rwa [akd (by omega),aiE,ajx]
def cI.aeE {fz:Nat->Prop}{e:TypeId}{x:D}{l:List D}{vs:List Value}(h:cI P fz w e (x::l) vs):
 nG P fz w e x (vs.take (P.cellsOf e))/\cI P fz w e l (vs.drop (P.cellsOf e)):=by
 have hl:=h.1
 rw[ahv,aiu,aiT]at hl
 refine⟨by simpa using h.2 0 x (by simp),by rw[aiN,hl];omega,fun i y hy=>?_⟩
 have:=h.2 (i+1) y (by simpa using hy)
 rwa [show (i+1)*P.cellsOf e=P.cellsOf e+i*P.cellsOf e by rw[aiu,aiT,ajq],<-aiO]at this
def Li {e:TypeId}(hd:cQ P e=true):∀(l:List D) (vs:List Value),cI P g.fz w e l vs↔aq P g w (Fh P e l) vs:=by
 intro l
 induction l with
 |nil=>
  intro vs
  simp only[RY,aq]
  exact⟨fun h=>ahy.1 (by simpa using h.1),fun h=>h▸cI.nil⟩
 |cons x l ih=>
  intro vs
  have hsz:=(ft hd).2.2.2 x
  constructor
  ·intro h
   obtain⟨h1,h2⟩:=h.aeE
   have:=(nG.yU hd h1).append ((ih _).1 h2)
   rwa [aii]at this
  ·intro h
   rw[IT]at h
   obtain⟨us,xs,rfl,h1,h2⟩:=h.HA
   exact cI.cons (h1.length.trans hsz) (nG.abL hd h1) ((ih _).2 h2)
def cI.append {fz:Nat->Prop}{e:TypeId}{l m:List D}{us vs:List Value}(h:cI P fz w e l us)(k:cI P fz w e m vs):cI P fz w e (l++m) (us++vs):=by
 refine⟨by rw[ahc,h.1,k.1,ahc,aiu],fun i x hx=>?_⟩
 rw[ahR]at hx
 have hul:=h.1
 split at hx
 ·rename_i hlt
  have h1:=h.2 i x hx
  have hle:i*P.cellsOf e+P.cellsOf e<=us.length:=by
   rw[hul,show i*P.cellsOf e+P.cellsOf e=(i+1)*P.cellsOf e by rw[aiu,aiT]]
   exact ah6 _ hlt
  rwa [aj6,show i*P.cellsOf e-us.length=0 by omega,ajU,List.take_append,aiN,show P.cellsOf e-(us.length-i*P.cellsOf e)=0 by omega,aji,ahM]
 ·rename_i hge
  have h1:=k.2 (i-l.length) x hx
  have hle:us.length<=i*P.cellsOf e:=by rw[hul];exact ah6 _ (by omega)
  rw[aj6,akd hle,aiE,hul,<-akM]
  exact h1
def cI.take {fz:Nat->Prop}{e:TypeId}{l:List D}{vs:List Value}(n:Nat)(h:cI P fz w e l vs):cI P fz w e (l.take n) (vs.take (n*P.cellsOf e)):=by
 have hl:=h.1
 refine⟨by
  rw[ahx,ahx,hl]
  rcases Nat.le_total n l.length with a|a
  ·rw[aiF a,aiF (ah6 _ a)]
  ·rw[Nat.min_eq_right a,Nat.min_eq_right (ah6 _ a)],fun i x hx=>?_⟩
 rw[ahL]at hx
 split at hx
 ·rename_i hlt
  have h1:=h.2 i x hx
  rw[List.drop_take,ajW,<-akM]
  have:P.cellsOf e<=(n-i)*P.cellsOf e:=Nat.le_mul_of_pos_left _ (by omega)
  rw[aiF this];exact h1
 ·cases hx
def cI.drop {fz:Nat->Prop}{e:TypeId}{l:List D}{vs:List Value}(n:Nat)(h:cI P fz w e l vs):cI P fz w e (l.drop n) (vs.drop (n*P.cellsOf e)):=by
 have hl:=h.1
 refine⟨by rw[aiN,aiN,hl,<-akM],fun i x hx=>?_⟩
 rw[ah7]at hx
 have h1:=h.2 (n+i) x hx
 rwa [aiO,<-aiu]
def agp {n:Nat}(ih:∀{t:TypeId} {cs r:List BV} {d:D},unF P n t cs=some (d,r)->∃c1,cs=c1++r/\∀vs,aq P g w c1 vs->nG P g.fz w t d vs):
 ∀(fs:List Field) (cs r:List BV) (ds:List D),Rh (unF P n) fs cs=some (ds,r)->∃cc:List (List BV),cs=cc.flatten++r/\cc.length=fs.length/\
  ∀j f c,fs[j]?=some f->cc[j]?=some c->∀vs,aq P g w c vs->nG P g.fz w f.type (D.at ds j) vs:=by
 intro fs
 induction fs with
 |nil=>intro cs r ds e;simp only[Rh,ahi,ah3]at e;obtain⟨rfl,rfl⟩:=e;exact⟨[],by simp,rfl,fun j f c hj=>by simp at hj⟩
 |cons f fr ihr=>
  intro cs r ds e
  simp only[Rh]at e
  split at e
  ·rename_i d cs1 h1
   split at e
   ·rename_i dr cs2 h2
    cases e
    obtain⟨c1,rfl,k1⟩:=ih h1
    obtain⟨cc,rfl,k2,k3⟩:=ihr _ _ _ h2
    refine⟨c1::cc,by simp,by simp[k2],fun j f' c hj hc vs hv=>?_⟩
    cases j with
    |zero=>simp at hj hc;subst hj;subst hc;exact k1 vs hv
    |succ j=>exact k3 j f' c (by simpa using hj) (by simpa using hc) vs hv
   ·cases e
  ·cases e
def aq.M7:∀(cc:List (List BV)) (vs:List Value),aq P g w cc.flatten vs->∃vv:List (List Value),vs=vv.flatten/\vv.length=cc.length/\∀(j:Nat) (c:List BV) (u:List Value),cc[j]?=some c->vv[j]?=some u->aq P g w c u:=by
 intro cc
 induction cc with
 |nil=>intro vs h;simp only[List.flatten_nil,aq]at h;subst h;exact⟨[],rfl,rfl,fun j c u (hj:([]:List (List BV))[j]?=some c) _=>by simp at hj⟩
 |cons c cc ih=>
  intro vs h
  rw[ajA]at h
  obtain⟨us,xs,rfl,h1,h2⟩:=h.HA
  obtain⟨vv,rfl,k1,k2⟩:=ih _ h2
  refine⟨us::vv,by simp,by simp[k1],fun j c' u hj hu=>?_⟩
  cases j with
  |zero=>simp at hj hu;subst hj;subst hu;exact h1
  |succ j=>exact k2 j c' u (by simpa using hj) (by simpa using hu)
def aeD:∀(n:Nat) {t:TypeId} {cs r:List BV} {d:D},unF P n t cs=some (d,r)->∃c1,cs=c1++r/\∀vs,aq P g w c1 vs->nG P g.fz w t d vs:=by
 intro n
 induction n with
 |zero=>intro t cs r d e;simp[unF]at e
 |succ n ih=>
  intro t cs r d e
  simp only[unF]at e
  cases hu:P.underlying t with
  |none=>simp[hu]at e
  |some td=>
   simp only[hu]at e
   cases td with
   |int k=>
    try dsimp only at e
    split at e
    ·rename_i k' m r'
     split at e
     ·rename_i hk;cases e;subst hk
      exact⟨[.int _ m],rfl,fun vs hv=>by obtain⟨v,rfl,hv2⟩:=hv.one;simp only[ao]at hv2;subst hv2;exact .int (d:= .z m) hu⟩
     ·cases e
    ·cases e
   |bool=>
    try dsimp only at e
    split at e
    ·rename_i b r';cases e
     exact⟨[.bool b],rfl,fun vs hv=>by obtain⟨v,rfl,hv2⟩:=hv.one;simp only[ao]at hv2;subst hv2;exact .bool (d:= .b b) hu⟩
    ·cases e
   |string=>
    try dsimp only at e
    split at e
    ·rename_i b r';cases e
     exact⟨[.b8 b],rfl,fun vs hv=>by obtain⟨v,rfl,hv2⟩:=hv.one;simp only[ao]at hv2;subst hv2;exact .b8 (d:= .s b) hu⟩
    ·cases e
   |slice el=>
    try dsimp only at e
    split at e
    ·rename_i e' l r'
     split at e
     ·rename_i hk;cases e;subst hk
      refine⟨[.bw _ l],rfl,fun vs hv=>?_⟩
      obtain⟨v,rfl,hv2⟩:=hv.one
      simp only[ao]at hv2
      rcases hv2 with ⟨h0,rfl| ⟨a,c,rfl⟩⟩| ⟨aL,off,c,rfl,hc,hb,vs,⟨hl,hi⟩,hat⟩
      ·exact .cX (d:= .r l) hu h0
      ·exact .empty (d:= .r l) hu h0 a c
      ·exact .slice (d:= .r l) hu aL off c vs hb hc hl hi hat
     ·cases e
    ·rename_i r';cases e
     exact⟨[.cX],rfl,fun vs hv=>by obtain⟨v,rfl,hv2⟩:=hv.one;simp only[ao]at hv2;subst hv2;exact .cX (d:= .r []) hu rfl⟩
    ·rename_i r';cases e
     exact⟨[.kR],rfl,fun vs hv=>by obtain⟨v,rfl,hv2⟩:=hv.one;simp only[ao]at hv2;obtain⟨a,c,rfl⟩:=hv2;exact .empty (d:= .r []) hu rfl a c⟩
    ·rename_i e' l r'
     split at e
     ·rename_i hk;cases e;subst hk
      refine⟨[.Fi _ l],rfl,fun vs hv=>?_⟩
      obtain⟨v,rfl,hv2⟩:=hv.one
      simp only[ao]at hv2
      rcases hv2 with ⟨h0,rfl| ⟨a,rfl⟩⟩| ⟨aL,off,rfl,hb,vs,⟨hl,hi⟩,hat⟩
      ·exact .cX (d:= .r l) hu h0
      ·exact .empty (d:= .r l) hu h0 a 0
      ·exact .slice (d:= .r l) hu aL off _ vs hb (aho _) hl hi hat
     ·cases e
    ·cases e
   |struct fs=>
    try dsimp only at e
    split at e
    ·rename_i ds r' hds
     cases e
     obtain⟨cc,rfl,k1,k2⟩:=agp ih _ _ _ _ hds
     refine⟨cc.flatten,rfl,fun vs hv=>?_⟩
     obtain⟨vv,rfl,m1,m2⟩:=hv.M7
     refine .struct (d:= .r ds) hu vv (m1.trans k1) fun j f c hj hc=>?_
     have hjlt:j<cc.length:=by rw[<-m1];exact(aha.1 hc).1
     exact k2 j f _ hj (ag7 hjlt) c (m2 j _ c (ag7 hjlt) hc)
    ·cases e
   |_=>simp at e
def BA {t:TypeId}{cs:List BV}{d:D}(e:Rg P t cs=some d){vs:List Value}(hv:aq P g w cs vs):nG P g.fz w t d vs:=by
 unfold Rg at e
 split at e
 ·rename_i d' h1
  cases e
  obtain⟨c1,rfl,k⟩:=aeD (g:=g) (w:=w) 8 h1
  exact k vs (by simpa using hv)
 ·cases e
def TJ {t:TypeId}:∀(n:Nat) {cs:List BV} {l:List D},Ls P t (P.cellsOf t) n cs=some l->cs.length=n*P.cellsOf t->l.length=n/\∀vs,aq P g w cs vs->cI P g.fz w t l vs:=by
 intro n
 induction n with
 |zero=>
  intro cs l e hl
  simp only[Ls]at e
  split at e
  ·cases e;exact⟨rfl,fun vs hv=>by simp only[aq]at hv;subst hv;exact cI.nil⟩
  ·cases e
 |succ n ih=>
  intro cs l e hl
  simp only[Ls]at e
  split at e
  ·rename_i d l' h1 h2
   cases e
   rw[aiu,aiT]at hl
   obtain⟨k1,k2⟩:=ih h2 (by rw[aiN,hl];omega)
   refine⟨by simp[k1],fun vs hv=>?_⟩
   have hvl:=hv.length
   have:=cI.cons (by rw[ahx];omega) (BA h1 (hv.take (P.cellsOf t))) (k2 _ (hv.drop (P.cellsOf t)))
   rwa [aii]at this
  ·cases e
def bc.ak (hr:bc P g h w){b aL az:Nat}{e:TypeId}{l:List D}{vt:Bool}(hb:h.get b=some (.ak e l vt))(hm:g.m b=some (aL,az)):
 ∃c vs,w.heap[aL]?=some (.cells c e (0,0))/\cI P g.fz w e l vs/\(∀i x,vs[i]?=some x->c[az+i]?=some x)/\ei w aL az vs:=by
 obtain⟨_,o,ho,hr'⟩:=hr.Xg _ _ _ _ hb hm
 simp only[cV]at hr'
 obtain⟨c,rfl,vs,hv,hc⟩:=hr'
 refine⟨c,vs,ho,hv,hc,fun i x hi'=>?_⟩
 simp only[World.cell?,ho]
 exact hc i x hi'
def aj.Pb {h':aj}(hg:∀b,h'.get b=h.get b)(l:Xn):h'.at l=h.at l:=by
 cases l with
 |aL b=>show (h'.get b).bind _=(h.get b).bind _;rw[hg]
 |el b f k=>show (h'.get b).bind (fun o=>o.xi f k)=(h.get b).bind (fun o=>o.xi f k);rw[hg]
def bc.congr {h':aj}(hr:bc P g h w)(hg:∀b,h'.get b=h.get b)(hn:h.next<=h'.next):bc P g h' w:=by
 have hat:=aj.Pb hg
 exact⟨fun b o hb=>ahC (hr.Jt b o (hg b▸hb)) hn,fun b x hm=>ahC (hr.lt b x hm) hn,fun f k x e=>ahC (hr.FJ f k x e) hn,fun b o f e h2=>ahC (hr.BF b o f (hg b▸e) h2) hn,
  fun b b' o o' f h1 h2=>hr.fu b b' o o' f (hg b▸h1) (hg b'▸h2),fun b o f k x e=>hr.sk b o f k x (hg b▸e),fun b b' f k e=>hr.al b b' f k (hg b▸e),hr.nv,
  fun l l' aL az base' o o' h1 h2=>hr.nw l l' aL az base' o o' (hat l▸h1) (hat l'▸h2),fun l o aL az e=>hr.qJ l o aL az (hat l▸e),hr.mE⟩
end
end
section
def D.pI {a b:D}:D.A5 a b=true↔a=b:=by unfold D.A5;simp
def D.qy {a b:D}:D.A5 a b=false↔a≠b:=by unfold D.A5;simp
def D.Iq (p:D×D)(l:List (D×D))(k:D):D.ep (p::l) k=(match D.A5 p.1 k with|true=>some p.2|false=>D.ep l k):=rfl
def D.pX {p:D×D}{l:List (D×D)}{k:D}(h:p.1=k):D.ep (p::l) k=some p.2:=by rw[D.Iq,D.pI.2 h]
def D.jo {p:D×D}{l:List (D×D)}{k:D}(h:p.1≠k):D.ep (p::l) k=D.ep l k:=by rw[D.Iq,D.qy.2 h]
def D.GR {p:D×D}{l:List (D×D)}{k v:D}(h:p.1=k):D.fE (p::l) k v=(p.1,v)::D.fE l k v:=by
 show (match D.A5 p.1 k with|true=>_|false=>_)=_
 rw[D.pI.2 h]
def D.GS {p:D×D}{l:List (D×D)}{k v:D}(h:p.1≠k):D.fE (p::l) k v=p::D.fE l k v:=by
 show (match D.A5 p.1 k with|true=>_|false=>_)=_
 rw[D.qy.2 h]
def D.N7 {p:D×D}{l:List (D×D)}{k:D}(h:p.1=k):D.pD (p::l) k=D.pD l k:=by
 show (match D.A5 p.1 k with|true=>_|false=>_)=_
 rw[D.pI.2 h]
def D.GP {p:D×D}{l:List (D×D)}{k:D}(h:p.1≠k):D.pD (p::l) k=p::D.pD l k:=by
 show (match D.A5 p.1 k with|true=>_|false=>_)=_
 rw[D.qy.2 h]
def D.xx:∀(l:List (D×D)),D.ct l=l.map (·.1)
 | []=>rfl
 |p::q=>by simp[D.ct,D.xx q]
def D.uY (l:List (D×D)):(D.ct l).length=l.length:=by rw[D.xx];simp
def D.PE (l m:List (D×D)):D.ct (l++m)=D.ct l++D.ct m:=by simp[D.xx]
def D.j8 {l:List (D×D)}{i:Nat}{p:D×D}(h:l[i]?=some p):(D.ct l)[i]?=some p.1:=by rw[D.xx,ahQ,h];rfl
def D.MN {l:List (D×D)}{i:Nat}{k:D}(h:(D.ct l)[i]?=some k):∃p,l[i]?=some p/\p.1=k:=by
 rw[D.xx,ahQ]at h
 cases e:l[i]? with
 |none=>rw[e]at h;cases h
 |some p=>rw[e]at h;exact⟨p,rfl,by simpa using h⟩
def D.KQ {k d:D}:∀{l:List (D×D)},D.ep l k=some d->∃i:Nat,l[i]?=some (k,d)
 | [],h=>by cases h
 |p::q,h=>by
  by_cases e:p.1=k
  ·rw[D.pX e]at h;cases h;exact⟨0,by subst e;rfl⟩
  ·rw[D.jo e]at h;obtain⟨i,hi⟩:=D.KQ h;exact⟨i+1,by simpa using hi⟩
def D.MQ {k:D}:∀{l:List (D×D)},D.ep l k=none->k∉D.ct l
 | [],_=>by simp[D.ct]
 |p::q,h=>by
  by_cases e:p.1=k
  ·rw[D.pX e]at h;cases h
  ·rw[D.jo e]at h
   have:=D.MQ h
   simp only[D.ct,ag9,akP]
   exact⟨fun x=>e x.symm,this⟩
def D.N0 {l:List (D×D)}{k:D}:D.cS l k=true↔k∈D.ct l:=by
 unfold D.cS
 cases h:D.ep l k with
 |none=>simp[D.MQ h]
 |some d=>obtain⟨i,hi⟩:=D.KQ h;simp;exact agY (D.j8 hi)
def D.PT {l:List (D×D)}{k:D}(h:D.cS l k=true):D.ep l k=some (D.val l k):=by
 unfold D.cS at h;unfold D.val
 cases e:D.ep l k with
 |none=>rw[e]at h;cases h
 |some d=>rfl
def D.JU {k d:D}:∀{l:List (D×D)},(D.ct l).Nodup->∀{i:Nat},l[i]?=some (k,d)->D.ep l k=some d
 | [],_,i,h=>by simp at h
 |p::q,hn,i,h=>by
  simp only[D.ct,ahO]at hn
  cases i with
  |zero=>simp at h;subst h;exact D.pX rfl
  |succ i=>
   simp at h
   have hk:k∈D.ct q:=agY (D.j8 h)
   rw[D.jo (fun e=>hn.1 (e▸hk))]
   exact D.JU hn.2 h
def D.Ad (k v:D):∀(l:List (D×D)),D.ct (D.fE l k v)=D.ct l
 | []=>rfl
 |p::q=>by
  by_cases e:p.1=k
  ·rw[D.GR e];simp[D.ct,D.Ad k v q]
  ·rw[D.GS e];simp[D.ct,D.Ad k v q]
def D.yF (k v:D)(l:List (D×D)):(D.fE l k v).length=l.length:=by
 rw[<-D.uY,D.Ad,D.uY]
def D.uZ {k v:D}:∀{l:List (D×D)} {i:Nat} {p:D×D},(D.fE l k v)[i]?=some p->∃q,l[i]?=some q/\p.1=q.1/\(q.1≠k->p.2=q.2)/\(q.1=k->p.2=v)
 | [],i,p,h=>by simp[D.fE]at h
 |x::q,i,p,h=>by
  by_cases e:x.1=k
  ·rw[D.GR e]at h
   cases i with
   |zero=>simp at h;subst h;exact⟨x,rfl,rfl,fun h=>absurd e h,fun _=>rfl⟩
   |succ i=>simp at h;obtain⟨y,h1,h2⟩:=D.uZ h;exact⟨y,by simpa using h1,h2⟩
  ·rw[D.GS e]at h
   cases i with
   |zero=>simp at h;subst h;exact⟨x,rfl,rfl,fun _=>rfl,fun h=>absurd h e⟩
   |succ i=>simp at h;obtain⟨y,h1,h2⟩:=D.uZ h;exact⟨y,by simpa using h1,h2⟩
def D.oy {k v j:D}(h:j≠k):∀(l:List (D×D)),D.ep (D.fE l k v) j=D.ep l j
 | []=>rfl
 |p::q=>by
  by_cases e:p.1=k
  ·rw[D.GR e,D.jo (by rw[e];exact fun x=>h x.symm),D.jo (by rw[e];exact fun x=>h x.symm),D.oy h q]
  ·rw[D.GS e]
   by_cases e2:p.1=j
   ·rw[D.pX e2,D.pX e2]
   ·rw[D.jo e2,D.jo e2,D.oy h q]
def D.ny {k v:D}:∀(l:List (D×D)),D.cS l k=true->D.ep (D.fE l k v) k=some v
 | [],h=>by simp[D.cS,D.ep]at h
 |p::q,h=>by
  by_cases e:p.1=k
  ·rw[D.GR e];exact D.pX (p:=(p.1,v)) e
  ·rw[D.GS e,D.jo e]
   exact D.ny q (by unfold D.cS at h ⊢;rwa [D.jo e]at h)
def D.I3 (l:List (D×D))(k v j:D):D.ep (l++[(k,v)]) j=(match D.ep l j with|some x=>some x|none=>(match D.A5 k j with|true=>some v|false=>none)):=by
 induction l with
 |nil=>rfl
 |cons p q ih=>
  rw[aia]
  by_cases e:p.1=j
  ·rw[D.pX e,D.pX e]
  ·rw[D.jo e,D.jo e,ih]
def D.rJ {l:List (D×D)}{k v j:D}(h:j≠k):D.ep (l++[(k,v)]) j=D.ep l j:=by
 rw[D.I3]
 cases D.ep l j with
 |some x=>rfl
 |none=>dsimp only;rw[D.qy.2 (fun e=>h e.symm)]
def D.ov {l:List (D×D)}{k v:D}(h:D.cS l k=false):D.ep (l++[(k,v)]) k=some v:=by
 rw[D.I3]
 unfold D.cS at h
 cases e:D.ep l k with
 |some x=>rw[e]at h;cases h
 |none=>dsimp only;rw[D.pI.2 rfl]
def D.xz (k:D):∀(l:List (D×D)),D.ep (D.pD l k) k=none
 | []=>rfl
 |p::q=>by
  by_cases e:p.1=k
  ·rw[D.N7 e];exact D.xz k q
  ·rw[D.GP e,D.jo e];exact D.xz k q
def D.wg {k j:D}(h:j≠k):∀(l:List (D×D)),D.ep (D.pD l k) j=D.ep l j
 | []=>rfl
 |p::q=>by
  by_cases e:p.1=k
  ·rw[D.N7 e,D.jo (by rw[e];exact fun x=>h x.symm),D.wg h q]
  ·rw[D.GP e]
   by_cases e2:p.1=j
   ·rw[D.pX e2,D.pX e2]
   ·rw[D.jo e2,D.jo e2,D.wg h q]
section
variable {P:Program} {g:Gh} {h:aj} {w w':World}
def DY {b f:Nat}{k:D}{e kt:TypeId}{l:List (D×D)}{st:List Nat}{c:Nat}(hf:Ia P h b f k=some (e,l,kt,st,c)):
 h.get b=some (.bg kt (.bY f e) l st c)/\cQ P e=true/\D.cS l k=true:=by
 unfold Ia at hf
 split at hf
 ·rename_i kt' f' e' l' st' c' hb
  split at hf
  ·rename_i hc
   simp only[ag2]at hc
   have:=ahh hc.1.1
   subst this
   cases hf
   exact⟨hb,hc.1.2,hc.2⟩
  ·cases hf
 ·cases hf
def X6 {kt e f:Nat}{l:List (D×D)}{st:List Nat}{c:Nat}{k:D}(hk:D.cS l k=true):(aI.bg kt (.bY f e) l st c).xi f k=some (.ak e [D.val l k] false):=by
 simp[aI.xi,D.PT hk]
def bc.ac5 (hr:bc P g h w){b f:Nat}{k:D}{e kt:TypeId}{l:List (D×D)}{st:List Nat}{c aL az:Nat}(hf:Ia P h b f k=some (e,l,kt,st,c))(hs:g.s f k=some (aL,az)):
 ∃cc vs,w.heap[aL]?=some (.cells cc e (0,0))/\cI P g.fz w e [D.val l k] vs/\(∀(i:Nat) x,vs[i]?=some x->cc[az+i]?=some x)/\ei w aL az vs:=by
 obtain⟨hb,hd,hk⟩:=DY hf
 obtain⟨_,o,ho,hr'⟩:=hr.qJ (.el b f k) _ _ _ (aj.BB hb (X6 hk)) hs
 simp only[cV]at hr'
 obtain⟨cc,rfl,vs,hv,hc⟩:=hr'
 refine⟨cc,vs,ho,hv,hc,fun i x hi'=>?_⟩
 simp only[World.cell?,ho]
 exact hc i x hi'
def cI.one {fz:Nat->Prop}{e:TypeId}{d:D}{vs:List Value}(h:cI P fz w e [d] vs):nG P fz w e d vs:=by
 have h1:=h.2 0 d rfl
 have h2:vs.length=P.cellsOf e:=by simpa using h.1
 rw[ajR,ajU,<-h2,aif]at h1
 exact h1
def tO.fE {kt:TypeId}{f e:Nat}{l:List (D×D)}{st:List Nat}{c:Nat}{es:List MapEntry}(hm:tO P g w kt (.bY f e) l st c es)(k d:D):tO P g w kt (.bY f e) (D.fE l k d) st c es:=by
 refine⟨by rw[D.yF];exact hm.len,by rw[D.yF];exact hm.sl,fun i p x h1 h2=>?_,hm.born,fun i p x h1 h2=>?_,fun p hp=>?_,by rw[D.Ad];exact hm.nd,hm.snd,hm.FJ⟩
 ·obtain⟨q,q1,q2,_⟩:=D.uZ h1;rw[q2];exact hm.key i q x q1 h2
 ·obtain⟨q,q1,q2,_⟩:=D.uZ h1;rw[q2];exact hm.val i q x q1 h2
 ·obtain⟨i,hi⟩:=aid hp
  obtain⟨q,q1,q2,_⟩:=D.uZ hi;rw[q2];exact hm.B9 q (agY q1)
def Jq.agL (n:Jq g h){b:Nat}{o o':aI}(hb:h.get b=some o)(ho:o'.nC=some o')(hfam:o'.zp=o.zp)(helt:∀f k x,o.xi f k=some x->∃y,o'.xi f k=some y):Jq g (h.put b (some o')):=by
 have hget:∀b1 o1,(h.put b (some o')).get b1=some o1->(b1=b/\o1=o')\/(b1≠b/\h.get b1=some o1):=fun b1 o1 h1=>by
  rw[aj.fe]at h1
  by_cases e:b1=b
  ·rw[ag8 e]at h1;cases h1;exact .inl ⟨e,rfl⟩
  ·rw[ag4 e]at h1;exact .inr ⟨e,h1⟩
 have hold:∀b1 o1,(h.put b (some o')).get b1=some o1->∃o2,h.get b1=some o2/\o1.zp=o2.zp/\∀f k x,o2.xi f k=some x->∃y,o1.xi f k=some y:=fun b1 o1 h1=>by
  rcases hget _ _ h1 with ⟨rfl,rfl⟩| ⟨_,h2⟩
  ·exact⟨o,hb,hfam,helt⟩
  ·exact⟨o1,h2,rfl,fun f k x e=>⟨x,e⟩⟩
 refine⟨fun b1 o1 h1=>?_,n.lt,n.FJ,fun b1 o1 f h1 h2=>?_,fun b1 b2 o1 o2 f h1 h2 h3 h4=>?_,fun b1 o1 f k x h1 h2 h3=>?_,fun b1 b2 f k h1=>?_⟩
 ·obtain⟨o2,h2,_⟩:=hold _ _ h1;exact n.Jt _ _ h2
 ·obtain⟨o2,h3,h4,_⟩:=hold _ _ h1;exact n.BF _ _ _ h3 (h4▸h2)
 ·obtain⟨p1,k1,k2,_⟩:=hold _ _ h1;obtain⟨p2,j1,j2,_⟩:=hold _ _ h2
  exact n.fu _ _ _ _ _ k1 j1 (k2▸h3) (j2▸h4)
 ·obtain⟨p1,k1,k2,k3⟩:=hold _ _ h1
  obtain⟨⟨y,hy⟩,hm⟩:=n.sk _ _ _ _ _ k1 (k2▸h2) h3
  exact⟨k3 _ _ _ hy,hm⟩
 ·rcases hget _ _ h1 with ⟨_,e⟩| ⟨_,h1⟩
  ·exact absurd e.symm (aI.Ae ho)
  ·exact n.al _ _ _ _ h1
def bc.afC (hr:bc P g h w){b f:Nat}{k d:D}{e kt:TypeId}{l:List (D×D)}{st:List Nat}{c aL az:Nat}{co co':Obj}(hf:Ia P h b f k=some (e,l,kt,st,c))(hs:g.s f k=some (aL,az))
 (hco:w.heap[aL]?=some co)(hheap:w'.heap=w.heap.setIfInBounds aL co')(hos:w'.os=w.os/\w'.output=w.output/\w'.tape=w.tape)
 (hshape:∀s,w.shape? aL=some s->w'.shape? aL=some s)
 (ho:eC g w g w'->cV P g w' (.ak e [d] false) az co'):
 bc P g (h.put b (some (.bg kt (.bY f e) (D.fE l k d) st c))) w'/\hJ g h w g (h.put b (some (.bg kt (.bY f e) (D.fE l k d) st c))) w':=by
 obtain⟨hb,hd,hk⟩:=DY hf
 have hel:=aj.BB hb (X6 (kt:=kt) (e:=e) (st:=st) (c:=c) hk)
 have hlt:aL<w.heap.size:=hr.nv (.el b f k) aL az hs
 have hother:∀c,c≠aL->w'.heap[c]?=w.heap[c]?:=fun c hc=>by
  rw[hheap,ahH (by omega)]
 have hsame:w'.heap[aL]?=some co':=by rw[hheap,ahA hlt]
 have hsz:w'.heap.size=w.heap.size:=by rw[hheap];simp
 have hnf:¬g.fz aL:=(hr.qJ (.el b f k) _ aL az hel hs).1
 have hmono:eC g w g w':=⟨fun _ _ e=>e,fun _ e=>e,fun c hc=>hother c (fun e=>hnf (e▸hc)),fun c s hs1=>by
  by_cases e:c=aL
  ·subst e;exact hshape s hs1
  ·rw[fZ (hother c e)];exact hs1,fun _ _ _ e=>e⟩
 have hget:∀x,(h.put b (some (.bg kt (.bY f e) (D.fE l k d) st c))).get x=if x=b then some (.bg kt (.bY f e) (D.fE l k d) st c)else h.get x:=fun x=>aj.fe _ _ _ _
 have hat:∀L o1,(h.put b (some (.bg kt (.bY f e) (D.fE l k d) st c))).at L=some o1->
  (L= .el b f k/\o1= .ak e [d] false)\/(L= .aL b/\o1= .bg kt (.bY f e) (D.fE l k d) st c)\/(L≠ .el b f k/\L≠ .aL b/\h.at L=some o1):=fun L o1 e1=>by
  cases L with
  |aL x=>
   obtain⟨e2,_⟩:=aj.wR e1
   rw[hget]at e2
   by_cases hx:x=b
   ·subst hx;rw[ag8 rfl]at e2;cases e2;exact .inr (.inl ⟨rfl,rfl⟩)
   ·rw[ag4 hx]at e2
    refine .inr (.inr ⟨fun h=>(by cases h),fun h=>(by cases h;exact hx rfl),?_⟩)
    change ((h.put b _).get x).bind aI.nC=_ at e1
    rw[hget,ag4 hx]at e1;exact e1
  |el x f' k'=>
   obtain⟨y,e2,e3⟩:=aj.Kl e1
   rw[hget]at e2
   by_cases hx:x=b
   ·subst hx;rw[ag8 rfl]at e2;cases e2
    have hff:=aI.nk e3
    have hff:f=f':=by simpa [aI.zp]using hff
    subst hff
    simp only[aI.xi,ahz]at e3
    by_cases hkk:k'=k
    ·subst hkk;rw[D.ny _ hk]at e3;cases e3;exact .inl ⟨rfl,rfl⟩
    ·rw[D.oy hkk]at e3
     refine .inr (.inr ⟨fun h=>(by cases h;exact hkk rfl),fun h=>(by cases h),aj.BB hb ?_⟩)
     simp only[aI.xi,ahz];exact e3
   ·rw[ag4 hx]at e2
    exact .inr (.inr ⟨fun h=>(by cases h;exact hx rfl),fun h=>(by cases h),aj.BB e2 e3⟩)
 have hold:∀L o1,(h.put b (some (.bg kt (.bY f e) (D.fE l k d) st c))).at L=some o1->∃o2,h.at L=some o2:=fun L o1 e1=>by
  rcases hat L o1 e1 with ⟨rfl,_⟩| ⟨rfl,_⟩| ⟨_,_,h1⟩
  ·exact⟨_,hel⟩
  ·exact⟨_,aj.fO hb rfl⟩
  ·exact⟨_,h1⟩
 refine⟨(hr.nm.agL (o':= .bg kt (.bY f e) (D.fE l k d) st c) hb rfl rfl (fun f' k' x hx=>?_)).M0 ?_ ?_ ?_ ?_,⟨hmono,by omega,?_,fun c _ hc=>?_,fun _ _ h=> .inl h,aho _,hos⟩⟩
 ·simp only[aI.xi]at hx ⊢
  split at hx
  ·rename_i hff
   rw[ag8 hff]
   cases e1:D.ep l k' with
   |none=>rw[e1]at hx;cases hx
   |some y=>
    by_cases hkk:k'=k
    ·subst hkk;rw[D.ny _ hk];exact⟨_,rfl⟩
    ·rw[D.oy hkk,e1];exact⟨_,rfl⟩
  ·cases hx
 ·intro L blk1 base1 h1;rw[hsz];exact hr.nv _ _ _ h1
 ·intro l1 l2 blk1 base1 base2 o1 o2 h1 h2 m1 m2
  obtain⟨_,g1⟩:=hold _ _ h1;obtain⟨_,g2⟩:=hold _ _ h2
  exact hr.nw _ _ _ _ _ _ _ g1 g2 m1 m2
 ·intro L o1 blk1 base1 h1 m1
  rcases hat L o1 h1 with ⟨rfl,rfl⟩| ⟨rfl,rfl⟩| ⟨hn1,hn2,h1⟩
  ·change g.s f k=_ at m1
   rw[hs]at m1;cases m1
   exact⟨hnf,co',hsame,ho hmono⟩
  ·obtain⟨n1,o2,ho2,hr2⟩:=hr.qJ _ _ _ _ (aj.fO hb rfl) m1
   have hne:blk1≠aL:=fun ee=>by
    have:=hr.nw _ _ _ _ _ _ _ (aj.fO hb rfl) hel (ee▸m1) hs
    cases this
   refine⟨n1,o2,(hother _ hne).trans ho2,?_⟩
   simp only[cV]at hr2 ⊢
   obtain⟨h0,es,rfl,hm⟩:=hr2
   exact⟨h0,es,rfl,(hm.fE k d).mono hmono⟩
  ·obtain⟨n1,o2,ho2,hr2⟩:=hr.qJ _ _ _ _ h1 m1
   have hne:blk1≠aL:=fun ee=>hn1 (hr.nw _ _ _ _ _ _ _ h1 hel (ee▸m1) hs)
   exact⟨n1,o2,(hother _ hne).trans ho2,hr2.mono hmono⟩
 ·intro c hc;rw[hsz];exact hr.mE c hc
 ·intro c hc hno
  exact hother c (fun e=>hno ⟨.el b f k,_,az,hel,e▸hs⟩)
 ·obtain⟨L,o1,base1,hl,hm1⟩:=hc
  obtain⟨o2,h2⟩:=hold _ _ hl
  exact⟨L,o2,base1,h2,hm1⟩
def bc.XH (hr:bc P g h w){b b' f:Nat}{k:D}{v:Value}{off:Nat}(hb:h.get b=some (.qQ b' f k))(hv:ao P g w (.aP b off) v):ao P g w (.oQ b' f k off) v:=by
 simp only[ao]at hv ⊢
 obtain⟨aL,az,hm,rfl⟩:=hv
 obtain⟨⟨x,h1,h2⟩,h3⟩:=hr.al _ _ _ _ hb
 rw[hm]at h1;cases h1
 exact⟨aL,az,h2,rfl,h3⟩
end
end
section
section
variable {P:Program} {g:Gh} {h:aj} {w:World}
def aT {t:TypeId}{d:TypeDesc}(e:P.underlying t=some d)(w:World):(underlying t).run P w= .ok d w:=by
 simp[underlying,e]
def FA {t:TypeId}{i:TypeInfo}(e:P.info? t=some i)(w:World):(typeInfo t).run P w= .ok i w:=by
 simp[typeInfo,e]
def nE {t:TypeId}{n:Nat}(e:kb P t=some n)(w:World):(sizeOf t).run P w= .ok n w:=by
 unfold kb at e
 cases hi:P.info? t with
 |none=>rw[hi]at e;cases e
 |some i=>rw[hi]at e;simp at e;simp[sizeOf,FA hi,e]
def oB {t:TypeId}{n:Nat}(e:kb P t=some n):P.cellsOf t=n:=by
 unfold kb at e;unfold Program.cellsOf;rw[e];rfl
def Ee {t:TypeId}{i:TypeInfo}(e:P.info? t=some i):kb P t=some i.size:=by simp[kb,e]
def J0 {t:TypeId}{b:Bool}(e:il P t=some b)(w:World):(isAgg t).run P w= .ok b w:=by
 unfold il at e
 cases hu:P.underlying t with
 |none=>rw[hu]at e;cases e
 |some d=>
  rw[hu]at e;simp at e
  simp only[isAgg,Sem.run_bind,aT hu,Result.andThen_ok]
  split at e<;>simp_all
def ao.of (P:Program)(g:Gh)(w:World):∀(n:Nat) (v:Value),ao P g w (BV.of n v) v:=by
 intro n
 induction n with
 |zero=>intro v;simp[BV.of,ao]
 |succ n ih=>
  intro v
  have hmap:∀cs:Array Value,aq P g w (cs.toList.map (BV.of n)) cs.toList:=fun cs=>by
   have:=aq.map (P:=P) (g:=g) (w:=w) (l:=cs.toList) (f:=BV.of n) (f':=id) (fun a _=>ih a)
   simpa using this
  cases v with
  |pointer a=>cases a<;>simp[BV.of,ao]
  |slice a l c=>
   simp only[BV.of]
   split
   all_goals first
    | (rename_i e;injection e with e1 e2 e3;subst e1 e2 e3;simp[ao];done)
    | (simp_all [ao];done)
    |simp[ao]
  |map r=>cases r<;>simp[BV.of,ao]
  |string s=>simp[BV.of,ao]
  |agg cs=>simp only[BV.of,ao];exact⟨cs,rfl,hmap cs⟩
  |tuple cs=>simp only[BV.of,ao];exact⟨cs,rfl,hmap cs⟩
  |_=>simp[BV.of,ao]
def ao.ofv (P:Program)(g:Gh)(w:World)(v:Value):ao P g w (BV.ofv v) v:=ao.of P g w 6 v
def Iw {t:TypeId}{z:BV}(e:oL P t=some z)(w:World):∃z',(zeroValue t).run P w= .ok z' w/\∀g,ao P g w z z':=by
 unfold oL at e
 cases hi:P.info? t with
 |none=>rw[hi]at e;cases e
 |some i=>
  rw[hi]at e
  cases hz:i.zero with
  |none=>simp[hz]at e
  |some z'=>
   simp[hz]at e;subst e
   exact⟨z',by simp[zeroValue,FA hi,hz],fun g=>ao.ofv P g w z'⟩
def Lr {cs r:List BV}{off n:Nat}(e:fF cs off n=some r):r=(cs.drop off).take n/\r.length=n:=by
 unfold fF at e
 dsimp only at e
 split at e
 ·rename_i hl;cases e;exact⟨rfl,hl⟩
 ·cases e
def gT {cs r vs:List BV}{off:Nat}(e:putCells cs off vs=some r):r=cs.take off++(vs++cs.drop (off+vs.length))/\off+vs.length<=cs.length:=by
 unfold putCells at e
 split at e
 ·rename_i hl;cases e;exact⟨rfl,hl⟩
 ·cases e
def aq.fF {cs r:List BV}{vs:List Value}{off n:Nat}(hv:aq P g w cs vs)(e:fF cs off n=some r):
 aq P g w r ((vs.drop off).take n)/\((vs.drop off).take n).length=n:=by
 obtain⟨rfl,hl⟩:=Lr e
 have:=(hv.drop off).take n
 exact⟨this,by rw[this.length];exact hl⟩
def Ou {cs r vs:List BV}{off:Nat}(e:putCells cs off vs=some r)(j:Nat):r[j]?=if off<=j/\j<off+vs.length then vs[j-off]? else cs[j]?:=by
 obtain⟨rfl,hl⟩:=gT e
 rw[ahR]
 simp only[ahx]
 rw[aiF (by omega)]
 by_cases h1:j<off
 ·rw[ag8 h1,ag4 (by omega),ahL,ag8 h1]
 ·rw[ag4 h1,ahR]
  by_cases h2:j-off<vs.length
  ·rw[ag8 h2,ag8 (by omega)]
  ·rw[ag4 h2,ag4 (by omega),ah7];congr 1;omega
def Jy {cs r vs:List BV}{off:Nat}(e:putCells cs off vs=some r):r.length=cs.length:=by
 obtain⟨rfl,hl⟩:=gT e
 simp;omega
def bc.cells (hr:bc P g h w){b aL az:Nat}{cs:List BV}{e:TypeId}{s:Bool}(hb:h.get b=some (.cells cs e s))(hm:g.m b=some (aL,az)):
 ∃c lo hi vs,w.heap[aL]?=some (.cells c e (lo,hi))/\aq P g w cs vs/\(∀i x,vs[i]?=some x->c[az+i]?=some x)/\ei w aL az vs/\
  (∀i,i<c.size->¬(lo<=i/\i<hi))/\(s=false->lo=0/\hi=0):=by
 obtain⟨_,o,ho,hr'⟩:=hr.Xg _ _ _ _ hb hm
 simp only[cV]at hr'
 obtain⟨c,lo,hi,rfl,⟨vs,hv,hc⟩,hf,hs⟩:=hr'
 refine⟨c,lo,hi,vs,ho,hv,hc,fun i x hi'=>?_,hf,hs⟩
 simp only[World.cell?,ho]
 exact hc i x hi'
def ei.drop {aL off k:Nat}{vs:List Value}(hc:ei w aL off vs):ei w aL (off+k) (vs.drop k):=by
 intro i x hi
 rw[ah7]at hi
 have:=hc _ _ hi
 rwa [show off+(k+i)=off+k+i by omega]at this
def ei.take {aL off k:Nat}{vs:List Value}(hc:ei w aL off vs):ei w aL off (vs.take k):=by
 intro i x hi
 rw[ahL]at hi
 split at hi
 ·exact hc _ _ hi
 ·cases hi
def rQ {t:TypeId}{aL off:Nat}{cs:List BV}{vs:List Value}{k:Nat}{ag:Bool}{n:Nat}{v:BV}(hag:il P t=some ag)(hn:kb P t=some n)
 (hv:aq P g w cs vs)(hc:ei w aL off vs)
 (e:(if ag then (fF cs k n).map BV.agg else cs[k]?)=some v):∃v',(loadVar t ⟨aL,off+k,none⟩).run P w= .ok v' w/\ao P g w v v':=by
 cases ag with
 |true=>
  simp only[ahz]at e
  cases ht:Go.PB.fF cs k n with
  |none=>rw[ht]at e;cases e
  |some r=>
   rw[ht]at e;simp at e;subst e
   obtain⟨h1,h2⟩:=hv.fF ht
   refine⟨.agg ((vs.drop k).take n).toArray,?_,by simp only[ao];exact⟨_,rfl,h1⟩⟩
   simp only[loadVar,Sem.run_bind,J0 hag,Result.andThen_ok,ahz,nE hn]
   rw[oz _ h2 (hc.drop.take)]
   rfl
 |false=>
  simp only[agZ,ahN]at e
  obtain⟨v',hv',hr'⟩:=hv.get e
  refine⟨v',?_,hr'⟩
  simp only[loadVar,Sem.run_bind,J0 hag,Result.andThen_ok,agZ,ahN,run_load]
  rw[hc _ _ hv']
def M3 (hr:bc P g h w){t:TypeId}{ag:Bool}{n:Nat}(hag:il P t=some ag)(hn:kb P t=some n){b f:Nat}{k:D}{off:Nat}{v:BV}{a':Value}(ha:ao P g w (.oQ b f k off) a')(e:GN P h ag n b f k off=some v):
 ∃ad v',a'= .pointer (some ad)/\(loadVar t ad).run P w= .ok v' w/\ao P g w v v':=by
 unfold GN at e
 simp only[ao]at ha
 obtain⟨aL,az,hs,rfl,_⟩:=ha
 cases hf:Ia P h b f k with
 |none=>simp[hf]at e
 |some x=>
  obtain⟨el,l,kt,st,c⟩:=x
  simp only[hf]at e
  obtain⟨cc,vs,hw,hv,_,hat⟩:=hr.ac5 hf hs
  have hcs:=nG.yU (g:=g) (DY hf).2.1 hv.one
  obtain⟨v',h1,h2⟩:=rQ hag hn hcs hat e
  exact⟨_,v',rfl,h1,h2⟩
def Jf (hr:bc P g h w){t:TypeId}{a v:BV}{a':Value}(ha:ao P g w a a')(e:xy P h t a=some v):
 ∃ad v',a'= .pointer (some ad)/\(loadVar t ad).run P w= .ok v' w/\ao P g w v v':=by
 unfold xy at e
 cases hag:il P t with
 |none=>simp[hag]at e
 |some ag=>
  cases hn:kb P t with
  |none=>simp[hag,hn]at e
  |some n=>
   simp only[hag,hn]at e
   cases a with
   |aP b off=>
    simp only[ao]at ha
    obtain⟨aL,az,hm,rfl⟩:=ha
    dsimp only at e
    cases hb:h.get b with
    |none=>simp[hb]at e
    |some o=>
     cases o with
     |cells cs et s=>
      simp only[hb]at e
      obtain⟨c,lo,hi,vs,hw,hv,_,hc,_⟩:=hr.cells hb hm
      obtain⟨v',h1,h2⟩:=rQ hag hn hv hc e
      exact⟨_,v',rfl,h1,h2⟩
     |qQ b' f k=>
      simp only[hb]at e
      exact M3 hr hag hn (hr.XH hb (by simp only[ao];exact⟨aL,az,hm,rfl⟩)) e
     |_=>simp[hb]at e
   |oQ b f k off=>exact M3 hr hag hn ha e
   |wq cs=>
    simp only[ao]at ha
    obtain⟨aL,off,rfl,_,vs,hv,hc⟩:=ha
    dsimp only at e
    obtain⟨v',h1,h2⟩:=rQ (k:=0) hag hn hv hc e
    exact⟨_,v',rfl,h1,h2⟩
   |vO b e' i off=>
    simp only[ao]at ha
    obtain⟨aL,az,hm,rfl⟩:=ha
    dsimp only at e
    cases hb:h.get b with
    |none=>simp[hb]at e
    |some o=>
     cases o with
     |ak e2 l vt=>
      simp only[hb]at e
      split at e
      ·rename_i hc
       simp only[ag2]at hc
       obtain⟨he,hd⟩:=hc
       have he:=ahh he
       subst he
       split at e
       ·rename_i hi
        obtain⟨c,vs,hw,hv,_,hat⟩:=hr.ak hb hm
        have hx:=hv.2 i (D.at l i) (by simp[D.at,List.getD,ag7 hi])
        have hcs:=nG.yU (g:=g) hd hx
        have hat2:ei w aL (az+i*P.cellsOf e') ((vs.drop (i*P.cellsOf e')).take (P.cellsOf e')):=hat.drop.take
        obtain⟨v',h1,h2⟩:=rQ hag hn hcs hat2 e
        exact⟨_,v',rfl,by rw[<-aiW];exact h1,h2⟩
       ·cases e
      ·cases e
     |_=>simp[hb]at e
   |_=>simp at e
def ZV (hr:bc P g h w){t:TypeId}{a v:BV}{a':Value}(ha:ao P g w a a')(e:xy P h t a=some v):
 ∃v',(Instr.loadAt t a').run P w= .ok v' w/\ao P g w v v':=by
 obtain⟨ad,v',rfl,h1,h2⟩:=Jf hr ha e
 exact⟨v',by simp[Instr.loadAt,Instr.sureAddr,h1],h2⟩
def r8:Option aI->Bool
 |some (.ak _ _ vt)=>vt
 |_=>false
def Ph (g:Gh)(h:aj)(g':Gh)(h':aj):Prop:=∀b,b<h.next->g.m b=none->r8 (h.get b)=false->g'.m b=none/\h'.get b=h.get b
def Ph.refl (g:Gh)(h:aj):Ph g h g h:=fun _ _ e _=>⟨e,rfl⟩
def Ph.trans {g g' g'':Gh}{h h' h'':aj}(a:Ph g h g' h')(hn:h.next<=h'.next)(b:Ph g' h' g'' h''):Ph g h g'' h'':=fun x hx e hv=>by
 obtain⟨e1,h1⟩:=a x hx e hv
 obtain⟨e2,h2⟩:=b x (ahC hx hn) e1 (by rw[h1];exact hv)
 exact⟨e2,h2.trans h1⟩
def Ph.put {b:Nat}{x:Nat×Nat}(hm:g.m b=some x)(o:Option aI):Ph g h g (h.put b o):=fun b1 _ e _=>⟨e,by
 rw[aj.fe,ag4 (fun ee=>by subst ee;rw[hm]at e;cases e)]⟩
def Ph.agR {b:Nat}{e:TypeId}{l:List D}(hb:h.get b=some (.ak e l true)):Ph g h g (h.put b none):=fun b1 _ e hv=>⟨e,by
 rw[aj.fe,ag4 (fun ee=>by subst ee;rw[hb]at hv;cases hv)]⟩
def Ph.new (o:aI):Ph g h g (h.new o):=fun b1 hb e _=>⟨e,by rw[aj.eL,ag4 (by omega)]⟩
def Ph.oS {aL az:Nat}:Ph g h (g.oS h.next aL az) h:=fun b1 hb e _=>⟨by rw[Gh.gl g (by omega)];exact e,rfl⟩
def PY {b:BV}{v:Value}(hv:ao P g w b v)(ho:b.one=true):v.oneCell'=true:=by
 obtain⟨_,h1,h2⟩:=hv.one ho
 cases v<;>first|rfl| (exact absurd rfl (h1 _))| (exact absurd rfl (h2 _))
def Nr {cs:List BV}{vs:List Value}(hv:aq P g w cs vs)(ho:cs.all BV.one=true):∀v∈vs,v.oneCell'=true:=by
 intro v hm
 obtain⟨i,hi⟩:=aid hm
 obtain⟨b,hb,hr⟩:=hv.aei hi
 exact PY hr ((ahG.1 ho) b (agY hb))
def acp (hr:bc P g h w){b aL az off:Nat}{cs cs' xs:List BV}{e:TypeId}{s:Bool}{ys:List Value}(hb:h.get b=some (.cells cs e s))(hm:g.m b=some (aL,az))
 (hx:aq P g w xs ys)(ho:xs.all BV.one=true)(hp:putCells cs off xs=some cs'):
 ∃w',(storeCells ⟨aL,az+off,none⟩ ys).run P w= .ok () w'/\bc P g (h.put b (some (.cells cs' e s))) w'/\hJ g h w g (h.put b (some (.cells cs' e s))) w':=by
 obtain⟨c,lo,hi,vs,hw,hv,hc,_,hf,hs⟩:=hr.cells hb hm
 obtain⟨_,hle⟩:=gT hp
 have hcsz:ys≠[]->az+off+ys.length<=c.size:=fun hne=>by
  have hl:ys.length=xs.length:=hx.length
  have hpos:0<ys.length:=ajP.2 hne
  have hvl:vs.length=cs.length:=hv.length
  have h1:off+ys.length-1<vs.length:=by omega
  have:=hc _ _ (ag7 h1)
  have:=(ahn.1 this).1
  omega
 have hrun:(storeCells ⟨aL,az+off,none⟩ ys).run P w= .ok () (w.dL aL (.cells (eN c (az+off) ys) e (lo,hi))):=by
  cases hys:ys with
  |nil=>
   simp only[storeCells,Sem.run_pure,eN]
   have:=im (P:=P) aL 0 e lo hi [] 0 c w hw (by simp) (by simp) hf
   simpa [storeCells,eN]using this
  |cons y r=>
   have hb':=hcsz (by rw[hys];simp)
   rw[hys]at hb'
   have:=im (P:=P) aL (az+off) e lo hi (y::r) 0 c w hw (by simpa using hb') (fun v hv=>Nr hx ho v (by rw[hys];exact hv)) hf
   simpa using this
 refine⟨_,hrun,?_⟩
 refine hr.Ly hb hm hw rfl ⟨rfl,rfl,rfl⟩ (fun s hs=>?_) (fun hmono=>?_)
 ·have hlt:=(ahn.1 hw).1
  simp only[World.shape?,hw]at hs
  simp only[World.shape?,dZ hlt,rS]
  exact hs
 ·simp only[cV]
  refine⟨_,lo,hi,rfl,⟨vs.take off++(ys++vs.drop (off+ys.length)),?_,?_⟩,by simpa using hf,hs⟩
  ·obtain⟨rfl,_⟩:=gT hp
   have h1:=aq.mono hmono _ _ hv
   have h2:=aq.mono hmono _ _ hx
   rw[hx.length]
   exact(h1.take off).append (h2.append (h1.drop _))
  ·intro i x hi'
   have hxl:=hx.length
   have hvl:=hv.length
   rw[ahR]at hi'
   simp only[ahx]at hi'
   rw[aiF (by omega)]at hi'
   by_cases hne:ys=[]
   ·subst hne
    simp only[eN]
    simp only[aix,air,aiE,ah7,ahL]at hi'
    by_cases h1:i<off
    ·rw[ag8 h1,ag8 h1]at hi';exact hc i x hi'
    ·rw[ag4 h1,show off+(i-off)=i by omega]at hi';exact hc i x hi'
   ·rw[vc _ _ _ _ (hcsz hne)]
    by_cases h1:i<off
    ·rw[ag8 h1,ahL,ag8 h1]at hi'
     rw[ag4 (by omega)];exact hc i x hi'
    ·rw[ag4 h1,ahR]at hi'
     by_cases h2:i-off<ys.length
     ·rw[ag8 h2]at hi'
      rw[ag8 (by omega),show az+i-(az+off)=i-off by omega];exact hi'
     ·rw[ag4 h2,ah7,show off+ys.length+(i-off-ys.length)=i by omega]at hi'
      rw[ag4 (by omega)];exact hc i x hi'
def qg {t:TypeId}{n:Nat}(hn:kb P t=some n){ad:Addr}{v:Value}(hl:v.cells.size=n){w w':World}
 (hs:(storeCells ad v.cells.toList).run P w= .ok () w'):(storeVar t ad v).run P w= .ok () w':=by
 simp only[storeVar,Sem.run_bind,nE hn,Result.andThen_ok]
 rw[ag4 (by simpa using hl)]
 exact hs
def UJ {α:Type}(vs ys:List α)(a sz off:Nat)(h1:off+ys.length<=sz)(h2:a+sz<=vs.length)(k:Nat):
 (vs.take a++((((vs.drop a).take sz).take off++(ys++((vs.drop a).take sz).drop (off+ys.length)))++vs.drop (a+sz)))[k]?=if a+off<=k/\k<a+off+ys.length then ys[k-(a+off)]? else vs[k]?:=by
 have e1:(vs.take a).length=a:=by simp;omega
 have e2:((vs.drop a).take sz).length=sz:=by simp;omega
 have e3:(((vs.drop a).take sz).take off).length=off:=by simp;omega
 have e4:(((vs.drop a).take sz).drop (off+ys.length)).length=sz-(off+ys.length):=by simp;omega
 rw[ahR,e1]
 by_cases c1:k<a
 ·rw[ag8 c1,ag4 (by omega),ahL,ag8 c1]
 ·rw[ag4 c1,ahR,ahc,e3,ahc,e4]
  by_cases c2:k-a<off+(ys.length+(sz-(off+ys.length)))
  ·rw[ag8 c2,ahR,e3]
   by_cases c3:k-a<off
   ·rw[ag8 c3,ag4 (by omega),ahL,ag8 c3,ahL,ag8 (by omega),ah7,show a+(k-a)=k by omega]
   ·rw[ag4 c3,ahR]
    by_cases c4:k-a-off<ys.length
    ·rw[ag8 c4,ag8 (by omega),show k-a-off=k-(a+off)by omega]
    ·rw[ag4 c4,ag4 (by omega),ah7,ahL,ag8 (by omega),ah7]
     congr 1;omega
  ·rw[ag4 c2,ag4 (by omega),ah7]
   congr 1;omega
def OK (hr:bc P g h w){t:TypeId}{n:Nat}(hn:kb P t=some n){b aL az i off:Nat}{el:TypeId}{l:List D}{vt:Bool}(hb:h.get b=some (.ak el l vt))(hm:g.m b=some (aL,az))
 {v:BV}{v':Value}(hv:ao P g w v v')(hvl:v.cells.length=n)(hone:v.cells.all BV.one=true)(hd:cQ P el=true)(hi:i<l.length){cs:List BV}{d:D}
 (hp:putCells (aK P el (D.at l i)) off v.cells=some cs)(hu:Rg P el cs=some d):
 ∃w',(Instr.storeAt t (.pointer (some ⟨aL,az+(i*P.cellsOf el+off),none⟩)) v').run P w= .ok () w'/\bc P g (h.put b (some (.ak el (l.set i d) vt))) w'/\hJ g h w g (h.put b (some (.ak el (l.set i d) vt))) w'/\Ph g h g (h.put b (some (.ak el (l.set i d) vt))):=by
 obtain⟨c,vs,hw,hvs,hc,hat⟩:=hr.ak hb hm
 have hxr:=hv.cells hone
 obtain⟨_,hszP,hpos,hshl⟩:=ft hd
 generalize hsz:P.cellsOf el=sz at*
 have hvl2:=hvs.1
 rw[hsz]at hvl2
 obtain⟨hcs,hple⟩:=gT hp
 rw[hshl]at hple
 have hyl:v'.cells.toList.length=v.cells.length:=hxr.length
 have hi1:i*sz+sz<=vs.length:=by
  rw[hvl2,show i*sz+sz=(i+1)*sz by rw[aiu,aiT]]
  exact ah6 _ hi
 have hcsz:az+vs.length<=c.size:=by
  have h1:vs.length-1<vs.length:=by omega
  have:=hc _ _ (ag7 h1)
  have:=(ahn.1 this).1
  omega
 have hfit:az+(i*sz+off)+v'.cells.toList.length<=c.size:=by omega
 have hrun:=im (P:=P) aL (az+(i*sz+off)) el 0 0 v'.cells.toList 0 c w hw (by simpa using hfit) (Nr hxr hone) (by omega)
 simp only[air]at hrun
 have hlt:=(ahn.1 hw).1
 have hX:=hr.Ly (o':= .ak el (l.set i d) vt) (w':=w.dL aL (.cells (eN c (az+(i*sz+off)) v'.cells.toList) el (0,0))) hb hm hw rfl ⟨rfl,rfl,rfl⟩ (fun s hs=>by
  simp only[World.shape?,hw]at hs
  simp only[World.shape?,dZ hlt,rS]
  exact hs) (fun hmono=>by
  simp only[cV]
  have hx:=hvs.2 i (D.at l i) (by simp[D.at,List.getD,ag7 hi])
  rw[hsz]at hx
  have hrow:=nG.yU (g:=g) hd hx
  generalize hR:(vs.drop (i*sz)).take sz=row at hrow
  have hrl:row.length=sz:=by rw[<-hR];simp;omega
  have hcsv:aq P g w cs (row.take off++(v'.cells.toList++row.drop (off+v'.cells.toList.length))):=by
   rw[hcs,hyl]
   exact(hrow.take off).append (hxr.append (hrow.drop _))
  have hD:=BA hu hcsv
  refine⟨_,rfl,vs.take (i*sz)++((row.take off++(v'.cells.toList++row.drop (off+v'.cells.toList.length)))++vs.drop (i*sz+sz)),?_,fun k y hk=>?_⟩
  ·have r1:cI P g.fz w el (l.take i) (vs.take (i*P.cellsOf el)):=hvs.take i
   have r2:cI P g.fz w el (l.drop (i+1)) (vs.drop ((i+1)*P.cellsOf el)):=hvs.drop (i+1)
   have r3:cI P g.fz w el [d] (row.take off++(v'.cells.toList++row.drop (off+v'.cells.toList.length))):=by
    have:=cI.cons (l:=[]) (vs:=[]) (by rw[hsz,ahc,ahc,ahx,aiN];omega) hD cI.nil
    simpa using this
   have r4:=r1.append (r3.append r2)
   rw[hsz,show (i+1)*sz=i*sz+sz by rw[aiu,aiT]]at r4
   have:l.set i d=l.take i++([d]++l.drop (i+1)):=by rw[List.set_eq_take_append_cons_drop,ag8 hi];rfl
   rw[this]
   exact r4.mono hmono.mf hmono.mc
  ·rw[<-hR,UJ vs v'.cells.toList (i*sz) sz off (by omega) (by omega)]at hk
   rw[vc _ _ _ _ hfit]
   by_cases hin:i*sz+off<=k/\k<i*sz+off+v'.cells.toList.length
   ·rw[ag8 hin]at hk
    rw[ag8 (by omega),show az+k-(az+(i*sz+off))=k-(i*sz+off)by omega];exact hk
   ·rw[ag4 hin]at hk
    rw[ag4 (by omega)];exact hc k y hk)
 refine⟨_,?_,hX.1,hX.2,Ph.put hm _⟩
 simp only[Instr.storeAt,Instr.sureAddr,Sem.run_bind,Sem.run_pure,Result.andThen_ok]
 refine qg hn ?_ hrun
 have:=hxr.length;simp at this;omega
def Jh (hr:bc P g h w){t:TypeId}{n:Nat}(hn:kb P t=some n){b f:Nat}{k:D}{off:Nat}{v:BV}{a' v':Value}{h':aj}(ha:ao P g w (.oQ b f k off) a')(hv:ao P g w v v')(e:IC P h n b f k off v=some h'):
 ∃w',(Instr.storeAt t a' v').run P w= .ok () w'/\bc P g h' w'/\hJ g h w g h' w'/\Ph g h g h':=by
 unfold IC at e
 simp only[ao]at ha
 obtain⟨aL,az,hs,rfl,_⟩:=ha
 split at e
 ·rename_i hc0
  simp only[ag2,agW]at hc0
  obtain⟨hvl,hone⟩:=hc0
  split at e
  ·rename_i el l kt st ck hf
   split at e
   ·rename_i cs hp
    split at e
    ·rename_i d hu
     cases e
     obtain⟨c,vs,hw,hvs,hc,hat⟩:=hr.ac5 hf hs
     obtain⟨hb,hd,hk⟩:=DY hf
     have hxr:=hv.cells hone
     obtain⟨_,hszP,hpos,hshl⟩:=ft hd
     have hvl2:vs.length=P.cellsOf el:=by simpa using hvs.1
     obtain⟨hcs,hple⟩:=gT hp
     rw[hshl]at hple
     have hyl:v'.cells.toList.length=v.cells.length:=hxr.length
     have hcsz:az+vs.length<=c.size:=by
      have h1:vs.length-1<vs.length:=by omega
      have:=hc _ _ (ag7 h1)
      have:=(ahn.1 this).1
      omega
     have hfit:az+off+v'.cells.toList.length<=c.size:=by omega
     have hrun:=im (P:=P) aL (az+off) el 0 0 v'.cells.toList 0 c w hw (by simpa using hfit) (Nr hxr hone) (by omega)
     simp only[air]at hrun
     have hlt:=(ahn.1 hw).1
     have hX:=hr.afC (d:=d) (w':=w.dL aL (.cells (eN c (az+off) v'.cells.toList) el (0,0))) hf hs hw rfl ⟨rfl,rfl,rfl⟩ (fun s hs=>by
      simp only[World.shape?,hw]at hs
      simp only[World.shape?,dZ hlt,rS]
      exact hs) (fun hmono=>by
      simp only[cV]
      have hrow:=nG.yU (g:=g) hd hvs.one
      have hcsv:aq P g w cs (vs.take off++(v'.cells.toList++vs.drop (off+v'.cells.toList.length))):=by
       rw[hcs,hyl]
       exact(hrow.take off).append (hxr.append (hrow.drop _))
      have hD:=BA hu hcsv
      have hlen:(vs.take off++(v'.cells.toList++vs.drop (off+v'.cells.toList.length))).length=P.cellsOf el:=by
       rw[ahc,ahc,ahx,aiN];omega
      refine⟨_,rfl,vs.take off++(v'.cells.toList++vs.drop (off+v'.cells.toList.length)),?_,fun i y hk=>?_⟩
      ·have r3:cI P g.fz w el [d] (vs.take off++(v'.cells.toList++vs.drop (off+v'.cells.toList.length))):=by
        have:=cI.cons (l:=[]) (vs:=[]) hlen hD cI.nil
        simpa using this
       exact r3.mono hmono.mf hmono.mc
      ·have hR:=UJ vs v'.cells.toList 0 vs.length off (by omega) (by omega)
       simp only[aji,aiE,ajU,aif,ah2,List.drop_length,ahM]at hR
       rw[hR]at hk
       rw[vc _ _ _ _ hfit]
       by_cases hin:off<=i/\i<off+v'.cells.toList.length
       ·rw[ag8 hin]at hk
        rw[ag8 (by omega),show az+i-(az+off)=i-off by omega];exact hk
       ·rw[ag4 hin]at hk
        rw[ag4 (by omega)];exact hc i y hk)
     obtain⟨_,y,hm⟩:=hr.sk _ _ _ _ _ hb rfl hs
     refine⟨_,?_,hX.1,hX.2,Ph.put hm _⟩
     simp only[Instr.storeAt,Instr.sureAddr,Sem.run_bind,Sem.run_pure,Result.andThen_ok]
     refine qg hn ?_ hrun
     have:=hxr.length;simp at this;omega
    ·cases e
   ·cases e
  ·cases e
 ·cases e
def WV (hr:bc P g h w){t:TypeId}{a v:BV}{a' v':Value}{h':aj}(ha:ao P g w a a')(hv:ao P g w v v')(e:Bx P h t a v=some h'):
 ∃w',(Instr.storeAt t a' v').run P w= .ok () w'/\bc P g h' w'/\hJ g h w g h' w'/\Ph g h g h':=by
 unfold Bx at e
 cases hn:kb P t with
 |none=>simp[hn]at e
 |some n=>
  cases a with
  |aP b off=>
   simp only[hn]at e
   simp only[ao]at ha
   obtain⟨aL,az,hm,rfl⟩:=ha
   cases hb:h.get b with
   |none=>simp[hb]at e
   |some o=>
    cases o with
    |cells cs et s=>
     simp only[hb]at e
     split at e
     ·rename_i hc
      simp only[ag2,agW]at hc
      cases hp:putCells cs off v.cells with
      |none=>rw[hp]at e;cases e
      |some cs'=>
       rw[hp]at e;simp at e;subst e
       have hx:=hv.cells hc.2
       obtain⟨w',h1,h2,h3⟩:=acp hr hb hm hx hc.2 hp
       refine⟨w',?_,h2,h3,Ph.put hm _⟩
       simp only[Instr.storeAt,Instr.sureAddr,Sem.run_bind,Sem.run_pure,Result.andThen_ok]
       refine qg hn ?_ h1
       have:=hx.length;simp at this;omega
     ·cases e
    |qQ b' f k=>
     simp only[hb]at e
     exact Jh hr hn (hr.XH hb (by simp only[ao];exact⟨aL,az,hm,rfl⟩)) hv e
    |_=>simp[hb]at e
  |oQ b f k off=>
   simp only[hn]at e
   exact Jh hr hn ha hv e
  |vO b e' i off=>
   simp only[hn]at e
   simp only[ao]at ha
   obtain⟨aL,az,hm,rfl⟩:=ha
   cases hb:h.get b with
   |none=>simp[hb]at e
   |some o=>
    cases o with
    |ak e2 l vt=>
     simp only[hb]at e
     split at e
     ·rename_i hc
      simp only[ag2,agW]at hc
      obtain⟨⟨hvl,hone⟩,he,hd⟩:=hc
      have he:=ahh he
      subst he
      split at e
      ·rename_i cs hp
       split at e
       ·rename_i d hu
        split at e
        ·rename_i hi
         cases e
         exact OK hr hn hb hm hv hvl hone hd hi hp hu
        ·cases e
       ·cases e
      ·cases e
     ·cases e
    |_=>simp[hb]at e
  |_=>simp[hn]at e
def Hs {t:TypeId}{cs:List BV}{vs:Array Value}{off:Nat}{v:BV}(hv:aq P g w cs vs.toList)(e:ED P t cs off=some v):
 ∃v',(part t vs off).run P w= .ok v' w/\ao P g w v v':=by
 unfold ED at e
 split at e
 ·rename_i n hag hn
  cases ht:fF cs off n with
  |none=>rw[ht]at e;cases e
  |some r=>
   rw[ht]at e;simp at e;subst e
   obtain⟨h1,h2⟩:=hv.fF ht
   refine⟨.agg (vs.extract off (off+n)),?_,?_⟩
   ·simp[part,J0 hag,nE hn]
   ·simp only[ao]
    refine⟨_,rfl,?_⟩
    rw[Array.toList_extract]
    simpa [ajZ]using h1
 ·rename_i hag
  obtain⟨v',hv',hr'⟩:=hv.get e
  refine⟨v',?_,hr'⟩
  have:vs[off]?=some v':=by simpa using hv'
  simp[part,J0 hag,this]
 ·cases e
end
end
section
section
variable {P:Program} {g:Gh} {h:aj} {w:World}
def Nk (P:Program)(g:Gh)(h:aj)(w:World)(b:Nat)(v:BV)(r:Result Value):Prop:=
 ∃v' w',r= .ok v' w'/\bc P (g.oS b w.heap.size 0) h w'/\hJ g h w (g.oS b w.heap.size 0) h w'/\ao P (g.oS b w.heap.size 0) w' v v'
def ZJ (hr:bc P g h w){b:Nat}{cs:List BV}{e:TypeId}{s:Bool}{vs:List Value}{c:Array Value}{lo hi:Nat}{w':World}
 (hb:h.get b=some (.cells cs e s))(hm:g.m b=none)(hv:aq P g w cs vs)(hc:∀(i:Nat) x,vs[i]?=some x->c[i]?=some x)
 (hheap:w'.heap=w.heap.push (.cells c e (lo,hi)))(hos:w'.os=w.os/\w'.output=w.output/\w'.tape=w.tape)
 (hf:∀i,i<c.size->¬(lo<=i/\i<hi))(hs:s=false->lo=0/\hi=0):
 bc P (g.oS b w.heap.size 0) h w'/\hJ g h w (g.oS b w.heap.size 0) h w':=by
 refine hr.real hb hm hheap hos fun hmono=>?_
 simp only[cV]
 exact⟨c,lo,hi,rfl,⟨vs,aq.mono hmono _ _ hv,fun i x hi'=>by simpa using hc i x hi'⟩,hf,hs⟩
def QO (hr:bc P g h w){b:Nat}{t:TypeId}{v:BV}{v':Value}(hb:h.get b=some (.cells v.cells t false))(hm:g.m b=none)
 (hv:ao P g w v v')(ho:v.cells.all BV.one=true):Nk P g h w b (.aP b 0) ((do pure (Value.pointer (some (<-newVar t v'))):Sem Value).run P w):=by
 refine⟨.pointer (some ⟨w.heap.size,0,none⟩),_,by simp only[newVar,newRow,Sem.run_bind,run_newObj,Result.andThen_ok,Sem.run_pure];rfl,?_⟩
 have h1:=ZJ hr (vs:=v'.cells.toList) (c:=v'.cells) (lo:=0) (hi:=0) (w':={w with heap:=w.heap.push (.cells v'.cells t)}) hb hm (hv.cells ho) (fun i x hi=>by simpa using hi) rfl ⟨rfl,rfl,rfl⟩ (by omega) (fun _=>⟨rfl,rfl⟩)
 refine⟨h1.1,h1.2,?_⟩
 simp only[ao]
 exact⟨_,_,Gh.iq _ _ _ _,rfl⟩
def Th (hr:bc P g h w){b:Nat}{t:TypeId}{z:BV}(hz:oL P t=some z)(hb:h.get b=some (.cells z.cells t false))(hm:g.m b=none)
 (ho:z.cells.all BV.one=true):Nk P g h w b (.aP b 0) ((Instr.alloc t true (.tuple #[])).run P w):=by
 obtain⟨z',hz',hzr⟩:=Iw hz w
 have:=QO hr hb hm (hzr g) ho
 simpa [Instr.alloc,hz']using this
def ZH (hr:bc P g h w){b:Nat}{t:TypeId}{v:BV}{v':Value}(hb:h.get b=some (.cells v.cells t false))(hm:g.m b=none)
 (hv:ao P g w v v')(ho:v.cells.all BV.one=true):Nk P g h w b (.aP b 0) ((Instr.box t v').run P w):=by
 have:=QO hr hb hm hv ho
 simpa [Instr.box]using this
def KV {P:Program}{h:aj}{k e:TypeId}{o:aI}(hn:pY P h k e=some o):oC h.next o:=by
 unfold pY at hn
 repeat' split at hn
 all_goals first|cases hn;done| (cases hn;first|exact oC.bare rfl rfl|exact oC.map _ _ _ _)
def PV {P:Program}{h:aj}{k e:TypeId}{o:aI}(hn:pY P h k e=some o)(g:Gh)(w:World):cV P g w o 0 (.map #[] 0):=by
 unfold pY at hn
 repeat' split at hn
 all_goals first|cases hn;done| (cases hn;simp only[cV];exact⟨trivial,_,rfl,⟨rfl,rfl,fun i p e h=>(by simp at h),fun i p e h=>(by simp at h),fun i p e h=>(by simp at h),fun p h=>(by simp at h),ajC,ajC,fun s h=>(by simp at h)⟩⟩)
def ZI (hr:bc P g h w){b:Nat}{t k e:TypeId}{a:aj}{r:Option BV}{r':Option Value}(hu:P.underlying t=some (.map k e)){o:aI}(hn:pY P a k e=some o)(hb:h.get b=some o)(hm:g.m b=none)
 (hrr:(r=none/\r'=none)\/∃q n,r=some (.int q n)/\r'=some (.int q n)):Nk P g h w b (.map b) ((Instr.makeMap t r').run P w):=by
 have hrun:(Instr.makeMap t r').run P w= .ok (.map (some w.heap.size)) {w with heap:=w.heap.push (.map #[] 0)}:=by
  rcases hrr with ⟨_,rfl⟩| ⟨q,n,_,rfl⟩
  ·simp[Instr.makeMap]
  ·simp[Instr.makeMap,aT hu,asInt,asIntOf]
 refine⟨_,_,hrun,?_⟩
 have h1:=hr.real (w':={w with heap:=w.heap.push (.map #[] 0)}) hb hm rfl ⟨rfl,rfl,rfl⟩ (fun _=>PV hn _ _) (KV hn).nC
 refine⟨h1.1,h1.2,?_⟩
 simp only[ao]
 exact⟨_,Gh.iq _ _ _ _,rfl⟩
def LI (l:List Value):∀(k:Nat) (cs:Array Value) (off:Nat),off+k+l.length<=cs.size->
 ((l.zipIdx k).foldl (fun cs (x:Value×Nat)=>cs.setIfInBounds (off+x.2) x.1) cs)=eN cs (off+k) l:=by
 induction l with
 |nil=>intro k cs off _;simp[eN]
 |cons v r ih=>
  intro k cs off hle
  simp only[ahv]at hle
  simp only[List.zipIdx_cons,ajt,eN]
  rw[ih (k+1) _ off (by simp;omega)]
  rfl
def acx (cs:Array Value)(off:Nat)(xs:Array Value)(hle:off+xs.size<=cs.size):
 xs.zipIdx.foldl (fun cs (x:Value×Nat)=>cs.setIfInBounds (off+x.2) x.1) cs=eN cs off xs.toList:=by
 rw[<-akx,Array.toList_zipIdx]
 have:=LI xs.toList 0 cs off (by simpa using hle)
 simpa using this
def aq.putCells {cs cs' xs:List BV}{c:Array Value}{ys:List Value}{off:Nat}(hc:aq P g w cs c.toList)(hx:aq P g w xs ys)(hp:putCells cs off xs=some cs'):
 aq P g w cs' (eN c off ys).toList:=by
 have hl:=hc.length
 have hxl:=hx.length
 obtain⟨_,hle⟩:=gT hp
 refine aq.rL (by rw[Jy hp];simpa using hl) fun i b v hb hv=>?_
 rw[Ou hp]at hb
 simp only[ahW]at hv
 rw[vc _ _ _ _ (by simp at hl;omega)]at hv
 by_cases h1:off<=i/\i<off+xs.length
 ·rw[ag8 h1]at hb;rw[ag8 (by omega)]at hv
  obtain⟨u,hu,hr⟩:=hx.get hb
  rw[hu]at hv;cases hv;exact hr
 ·rw[ag4 h1]at hb;rw[ag4 (by omega)]at hv
  obtain⟨u,hu,hr⟩:=hc.get hb
  simp only[ahW]at hu
  rw[hu]at hv;cases hv;exact hr
def ao.NL {v:BV}{v':Value}(hv:ao P g w v v')(hk:v.vd=true):aq P g w v.cells v'.cells.toList:=by
 by_cases hb:∃cs,v= .agg cs
 ·obtain⟨cs,rfl⟩:=hb
  simp only[ao]at hv;obtain⟨vs,rfl,h⟩:=hv
  simpa [BV.cells,Value.cells]using h
 ·have e:v.cells=[v]:=by cases v<;>first|rfl| (exact absurd ⟨_,rfl⟩ hb)
  have e':v'.cells=#[v']:=by
   by_cases ht:∃cs,v= .tuple cs
   ·obtain⟨cs,rfl⟩:=ht;simp only[ao]at hv;obtain⟨vs,rfl,_⟩:=hv;rfl
   ·refine(hv.one ?_).1
    cases v<;>first|rfl| (simp[BV.vd]at hk;done)| (exact absurd ⟨_,rfl⟩ hb)| (exact absurd ⟨_,rfl⟩ ht)
  rw[e,e']
  exact aq.cons hv aq.nil
def RB (P:Program)(g:Gh)(w:World)(ps:List (Nat×BV))(qs:List (Nat×Value)):Prop:=
 qs.length=ps.length/\∀(j:Nat) i v,ps[j]?=some (i,v)->∃v',qs[j]?=some (i,v')/\ao P g w v v'
def RB.cons {i:Nat}{v:BV}{ps:List (Nat×BV)}{qs:List (Nat×Value)}(hp:RB P g w ((i,v)::ps) qs):∃v' qs',qs=(i,v')::qs'/\ao P g w v v'/\RB P g w ps qs':=by
 obtain⟨hl,hp⟩:=hp
 cases qs with
 |nil=>simp at hl
 |cons q qs=>
  obtain⟨v',h1,h2⟩:=hp 0 i v (by simp)
  simp at h1;subst h1
  exact⟨v',qs,rfl,h2,by simpa using hl,fun j i' u hj=>by have:=hp (j+1) i' u (by simpa using hj);simpa using this⟩
def Q1 {place:Nat->Option (Nat×Nat)}:∀(ps:List (Nat×BV)) (qs:List (Nat×Value)) (cs cs':List BV) (c:Array Value),RB P g w ps qs->aq P g w cs c.toList->
 IX place cs ps=some cs'->∃c',Instr.fill place c qs=some c'/\aq P g w cs' c'.toList:=by
 intro ps
 induction ps with
 |nil=>
  intro qs cs cs' c hp hc e
  have:qs=[]:=by have:=hp.1;simpa using this
  subst this
  simp[IX]at e;subst e
  exact⟨c,rfl,hc⟩
 |cons p ps ih=>
  intro qs cs cs' c hp hc e
  obtain⟨i,v⟩:=p
  obtain⟨v',qs',rfl,hv,hp'⟩:=hp.cons
  simp only[IX]at e
  cases hpl:place i with
  |none=>simp[hpl]at e
  |some os=>
   obtain⟨off,size⟩:=os
   simp only[hpl]at e
   split at e
   ·rename_i hl
    simp only[ag2,agW]at hl
    cases hput:putCells cs off v.cells with
    |none=>simp[hput]at e
    |some cs1=>
     simp only[hput]at e
     have hx:=hv.NL hl.2
     have hxl:=hx.length
     have hcl:=hc.length
     obtain⟨_,hle⟩:=gT hput
     simp at hxl hcl
     have hc1:=hc.putCells hx hput
     obtain⟨c',h1,h2⟩:=ih qs' cs1 cs' _ hp' hc1 e
     refine⟨c',?_,h2⟩
     simp only[Instr.fill,hpl]
     rw[ag4 (by simp;omega)]
     rw[acx _ _ _ (by omega)]
     exact h1
   ·cases e
def Tk (w:World):∀(fs:List Field) (ps:List (Nat×Nat)),fs.mapM (fun f=>(kb P f.type).map fun s=>(f.offset,s))=some ps->
 (fs.mapM (fun f=>(do pure (f.offset,<-sizeOf f.type):Sem (Nat×Nat)))).run P w= .ok ps w:=by
 intro fs
 induction fs with
 |nil=>intro ps e;simp at e;subst e;simp
 |cons f fs ih=>
  intro ps e
  simp only[akm]at e ⊢
  cases hs:kb P f.type with
  |none=>simp[hs]at e
  |some n=>
   simp only[hs,ahm]at e
   cases hm:fs.mapM (fun f=>(kb P f.type).map fun s=>(f.offset,s))with
   |none=>simp[hm]at e
   |some ps'=>
    simp[hm]at e;subst e
    simp only[Sem.run_bind,nE hs,Result.andThen_ok,Sem.run_pure,ih _ hm]
def WJ {t:TypeId}{ps:List (Nat×BV)}{qs:List (Nat×Value)}{v:BV}(hp:RB P g w ps qs)(e:RR P t ps=some v):
 ∃v',(Instr.build t qs.toArray).run P w= .ok v' w/\ao P g w v v':=by
 unfold RR at e
 split at e
 ·rename_i zc fs hz hu
  obtain⟨z',hz',hzr⟩:=Iw hz w
  have hzg:=hzr g
  simp only[ao]at hzg
  obtain⟨zs,rfl,hzv⟩:=hzg
  cases hpl:Zr P fs with
  |none=>simp[hpl]at e
  |some pl=>
   simp only[hpl]at e
   cases hf:IX (fun i=>pl[i]?) zc ps with
   |none=>simp[hf]at e
   |some cs=>
    simp[hf]at e;subst e
    obtain⟨c',h1,h2⟩:=Q1 ps qs zc cs zs hp hzv hf
    refine⟨.agg c',?_,by simp only[ao];exact⟨_,rfl,h2⟩⟩
    have hrp:=Tk (P:=P) w fs.toList pl hpl
    simp only[Instr.build,Sem.run_bind,hz',Result.andThen_ok,aT hu]
    rw[ajY]
    simp only[Sem.run_map,hrp,Result.andThen_ok,List.getElem?_toArray,Value.cells]
    rw[h1]
    simp
 ·cases e
end
end
end Go.PB
end
