import Derived.Laws.Cells
import Derived.Laws.Build
import Derived.Test.YtemiekpfokoplaaGreatM0
set_option linter.all false
noncomputable section
namespace Go.World
def dL (w:World)(r:Nat)(o:Obj):World:={w with heap:=w.heap.setIfInBounds r o}
end Go.World
namespace Go.PB
open Go
section
section
variable {P:Program} {g:Gh} {h:af} {w w':World}
def fS {r:Nat}(e:w'.heap[r]?=w.heap[r]?):w'.shape? r=w.shape? r:=by simp[World.shape?,e]
def aR.L9 (hr:aR P g h w){c:Nat}(hf:g.fz c):¬nX g h c:=by
 rintro⟨l,o,au,hb,hm⟩
 exact(hr.pZ l o c au hb hm).1 hf
def ax.E4 {o:ax}(e:o.yp=none)(f:Nat)(k:D):o.wA f k=none:=by
 cases o<;>try rfl
 case bo kt vk l st c=>cases vk<;>first|rfl|cases e
def ax.mN {o o1:ax}{f:Nat}{k:D}(e:o.wA f k=some o1):o.yp=some f:=by
 cases o<;>try (cases e;done)
 case bo kt vk l st c=>
  cases vk with
  |data et=>cases e
  |Ho=>cases e
  |cp f' et=>
   simp only[ax.wA]at e
   split at e
   ·rename_i h;subst h;rfl
   ·cases e
def af.I5 {h:af}{b f:Nat}{k:D}{o:ax}(e:h.at (.el b f k)=some o):∃x,h.get b=some x/\x.wA f k=some o:=by
 change (h.get b).bind (fun x=>x.wA f k)=_ at e
 cases hg:h.get b with
 |none=>rw[hg]at e;cases e
 |some x=>rw[hg]at e;exact⟨x,rfl,e⟩
def af.Az {h:af}{b f:Nat}{k:D}{o x:ax}(hg:h.get b=some x)(e:x.wA f k=some o):h.at (.el b f k)=some o:=by
 show (h.get b).bind (fun x=>x.wA f k)=_
 rw[hg];exact e
structure HU (g:Gh)(h:af):Prop where
 HY:∀b o,h.get b=some o->b<h.next
 lt:∀b x,g.m b=some x->b<h.next
 Eh:∀f k x,g.s f k=some x->f<h.next
 AE:∀b o f,h.get b=some o->o.yp=some f->f<h.next
 fu:∀b b' o o' f,h.get b=some o->h.get b'=some o'->o.yp=some f->o'.yp=some f->b=b'
 sk:∀b o f k x,h.get b=some o->o.yp=some f->g.s f k=some x->(∃o1,o.wA f k=some o1)/\∃y,g.m b=some y
 al:∀b b' f k,h.get b=some (.ql b' f k)->(∃x,g.m b=some x/\g.s f k=some x)/\∃y,g.m b'=some y
def aR.nm (hr:aR P g h w):HU g h:=⟨hr.HY,hr.lt,hr.Eh,hr.AE,hr.fu,hr.sk,hr.al⟩
def HU.Ln (n:HU g h)(a:∀l aA au,g.at l=some (aA,au)->aA<w.heap.size)
 (b:∀l l' aA au base' o o',h.at l=some o->h.at l'=some o'->g.at l=some (aA,au)->g.at l'=some (aA,base')->l=l')
 (c:∀l o aA au,h.at l=some o->g.at l=some (aA,au)->¬g.fz aA/\∃o',w.heap[aA]?=some o'/\cL P g w o au o')
 (d:∀c,g.fz c->c<w.heap.size):aR P g h w:=⟨n.HY,n.lt,n.Eh,n.AE,n.fu,n.sk,n.al,a,b,c,d⟩
def ax.zf {o:ax}(ho:o.gH=some o){b f:Nat}{k:D}:o≠ .ql b f k:=fun e=>by subst e;cases ho
def HU.put (n:HU g h){b:Nat}{o o':ax}(hb:h.get b=some o)(hf:o'.yp=none)(ho:o'.gH=some o'):HU g (h.put b (some o')):=by
 have hget:∀b1 o1,(h.put b (some o')).get b1=some o1->(b1=b/\o1=o')\/(b1≠b/\h.get b1=some o1):=fun b1 o1 h1=>by
  rw[af.fe]at h1
  by_cases e:b1=b
  ·rw[aeZ e]at h1;cases h1;exact .inl ⟨e,rfl⟩
  ·rw[aeX e]at h1;exact .inr ⟨e,h1⟩
 refine⟨fun b1 o1 h1=>?_,n.lt,n.Eh,fun b1 o1 f h1 h2=>?_,fun b1 b2 o1 o2 f h1 h2 h3 h4=>?_,fun b1 o1 f k x h1 h2 h3=>?_,fun b1 b2 f k h1=>?_⟩
 ·rcases hget _ _ h1 with ⟨rfl,_⟩| ⟨_,h1⟩
  ·exact n.HY _ _ hb
  ·exact n.HY _ _ h1
 ·rcases hget _ _ h1 with ⟨_,rfl⟩| ⟨_,h1⟩
  ·rw[hf]at h2;cases h2
  ·exact n.AE _ _ _ h1 h2
 ·rcases hget _ _ h1 with ⟨_,rfl⟩| ⟨_,h1⟩
  ·rw[hf]at h3;cases h3
  ·rcases hget _ _ h2 with ⟨_,rfl⟩| ⟨_,h2⟩
   ·rw[hf]at h4;cases h4
   ·exact n.fu _ _ _ _ _ h1 h2 h3 h4
 ·rcases hget _ _ h1 with ⟨_,rfl⟩| ⟨_,h1⟩
  ·rw[hf]at h2;cases h2
  ·exact n.sk _ _ _ _ _ h1 h2 h3
 ·rcases hget _ _ h1 with ⟨_,e⟩| ⟨_,h1⟩
  ·exact absurd e.symm (ax.zf ho)
  ·exact n.al _ _ _ _ h1
def HU.drop (n:HU g h)(b:Nat):HU g (h.put b none):=by
 have hget:∀b1 o1,(h.put b none).get b1=some o1->h.get b1=some o1:=fun b1 o1 h1=>by
  rw[af.fe]at h1
  by_cases e:b1=b
  ·rw[aeZ e]at h1;cases h1
  ·rwa [aeX e]at h1
 exact⟨fun b1 o1 h1=>n.HY _ _ (hget _ _ h1),n.lt,n.Eh,fun b1 o1 f h1 h2=>n.AE _ _ _ (hget _ _ h1) h2,fun b1 b2 o1 o2 f h1 h2 h3 h4=>n.fu _ _ _ _ _ (hget _ _ h1) (hget _ _ h2) h3 h4,
  fun b1 o1 f k x h1 h2 h3=>n.sk _ _ _ _ _ (hget _ _ h1) h2 h3,fun b1 b2 f k h1=>n.al _ _ _ _ (hget _ _ h1)⟩
def HU.new (n:HU g h){o:ax}(hf:∀f,o.yp=some f->f=h.next)(ho:o.gH=some o):HU g (h.new o):=by
 have hget:∀b1 o1,(h.new o).get b1=some o1->(b1=h.next/\o1=o)\/(b1≠h.next/\h.get b1=some o1):=fun b1 o1 h1=>by
  rw[af.dR]at h1
  by_cases e:b1=h.next
  ·rw[aeZ e]at h1;cases h1;exact .inl ⟨e,rfl⟩
  ·rw[aeX e]at h1;exact .inr ⟨e,h1⟩
 refine⟨fun b1 o1 h1=>?_,fun b x h1=>agb (n.lt b x h1),fun f k x h1=>agb (n.Eh f k x h1),fun b1 o1 f h1 h2=>?_,fun b1 b2 o1 o2 f h1 h2 h3 h4=>?_,fun b1 o1 f k x h1 h2 h3=>?_,fun b1 b2 f k h1=>?_⟩
 ·rcases hget _ _ h1 with ⟨rfl,_⟩| ⟨_,h1⟩
  ·exact Nat.lt_succ_self _
  ·exact agb (n.HY _ _ h1)
 ·rcases hget _ _ h1 with ⟨_,rfl⟩| ⟨_,h1⟩
  ·rw[hf _ h2];exact Nat.lt_succ_self _
  ·exact agb (n.AE _ _ _ h1 h2)
 ·rcases hget _ _ h1 with ⟨h5,rfl⟩| ⟨_,_⟩
  ·rcases hget _ _ h2 with ⟨h6,rfl⟩| ⟨_,h2⟩
   ·rw[h5,h6]
   ·have:=n.AE _ _ _ h2 h4;rw[hf _ h3]at this;exact absurd this (agV _)
  ·rename_i k1
   rcases hget _ _ h2 with ⟨h6,rfl⟩| ⟨_,h2⟩
   ·have:=n.AE _ _ _ k1 h3;rw[hf _ h4]at this;exact absurd this (agV _)
   ·exact n.fu _ _ _ _ _ k1 h2 h3 h4
 ·rcases hget _ _ h1 with ⟨_,rfl⟩| ⟨_,h1⟩
  ·have:=n.Eh _ _ _ h3;rw[hf _ h2]at this;exact absurd this (agV _)
  ·exact n.sk _ _ _ _ _ h1 h2 h3
 ·rcases hget _ _ h1 with ⟨_,e⟩| ⟨_,h1⟩
  ·exact absurd e.symm (ax.zf ho)
  ·exact n.al _ _ _ _ h1
def Gh.ym (g:Gh)(b aA au:Nat):Gh:={g with m:=fun x=>if x=b then some (aA,au)else g.m x}
def Gh.fU (g:Gh)(b aA au:Nat):(g.ym b aA au).m b=some (aA,au):=by simp[Gh.ym]
def Gh.gk (g:Gh){b aA au x:Nat}(e:x≠b):(g.ym b aA au).m x=g.m x:=by simp[Gh.ym,e]
def Gh.X1 (g:Gh){b aA au:Nat}{l:U8}(e:l≠ .aA b):(g.ym b aA au).at l=g.at l:=by
 cases l with
 |aA x=>exact Gh.gk g fun h=>e (by rw[h])
 |el x f k=>rfl
def Gh.HP (g:Gh)(b aA au:Nat):(g.ym b aA au).at (.aA b)=some (aA,au):=Gh.fU g b aA au
def HU.ym (n:HU g h){b aA au:Nat}(hb:b<h.next)(ha:∀b' f k,h.get b≠some (.ql b' f k)):HU (g.ym b aA au) h:=by
 refine⟨n.HY,fun b1 x h1=>?_,n.Eh,n.AE,n.fu,fun b1 o f k x h1 h2 h3=>?_,fun b1 b2 f k h1=>?_⟩
 ·by_cases e:b1=b
  ·rw[e];exact hb
  ·rw[Gh.gk g e]at h1;exact n.lt _ _ h1
 ·obtain⟨k1,y,k2⟩:=n.sk _ _ _ _ _ h1 h2 h3
  refine⟨k1,?_⟩
  by_cases e:b1=b
  ·exact⟨_,by rw[e];exact Gh.fU g b aA au⟩
  ·exact⟨y,by rw[Gh.gk g e];exact k2⟩
 ·by_cases e:b1=b
  ·rw[e]at h1;exact absurd h1 (ha _ _ _)
  ·obtain⟨k1,y,k2⟩:=n.al _ _ _ _ h1
   refine⟨by rw[Gh.gk g e];exact k1,?_⟩
   by_cases e2:b2=b
   ·exact⟨_,by rw[e2];exact Gh.fU g b aA au⟩
   ·exact⟨y,by rw[Gh.gk g e2];exact k2⟩
def af.Bi {b:Nat}{o':ax}(ho:o'.gH=some o'):(h.put b (some o')).at (.aA b)=some o':=af.fJ (by rw[af.fe,aeZ rfl]) ho
def af.PL {b:Nat}{o o':ax}(hb:h.get b=some o)(hf:o.yp=none)(hf':o'.yp=none){l:U8}(e:l≠ .aA b):(h.put b (some o')).at l=h.at l:=by
 cases l with
 |aA x=>
  show ((h.put b (some o')).get x).bind _=(h.get x).bind _
  rw[af.fe,aeX (fun h=>e (by rw[h]))]
 |el x f k=>
  show ((h.put b (some o')).get x).bind (fun o=>o.wA f k)=(h.get x).bind (fun o=>o.wA f k)
  rw[af.fe]
  by_cases e1:x=b
  ·subst e1;rw[aeZ rfl,hb]
   show o'.wA f k=o.wA f k
   rw[ax.E4 hf,ax.E4 hf']
  ·rw[aeX e1]
def af.EL {b:Nat}{l:U8}{o:ax}(e:(h.put b none).at l=some o):h.at l=some o:=by
 cases l with
 |aA x=>
  change ((h.put b none).get x).bind _=_ at e
  rw[af.fe]at e
  by_cases e1:x=b
  ·rw[aeZ e1]at e;cases e
  ·rw[aeX e1]at e;exact e
 |el x f k=>
  change ((h.put b none).get x).bind (fun o=>o.wA f k)=_ at e
  rw[af.fe]at e
  by_cases e1:x=b
  ·rw[aeZ e1]at e;cases e
  ·rw[aeX e1]at e;exact e
def af.PK {b:Nat}{l:U8}{o:ax}(e:(h.put b none).at l=some o):l≠ .aA b:=by
 intro h1;subst h1
 change ((h.put b none).get b).bind _=_ at e
 rw[af.fe,aeZ rfl]at e;cases e
def af.Vr {o:ax}(hf:∀f k,o.wA f k=none){l:U8}{o1:ax}(e:(h.new o).at l=some o1)(hn:l≠ .aA h.next):h.at l=some o1:=by
 cases l with
 |aA x=>
  change ((h.new o).get x).bind _=_ at e
  rw[af.dR,aeX (fun h1=>hn (by rw[h1]))]at e;exact e
 |el x f k=>
  change ((h.new o).get x).bind (fun o=>o.wA f k)=_ at e
  rw[af.dR]at e
  by_cases e1:x=h.next
  ·rw[aeZ e1]at e
   have:=hf f k
   change o.wA f k=_ at e
   rw[this]at e;cases e
  ·rw[aeX e1]at e;exact e
def aR.Kd (hr:aR P g h w){b aA au:Nat}{o o':ax}{co co':Obj}(hb:h.get b=some o)(hm:g.m b=some (aA,au))
 (hco:w.heap[aA]?=some co)(hheap:w'.heap=w.heap.setIfInBounds aA co')(hos:w'.os=w.os/\w'.output=w.output/\w'.tape=w.tape)
 (hshape:∀s,w.shape? aA=some s->w'.shape? aA=some s)
 (ho:eA g w g w'->cL P g w' o' au co')(hf:o.yp=none:=by rfl)(hf':o'.yp=none:=by rfl)(hoo:o.gH=some o:=by rfl)(hoo':o'.gH=some o':=by rfl):
 aR P g (h.put b (some o')) w'/\gN g h w g (h.put b (some o')) w':=by
 have hlt:aA<w.heap.size:=hr.U0 b aA au hm
 have hother:∀c,c≠aA->w'.heap[c]?=w.heap[c]?:=fun c hc=>by
  rw[hheap,afx (by omega)]
 have hsame:w'.heap[aA]?=some co':=by rw[hheap,afi hlt]
 have hsz:w'.heap.size=w.heap.size:=by rw[hheap];simp
 have hnf:¬g.fz aA:=(hr.U2 b o aA au hb hm hoo).1
 have hmono:eA g w g w':=⟨fun _ _ e=>e,fun _ e=>e,fun c hc=>hother c (fun e=>hnf (e▸hc)),fun c s hs=>by
  by_cases e:c=aA
  ·subst e;exact hshape s hs
  ·rw[fS (hother c e)];exact hs,fun _ _ _ e=>e⟩
 have hat:∀l o1,(h.put b (some o')).at l=some o1->(l= .aA b/\o1=o')\/(l≠ .aA b/\h.at l=some o1):=fun l o1 e=>by
  by_cases e1:l= .aA b
  ·subst e1;rw[af.Bi hoo']at e;cases e;exact .inl ⟨rfl,rfl⟩
  ·rw[af.PL hb hf hf' e1]at e;exact .inr ⟨e1,e⟩
 have hbat:=af.fJ hb hoo
 have hold:∀l o1,(h.put b (some o')).at l=some o1->∃o2,h.at l=some o2:=fun l o1 e=>by
  rcases hat l o1 e with ⟨rfl,_⟩| ⟨_,h1⟩
  ·exact⟨o,hbat⟩
  ·exact⟨o1,h1⟩
 refine⟨(hr.nm.put hb hf' hoo').Ln ?_ ?_ ?_ ?_,⟨hmono,by omega,?_,fun c _ hc=>?_,fun _ _ h=> .inl h,afa _,hos⟩⟩
 ·intro l blk1 base1 h1;rw[hsz];exact hr.mR _ _ _ h1
 ·intro l1 l2 blk1 base1 base2 o1 o2 h1 h2 m1 m2
  obtain⟨_,g1⟩:=hold _ _ h1;obtain⟨_,g2⟩:=hold _ _ h2
  exact hr.mS _ _ _ _ _ _ _ g1 g2 m1 m2
 ·intro l o1 blk1 base1 h1 m1
  rcases hat l o1 h1 with ⟨rfl,rfl⟩| ⟨hne,h1⟩
  ·change g.m b=_ at m1
   rw[hm]at m1;cases m1
   exact⟨hnf,co',hsame,ho hmono⟩
  ·obtain⟨n1,o2,ho2,hr2⟩:=hr.pZ _ _ _ _ h1 m1
   have hne:blk1≠aA:=fun ee=>hne (hr.mS _ _ _ _ _ _ _ h1 hbat (ee▸m1) hm)
   exact⟨n1,o2,(hother _ hne).trans ho2,hr2.mono hmono⟩
 ·intro c hc;rw[hsz];exact hr.lF c hc
 ·intro c hc hno
  exact hother c (fun e=>hno ⟨.aA b,o,au,hbat,e▸hm⟩)
 ·obtain⟨l,o1,base1,hl,hm1⟩:=hc
  obtain⟨o2,h2⟩:=hold _ _ hl
  exact⟨l,o2,base1,h2,hm1⟩
def eA.push (hr:aR P g h w){b:Nat}(hm:g.m b=none){co:Obj}(hheap:w'.heap=w.heap.push co)(au:Nat):
 eA g w (g.ym b w.heap.size au) w':=
 ⟨fun b1 x h1=>by rw[Gh.gk g (fun e=>by subst e;rw[hm]at h1;cases h1)];exact h1,fun _ e=>e,
   fun c hc=>by rw[hheap];have:=hr.lF c hc;rw[agK];rw[aeX (by omega)],
   fun c s hs=>by
    have hc:c<w.heap.size:=by
     unfold World.shape? at hs
     cases e:w.heap[c]? with
     |none=>rw[e]at hs;cases hs
     |some _=>exact(aff.1 e).1
    rw[fS (w:=w)]
    ·exact hs
    ·rw[hheap,agK,aeX (by omega)],fun _ _ _ e=>e⟩
def aR.real (hr:aR P g h w){b:Nat}{o:ax}{co:Obj}(hb:h.get b=some o)(hm:g.m b=none)
 (hheap:w'.heap=w.heap.push co)(hos:w'.os=w.os/\w'.output=w.output/\w'.tape=w.tape)
 (ho:eA g w (g.ym b w.heap.size 0) w'->cL P (g.ym b w.heap.size 0) w' o 0 co)(hoo:o.gH=some o:=by rfl):
 aR P (g.ym b w.heap.size 0) h w'/\gN g h w (g.ym b w.heap.size 0) h w':=by
 have hmono:=eA.push hr hm hheap 0
 have hother:∀c,c<w.heap.size->w'.heap[c]?=w.heap[c]?:=fun c hc=>by rw[hheap,agK,aeX (by omega)]
 have hsz:w'.heap.size=w.heap.size+1:=by rw[hheap];simp
 have hcase:∀l blk1 base1,(g.ym b w.heap.size 0).at l=some (blk1,base1)->(l= .aA b/\blk1=w.heap.size/\base1=0)\/(l≠ .aA b/\g.at l=some (blk1,base1)):=fun l blk1 base1 h1=>by
  by_cases e:l= .aA b
  ·subst e;rw[Gh.HP]at h1;cases h1;exact .inl ⟨rfl,rfl,rfl⟩
  ·rw[Gh.X1 g e]at h1;exact .inr ⟨e,h1⟩
 refine⟨(hr.nm.ym (hr.HY _ _ hb) (fun b' f k e=>by rw[hb]at e;cases e;cases hoo)).Ln ?_ ?_ ?_ ?_,⟨hmono,by omega,fun c hc _=>hother c hc,?_,fun _ _ h=> .inl h,afa _,hos⟩⟩
 ·intro l blk1 base1 h1
  rcases hcase _ _ _ h1 with ⟨_,rfl,_⟩| ⟨_,h1⟩
  ·omega
  ·have:=hr.mR _ _ _ h1;omega
 ·intro l1 l2 blk1 base1 base2 o1 o2 h1 h2 m1 m2
  rcases hcase _ _ _ m1 with ⟨rfl,rfl,_⟩| ⟨_,m1⟩
  ·rcases hcase _ _ _ m2 with ⟨rfl,_,_⟩| ⟨_,m2⟩
   ·rfl
   ·have:=hr.mR _ _ _ m2;omega
  ·rcases hcase _ _ _ m2 with ⟨rfl,rfl,_⟩| ⟨_,m2⟩
   ·have:=hr.mR _ _ _ m1;omega
   ·exact hr.mS _ _ _ _ _ _ _ h1 h2 m1 m2
 ·intro l o1 blk1 base1 h1 m1
  rcases hcase _ _ _ m1 with ⟨rfl,rfl,rfl⟩| ⟨_,m1⟩
  ·rw[af.fJ hb hoo]at h1;cases h1
   exact⟨fun hf=>by have:=hr.lF _ hf;omega,co,by rw[hheap];simp,ho hmono⟩
  ·obtain⟨n1,o2,ho2,hr2⟩:=hr.pZ _ _ _ _ h1 m1
   exact⟨n1,o2,(hother _ (hr.mR _ _ _ m1)).trans ho2,hr2.mono hmono⟩
 ·intro c hc;have:=hr.lF c hc;omega
 ·rintro c hc ⟨l,o1,base1,hl,hm1⟩
  rcases hcase _ _ _ hm1 with ⟨_,rfl,_⟩| ⟨_,hm1⟩
  ·omega
  ·exact⟨l,o1,base1,hl,hm1⟩
def aR.v7 (hr:aR P g h w):g.m h.next=none:=by
 cases e:g.m h.next with
 |none=>rfl
 |some x=>exact absurd (hr.lt _ _ e) (agV _)
structure mv (n:Nat)(o:ax):Prop where
 yp:∀f,o.yp=some f->f=n
 wA:∀f k,o.wA f k=none
 gH:o.gH=some o
def mv.bare {n:Nat}{o:ax}(hf:o.yp=none)(ho:o.gH=some o):mv n o:=⟨fun f e=>(by rw[hf]at e;cases e),ax.E4 hf,ho⟩
def mv.map (n kt e c:Nat):mv n (.bo kt (.cp n e) [] [] c):=⟨fun f h=>(by cases h;rfl),fun f k=>(by
 simp only[ax.wA]
 split
 ·rfl
 ·rfl),rfl⟩
def aR.Kp (hr:aR P g h w)(o:ax)(hno:mv h.next o:=by exact mv.bare rfl rfl):aR P g (h.new o) w/\gN g h w g (h.new o) w:=by
 obtain⟨hf,hf',hoo⟩:=hno
 have hat:∀l o1 aA au,(h.new o).at l=some o1->g.at l=some (aA,au)->h.at l=some o1:=fun l o1 aA au h1 m1=>
  af.Vr hf' h1 (fun e=>by subst e;have:g.m h.next=some (aA,au):=m1;rw[hr.v7]at this;cases this)
 refine⟨(hr.nm.new hf hoo).Ln hr.mR ?_ ?_ hr.lF,⟨eA.refl g w,afa _,fun _ _ _=>rfl,?_,fun _ _ h=> .inl h,by simp,rfl,rfl,rfl⟩⟩
 ·intro l l' aA au base' o1 o2 h1 h2 m1 m2
  exact hr.mS _ _ _ _ _ _ _ (hat _ _ _ _ h1 m1) (hat _ _ _ _ h2 m2) m1 m2
 ·intro l o1 aA au h1 m1
  exact hr.pZ _ _ _ _ (hat _ _ _ _ h1 m1) m1
 ·rintro c _ ⟨l,o1,base1,hl,hm1⟩
  exact⟨l,o1,base1,hat _ _ _ _ hl hm1,hm1⟩
def aR.drop (hr:aR P g h w)(b:Nat):aR P g (h.put b none) w/\gN g h w g (h.put b none) w:=by
 refine⟨(hr.nm.drop b).Ln hr.mR ?_ ?_ hr.lF,⟨eA.refl g w,afa _,fun _ _ _=>rfl,?_,fun _ _ h=> .inl h,afa _,rfl,rfl,rfl⟩⟩
 ·intro l1 l2 aA au base' o1 o2 h1 h2 m1 m2
  exact hr.mS _ _ _ _ _ _ _ (af.EL h1) (af.EL h2) m1 m2
 ·intro l o1 aA au h1 m1;exact hr.pZ _ _ _ _ (af.EL h1) m1
 ·rintro c _ ⟨l,o1,base1,hl,hm1⟩;exact⟨l,o1,base1,af.EL hl,hm1⟩
def aR.same (hr:aR P g h w)(hheap:w'.heap=w.heap)(hos:w'.os=w.os/\w'.output=w.output/\w'.tape=w.tape):aR P g h w'/\gN g h w g h w':=by
 have hmono:eA g w g w':=⟨fun _ _ e=>e,fun _ e=>e,fun c _=>by rw[hheap],fun c s hs=>by rw[fS (w:=w) (by rw[hheap])];exact hs,fun _ _ _ e=>e⟩
 refine⟨hr.nm.Ln (fun b x y e=>by rw[hheap];exact hr.mR b x y e) hr.mS ?_ (fun c hc=>by rw[hheap];exact hr.lF c hc),
  ⟨hmono,by rw[hheap];exact afa _,fun c _ _=>by rw[hheap],fun _ _ e=>e,fun _ _ h=> .inl h,afa _,hos⟩⟩
 intro l o aA au h1 m1
 obtain⟨n,o',ho,hr'⟩:=hr.pZ _ _ _ _ h1 m1
 exact⟨n,o',by rw[hheap];exact ho,hr'.mono hmono⟩
def aR.move (hr:aR P g h w){b aA au off:Nat}{o o':ax}{co co':Obj}(hb:h.get b=some o)(hm:g.m b=some (aA,au))
 (hco:w.heap[aA]?=some co)(hheap:w'.heap=w.heap.setIfInBounds aA co')(hos:w'.os=w.os/\w'.output=w.output/\w'.tape=w.tape)
 (hshape:∀s,w.shape? aA=some s->w'.shape? aA=some s)
 (ho:eA g w (g.ym h.next aA (au+off)) w'->cL P (g.ym h.next aA (au+off)) w' o' (au+off) co')(hf:o.yp=none:=by rfl)(hf':o'.yp=none:=by rfl)(hoo:o.gH=some o:=by rfl)(hoo':o'.gH=some o':=by rfl):
 aR P (g.ym h.next aA (au+off)) ((h.put b none).new o') w'/\gN g h w (g.ym h.next aA (au+off)) ((h.put b none).new o') w':=by
 have hn:g.m h.next=none:=hr.v7
 have hlt:aA<w.heap.size:=hr.U0 b aA au hm
 have hother:∀c,c≠aA->w'.heap[c]?=w.heap[c]?:=fun c hc=>by
  rw[hheap,afx (by omega)]
 have hsame:w'.heap[aA]?=some co':=by rw[hheap,afi hlt]
 have hsz:w'.heap.size=w.heap.size:=by rw[hheap];simp
 have hnf:¬g.fz aA:=(hr.U2 b o aA au hb hm hoo).1
 have hbat:=af.fJ hb hoo
 have hmono:eA g w (g.ym h.next aA (au+off)) w':=⟨fun b1 x h1=>by rw[Gh.gk g (fun e=>by subst e;rw[hn]at h1;cases h1)];exact h1,fun _ e=>e,
  fun c hc=>hother c (fun e=>hnf (e▸hc)),fun c s hs=>by
  by_cases e:c=aA
  ·subst e;exact hshape s hs
  ·rw[fS (hother c e)];exact hs,fun _ _ _ e=>e⟩
 have hget:∀l o1,((h.put b none).new o').at l=some o1->l≠ .aA h.next->l≠ .aA b/\h.at l=some o1:=fun l o1 h1 e=>by
  have h2:=af.Vr (fun f k=>ax.E4 hf' f k) h1 (by simpa using e)
  exact⟨af.PK h2,af.EL h2⟩
 have hnew:((h.put b none).new o').at (.aA h.next)=some o':=af.fJ (by rw[af.dR,aeZ (by simp)]) hoo'
 have hcase:∀l blk1 base1,(g.ym h.next aA (au+off)).at l=some (blk1,base1)->(l= .aA h.next/\blk1=aA/\base1=au+off)\/(l≠ .aA h.next/\g.at l=some (blk1,base1)):=fun l blk1 base1 h1=>by
  by_cases e:l= .aA h.next
  ·subst e;rw[Gh.HP]at h1;cases h1;exact .inl ⟨rfl,rfl,rfl⟩
  ·rw[Gh.X1 g e]at h1;exact .inr ⟨e,h1⟩
 have hnm:HU (g.ym h.next aA (au+off)) ((h.put b none).new o'):=
  ((hr.nm.drop b).new (fun f e=>by rw[hf']at e;cases e) hoo').ym (by simp) (fun b' f k e=>by rw[af.dR,aeZ (by simp)]at e;cases e;cases hoo')
 refine⟨hnm.Ln ?_ ?_ ?_ ?_,⟨hmono,by omega,?_,fun c _ hc=>?_,fun _ _ h=> .inl h,by simp,hos⟩⟩
 ·intro l blk1 base1 h1
  rw[hsz]
  rcases hcase _ _ _ h1 with ⟨_,rfl,_⟩| ⟨_,h1⟩
  ·exact hlt
  ·exact hr.mR _ _ _ h1
 ·intro l1 l2 blk1 base1 base2 o1 o2 h1 h2 m1 m2
  rcases hcase _ _ _ m1 with ⟨rfl,rfl,_⟩| ⟨e1,m0⟩
  ·rcases hcase _ _ _ m2 with ⟨rfl,_,_⟩| ⟨e2,m2⟩
   ·rfl
   ·obtain⟨n2,g2⟩:=hget _ _ h2 e2
    exact absurd (hr.mS _ _ _ _ _ _ _ g2 hbat m2 hm) n2
  ·obtain⟨n1,g1⟩:=hget _ _ h1 e1
   have m1':=m0
   rcases hcase _ _ _ m2 with ⟨rfl,rfl,_⟩| ⟨e2,m2⟩
   ·exact absurd (hr.mS _ _ _ _ _ _ _ g1 hbat m1' hm) n1
   ·exact hr.mS _ _ _ _ _ _ _ g1 (hget _ _ h2 e2).2 m1' m2
 ·intro l o1 blk1 base1 h1 m1
  rcases hcase _ _ _ m1 with ⟨rfl,rfl,rfl⟩| ⟨e,m1⟩
  ·rw[hnew]at h1;cases h1
   exact⟨hnf,co',hsame,ho hmono⟩
  ·obtain⟨n1,g1⟩:=hget _ _ h1 e
   obtain⟨f1,o2,ho2,hr2⟩:=hr.pZ _ _ _ _ g1 m1
   have hne:blk1≠aA:=fun ee=>n1 (hr.mS _ _ _ _ _ _ _ g1 hbat (ee▸m1) hm)
   exact⟨f1,o2,(hother _ hne).trans ho2,hr2.mono hmono⟩
 ·intro c hc;rw[hsz];exact hr.lF c hc
 ·intro c hc hno
  exact hother c (fun e=>hno ⟨.aA b,o,au,hbat,e▸hm⟩)
 ·obtain⟨l,o1,base1,hl,hm1⟩:=hc
  rcases hcase _ _ _ hm1 with ⟨_,rfl,_⟩| ⟨e,hm1⟩
  ·exact⟨.aA b,o,au,hbat,hm⟩
  ·exact⟨l,o1,base1,(hget _ _ hl e).2,hm1⟩
end
def eP (c:Array Value)(k:Nat):List Value->Array Value
 | []=>c
 |v::r=>eP (c.setIfInBounds k v) (k+1) r
@[simp] def jd (c:Array Value)(k:Nat)(vs:List Value):(eP c k vs).size=c.size:=by
 induction vs generalizing c k with
 |nil=>rfl
 |cons v r ih=>simp[eP,ih]
def tS (vs:List Value):∀(c:Array Value) (k j:Nat),k+vs.length<=c.size->(eP c k vs)[j]?=if k<=j/\j<k+vs.length then vs[j-k]? else c[j]?:=by
 induction vs with
 |nil=>intro c k j _;simp only[eP,afX,af6];rw[aeX (by omega)]
 |cons v r ih=>
  intro c k j hk
  simp only[ae9]at hk
  simp only[eP]
  rw[ih _ _ _ (by simp;omega)]
  by_cases h1:k+1<=j/\j<k+1+r.length
  ·rw[aeZ h1,aeZ (by simp only[ae9];omega)]
   rw[show j-k=(j-(k+1))+1 by omega,af7]
  ·rw[aeX h1]
   by_cases h2:j=k
   ·subst h2;rw[aeZ (by simp only[ae9];omega),afi (by omega)];simp
   ·rw[afx (by omega),aeX (by simp only[ae9];omega)]
def Q7 {w:World}{aA off:Nat}{c:Array Value}{e:TypeId}{fr:Nat×Nat}(h:w.heap[aA]?=some (.cells c e fr))(v:Value):
 w.setCell ⟨aA,off,none⟩ v=w.dL aA (.cells (c.setIfInBounds off v) e fr):=by
 obtain⟨hlt,hc⟩:=aff.1 h
 unfold World.setCell World.dL
 congr 1
 apply agQ
 intro i
 rw[aht]
 by_cases e:aA=i
 ·subst e;rw[aeZ rfl,afi hlt,h];rfl
 ·rw[aeX e,afx e]
def Kz (w:World)(r:Nat)(o o':Obj):(w.dL r o).dL r o'=w.dL r o':=by
 unfold World.dL
 congr 1
 apply agQ
 intro i
 by_cases e:r=i
 ·subst e;simp[ahD]
 ·simp[e]
def ek {w:World}{r:Nat}{o':Obj}(h:r<w.heap.size):(w.dL r o').heap[r]?=some o':=by
 unfold World.dL;exact afi h
def hZ {P:Program}(aA off:Nat)(e:TypeId)(lo hi:Nat):∀(vs:List Value) (i:Nat) (c:Array Value) (w:World),
 w.heap[aA]?=some (.cells c e (lo,hi))->off+i+vs.length<=c.size->(∀v∈vs,v.oneCell'=true)->(∀j,j<c.size->¬(lo<=j/\j<hi))->
 (storeCells ⟨aA,off,none⟩ vs i).run P w= .ok () (w.dL aA (.cells (eP c (off+i) vs) e (lo,hi))):=by
 intro vs
 induction vs with
 |nil=>
  intro i c w h _ _ _
  simp only[storeCells,Sem.run_pure,eP]
  congr 1
  unfold World.dL
  obtain⟨hlt,hc⟩:=aff.1 h
  have:w.heap.setIfInBounds aA (.cells c e (lo,hi))=w.heap:=by
   apply agQ
   intro j
   by_cases ej:aA=j
   ·subst ej;rw[afi hlt,h]
   ·rw[afx ej]
  rw[this]
 |cons v r ih=>
  intro i c w h hb ho hf
  simp only[ae9]at hb
  have hlt:=(aff.1 h).1
  have ha:(Addr.add ⟨aA,off,none⟩ i)=⟨aA,off+i,none⟩:=by
   unfold Addr.add;by_cases hi:i=0
   ·subst hi;simp
   ·simp[hi]
  have hcell:w.cell? ⟨aA,off+i,none⟩=some (c[off+i]'(by omega)):=by
   simp[World.cell?,h,show off+i<c.size by omega]
  have hfr:w.frozen? ⟨aA,off+i,none⟩=false:=by
   have:=hf (off+i) (by omega)
   simp only[World.frozen?,h]
   simpa using this
  simp only[storeCells,Sem.run_bind,ha,run_store P w _ v _ (ho v (by simp)),hcell,hfr,ae0,afS,Result.andThen_ok]
  rw[Q7 h,ih (i+1) (c.setIfInBounds (off+i) v) _ (ek hlt) (by simp;omega) (fun v hv=>ho v (by simp[hv])) (by simpa using hf),Kz]
  simp only[eP,agj]
def nK {P:Program}{w:World}{aA off n:Nat}(vs:List Value)(hn:vs.length=n)(h:ep w aA off vs):
 (loadCells ⟨aA,off,none⟩ n).run P w= .ok vs.toArray w:=by
 subst hn
 refine run_loadCells_list w _ vs fun j v hj=>?_
 have:(Addr.add ⟨aA,off,none⟩ j)=⟨aA,off+j,none⟩:=by
  unfold Addr.add;by_cases hi:j=0
  ·subst hi;simp
  ·simp[hi]
 rw[this];exact h j v hj
def kJ (aA off n:Nat):(Addr.add ⟨aA,off,none⟩ n)=⟨aA,off+n,none⟩:=by
 unfold Addr.add;by_cases hi:n=0
 ·subst hi;simp
 ·simp[hi]
end
section
section
variable {P:Program} {g:Gh} {h:af} {w w':World}
def J2 {S:TypeId->D->List BV}(hS:∀t d d',(S t d).length=(S t d').length):∀(fs:List Field) (i:Nat) (d d':D),(gi S fs i d).length=(gi S fs i d').length:=by
 intro fs
 induction fs with
 |nil=>intros;rfl
 |cons f r ih=>intro i d d';simp only[gi,ae4];rw[hS f.type (d.ae i) (d'.ae i),ih (i+1) d d']
def KG:∀(n:Nat) (t:TypeId) (d d':D),(dw P n t d).length=(dw P n t d').length:=by
 intro n
 induction n with
 |zero=>intros;rfl
 |succ n ih=>
  intro t d d'
  simp only[dw]
  cases hu:P.underlying t with
  |none=>rfl
  |some td=>cases td<;>first|rfl|exact J2 ih _ _ _ _
def ak.F9 {as bs:List BV}{vs:List Value}(h:ak P g w (as++bs) vs):∃us xs,vs=us++xs/\ak P g w as us/\ak P g w bs xs:=by
 refine⟨vs.take as.length,vs.drop as.length,(agW _ _).symm,?_,?_⟩
 ·simpa using h.take as.length
 ·simpa using h.drop as.length
def acr {n:Nat}(ih:∀{t:TypeId} {d:D} {cs:List Value},yY P n t=true->mW P g.fz w t d cs->ak P g w (dw P n t d) cs)(d:D):
 ∀(fs:List Field) (i:Nat) (css:List (List Value)),GA (yY P n) fs=true->css.length=fs.length->(∀j f cs,fs[j]?=some f->css[j]?=some cs->mW P g.fz w f.type (d.ae (i+j)) cs)->
  ak P g w (gi (dw P n) fs i d) css.flatten:=by
 intro fs
 induction fs with
 |nil=>
  intro i css _ hl _
  have:css=[]:=afr.1 (by simpa using hl)
  subst this;exact ak.nil
 |cons f r ihr=>
  intro i css hf hl hi
  cases css with
  |nil=>simp at hl
  |cons c cr=>
   simp only[GA,aeV]at hf
   simp only[gi,ahn]
   refine(ih hf.1 (hi 0 f c (by simp) (by simp))).append (ihr (i+1) cr hf.2 (by simpa using hl) fun j f' cs hj hc=>?_)
   have:=hi (j+1) f' cs (by simpa using hj) (by simpa using hc)
   rwa [show i+(j+1)=i+1+j by omega]at this
def mW.Ln:∀(n:Nat) {t:TypeId} {d:D} {cs:List Value},yY P n t=true->mW P g.fz w t d cs->ak P g w (dw P n t d) cs:=by
 intro n
 induction n with
 |zero=>intro t d cs hf;simp[yY]at hf
 |succ n ih=>
  intro t d cs hf h
  simp only[yY]at hf
  cases h with
  |int hu=>simp only[dw,hu];exact ak.cons (by simp[ai]) ak.nil
  |bool hu=>simp only[dw,hu];exact ak.cons (by simp[ai]) ak.nil
  |bj hu=>simp only[dw,hu];exact ak.cons (by simp[ai]) ak.nil
  |bJ hu h0=>simp only[dw,hu];exact ak.cons (by simp only[ai];exact .inl ⟨h0,.inl trivial⟩) ak.nil
  |empty hu h0 a c=>simp only[dw,hu];exact ak.cons (by simp only[ai];exact .inl ⟨h0,.inr ⟨a,c,rfl⟩⟩) ak.nil
  |slice hu aA off c vs hb hc hl hi hat=>simp only[dw,hu];exact ak.cons (by simp only[ai];exact .inr ⟨aA,off,c,rfl,hc,hb,vs,⟨hl,hi⟩,hat⟩) ak.nil
  |struct hu css hl hi=>
   simp only[hu]at hf
   simp only[dw,hu]
   exact acr ih d _ 0 css hf hl (by simpa using hi)
def ad9 {n:Nat}(ih:∀{t:TypeId} {d:D} {cs:List Value},yY P n t=true->ak P g w (dw P n t d) cs->mW P g.fz w t d cs)(d:D):
 ∀(fs:List Field) (i:Nat) (cs:List Value),GA (yY P n) fs=true->ak P g w (gi (dw P n) fs i d) cs->
  ∃css:List (List Value),css.length=fs.length/\cs=css.flatten/\∀j f c,fs[j]?=some f->css[j]?=some c->mW P g.fz w f.type (d.ae (i+j)) c:=by
 intro fs
 induction fs with
 |nil=>intro i cs _ hv;simp only[gi,ak]at hv;subst hv;exact⟨[],rfl,rfl,fun j f c hj=>by simp at hj⟩
 |cons f r ihr=>
  intro i cs hf hv
  simp only[GA,aeV]at hf
  simp only[gi]at hv
  obtain⟨us,xs,rfl,h1,h2⟩:=hv.F9
  obtain⟨css,k1,k2,k3⟩:=ihr (i+1) xs hf.2 h2
  refine⟨us::css,by simp[k1],by simp[k2],fun j f' c hj hc=>?_⟩
  cases j with
  |zero=>simp at hj hc;subst hj;subst hc;exact ih hf.1 h1
  |succ j=>
   have:=k3 j f' c (by simpa using hj) (by simpa using hc)
   rwa [show i+1+j=i+(j+1)by omega]at this
def mW.of:∀(n:Nat) {t:TypeId} {d:D} {cs:List Value},yY P n t=true->ak P g w (dw P n t d) cs->mW P g.fz w t d cs:=by
 intro n
 induction n with
 |zero=>intro t d cs hf;simp[yY]at hf
 |succ n ih=>
  intro t d cs hf h
  simp only[yY]at hf
  simp only[dw]at h
  cases hu:P.underlying t with
  |none=>simp[hu]at hf
  |some td=>
   simp only[hu]at hf h
   cases td with
   |int k=>obtain⟨v,rfl,hv⟩:=h.one;simp only[ai]at hv;subst hv;exact .int hu
   |bool=>obtain⟨v,rfl,hv⟩:=h.one;simp only[ai]at hv;subst hv;exact .bool hu
   |string=>obtain⟨v,rfl,hv⟩:=h.one;simp only[ai]at hv;subst hv;exact .bj hu
   |slice e=>
    obtain⟨v,rfl,hv⟩:=h.one
    simp only[ai]at hv
    rcases hv with ⟨h0,rfl| ⟨a,c,rfl⟩⟩| ⟨aA,off,c,rfl,hc,hb,vs,⟨hl,hi⟩,hat⟩
    ·exact .bJ hu h0
    ·exact .empty hu h0 a c
    ·exact .slice hu aA off c vs hb hc hl hi hat
   |struct fs=>
    obtain⟨css,k1,rfl,k3⟩:=ad9 ih d _ 0 cs hf h
    exact .struct hu css k1 (by simpa using k3)
   |_=>simp at hf
def eD {t:TypeId}(h:cy P t=true):yY P 8 t=true/\ia P t=some (P.cellsOf t)/\0<P.cellsOf t/\∀d,(aK P t d).length=P.cellsOf t:=by
 simp only[cy,aeV]at h
 obtain⟨h1,h2⟩:=h
 split at h2
 ·rename_i n hn
  simp only[aeV]at h2
  have hc:P.cellsOf t=n:=by
   unfold ia at hn
   simp only[afz]at hn
   obtain⟨i,hi,rfl⟩:=hn
   simp[Program.cellsOf,hi]
  have h0:0<n:=by have:=h2.1;simp[Nat.blt]at this;omega
  have hl:(aK P t (.z 0)).length=n:=ae8 h2.2
  rw[hc]
  exact⟨h1,hn,h0,fun d=>(KG 8 t d (.z 0)).trans hl⟩
 ·cases h2
def mW.shape {t:TypeId}{d:D}{cs:List Value}(hd:cy P t=true)(h:mW P g.fz w t d cs):ak P g w (aK P t d) cs:=mW.Ln 8 (eD hd).1 h
def mW.ZS {t:TypeId}{d:D}{cs:List Value}(hd:cy P t=true)(h:ak P g w (aK P t d) cs):mW P g.fz w t d cs:=mW.of 8 (eD hd).1 h
def mW.length {fz:Nat->Prop}{t:TypeId}{d:D}{cs:List Value}(hd:cy P t=true)(h:mW P fz w t d cs):cs.length=P.cellsOf t:=by
 have:=(mW.shape (g:=⟨fun _=>none,fz,fun _ _=>none⟩) hd h).length
 rw[this];exact(eD hd).2.2.2 d
def O2 {S:TypeId->D->List BV}(hS:∀t d,(S t d).all BV.one=true):∀(fs:List Field) (i:Nat) (d:D),(gi S fs i d).all BV.one=true:=by
 intro fs
 induction fs with
 |nil=>intros;rfl
 |cons f r ih=>intro i d;simp only[gi,ahE,hS,ih,ahb]
def Q8:∀(n:Nat) (t:TypeId) (d:D),(dw P n t d).all BV.one=true:=by
 intro n
 induction n with
 |zero=>intros;rfl
 |succ n ih=>
  intro t d
  simp only[dw]
  cases P.underlying t with
  |none=>rfl
  |some td=>cases td<;>first|rfl|exact O2 ih _ _ _
def PX {e:TypeId}(l:List D):(x9 P e l).all BV.one=true:=by
 unfold x9
 rw[List.all_flatMap]
 exact afK.2 fun d _=>Q8 8 e d
def PW (e:TypeId):x9 P e []=[]:=rfl
def Hg (e:TypeId)(x:D)(l:List D):x9 P e (x::l)=aK P e x++x9 P e l:=rfl
def cD.nil {fz:Nat->Prop}{e:TypeId}:cD P fz w e [] []:=⟨by simp,fun i x hx=>by simp at hx⟩
def cD.cons {fz:Nat->Prop}{e:TypeId}{x:D}{l:List D}{cs vs:List Value}(hc:cs.length=P.cellsOf e)(hx:mW P fz w e x cs)(h:cD P fz w e l vs):cD P fz w e (x::l) (cs++vs):=by
 refine⟨by rw[ae4,hc,h.1,ae9,agi,agP,agR],fun i y hy=>?_⟩
 cases i with
 |zero=>
  simp at hy;subst hy
  rw[ahH,agO,<-hc,List.take_left];exact hx
 |succ i=>
  have:=h.2 i y (by simpa using hy)
  rw[show (i+1)*P.cellsOf e=cs.length+i*P.cellsOf e by rw[hc,agi,agP,agR],ahV]
  rwa [ah0 (by omega),agv,ahh]
def cD.acA {fz:Nat->Prop}{e:TypeId}{x:D}{l:List D}{vs:List Value}(h:cD P fz w e (x::l) vs):
 mW P fz w e x (vs.take (P.cellsOf e))/\cD P fz w e l (vs.drop (P.cellsOf e)):=by
 have hl:=h.1
 rw[ae9,agi,agP]at hl
 refine⟨by simpa using h.2 0 x (by simp),by rw[agy,hl];omega,fun i y hy=>?_⟩
 have:=h.2 (i+1) y (by simpa using hy)
 rwa [show (i+1)*P.cellsOf e=P.cellsOf e+i*P.cellsOf e by rw[agi,agP,agR],<-agk]at this
def wP {e:TypeId}(hd:cy P e=true):∀(l:List D) (vs:List Value),cD P g.fz w e l vs↔ak P g w (x9 P e l) vs:=by
 intro l
 induction l with
 |nil=>
  intro vs
  simp only[PW,ak]
  exact⟨fun h=>afr.1 (by simpa using h.1),fun h=>h▸cD.nil⟩
 |cons x l ih=>
  intro vs
  have hsz:=(eD hd).2.2.2 x
  constructor
  ·intro h
   obtain⟨h1,h2⟩:=h.acA
   have:=(mW.shape hd h1).append ((ih _).1 h2)
   rwa [agW]at this
  ·intro h
   rw[Hg]at h
   obtain⟨us,xs,rfl,h1,h2⟩:=h.F9
   exact cD.cons (h1.length.trans hsz) (mW.ZS hd h1) ((ih _).2 h2)
def cD.append {fz:Nat->Prop}{e:TypeId}{l m:List D}{us vs:List Value}(h:cD P fz w e l us)(k:cD P fz w e m vs):cD P fz w e (l++m) (us++vs):=by
 refine⟨by rw[ae4,h.1,k.1,ae4,agi],fun i x hx=>?_⟩
 rw[afG]at hx
 have hul:=h.1
 split at hx
 ·rename_i hlt
  have h1:=h.2 i x hx
  have hle:i*P.cellsOf e+P.cellsOf e<=us.length:=by
   rw[hul,show i*P.cellsOf e+P.cellsOf e=(i+1)*P.cellsOf e by rw[agi,agP]]
   exact afR _ hlt
  rwa [ahV,show i*P.cellsOf e-us.length=0 by omega,agO,List.take_append,agy,show P.cellsOf e-(us.length-i*P.cellsOf e)=0 by omega,ahL,afU]
 ·rename_i hge
  have h1:=k.2 (i-l.length) x hx
  have hle:us.length<=i*P.cellsOf e:=by rw[hul];exact afR _ (by omega)
  rw[ahV,ah0 hle,agv,hul,<-aiG]
  exact h1
def cD.take {fz:Nat->Prop}{e:TypeId}{l:List D}{vs:List Value}(n:Nat)(h:cD P fz w e l vs):cD P fz w e (l.take n) (vs.take (n*P.cellsOf e)):=by
 have hl:=h.1
 refine⟨by
  rw[afC,afC,hl]
  rcases Nat.le_total n l.length with a|a
  ·rw[agn a,agn (afR _ a)]
  ·rw[Nat.min_eq_right a,Nat.min_eq_right (afR _ a)],fun i x hx=>?_⟩
 rw[afA]at hx
 split at hx
 ·rename_i hlt
  have h1:=h.2 i x hx
  rw[List.drop_take,ain,<-aiG]
  have:P.cellsOf e<=(n-i)*P.cellsOf e:=Nat.le_mul_of_pos_left _ (by omega)
  rw[agn this];exact h1
 ·cases hx
def cD.drop {fz:Nat->Prop}{e:TypeId}{l:List D}{vs:List Value}(n:Nat)(h:cD P fz w e l vs):cD P fz w e (l.drop n) (vs.drop (n*P.cellsOf e)):=by
 have hl:=h.1
 refine⟨by rw[agy,agy,hl,<-aiG],fun i x hx=>?_⟩
 rw[afZ]at hx
 have h1:=h.2 (n+i) x hx
 rwa [agk,<-agi]
def ael {n:Nat}(ih:∀{t:TypeId} {cs r:List BV} {d:D},Yz P n t cs=some (d,r)->∃c1,cs=c1++r/\∀vs,ak P g w c1 vs->mW P g.fz w t d vs):
 ∀(fs:List Field) (cs r:List BV) (ds:List D),Pk (Yz P n) fs cs=some (ds,r)->∃cc:List (List BV),cs=cc.flatten++r/\cc.length=fs.length/\
  ∀j f c,fs[j]?=some f->cc[j]?=some c->∀vs,ak P g w c vs->mW P g.fz w f.type (D.at ds j) vs:=by
 intro fs
 induction fs with
 |nil=>intro cs r ds e;simp only[Pk,ae3,afQ]at e;obtain⟨rfl,rfl⟩:=e;exact⟨[],by simp,rfl,fun j f c hj=>by simp at hj⟩
 |cons f fr ihr=>
  intro cs r ds e
  simp only[Pk]at e
  split at e
  ·rename_i d cs1 h1
   split at e
   ·rename_i dr cs2 h2
    cases e
    obtain⟨c1,rfl,k1⟩:=ih h1
    obtain⟨cc,rfl,k2,k3⟩:=ihr _ _ _ h2
    refine⟨c1::cc,by simp,by simp[k2],fun j f' c hj hc vs hv=>?_⟩
    cases j with
    |zero=>simp at hj hc;subst hj;subst hc;exact k1 vs hv
    |succ j=>exact k3 j f' c (by simpa using hj) (by simpa using hc) vs hv
   ·cases e
  ·cases e
def ak.Ls:∀(cc:List (List BV)) (vs:List Value),ak P g w cc.flatten vs->∃vv:List (List Value),vs=vv.flatten/\vv.length=cc.length/\∀(j:Nat) (c:List BV) (u:List Value),cc[j]?=some c->vv[j]?=some u->ak P g w c u:=by
 intro cc
 induction cc with
 |nil=>intro vs h;simp only[List.flatten_nil,ak]at h;subst h;exact⟨[],rfl,rfl,fun j c u (hj:([]:List (List BV))[j]?=some c) _=>by simp at hj⟩
 |cons c cc ih=>
  intro vs h
  rw[ahn]at h
  obtain⟨us,xs,rfl,h1,h2⟩:=h.F9
  obtain⟨vv,rfl,k1,k2⟩:=ih _ h2
  refine⟨us::vv,by simp,by simp[k1],fun j c' u hj hu=>?_⟩
  cases j with
  |zero=>simp at hj hu;subst hj;subst hu;exact h1
  |succ j=>exact k2 j c' u (by simpa using hj) (by simpa using hu)
def acz:∀(n:Nat) {t:TypeId} {cs r:List BV} {d:D},Yz P n t cs=some (d,r)->∃c1,cs=c1++r/\∀vs,ak P g w c1 vs->mW P g.fz w t d vs:=by
 intro n
 induction n with
 |zero=>intro t cs r d e;simp[Yz]at e
 |succ n ih=>
  intro t cs r d e
  simp only[Yz]at e
  cases hu:P.underlying t with
  |none=>simp[hu]at e
  |some td=>
   simp only[hu]at e
   cases td with
   |int k=>
    try dsimp only at e
    split at e
    ·rename_i k' m r'
     split at e
     ·rename_i hk;cases e;subst hk
      exact⟨[.int _ m],rfl,fun vs hv=>by obtain⟨v,rfl,hv2⟩:=hv.one;simp only[ai]at hv2;subst hv2;exact .int (d:= .z m) hu⟩
     ·cases e
    ·cases e
   |bool=>
    try dsimp only at e
    split at e
    ·rename_i b r';cases e
     exact⟨[.bool b],rfl,fun vs hv=>by obtain⟨v,rfl,hv2⟩:=hv.one;simp only[ai]at hv2;subst hv2;exact .bool (d:= .b b) hu⟩
    ·cases e
   |string=>
    try dsimp only at e
    split at e
    ·rename_i b r';cases e
     exact⟨[.bj b],rfl,fun vs hv=>by obtain⟨v,rfl,hv2⟩:=hv.one;simp only[ai]at hv2;subst hv2;exact .bj (d:= .s b) hu⟩
    ·cases e
   |slice el=>
    try dsimp only at e
    split at e
    ·rename_i e' l r'
     split at e
     ·rename_i hk;cases e;subst hk
      refine⟨[.bC _ l],rfl,fun vs hv=>?_⟩
      obtain⟨v,rfl,hv2⟩:=hv.one
      simp only[ai]at hv2
      rcases hv2 with ⟨h0,rfl| ⟨a,c,rfl⟩⟩| ⟨aA,off,c,rfl,hc,hb,vs,⟨hl,hi⟩,hat⟩
      ·exact .bJ (d:= .r l) hu h0
      ·exact .empty (d:= .r l) hu h0 a c
      ·exact .slice (d:= .r l) hu aA off c vs hb hc hl hi hat
     ·cases e
    ·rename_i r';cases e
     exact⟨[.bJ],rfl,fun vs hv=>by obtain⟨v,rfl,hv2⟩:=hv.one;simp only[ai]at hv2;subst hv2;exact .bJ (d:= .r []) hu rfl⟩
    ·rename_i r';cases e
     exact⟨[.ku],rfl,fun vs hv=>by obtain⟨v,rfl,hv2⟩:=hv.one;simp only[ai]at hv2;obtain⟨a,c,rfl⟩:=hv2;exact .empty (d:= .r []) hu rfl a c⟩
    ·rename_i e' l r'
     split at e
     ·rename_i hk;cases e;subst hk
      refine⟨[.DO _ l],rfl,fun vs hv=>?_⟩
      obtain⟨v,rfl,hv2⟩:=hv.one
      simp only[ai]at hv2
      rcases hv2 with ⟨h0,rfl| ⟨a,rfl⟩⟩| ⟨aA,off,rfl,hb,vs,⟨hl,hi⟩,hat⟩
      ·exact .bJ (d:= .r l) hu h0
      ·exact .empty (d:= .r l) hu h0 a 0
      ·exact .slice (d:= .r l) hu aA off _ vs hb (afa _) hl hi hat
     ·cases e
    ·cases e
   |struct fs=>
    try dsimp only at e
    split at e
    ·rename_i ds r' hds
     cases e
     obtain⟨cc,rfl,k1,k2⟩:=ael ih _ _ _ _ hds
     refine⟨cc.flatten,rfl,fun vs hv=>?_⟩
     obtain⟨vv,rfl,m1,m2⟩:=hv.Ls
     refine .struct (d:= .r ds) hu vv (m1.trans k1) fun j f c hj hc=>?_
     have hjlt:j<cc.length:=by rw[<-m1];exact(ae1.1 hc).1
     exact k2 j f _ hj (aeY hjlt) c (m2 j _ c (aeY hjlt) hc)
    ·cases e
   |_=>simp at e
def Ar {t:TypeId}{cs:List BV}{d:D}(e:Pj P t cs=some d){vs:List Value}(hv:ak P g w cs vs):mW P g.fz w t d vs:=by
 unfold Pj at e
 split at e
 ·rename_i d' h1
  cases e
  obtain⟨c1,rfl,k⟩:=acz (g:=g) (w:=w) 8 h1
  exact k vs (by simpa using hv)
 ·cases e
def Rs {t:TypeId}:∀(n:Nat) {cs:List BV} {l:List D},J9 P t (P.cellsOf t) n cs=some l->cs.length=n*P.cellsOf t->l.length=n/\∀vs,ak P g w cs vs->cD P g.fz w t l vs:=by
 intro n
 induction n with
 |zero=>
  intro cs l e hl
  simp only[J9]at e
  split at e
  ·cases e;exact⟨rfl,fun vs hv=>by simp only[ak]at hv;subst hv;exact cD.nil⟩
  ·cases e
 |succ n ih=>
  intro cs l e hl
  simp only[J9]at e
  split at e
  ·rename_i d l' h1 h2
   cases e
   rw[agi,agP]at hl
   obtain⟨k1,k2⟩:=ih h2 (by rw[agy,hl];omega)
   refine⟨by simp[k1],fun vs hv=>?_⟩
   have hvl:=hv.length
   have:=cD.cons (by rw[afC];omega) (Ar h1 (hv.take (P.cellsOf t))) (k2 _ (hv.drop (P.cellsOf t)))
   rwa [agW]at this
  ·cases e
def aR.an (hr:aR P g h w){b aA au:Nat}{e:TypeId}{l:List D}{vt:Bool}(hb:h.get b=some (.an e l vt))(hm:g.m b=some (aA,au)):
 ∃c vs m,w.heap[aA]?=some (.cells c e m)/\cD P g.fz w e l vs/\(∀i x,vs[i]?=some x->c[au+i]?=some x)/\ep w aA au vs/\xZ P e c m.1 m.2:=by
 obtain⟨_,o,ho,hr'⟩:=hr.U2 _ _ _ _ hb hm
 simp only[cL]at hr'
 obtain⟨c,lo,hi,rfl,hm,vs,hv,hc⟩:=hr'
 refine⟨c,vs,(lo,hi),ho,hv,hc,fun i x hi'=>?_,hm⟩
 simp only[World.cell?,ho]
 exact hc i x hi'
def af.I4 {h':af}(hg:∀b,h'.get b=h.get b)(l:U8):h'.at l=h.at l:=by
 cases l with
 |aA b=>show (h'.get b).bind _=(h.get b).bind _;rw[hg]
 |el b f k=>show (h'.get b).bind (fun o=>o.wA f k)=(h.get b).bind (fun o=>o.wA f k);rw[hg]
def aR.congr {h':af}(hr:aR P g h w)(hg:∀b,h'.get b=h.get b)(hn:h.next<=h'.next):aR P g h' w:=by
 have hat:=af.I4 hg
 exact⟨fun b o hb=>afk (hr.HY b o (hg b▸hb)) hn,fun b x hm=>afk (hr.lt b x hm) hn,fun f k x e=>afk (hr.Eh f k x e) hn,fun b o f e h2=>afk (hr.AE b o f (hg b▸e) h2) hn,
  fun b b' o o' f h1 h2=>hr.fu b b' o o' f (hg b▸h1) (hg b'▸h2),fun b o f k x e=>hr.sk b o f k x (hg b▸e),fun b b' f k e=>hr.al b b' f k (hg b▸e),hr.mR,
  fun l l' aA au base' o o' h1 h2=>hr.mS l l' aA au base' o o' (hat l▸h1) (hat l'▸h2),fun l o aA au e=>hr.pZ l o aA au (hat l▸e),hr.lF⟩
end
end
section
def D.oO {a b:D}:D.AA a b=true↔a=b:=by unfold D.AA;simp
def D.pJ {a b:D}:D.AA a b=false↔a≠b:=by unfold D.AA;simp
def D.GM (p:D×D)(l:List (D×D))(k:D):D.eu (p::l) k=(match D.AA p.1 k with|true=>some p.2|false=>D.eu l k):=rfl
def D.oZ {p:D×D}{l:List (D×D)}{k:D}(h:p.1=k):D.eu (p::l) k=some p.2:=by rw[D.GM,D.oO.2 h]
def D.jb {p:D×D}{l:List (D×D)}{k:D}(h:p.1≠k):D.eu (p::l) k=D.eu l k:=by rw[D.GM,D.pJ.2 h]
def D.IG {p:D×D}{l:List (D×D)}{k v:D}(h:p.1=k):D.jP (p::l) k v=(p.1,v)::D.jP l k v:=by
 show (match D.AA p.1 k with|true=>_|false=>_)=_
 rw[D.oO.2 h]
def D.IH {p:D×D}{l:List (D×D)}{k v:D}(h:p.1≠k):D.jP (p::l) k v=p::D.jP l k v:=by
 show (match D.AA p.1 k with|true=>_|false=>_)=_
 rw[D.pJ.2 h]
def D.Mg {p:D×D}{l:List (D×D)}{k:D}(h:p.1=k):D.yg (p::l) k=D.yg l k:=by
 show (match D.AA p.1 k with|true=>_|false=>_)=_
 rw[D.oO.2 h]
def D.Fo {p:D×D}{l:List (D×D)}{k:D}(h:p.1≠k):D.yg (p::l) k=p::D.yg l k:=by
 show (match D.AA p.1 k with|true=>_|false=>_)=_
 rw[D.pJ.2 h]
def D.wI:∀(l:List (D×D)),D.cX l=l.map (·.1)
 | []=>rfl
 |p::q=>by simp[D.cX,D.wI q]
def D.tF (l:List (D×D)):(D.cX l).length=l.length:=by rw[D.wI];simp
def D.NT (l m:List (D×D)):D.cX (l++m)=D.cX l++D.cX m:=by simp[D.wI]
def D.jO {l:List (D×D)}{i:Nat}{p:D×D}(h:l[i]?=some p):(D.cX l)[i]?=some p.1:=by rw[D.wI,afE,h];rfl
def D.Ld {l:List (D×D)}{i:Nat}{k:D}(h:(D.cX l)[i]?=some k):∃p,l[i]?=some p/\p.1=k:=by
 rw[D.wI,afE]at h
 cases e:l[i]? with
 |none=>rw[e]at h;cases h
 |some p=>rw[e]at h;exact⟨p,rfl,by simpa using h⟩
def D.JD {k d:D}:∀{l:List (D×D)},D.eu l k=some d->∃i:Nat,l[i]?=some (k,d)
 | [],h=>by cases h
 |p::q,h=>by
  by_cases e:p.1=k
  ·rw[D.oZ e]at h;cases h;exact⟨0,by subst e;rfl⟩
  ·rw[D.jb e]at h;obtain⟨i,hi⟩:=D.JD h;exact⟨i+1,by simpa using hi⟩
def D.Lg {k:D}:∀{l:List (D×D)},D.eu l k=none->k∉D.cX l
 | [],_=>by simp[D.cX]
 |p::q,h=>by
  by_cases e:p.1=k
  ·rw[D.oZ e]at h;cases h
  ·rw[D.jb e]at h
   have:=D.Lg h
   simp only[D.cX,ae5,aiI]
   exact⟨fun x=>e x.symm,this⟩
def D.Ma {l:List (D×D)}{k:D}:D.fv l k=true↔k∈D.cX l:=by
 unfold D.fv
 cases h:D.eu l k with
 |none=>simp[D.Lg h]
 |some d=>obtain⟨i,hi⟩:=D.JD h;simp;exact aeU (D.jO hi)
def D.N7 {l:List (D×D)}{k:D}(h:D.fv l k=true):D.eu l k=some (D.val l k):=by
 unfold D.fv at h;unfold D.val
 cases e:D.eu l k with
 |none=>rw[e]at h;cases h
 |some d=>rfl
def D.IF {k d:D}:∀{l:List (D×D)},(D.cX l).Nodup->∀{i:Nat},l[i]?=some (k,d)->D.eu l k=some d
 | [],_,i,h=>by simp at h
 |p::q,hn,i,h=>by
  simp only[D.cX,afD]at hn
  cases i with
  |zero=>simp at h;subst h;exact D.oZ rfl
  |succ i=>
   simp at h
   have hk:k∈D.cX q:=aeU (D.jO h)
   rw[D.jb (fun e=>hn.1 (e▸hk))]
   exact D.IF hn.2 h
def D.y8 (k v:D):∀(l:List (D×D)),D.cX (D.jP l k v)=D.cX l
 | []=>rfl
 |p::q=>by
  by_cases e:p.1=k
  ·rw[D.IG e];simp[D.cX,D.y8 k v q]
  ·rw[D.IH e];simp[D.cX,D.y8 k v q]
def D.xG (k v:D)(l:List (D×D)):(D.jP l k v).length=l.length:=by
 rw[<-D.tF,D.y8,D.tF]
def D.tH {k v:D}:∀{l:List (D×D)} {i:Nat} {p:D×D},(D.jP l k v)[i]?=some p->∃q,l[i]?=some q/\p.1=q.1/\(q.1≠k->p.2=q.2)/\(q.1=k->p.2=v)
 | [],i,p,h=>by simp[D.jP]at h
 |x::q,i,p,h=>by
  by_cases e:x.1=k
  ·rw[D.IG e]at h
   cases i with
   |zero=>simp at h;subst h;exact⟨x,rfl,rfl,fun h=>absurd e h,fun _=>rfl⟩
   |succ i=>simp at h;obtain⟨y,h1,h2⟩:=D.tH h;exact⟨y,by simpa using h1,h2⟩
  ·rw[D.IH e]at h
   cases i with
   |zero=>simp at h;subst h;exact⟨x,rfl,rfl,fun _=>rfl,fun h=>absurd h e⟩
   |succ i=>simp at h;obtain⟨y,h1,h2⟩:=D.tH h;exact⟨y,by simpa using h1,h2⟩
def D.vC {k v j:D}(h:j≠k):∀(l:List (D×D)),D.eu (D.jP l k v) j=D.eu l j
 | []=>rfl
 |p::q=>by
  by_cases e:p.1=k
  ·rw[D.IG e,D.jb (by rw[e];exact fun x=>h x.symm),D.jb (by rw[e];exact fun x=>h x.symm),D.vC h q]
  ·rw[D.IH e]
   by_cases e2:p.1=j
   ·rw[D.oZ e2,D.oZ e2]
   ·rw[D.jb e2,D.jb e2,D.vC h q]
def D.mT {k v:D}:∀(l:List (D×D)),D.fv l k=true->D.eu (D.jP l k v) k=some v
 | [],h=>by simp[D.fv,D.eu]at h
 |p::q,h=>by
  by_cases e:p.1=k
  ·rw[D.IG e];exact D.oZ (p:=(p.1,v)) e
  ·rw[D.IH e,D.jb e]
   exact D.mT q (by unfold D.fv at h ⊢;rwa [D.jb e]at h)
def D.Hs (l:List (D×D))(k v j:D):D.eu (l++[(k,v)]) j=(match D.eu l j with|some x=>some x|none=>(match D.AA k j with|true=>some v|false=>none)):=by
 induction l with
 |nil=>rfl
 |cons p q ih=>
  rw[af8]
  by_cases e:p.1=j
  ·rw[D.oZ e,D.oZ e]
  ·rw[D.jb e,D.jb e,ih]
def D.BK {l:List (D×D)}{k v j:D}(h:j≠k):D.eu (l++[(k,v)]) j=D.eu l j:=by
 rw[D.Hs]
 cases D.eu l j with
 |some x=>rfl
 |none=>dsimp only;rw[D.pJ.2 (fun e=>h e.symm)]
def D.y9 {l:List (D×D)}{k v:D}(h:D.fv l k=false):D.eu (l++[(k,v)]) k=some v:=by
 rw[D.Hs]
 unfold D.fv at h
 cases e:D.eu l k with
 |some x=>rw[e]at h;cases h
 |none=>dsimp only;rw[D.oO.2 rfl]
def D.wK (k:D):∀(l:List (D×D)),D.eu (D.yg l k) k=none
 | []=>rfl
 |p::q=>by
  by_cases e:p.1=k
  ·rw[D.Mg e];exact D.wK k q
  ·rw[D.Fo e,D.jb e];exact D.wK k q
def D.vB {k j:D}(h:j≠k):∀(l:List (D×D)),D.eu (D.yg l k) j=D.eu l j
 | []=>rfl
 |p::q=>by
  by_cases e:p.1=k
  ·rw[D.Mg e,D.jb (by rw[e];exact fun x=>h x.symm),D.vB h q]
  ·rw[D.Fo e]
   by_cases e2:p.1=j
   ·rw[D.oZ e2,D.oZ e2]
   ·rw[D.jb e2,D.jb e2,D.vB h q]
section
variable {P:Program} {g:Gh} {h:af} {w w':World}
def CC {b f:Nat}{k:D}{e kt:TypeId}{l:List (D×D)}{st:List Nat}{c:Nat}(hf:Gy P h b f k=some (e,l,kt,st,c)):
 h.get b=some (.bo kt (.cp f e) l st c)/\cy P e=true/\D.fv l k=true:=by
 unfold Gy at hf
 split at hf
 ·rename_i kt' f' e' l' st' c' hb
  split at hf
  ·rename_i hc
   simp only[aeV]at hc
   have:=ae8 hc.1.1
   subst this
   cases hf
   exact⟨hb,hc.1.2,hc.2⟩
  ·cases hf
 ·cases hf
def VN {kt e f:Nat}{l:List (D×D)}{st:List Nat}{c:Nat}{k:D}(hk:D.fv l k=true):(ax.bo kt (.cp f e) l st c).wA f k=some (.an e [D.val l k] false):=by
 simp[ax.wA,D.N7 hk]
def aR.aaY (hr:aR P g h w){b f:Nat}{k:D}{e kt:TypeId}{l:List (D×D)}{st:List Nat}{c aA au:Nat}(hf:Gy P h b f k=some (e,l,kt,st,c))(hs:g.s f k=some (aA,au)):
 ∃cc vs m,w.heap[aA]?=some (.cells cc e m)/\cD P g.fz w e [D.val l k] vs/\(∀(i:Nat) x,vs[i]?=some x->cc[au+i]?=some x)/\ep w aA au vs/\xZ P e cc m.1 m.2:=by
 obtain⟨hb,hd,hk⟩:=CC hf
 obtain⟨_,o,ho,hr'⟩:=hr.pZ (.el b f k) _ _ _ (af.Az hb (VN hk)) hs
 simp only[cL]at hr'
 obtain⟨cc,lo,hi,rfl,hm,vs,hv,hc⟩:=hr'
 refine⟨cc,vs,(lo,hi),ho,hv,hc,fun i x hi'=>?_,hm⟩
 simp only[World.cell?,ho]
 exact hc i x hi'
def cD.one {fz:Nat->Prop}{e:TypeId}{d:D}{vs:List Value}(h:cD P fz w e [d] vs):mW P fz w e d vs:=by
 have h1:=h.2 0 d rfl
 have h2:vs.length=P.cellsOf e:=by simpa using h.1
 rw[ahH,agO,<-h2,afW]at h1
 exact h1
def sT.jP {kt:TypeId}{f e:Nat}{l:List (D×D)}{st:List Nat}{c:Nat}{es:List MapEntry}(hm:sT P g w kt (.cp f e) l st c es)(k d:D):sT P g w kt (.cp f e) (D.jP l k d) st c es:=by
 refine⟨by rw[D.xG];exact hm.len,by rw[D.xG];exact hm.sl,fun i p x h1 h2=>?_,hm.born,fun i p x h1 h2=>?_,fun p hp=>?_,by rw[D.y8];exact hm.nd,hm.snd,hm.Eh⟩
 ·obtain⟨q,q1,q2,_⟩:=D.tH h1;rw[q2];exact hm.key i q x q1 h2
 ·obtain⟨q,q1,q2,_⟩:=D.tH h1;rw[q2];exact hm.val i q x q1 h2
 ·obtain⟨i,hi⟩:=af3 hp
  obtain⟨q,q1,q2,_⟩:=D.tH hi;rw[q2];exact hm.CV q (aeU q1)
def HU.aeI (n:HU g h){b:Nat}{o o':ax}(hb:h.get b=some o)(ho:o'.gH=some o')(hfam:o'.yp=o.yp)(helt:∀f k x,o.wA f k=some x->∃y,o'.wA f k=some y):HU g (h.put b (some o')):=by
 have hget:∀b1 o1,(h.put b (some o')).get b1=some o1->(b1=b/\o1=o')\/(b1≠b/\h.get b1=some o1):=fun b1 o1 h1=>by
  rw[af.fe]at h1
  by_cases e:b1=b
  ·rw[aeZ e]at h1;cases h1;exact .inl ⟨e,rfl⟩
  ·rw[aeX e]at h1;exact .inr ⟨e,h1⟩
 have hold:∀b1 o1,(h.put b (some o')).get b1=some o1->∃o2,h.get b1=some o2/\o1.yp=o2.yp/\∀f k x,o2.wA f k=some x->∃y,o1.wA f k=some y:=fun b1 o1 h1=>by
  rcases hget _ _ h1 with ⟨rfl,rfl⟩| ⟨_,h2⟩
  ·exact⟨o,hb,hfam,helt⟩
  ·exact⟨o1,h2,rfl,fun f k x e=>⟨x,e⟩⟩
 refine⟨fun b1 o1 h1=>?_,n.lt,n.Eh,fun b1 o1 f h1 h2=>?_,fun b1 b2 o1 o2 f h1 h2 h3 h4=>?_,fun b1 o1 f k x h1 h2 h3=>?_,fun b1 b2 f k h1=>?_⟩
 ·obtain⟨o2,h2,_⟩:=hold _ _ h1;exact n.HY _ _ h2
 ·obtain⟨o2,h3,h4,_⟩:=hold _ _ h1;exact n.AE _ _ _ h3 (h4▸h2)
 ·obtain⟨p1,k1,k2,_⟩:=hold _ _ h1;obtain⟨p2,j1,j2,_⟩:=hold _ _ h2
  exact n.fu _ _ _ _ _ k1 j1 (k2▸h3) (j2▸h4)
 ·obtain⟨p1,k1,k2,k3⟩:=hold _ _ h1
  obtain⟨⟨y,hy⟩,hm⟩:=n.sk _ _ _ _ _ k1 (k2▸h2) h3
  exact⟨k3 _ _ _ hy,hm⟩
 ·rcases hget _ _ h1 with ⟨_,e⟩| ⟨_,h1⟩
  ·exact absurd e.symm (ax.zf ho)
  ·exact n.al _ _ _ _ h1
def aR.adw (hr:aR P g h w){b f:Nat}{k d:D}{e kt:TypeId}{l:List (D×D)}{st:List Nat}{c aA au:Nat}{co co':Obj}(hf:Gy P h b f k=some (e,l,kt,st,c))(hs:g.s f k=some (aA,au))
 (hco:w.heap[aA]?=some co)(hheap:w'.heap=w.heap.setIfInBounds aA co')(hos:w'.os=w.os/\w'.output=w.output/\w'.tape=w.tape)
 (hshape:∀s,w.shape? aA=some s->w'.shape? aA=some s)
 (ho:eA g w g w'->cL P g w' (.an e [d] false) au co'):
 aR P g (h.put b (some (.bo kt (.cp f e) (D.jP l k d) st c))) w'/\gN g h w g (h.put b (some (.bo kt (.cp f e) (D.jP l k d) st c))) w':=by
 obtain⟨hb,hd,hk⟩:=CC hf
 have hel:=af.Az hb (VN (kt:=kt) (e:=e) (st:=st) (c:=c) hk)
 have hlt:aA<w.heap.size:=hr.mR (.el b f k) aA au hs
 have hother:∀c,c≠aA->w'.heap[c]?=w.heap[c]?:=fun c hc=>by
  rw[hheap,afx (by omega)]
 have hsame:w'.heap[aA]?=some co':=by rw[hheap,afi hlt]
 have hsz:w'.heap.size=w.heap.size:=by rw[hheap];simp
 have hnf:¬g.fz aA:=(hr.pZ (.el b f k) _ aA au hel hs).1
 have hmono:eA g w g w':=⟨fun _ _ e=>e,fun _ e=>e,fun c hc=>hother c (fun e=>hnf (e▸hc)),fun c s hs1=>by
  by_cases e:c=aA
  ·subst e;exact hshape s hs1
  ·rw[fS (hother c e)];exact hs1,fun _ _ _ e=>e⟩
 have hget:∀x,(h.put b (some (.bo kt (.cp f e) (D.jP l k d) st c))).get x=if x=b then some (.bo kt (.cp f e) (D.jP l k d) st c)else h.get x:=fun x=>af.fe _ _ _ _
 have hat:∀L o1,(h.put b (some (.bo kt (.cp f e) (D.jP l k d) st c))).at L=some o1->
  (L= .el b f k/\o1= .an e [d] false)\/(L= .aA b/\o1= .bo kt (.cp f e) (D.jP l k d) st c)\/(L≠ .el b f k/\L≠ .aA b/\h.at L=some o1):=fun L o1 e1=>by
  cases L with
  |aA x=>
   obtain⟨e2,_⟩:=af.wa e1
   rw[hget]at e2
   by_cases hx:x=b
   ·subst hx;rw[aeZ rfl]at e2;cases e2;exact .inr (.inl ⟨rfl,rfl⟩)
   ·rw[aeX hx]at e2
    refine .inr (.inr ⟨fun h=>(by cases h),fun h=>(by cases h;exact hx rfl),?_⟩)
    change ((h.put b _).get x).bind ax.gH=_ at e1
    rw[hget,aeX hx]at e1;exact e1
  |el x f' k'=>
   obtain⟨y,e2,e3⟩:=af.I5 e1
   rw[hget]at e2
   by_cases hx:x=b
   ·subst hx;rw[aeZ rfl]at e2;cases e2
    have hff:=ax.mN e3
    have hff:f=f':=by simpa [ax.yp]using hff
    subst hff
    simp only[ax.wA,afq]at e3
    by_cases hkk:k'=k
    ·subst hkk;rw[D.mT _ hk]at e3;cases e3;exact .inl ⟨rfl,rfl⟩
    ·rw[D.vC hkk]at e3
     refine .inr (.inr ⟨fun h=>(by cases h;exact hkk rfl),fun h=>(by cases h),af.Az hb ?_⟩)
     simp only[ax.wA,afq];exact e3
   ·rw[aeX hx]at e2
    exact .inr (.inr ⟨fun h=>(by cases h;exact hx rfl),fun h=>(by cases h),af.Az e2 e3⟩)
 have hold:∀L o1,(h.put b (some (.bo kt (.cp f e) (D.jP l k d) st c))).at L=some o1->∃o2,h.at L=some o2:=fun L o1 e1=>by
  rcases hat L o1 e1 with ⟨rfl,_⟩| ⟨rfl,_⟩| ⟨_,_,h1⟩
  ·exact⟨_,hel⟩
  ·exact⟨_,af.fJ hb rfl⟩
  ·exact⟨_,h1⟩
 refine⟨(hr.nm.aeI (o':= .bo kt (.cp f e) (D.jP l k d) st c) hb rfl rfl (fun f' k' x hx=>?_)).Ln ?_ ?_ ?_ ?_,⟨hmono,by omega,?_,fun c _ hc=>?_,fun _ _ h=> .inl h,afa _,hos⟩⟩
 ·simp only[ax.wA]at hx ⊢
  split at hx
  ·rename_i hff
   rw[aeZ hff]
   cases e1:D.eu l k' with
   |none=>rw[e1]at hx;cases hx
   |some y=>
    by_cases hkk:k'=k
    ·subst hkk;rw[D.mT _ hk];exact⟨_,rfl⟩
    ·rw[D.vC hkk,e1];exact⟨_,rfl⟩
  ·cases hx
 ·intro L blk1 base1 h1;rw[hsz];exact hr.mR _ _ _ h1
 ·intro l1 l2 blk1 base1 base2 o1 o2 h1 h2 m1 m2
  obtain⟨_,g1⟩:=hold _ _ h1;obtain⟨_,g2⟩:=hold _ _ h2
  exact hr.mS _ _ _ _ _ _ _ g1 g2 m1 m2
 ·intro L o1 blk1 base1 h1 m1
  rcases hat L o1 h1 with ⟨rfl,rfl⟩| ⟨rfl,rfl⟩| ⟨hn1,hn2,h1⟩
  ·change g.s f k=_ at m1
   rw[hs]at m1;cases m1
   exact⟨hnf,co',hsame,ho hmono⟩
  ·obtain⟨n1,o2,ho2,hr2⟩:=hr.pZ _ _ _ _ (af.fJ hb rfl) m1
   have hne:blk1≠aA:=fun ee=>by
    have:=hr.mS _ _ _ _ _ _ _ (af.fJ hb rfl) hel (ee▸m1) hs
    cases this
   refine⟨n1,o2,(hother _ hne).trans ho2,?_⟩
   simp only[cL]at hr2 ⊢
   obtain⟨h0,es,rfl,hm⟩:=hr2
   exact⟨h0,es,rfl,(hm.jP k d).mono hmono⟩
  ·obtain⟨n1,o2,ho2,hr2⟩:=hr.pZ _ _ _ _ h1 m1
   have hne:blk1≠aA:=fun ee=>hn1 (hr.mS _ _ _ _ _ _ _ h1 hel (ee▸m1) hs)
   exact⟨n1,o2,(hother _ hne).trans ho2,hr2.mono hmono⟩
 ·intro c hc;rw[hsz];exact hr.lF c hc
 ·intro c hc hno
  exact hother c (fun e=>hno ⟨.el b f k,_,au,hel,e▸hs⟩)
 ·obtain⟨L,o1,base1,hl,hm1⟩:=hc
  obtain⟨o2,h2⟩:=hold _ _ hl
  exact⟨L,o2,base1,h2,hm1⟩
def aR.Vq (hr:aR P g h w){b b' f:Nat}{k:D}{v:Value}{off:Nat}(hb:h.get b=some (.ql b' f k))(hv:ai P g w (.aG b off) v):ai P g w (.pt b' f k off) v:=by
 simp only[ai]at hv ⊢
 obtain⟨aA,au,hm,rfl⟩:=hv
 obtain⟨⟨x,h1,h2⟩,h3⟩:=hr.al _ _ _ _ hb
 rw[hm]at h1;cases h1
 exact⟨aA,au,h2,rfl,h3⟩
end
end
section
section
variable {P:Program} {g:Gh} {h:af} {w:World}
def aB {t:TypeId}{d:TypeDesc}(e:P.underlying t=some d)(w:World):(underlying t).run P w= .ok d w:=by
 simp[underlying,e]
def D5 {t:TypeId}{i:TypeInfo}(e:P.info? t=some i)(w:World):(typeInfo t).run P w= .ok i w:=by
 simp[typeInfo,e]
def jQ {t:TypeId}{n:Nat}(e:ia P t=some n)(w:World):(sizeOf t).run P w= .ok n w:=by
 unfold ia at e
 cases hi:P.info? t with
 |none=>rw[hi]at e;cases e
 |some i=>rw[hi]at e;simp at e;simp[sizeOf,D5 hi,e]
def nL {t:TypeId}{n:Nat}(e:ia P t=some n):P.cellsOf t=n:=by
 unfold ia at e;unfold Program.cellsOf;rw[e];rfl
def CR {t:TypeId}{i:TypeInfo}(e:P.info? t=some i):ia P t=some i.size:=by simp[ia,e]
def IK {t:TypeId}{b:Bool}(e:hY P t=some b)(w:World):(isAgg t).run P w= .ok b w:=by
 unfold hY at e
 cases hu:P.underlying t with
 |none=>rw[hu]at e;cases e
 |some d=>
  rw[hu]at e;simp at e
  simp only[isAgg,Sem.run_bind,aB hu,Result.andThen_ok]
  split at e<;>simp_all
def ai.of (P:Program)(g:Gh)(w:World):∀(n:Nat) (v:Value),ai P g w (BV.of n v) v:=by
 intro n
 induction n with
 |zero=>intro v;simp[BV.of,ai]
 |succ n ih=>
  intro v
  have hmap:∀cs:Array Value,ak P g w (cs.toList.map (BV.of n)) cs.toList:=fun cs=>by
   have:=ak.map (P:=P) (g:=g) (w:=w) (l:=cs.toList) (f:=BV.of n) (f':=id) (fun a _=>ih a)
   simpa using this
  cases v with
  |pointer a=>cases a<;>simp[BV.of,ai]
  |slice a l c=>
   simp only[BV.of]
   split
   all_goals first
    | (rename_i e;injection e with e1 e2 e3;subst e1 e2 e3;simp[ai];done)
    | (simp_all [ai];done)
    |simp[ai]
  |map r=>cases r<;>simp[BV.of,ai]
  |string s=>simp[BV.of,ai]
  |agg cs=>simp only[BV.of,ai];exact⟨cs,rfl,hmap cs⟩
  |tuple cs=>simp only[BV.of,ai];exact⟨cs,rfl,hmap cs⟩
  |_=>simp[BV.of,ai]
def ai.ofv (P:Program)(g:Gh)(w:World)(v:Value):ai P g w (BV.ofv v) v:=ai.of P g w 6 v
def D6 {t:TypeId}{z:BV}(e:jr P t=some z)(w:World):∃z',(zeroValue t).run P w= .ok z' w/\∀g,ai P g w z z':=by
 unfold jr at e
 cases hi:P.info? t with
 |none=>rw[hi]at e;cases e
 |some i=>
  rw[hi]at e
  cases hz:i.zero with
  |none=>simp[hz]at e
  |some z'=>
   simp[hz]at e;subst e
   exact⟨z',by simp[zeroValue,D5 hi,hz],fun g=>ai.ofv P g w z'⟩
def J8 {cs r:List BV}{off n:Nat}(e:fy cs off n=some r):r=(cs.drop off).take n/\r.length=n:=by
 unfold fy at e
 dsimp only at e
 split at e
 ·rename_i hl;cases e;exact⟨rfl,hl⟩
 ·cases e
def gL {cs r vs:List BV}{off:Nat}(e:putCells cs off vs=some r):r=cs.take off++(vs++cs.drop (off+vs.length))/\off+vs.length<=cs.length:=by
 unfold putCells at e
 split at e
 ·rename_i hl;cases e;exact⟨rfl,hl⟩
 ·cases e
def ak.fy {cs r:List BV}{vs:List Value}{off n:Nat}(hv:ak P g w cs vs)(e:fy cs off n=some r):
 ak P g w r ((vs.drop off).take n)/\((vs.drop off).take n).length=n:=by
 obtain⟨rfl,hl⟩:=J8 e
 have:=(hv.drop off).take n
 exact⟨this,by rw[this.length];exact hl⟩
def MJ {cs r vs:List BV}{off:Nat}(e:putCells cs off vs=some r)(j:Nat):r[j]?=if off<=j/\j<off+vs.length then vs[j-off]? else cs[j]?:=by
 obtain⟨rfl,hl⟩:=gL e
 rw[afG]
 simp only[afC]
 rw[agn (by omega)]
 by_cases h1:j<off
 ·rw[aeZ h1,aeX (by omega),afA,aeZ h1]
 ·rw[aeX h1,afG]
  by_cases h2:j-off<vs.length
  ·rw[aeZ h2,aeZ (by omega)]
  ·rw[aeX h2,aeX (by omega),afZ];congr 1;omega
def Ih {cs r vs:List BV}{off:Nat}(e:putCells cs off vs=some r):r.length=cs.length:=by
 obtain⟨rfl,hl⟩:=gL e
 simp;omega
def aR.cells (hr:aR P g h w){b aA au:Nat}{cs:List BV}{e:TypeId}{s:Bool}(hb:h.get b=some (.cells cs e s))(hm:g.m b=some (aA,au)):
 ∃c lo hi vs,w.heap[aA]?=some (.cells c e (lo,hi))/\ak P g w cs vs/\(∀i x,vs[i]?=some x->c[au+i]?=some x)/\ep w aA au vs/\
  (∀i,i<c.size->¬(lo<=i/\i<hi))/\(s=false->lo=0/\hi=0):=by
 obtain⟨_,o,ho,hr'⟩:=hr.U2 _ _ _ _ hb hm
 simp only[cL]at hr'
 obtain⟨c,lo,hi,rfl,⟨vs,hv,hc⟩,hf,hs⟩:=hr'
 refine⟨c,lo,hi,vs,ho,hv,hc,fun i x hi'=>?_,hf,hs⟩
 simp only[World.cell?,ho]
 exact hc i x hi'
def ep.drop {aA off k:Nat}{vs:List Value}(hc:ep w aA off vs):ep w aA (off+k) (vs.drop k):=by
 intro i x hi
 rw[afZ]at hi
 have:=hc _ _ hi
 rwa [show off+(k+i)=off+k+i by omega]at this
def ep.take {aA off k:Nat}{vs:List Value}(hc:ep w aA off vs):ep w aA off (vs.take k):=by
 intro i x hi
 rw[afA]at hi
 split at hi
 ·exact hc _ _ hi
 ·cases hi
def qZ {t:TypeId}{aA off:Nat}{cs:List BV}{vs:List Value}{k:Nat}{ag:Bool}{n:Nat}{v:BV}(hag:hY P t=some ag)(hn:ia P t=some n)
 (hv:ak P g w cs vs)(hc:ep w aA off vs)
 (e:(if ag then (fy cs k n).map BV.agg else cs[k]?)=some v):∃v',(loadVar t ⟨aA,off+k,none⟩).run P w= .ok v' w/\ai P g w v v':=by
 cases ag with
 |true=>
  simp only[afq]at e
  cases ht:Go.PB.fy cs k n with
  |none=>rw[ht]at e;cases e
  |some r=>
   rw[ht]at e;simp at e;subst e
   obtain⟨h1,h2⟩:=hv.fy ht
   refine⟨.agg ((vs.drop k).take n).toArray,?_,by simp only[ai];exact⟨_,rfl,h1⟩⟩
   simp only[loadVar,Sem.run_bind,IK hag,Result.andThen_ok,afq,jQ hn]
   rw[nK _ h2 (hc.drop.take)]
   rfl
 |false=>
  simp only[ae0,afS]at e
  obtain⟨v',hv',hr'⟩:=hv.get e
  refine⟨v',?_,hr'⟩
  simp only[loadVar,Sem.run_bind,IK hag,Result.andThen_ok,ae0,afS,run_load]
  rw[hc _ _ hv']
def Lp (hr:aR P g h w){t:TypeId}{ag:Bool}{n:Nat}(hag:hY P t=some ag)(hn:ia P t=some n){b f:Nat}{k:D}{off:Nat}{v:BV}{a':Value}(ha:ai P g w (.pt b f k off) a')(e:Fl P h ag n b f k off=some v):
 ∃ad v',a'= .pointer (some ad)/\(loadVar t ad).run P w= .ok v' w/\ai P g w v v':=by
 unfold Fl at e
 simp only[ai]at ha
 obtain⟨aA,au,hs,rfl,_⟩:=ha
 cases hf:Gy P h b f k with
 |none=>simp[hf]at e
 |some x=>
  obtain⟨el,l,kt,st,c⟩:=x
  simp only[hf]at e
  obtain⟨cc,vs,_,hw,hv,_,hat,_⟩:=hr.aaY hf hs
  have hcs:=mW.shape (g:=g) (CC hf).2.1 hv.one
  obtain⟨v',h1,h2⟩:=qZ hag hn hcs hat e
  exact⟨_,v',rfl,h1,h2⟩
def HH (hr:aR P g h w){t:TypeId}{a v:BV}{a':Value}(ha:ai P g w a a')(e:wJ P h t a=some v):
 ∃ad v',a'= .pointer (some ad)/\(loadVar t ad).run P w= .ok v' w/\ai P g w v v':=by
 unfold wJ at e
 cases hag:hY P t with
 |none=>simp[hag]at e
 |some ag=>
  cases hn:ia P t with
  |none=>simp[hag,hn]at e
  |some n=>
   simp only[hag,hn]at e
   cases a with
   |aG b off=>
    simp only[ai]at ha
    obtain⟨aA,au,hm,rfl⟩:=ha
    dsimp only at e
    cases hb:h.get b with
    |none=>simp[hb]at e
    |some o=>
     cases o with
     |cells cs et s=>
      simp only[hb]at e
      obtain⟨c,lo,hi,vs,hw,hv,_,hc,_⟩:=hr.cells hb hm
      obtain⟨v',h1,h2⟩:=qZ hag hn hv hc e
      exact⟨_,v',rfl,h1,h2⟩
     |ql b' f k=>
      simp only[hb]at e
      exact Lp hr hag hn (hr.Vq hb (by simp only[ai];exact⟨aA,au,hm,rfl⟩)) e
     |_=>simp[hb]at e
   |pt b f k off=>exact Lp hr hag hn ha e
   |vF cs=>
    simp only[ai]at ha
    obtain⟨aA,off,rfl,_,vs,hv,hc⟩:=ha
    dsimp only at e
    obtain⟨v',h1,h2⟩:=qZ (k:=0) hag hn hv hc e
    exact⟨_,v',rfl,h1,h2⟩
   |vd b e' i off=>
    simp only[ai]at ha
    obtain⟨aA,au,hm,rfl⟩:=ha
    dsimp only at e
    cases hb:h.get b with
    |none=>simp[hb]at e
    |some o=>
     cases o with
     |an e2 l vt=>
      simp only[hb]at e
      split at e
      ·rename_i hc
       simp only[aeV]at hc
       obtain⟨he,hd⟩:=hc
       have he:=ae8 he
       subst he
       split at e
       ·rename_i hi
        obtain⟨c,vs,_,hw,hv,_,hat,_⟩:=hr.an hb hm
        have hx:=hv.2 i (D.at l i) (by simp[D.at,List.getD,aeY hi])
        have hcs:=mW.shape (g:=g) hd hx
        have hat2:ep w aA (au+i*P.cellsOf e') ((vs.drop (i*P.cellsOf e')).take (P.cellsOf e')):=hat.drop.take
        obtain⟨v',h1,h2⟩:=qZ hag hn hcs hat2 e
        exact⟨_,v',rfl,by rw[<-agj];exact h1,h2⟩
       ·cases e
      ·cases e
     |_=>simp[hb]at e
   |_=>simp at e
def XK (hr:aR P g h w){t:TypeId}{a v:BV}{a':Value}(ha:ai P g w a a')(e:wJ P h t a=some v):
 ∃v',(Instr.loadAt t a').run P w= .ok v' w/\ai P g w v v':=by
 obtain⟨ad,v',rfl,h1,h2⟩:=HH hr ha e
 exact⟨v',by simp[Instr.loadAt,Instr.sureAddr,h1],h2⟩
def rC:Option ax->Bool
 |some (.an _ _ vt)=>vt
 |_=>false
def Ph (g:Gh)(h:af)(g':Gh)(h':af):Prop:=∀b,b<h.next->g.m b=none->rC (h.get b)=false->g'.m b=none/\h'.get b=h.get b
def Ph.refl (g:Gh)(h:af):Ph g h g h:=fun _ _ e _=>⟨e,rfl⟩
def Ph.trans {g g' g'':Gh}{h h' h'':af}(a:Ph g h g' h')(hn:h.next<=h'.next)(b:Ph g' h' g'' h''):Ph g h g'' h'':=fun x hx e hv=>by
 obtain⟨e1,h1⟩:=a x hx e hv
 obtain⟨e2,h2⟩:=b x (afk hx hn) e1 (by rw[h1];exact hv)
 exact⟨e2,h2.trans h1⟩
def Ph.put {b:Nat}{x:Nat×Nat}(hm:g.m b=some x)(o:Option ax):Ph g h g (h.put b o):=fun b1 _ e _=>⟨e,by
 rw[af.fe,aeX (fun ee=>by subst ee;rw[hm]at e;cases e)]⟩
def Ph.aeP {b:Nat}{e:TypeId}{l:List D}(hb:h.get b=some (.an e l true)):Ph g h g (h.put b none):=fun b1 _ e hv=>⟨e,by
 rw[af.fe,aeX (fun ee=>by subst ee;rw[hb]at hv;cases hv)]⟩
def Ph.new (o:ax):Ph g h g (h.new o):=fun b1 hb e _=>⟨e,by rw[af.dR,aeX (by omega)]⟩
def Ph.ym {aA au:Nat}:Ph g h (g.ym h.next aA au) h:=fun b1 hb e _=>⟨by rw[Gh.gk g (by omega)];exact e,rfl⟩
def Oe {b:BV}{v:Value}(hv:ai P g w b v)(ho:b.one=true):v.oneCell'=true:=by
 obtain⟨_,h1,h2⟩:=hv.one ho
 cases v<;>first|rfl| (exact absurd rfl (h1 _))| (exact absurd rfl (h2 _))
def LH {cs:List BV}{vs:List Value}(hv:ak P g w cs vs)(ho:cs.all BV.one=true):∀v∈vs,v.oneCell'=true:=by
 intro v hm
 obtain⟨i,hi⟩:=af3 hm
 obtain⟨b,hb,hr⟩:=hv.ab8 hi
 exact Oe hr ((afK.1 ho) b (aeU hb))
def aaz (hr:aR P g h w){b aA au off:Nat}{cs cs' xs:List BV}{e:TypeId}{s:Bool}{ys:List Value}(hb:h.get b=some (.cells cs e s))(hm:g.m b=some (aA,au))
 (hx:ak P g w xs ys)(ho:xs.all BV.one=true)(hp:putCells cs off xs=some cs'):
 ∃w',(storeCells ⟨aA,au+off,none⟩ ys).run P w= .ok () w'/\aR P g (h.put b (some (.cells cs' e s))) w'/\gN g h w g (h.put b (some (.cells cs' e s))) w':=by
 obtain⟨c,lo,hi,vs,hw,hv,hc,_,hf,hs⟩:=hr.cells hb hm
 obtain⟨_,hle⟩:=gL hp
 have hcsz:ys≠[]->au+off+ys.length<=c.size:=fun hne=>by
  have hl:ys.length=xs.length:=hx.length
  have hpos:0<ys.length:=ahF.2 hne
  have hvl:vs.length=cs.length:=hv.length
  have h1:off+ys.length-1<vs.length:=by omega
  have:=hc _ _ (aeY h1)
  have:=(aff.1 this).1
  omega
 have hrun:(storeCells ⟨aA,au+off,none⟩ ys).run P w= .ok () (w.dL aA (.cells (eP c (au+off) ys) e (lo,hi))):=by
  cases hys:ys with
  |nil=>
   simp only[storeCells,Sem.run_pure,eP]
   have:=hZ (P:=P) aA 0 e lo hi [] 0 c w hw (by simp) (by simp) hf
   simpa [storeCells,eP]using this
  |cons y r=>
   have hb':=hcsz (by rw[hys];simp)
   rw[hys]at hb'
   have:=hZ (P:=P) aA (au+off) e lo hi (y::r) 0 c w hw (by simpa using hb') (fun v hv=>LH hx ho v (by rw[hys];exact hv)) hf
   simpa using this
 refine⟨_,hrun,?_⟩
 refine hr.Kd hb hm hw rfl ⟨rfl,rfl,rfl⟩ (fun s hs=>?_) (fun hmono=>?_)
 ·have hlt:=(aff.1 hw).1
  simp only[World.shape?,hw]at hs
  simp only[World.shape?,ek hlt,jd]
  exact hs
 ·simp only[cL]
  refine⟨_,lo,hi,rfl,⟨vs.take off++(ys++vs.drop (off+ys.length)),?_,?_⟩,by simpa using hf,hs⟩
  ·obtain⟨rfl,_⟩:=gL hp
   have h1:=ak.mono hmono _ _ hv
   have h2:=ak.mono hmono _ _ hx
   rw[hx.length]
   exact(h1.take off).append (h2.append (h1.drop _))
  ·intro i x hi'
   have hxl:=hx.length
   have hvl:=hv.length
   rw[afG]at hi'
   simp only[afC]at hi'
   rw[agn (by omega)]at hi'
   by_cases hne:ys=[]
   ·subst hne
    simp only[eP]
    simp only[afX,af6,agv,afZ,afA]at hi'
    by_cases h1:i<off
    ·rw[aeZ h1,aeZ h1]at hi';exact hc i x hi'
    ·rw[aeX h1,show off+(i-off)=i by omega]at hi';exact hc i x hi'
   ·rw[tS _ _ _ _ (hcsz hne)]
    by_cases h1:i<off
    ·rw[aeZ h1,afA,aeZ h1]at hi'
     rw[aeX (by omega)];exact hc i x hi'
    ·rw[aeX h1,afG]at hi'
     by_cases h2:i-off<ys.length
     ·rw[aeZ h2]at hi'
      rw[aeZ (by omega),show au+i-(au+off)=i-off by omega];exact hi'
     ·rw[aeX h2,afZ,show off+ys.length+(i-off-ys.length)=i by omega]at hi'
      rw[aeX (by omega)];exact hc i x hi'
def py {t:TypeId}{n:Nat}(hn:ia P t=some n){ad:Addr}{v:Value}(hl:v.cells.size=n){w w':World}
 (hs:(storeCells ad v.cells.toList).run P w= .ok () w'):(storeVar t ad v).run P w= .ok () w':=by
 simp only[storeVar,Sem.run_bind,jQ hn,Result.andThen_ok]
 rw[aeX (by simpa using hl)]
 exact hs
def SB {α:Type}(vs ys:List α)(a sz off:Nat)(h1:off+ys.length<=sz)(h2:a+sz<=vs.length)(k:Nat):
 (vs.take a++((((vs.drop a).take sz).take off++(ys++((vs.drop a).take sz).drop (off+ys.length)))++vs.drop (a+sz)))[k]?=if a+off<=k/\k<a+off+ys.length then ys[k-(a+off)]? else vs[k]?:=by
 have e1:(vs.take a).length=a:=by simp;omega
 have e2:((vs.drop a).take sz).length=sz:=by simp;omega
 have e3:(((vs.drop a).take sz).take off).length=off:=by simp;omega
 have e4:(((vs.drop a).take sz).drop (off+ys.length)).length=sz-(off+ys.length):=by simp;omega
 rw[afG,e1]
 by_cases c1:k<a
 ·rw[aeZ c1,aeX (by omega),afA,aeZ c1]
 ·rw[aeX c1,afG,ae4,e3,ae4,e4]
  by_cases c2:k-a<off+(ys.length+(sz-(off+ys.length)))
  ·rw[aeZ c2,afG,e3]
   by_cases c3:k-a<off
   ·rw[aeZ c3,aeX (by omega),afA,aeZ c3,afA,aeZ (by omega),afZ,show a+(k-a)=k by omega]
   ·rw[aeX c3,afG]
    by_cases c4:k-a-off<ys.length
    ·rw[aeZ c4,aeZ (by omega),show k-a-off=k-(a+off)by omega]
    ·rw[aeX c4,aeX (by omega),afZ,afA,aeZ (by omega),afZ]
     congr 1;omega
  ·rw[aeX c2,aeX (by omega),afZ]
   congr 1;omega
def MV (hr:aR P g h w){t:TypeId}{n:Nat}(hn:ia P t=some n){b aA au i off:Nat}{el:TypeId}{l:List D}{vt:Bool}(hb:h.get b=some (.an el l vt))(hm:g.m b=some (aA,au))
 {v:BV}{v':Value}(hv:ai P g w v v')(hvl:v.cells.length=n)(hone:v.cells.all BV.one=true)(hd:cy P el=true)(hil:i<l.length){cs:List BV}{d:D}
 (hp:putCells (aK P el (D.at l i)) off v.cells=some cs)(hu:Pj P el cs=some d):
 ∃w',(Instr.storeAt t (.pointer (some ⟨aA,au+(i*P.cellsOf el+off),none⟩)) v').run P w= .ok () w'/\aR P g (h.put b (some (.an el (l.set i d) vt))) w'/\gN g h w g (h.put b (some (.an el (l.set i d) vt))) w'/\Ph g h g (h.put b (some (.an el (l.set i d) vt))):=by
 obtain⟨c,vs,⟨lo,hi⟩,hw,hvs,hc,hat,hmk⟩:=hr.an hb hm
 have hxr:=hv.cells hone
 obtain⟨_,hszP,hpos,hshl⟩:=eD hd
 generalize hsz:P.cellsOf el=sz at*
 have hvl2:=hvs.1
 rw[hsz]at hvl2
 obtain⟨hcs,hple⟩:=gL hp
 rw[hshl]at hple
 have hyl:v'.cells.toList.length=v.cells.length:=hxr.length
 have hi1:i*sz+sz<=vs.length:=by
  rw[hvl2,show i*sz+sz=(i+1)*sz by rw[agi,agP]]
  exact afR _ hil
 have hcsz:au+vs.length<=c.size:=by
  have h1:vs.length-1<vs.length:=by omega
  have:=hc _ _ (aeY h1)
  have:=(aff.1 this).1
  omega
 have hfit:au+(i*sz+off)+v'.cells.toList.length<=c.size:=by omega
 have hrun:=hZ (P:=P) aA (au+(i*sz+off)) el lo hi v'.cells.toList 0 c w hw (by simpa using hfit) (LH hxr hone) hmk.1
 simp only[af6]at hrun
 have hlt:=(aff.1 hw).1
 have hX:=hr.Kd (o':= .an el (l.set i d) vt) (w':=w.dL aA (.cells (eP c (au+(i*sz+off)) v'.cells.toList) el (lo,hi))) hb hm hw rfl ⟨rfl,rfl,rfl⟩ (fun s hs=>by
  simp only[World.shape?,hw]at hs
  simp only[World.shape?,ek hlt,jd]
  exact hs) (fun hmono=>by
  simp only[cL]
  have hx:=hvs.2 i (D.at l i) (by simp[D.at,List.getD,aeY hil])
  rw[hsz]at hx
  have hrow:=mW.shape (g:=g) hd hx
  generalize hR:(vs.drop (i*sz)).take sz=row at hrow
  have hrl:row.length=sz:=by rw[<-hR];simp;omega
  have hcsv:ak P g w cs (row.take off++(v'.cells.toList++row.drop (off+v'.cells.toList.length))):=by
   rw[hcs,hyl]
   exact(hrow.take off).append (hxr.append (hrow.drop _))
  have hD:=Ar hu hcsv
  refine⟨_,lo,hi,rfl,⟨by simpa only[jd]using hmk.1,hmk.2⟩,vs.take (i*sz)++((row.take off++(v'.cells.toList++row.drop (off+v'.cells.toList.length)))++vs.drop (i*sz+sz)),?_,fun k y hk=>?_⟩
  ·have r1:cD P g.fz w el (l.take i) (vs.take (i*P.cellsOf el)):=hvs.take i
   have r2:cD P g.fz w el (l.drop (i+1)) (vs.drop ((i+1)*P.cellsOf el)):=hvs.drop (i+1)
   have r3:cD P g.fz w el [d] (row.take off++(v'.cells.toList++row.drop (off+v'.cells.toList.length))):=by
    have:=cD.cons (l:=[]) (vs:=[]) (by rw[hsz,ae4,ae4,afC,agy];omega) hD cD.nil
    simpa using this
   have r4:=r1.append (r3.append r2)
   rw[hsz,show (i+1)*sz=i*sz+sz by rw[agi,agP]]at r4
   have:l.set i d=l.take i++([d]++l.drop (i+1)):=by rw[List.set_eq_take_append_cons_drop,aeZ hil];rfl
   rw[this]
   exact r4.mono hmono.mf hmono.mc
  ·rw[<-hR,SB vs v'.cells.toList (i*sz) sz off (by omega) (by omega)]at hk
   rw[tS _ _ _ _ hfit]
   by_cases hin:i*sz+off<=k/\k<i*sz+off+v'.cells.toList.length
   ·rw[aeZ hin]at hk
    rw[aeZ (by omega),show au+k-(au+(i*sz+off))=k-(i*sz+off)by omega];exact hk
   ·rw[aeX hin]at hk
    rw[aeX (by omega)];exact hc k y hk)
 refine⟨_,?_,hX.1,hX.2,Ph.put hm _⟩
 simp only[Instr.storeAt,Instr.sureAddr,Sem.run_bind,Sem.run_pure,Result.andThen_ok]
 refine py hn ?_ hrun
 have:=hxr.length;simp at this;omega
def HK (hr:aR P g h w){t:TypeId}{n:Nat}(hn:ia P t=some n){b f:Nat}{k:D}{off:Nat}{v:BV}{a' v':Value}{h':af}(ha:ai P g w (.pt b f k off) a')(hv:ai P g w v v')(e:G0 P h n b f k off v=some h'):
 ∃w',(Instr.storeAt t a' v').run P w= .ok () w'/\aR P g h' w'/\gN g h w g h' w'/\Ph g h g h':=by
 unfold G0 at e
 simp only[ai]at ha
 obtain⟨aA,au,hs,rfl,_⟩:=ha
 split at e
 ·rename_i hc0
  simp only[aeV,aeT]at hc0
  obtain⟨hvl,hone⟩:=hc0
  split at e
  ·rename_i el l kt st ck hf
   split at e
   ·rename_i cs hp
    split at e
    ·rename_i d hu
     cases e
     obtain⟨c,vs,⟨lo,hi⟩,hw,hvs,hc,hat,hmk⟩:=hr.aaY hf hs
     obtain⟨hb,hd,hk⟩:=CC hf
     have hxr:=hv.cells hone
     obtain⟨_,hszP,hpos,hshl⟩:=eD hd
     have hvl2:vs.length=P.cellsOf el:=by simpa using hvs.1
     obtain⟨hcs,hple⟩:=gL hp
     rw[hshl]at hple
     have hyl:v'.cells.toList.length=v.cells.length:=hxr.length
     have hcsz:au+vs.length<=c.size:=by
      have h1:vs.length-1<vs.length:=by omega
      have:=hc _ _ (aeY h1)
      have:=(aff.1 this).1
      omega
     have hfit:au+off+v'.cells.toList.length<=c.size:=by omega
     have hrun:=hZ (P:=P) aA (au+off) el lo hi v'.cells.toList 0 c w hw (by simpa using hfit) (LH hxr hone) hmk.1
     simp only[af6]at hrun
     have hlt:=(aff.1 hw).1
     have hX:=hr.adw (d:=d) (w':=w.dL aA (.cells (eP c (au+off) v'.cells.toList) el (lo,hi))) hf hs hw rfl ⟨rfl,rfl,rfl⟩ (fun s hs=>by
      simp only[World.shape?,hw]at hs
      simp only[World.shape?,ek hlt,jd]
      exact hs) (fun hmono=>by
      simp only[cL]
      have hrow:=mW.shape (g:=g) hd hvs.one
      have hcsv:ak P g w cs (vs.take off++(v'.cells.toList++vs.drop (off+v'.cells.toList.length))):=by
       rw[hcs,hyl]
       exact(hrow.take off).append (hxr.append (hrow.drop _))
      have hD:=Ar hu hcsv
      have hlen:(vs.take off++(v'.cells.toList++vs.drop (off+v'.cells.toList.length))).length=P.cellsOf el:=by
       rw[ae4,ae4,afC,agy];omega
      refine⟨_,lo,hi,rfl,⟨by simpa only[jd]using hmk.1,hmk.2⟩,vs.take off++(v'.cells.toList++vs.drop (off+v'.cells.toList.length)),?_,fun i y hk=>?_⟩
      ·have r3:cD P g.fz w el [d] (vs.take off++(v'.cells.toList++vs.drop (off+v'.cells.toList.length))):=by
        have:=cD.cons (l:=[]) (vs:=[]) hlen hD cD.nil
        simpa using this
       exact r3.mono hmono.mf hmono.mc
      ·have hR:=SB vs v'.cells.toList 0 vs.length off (by omega) (by omega)
       simp only[ahL,agv,agO,afW,afT,List.drop_length,afU]at hR
       rw[hR]at hk
       rw[tS _ _ _ _ hfit]
       by_cases hin:off<=i/\i<off+v'.cells.toList.length
       ·rw[aeZ hin]at hk
        rw[aeZ (by omega),show au+i-(au+off)=i-off by omega];exact hk
       ·rw[aeX hin]at hk
        rw[aeX (by omega)];exact hc i y hk)
     obtain⟨_,y,hm⟩:=hr.sk _ _ _ _ _ hb rfl hs
     refine⟨_,?_,hX.1,hX.2,Ph.put hm _⟩
     simp only[Instr.storeAt,Instr.sureAddr,Sem.run_bind,Sem.run_pure,Result.andThen_ok]
     refine py hn ?_ hrun
     have:=hxr.length;simp at this;omega
    ·cases e
   ·cases e
  ·cases e
 ·cases e
def UA (hr:aR P g h w){t:TypeId}{a v:BV}{a' v':Value}{h':af}(ha:ai P g w a a')(hv:ai P g w v v')(e:Aq P h t a v=some h'):
 ∃w',(Instr.storeAt t a' v').run P w= .ok () w'/\aR P g h' w'/\gN g h w g h' w'/\Ph g h g h':=by
 unfold Aq at e
 cases hn:ia P t with
 |none=>simp[hn]at e
 |some n=>
  cases a with
  |aG b off=>
   simp only[hn]at e
   simp only[ai]at ha
   obtain⟨aA,au,hm,rfl⟩:=ha
   cases hb:h.get b with
   |none=>simp[hb]at e
   |some o=>
    cases o with
    |cells cs et s=>
     simp only[hb]at e
     split at e
     ·rename_i hc
      simp only[aeV,aeT]at hc
      cases hp:putCells cs off v.cells with
      |none=>rw[hp]at e;cases e
      |some cs'=>
       rw[hp]at e;simp at e;subst e
       have hx:=hv.cells hc.2
       obtain⟨w',h1,h2,h3⟩:=aaz hr hb hm hx hc.2 hp
       refine⟨w',?_,h2,h3,Ph.put hm _⟩
       simp only[Instr.storeAt,Instr.sureAddr,Sem.run_bind,Sem.run_pure,Result.andThen_ok]
       refine py hn ?_ h1
       have:=hx.length;simp at this;omega
     ·cases e
    |ql b' f k=>
     simp only[hb]at e
     exact HK hr hn (hr.Vq hb (by simp only[ai];exact⟨aA,au,hm,rfl⟩)) hv e
    |_=>simp[hb]at e
  |pt b f k off=>
   simp only[hn]at e
   exact HK hr hn ha hv e
  |vd b e' i off=>
   simp only[hn]at e
   simp only[ai]at ha
   obtain⟨aA,au,hm,rfl⟩:=ha
   cases hb:h.get b with
   |none=>simp[hb]at e
   |some o=>
    cases o with
    |an e2 l vt=>
     simp only[hb]at e
     split at e
     ·rename_i hc
      simp only[aeV,aeT]at hc
      obtain⟨⟨hvl,hone⟩,he,hd⟩:=hc
      have he:=ae8 he
      subst he
      split at e
      ·rename_i cs hp
       split at e
       ·rename_i d hu
        split at e
        ·rename_i hi
         cases e
         exact MV hr hn hb hm hv hvl hone hd hi hp hu
        ·cases e
       ·cases e
      ·cases e
     ·cases e
    |_=>simp[hb]at e
  |_=>simp[hn]at e
def F1 {t:TypeId}{cs:List BV}{vs:Array Value}{off:Nat}{v:BV}(hv:ak P g w cs vs.toList)(e:Dm P t cs off=some v):
 ∃v',(part t vs off).run P w= .ok v' w/\ai P g w v v':=by
 unfold Dm at e
 split at e
 ·rename_i n hag hn
  cases ht:fy cs off n with
  |none=>rw[ht]at e;cases e
  |some r=>
   rw[ht]at e;simp at e;subst e
   obtain⟨h1,h2⟩:=hv.fy ht
   refine⟨.agg (vs.extract off (off+n)),?_,?_⟩
   ·simp[part,IK hag,jQ hn]
   ·simp only[ai]
    refine⟨_,rfl,?_⟩
    rw[Array.toList_extract]
    simpa [ahO]using h1
 ·rename_i hag
  obtain⟨v',hv',hr'⟩:=hv.get e
  refine⟨v',?_,hr'⟩
  have:vs[off]?=some v':=by simpa using hv'
  simp[part,IK hag,this]
 ·cases e
end
end
section
section
variable {P:Program} {g:Gh} {h:af} {w:World}
def Kh (P:Program)(g:Gh)(h:af)(w:World)(b:Nat)(v:BV)(r:Result Value):Prop:=
 ∃v' w',r= .ok v' w'/\aR P (g.ym b w.heap.size 0) h w'/\gN g h w (g.ym b w.heap.size 0) h w'/\ai P (g.ym b w.heap.size 0) w' v v'
def OT (hr:aR P g h w){b:Nat}{cs:List BV}{e:TypeId}{s:Bool}{vs:List Value}{c:Array Value}{lo hi:Nat}{w':World}
 (hb:h.get b=some (.cells cs e s))(hm:g.m b=none)(hv:ak P g w cs vs)(hc:∀(i:Nat) x,vs[i]?=some x->c[i]?=some x)
 (hheap:w'.heap=w.heap.push (.cells c e (lo,hi)))(hos:w'.os=w.os/\w'.output=w.output/\w'.tape=w.tape)
 (hf:∀i,i<c.size->¬(lo<=i/\i<hi))(hs:s=false->lo=0/\hi=0):
 aR P (g.ym b w.heap.size 0) h w'/\gN g h w (g.ym b w.heap.size 0) h w':=by
 refine hr.real hb hm hheap hos fun hmono=>?_
 simp only[cL]
 exact⟨c,lo,hi,rfl,⟨vs,ak.mono hmono _ _ hv,fun i x hi'=>by simpa using hc i x hi'⟩,hf,hs⟩
def OU (hr:aR P g h w){b:Nat}{t:TypeId}{v:BV}{v':Value}(hb:h.get b=some (.cells v.cells t false))(hm:g.m b=none)
 (hv:ai P g w v v')(ho:v.cells.all BV.one=true):Kh P g h w b (.aG b 0) ((do pure (Value.pointer (some (<-newVar t v'))):Sem Value).run P w):=by
 refine⟨.pointer (some ⟨w.heap.size,0,none⟩),_,by simp only[newVar,newRow,Sem.run_bind,run_newObj,Result.andThen_ok,Sem.run_pure];rfl,?_⟩
 have h1:=OT hr (vs:=v'.cells.toList) (c:=v'.cells) (lo:=0) (hi:=0) (w':={w with heap:=w.heap.push (.cells v'.cells t)}) hb hm (hv.cells ho) (fun i x hi=>by simpa using hi) rfl ⟨rfl,rfl,rfl⟩ (by omega) (fun _=>⟨rfl,rfl⟩)
 refine⟨h1.1,h1.2,?_⟩
 simp only[ai]
 exact⟨_,_,Gh.fU _ _ _ _,rfl⟩
def Q0 (hr:aR P g h w){b:Nat}{t:TypeId}{z:BV}(hz:jr P t=some z)(hb:h.get b=some (.cells z.cells t false))(hm:g.m b=none)
 (ho:z.cells.all BV.one=true):Kh P g h w b (.aG b 0) ((Instr.alloc t true (.tuple #[])).run P w):=by
 obtain⟨z',hz',hzr⟩:=D6 hz w
 have:=OU hr hb hm (hzr g) ho
 simpa [Instr.alloc,hz']using this
def XB (hr:aR P g h w){b:Nat}{t:TypeId}{v:BV}{v':Value}(hb:h.get b=some (.cells v.cells t false))(hm:g.m b=none)
 (hv:ai P g w v v')(ho:v.cells.all BV.one=true):Kh P g h w b (.aG b 0) ((Instr.box t v').run P w):=by
 have:=OU hr hb hm hv ho
 simpa [Instr.box]using this
def JH {P:Program}{h:af}{k e:TypeId}{o:ax}(hn:o0 P h k e=some o):mv h.next o:=by
 unfold o0 at hn
 repeat' split at hn
 all_goals first|cases hn;done| (cases hn;first|exact mv.bare rfl rfl|exact mv.map _ _ _ _)
def Oa {P:Program}{h:af}{k e:TypeId}{o:ax}(hn:o0 P h k e=some o)(g:Gh)(w:World):cL P g w o 0 (.map #[] 0):=by
 unfold o0 at hn
 repeat' split at hn
 all_goals first|cases hn;done| (cases hn;simp only[cL];exact⟨trivial,_,rfl,⟨rfl,rfl,fun i p e h=>(by simp at h),fun i p e h=>(by simp at h),fun i p e h=>(by simp at h),fun p h=>(by simp at h),ahq,ahq,fun s h=>(by simp at h)⟩⟩)
def XC (hr:aR P g h w){b:Nat}{t k e:TypeId}{a:af}{r:Option BV}{r':Option Value}(hu:P.underlying t=some (.map k e)){o:ax}(hn:o0 P a k e=some o)(hb:h.get b=some o)(hm:g.m b=none)
 (hrr:(r=none/\r'=none)\/∃q n,r=some (.int q n)/\r'=some (.int q n)):Kh P g h w b (.map b) ((Instr.makeMap t r').run P w):=by
 have hrun:(Instr.makeMap t r').run P w= .ok (.map (some w.heap.size)) {w with heap:=w.heap.push (.map #[] 0)}:=by
  rcases hrr with ⟨_,rfl⟩| ⟨q,n,_,rfl⟩
  ·simp[Instr.makeMap]
  ·simp[Instr.makeMap,aB hu,asInt,asIntOf]
 refine⟨_,_,hrun,?_⟩
 have h1:=hr.real (w':={w with heap:=w.heap.push (.map #[] 0)}) hb hm rfl ⟨rfl,rfl,rfl⟩ (fun _=>Oa hn _ _) (JH hn).gH
 refine⟨h1.1,h1.2,?_⟩
 simp only[ai]
 exact⟨_,Gh.fU _ _ _ _,rfl⟩
def Kk (l:List Value):∀(k:Nat) (cs:Array Value) (off:Nat),off+k+l.length<=cs.size->
 ((l.zipIdx k).foldl (fun cs (x:Value×Nat)=>cs.setIfInBounds (off+x.2) x.1) cs)=eP cs (off+k) l:=by
 induction l with
 |nil=>intro k cs off _;simp[eP]
 |cons v r ih=>
  intro k cs off hle
  simp only[ae9]at hle
  simp only[List.zipIdx_cons,agm,eP]
  rw[ih (k+1) _ off (by simp;omega)]
  rfl
def aaG (cs:Array Value)(off:Nat)(xs:Array Value)(hle:off+xs.size<=cs.size):
 xs.zipIdx.foldl (fun cs (x:Value×Nat)=>cs.setIfInBounds (off+x.2) x.1) cs=eP cs off xs.toList:=by
 rw[<-aiu,Array.toList_zipIdx]
 have:=Kk xs.toList 0 cs off (by simpa using hle)
 simpa using this
def ak.putCells {cs cs' xs:List BV}{c:Array Value}{ys:List Value}{off:Nat}(hc:ak P g w cs c.toList)(hx:ak P g w xs ys)(hp:putCells cs off xs=some cs'):
 ak P g w cs' (eP c off ys).toList:=by
 have hl:=hc.length
 have hxl:=hx.length
 obtain⟨_,hle⟩:=gL hp
 refine ak.qU (by rw[Ih hp];simpa using hl) fun i b v hb hv=>?_
 rw[MJ hp]at hb
 simp only[afM]at hv
 rw[tS _ _ _ _ (by simp at hl;omega)]at hv
 by_cases h1:off<=i/\i<off+xs.length
 ·rw[aeZ h1]at hb;rw[aeZ (by omega)]at hv
  obtain⟨u,hu,hr⟩:=hx.get hb
  rw[hu]at hv;cases hv;exact hr
 ·rw[aeX h1]at hb;rw[aeX (by omega)]at hv
  obtain⟨u,hu,hr⟩:=hc.get hb
  simp only[afM]at hu
  rw[hu]at hv;cases hv;exact hr
def ai.LR {v:BV}{v':Value}(hv:ai P g w v v')(hk:v.tU=true):ak P g w v.cells v'.cells.toList:=by
 by_cases hb:∃cs,v= .agg cs
 ·obtain⟨cs,rfl⟩:=hb
  simp only[ai]at hv;obtain⟨vs,rfl,h⟩:=hv
  simpa [BV.cells,Value.cells]using h
 ·have e:v.cells=[v]:=by cases v<;>first|rfl| (exact absurd ⟨_,rfl⟩ hb)
  have e':v'.cells=#[v']:=by
   by_cases ht:∃cs,v= .tuple cs
   ·obtain⟨cs,rfl⟩:=ht;simp only[ai]at hv;obtain⟨vs,rfl,_⟩:=hv;rfl
   ·refine(hv.one ?_).1
    cases v<;>first|rfl| (simp[BV.tU]at hk;done)| (exact absurd ⟨_,rfl⟩ hb)| (exact absurd ⟨_,rfl⟩ ht)
  rw[e,e']
  exact ak.cons hv ak.nil
def PG (P:Program)(g:Gh)(w:World)(ps:List (Nat×BV))(qs:List (Nat×Value)):Prop:=
 qs.length=ps.length/\∀(j:Nat) i v,ps[j]?=some (i,v)->∃v',qs[j]?=some (i,v')/\ai P g w v v'
def PG.cons {i:Nat}{v:BV}{ps:List (Nat×BV)}{qs:List (Nat×Value)}(hp:PG P g w ((i,v)::ps) qs):∃v' qs',qs=(i,v')::qs'/\ai P g w v v'/\PG P g w ps qs':=by
 obtain⟨hl,hp⟩:=hp
 cases qs with
 |nil=>simp at hl
 |cons q qs=>
  obtain⟨v',h1,h2⟩:=hp 0 i v (by simp)
  simp at h1;subst h1
  exact⟨v',qs,rfl,h2,by simpa using hl,fun j i' u hj=>by have:=hp (j+1) i' u (by simpa using hj);simpa using this⟩
def J3 {place:Nat->Option (Nat×Nat)}:∀(ps:List (Nat×BV)) (qs:List (Nat×Value)) (cs cs':List BV) (c:Array Value),PG P g w ps qs->ak P g w cs c.toList->
 De place cs ps=some cs'->∃c',Instr.fill place c qs=some c'/\ak P g w cs' c'.toList:=by
 intro ps
 induction ps with
 |nil=>
  intro qs cs cs' c hp hc e
  have:qs=[]:=by have:=hp.1;simpa using this
  subst this
  simp[De]at e;subst e
  exact⟨c,rfl,hc⟩
 |cons p ps ih=>
  intro qs cs cs' c hp hc e
  obtain⟨i,v⟩:=p
  obtain⟨v',qs',rfl,hv,hp'⟩:=hp.cons
  simp only[De]at e
  cases hpl:place i with
  |none=>simp[hpl]at e
  |some os=>
   obtain⟨off,size⟩:=os
   simp only[hpl]at e
   split at e
   ·rename_i hl
    simp only[aeV,aeT]at hl
    cases hput:putCells cs off v.cells with
    |none=>simp[hput]at e
    |some cs1=>
     simp only[hput]at e
     have hx:=hv.LR hl.2
     have hxl:=hx.length
     have hcl:=hc.length
     obtain⟨_,hle⟩:=gL hput
     simp at hxl hcl
     have hc1:=hc.putCells hx hput
     obtain⟨c',h1,h2⟩:=ih qs' cs1 cs' _ hp' hc1 e
     refine⟨c',?_,h2⟩
     simp only[Instr.fill,hpl]
     rw[aeX (by simp;omega)]
     rw[aaG _ _ _ (by omega)]
     exact h1
   ·cases e
def Q3 (w:World):∀(fs:List Field) (ps:List (Nat×Nat)),fs.mapM (fun f=>(ia P f.type).map fun s=>(f.offset,s))=some ps->
 (fs.mapM (fun f=>(do pure (f.offset,<-sizeOf f.type):Sem (Nat×Nat)))).run P w= .ok ps w:=by
 intro fs
 induction fs with
 |nil=>intro ps e;simp at e;subst e;simp
 |cons f fs ih=>
  intro ps e
  simp only[ail]at e ⊢
  cases hs:ia P f.type with
  |none=>simp[hs]at e
  |some n=>
   simp only[hs,afb]at e
   cases hm:fs.mapM (fun f=>(ia P f.type).map fun s=>(f.offset,s))with
   |none=>simp[hm]at e
   |some ps'=>
    simp[hm]at e;subst e
    simp only[Sem.run_bind,jQ hs,Result.andThen_ok,Sem.run_pure,ih _ hm]
def Uq {t:TypeId}{ps:List (Nat×BV)}{qs:List (Nat×Value)}{v:BV}(hp:PG P g w ps qs)(e:PQ P t ps=some v):
 ∃v',(Instr.build t qs.toArray).run P w= .ok v' w/\ai P g w v v':=by
 unfold PQ at e
 split at e
 ·rename_i zc fs hz hu
  obtain⟨z',hz',hzr⟩:=D6 hz w
  have hzg:=hzr g
  simp only[ai]at hzg
  obtain⟨zs,rfl,hzv⟩:=hzg
  cases hpl:Xt P fs with
  |none=>simp[hpl]at e
  |some pl=>
   simp only[hpl]at e
   cases hf:De (fun i=>pl[i]?) zc ps with
   |none=>simp[hf]at e
   |some cs=>
    simp[hf]at e;subst e
    obtain⟨c',h1,h2⟩:=J3 ps qs zc cs zs hp hzv hf
    refine⟨.agg c',?_,by simp only[ai];exact⟨_,rfl,h2⟩⟩
    have hrp:=Q3 (P:=P) w fs.toList pl hpl
    simp only[Instr.build,Sem.run_bind,hz',Result.andThen_ok,aB hu]
    rw[ahN]
    simp only[Sem.run_map,hrp,Result.andThen_ok,List.getElem?_toArray,Value.cells]
    rw[h1]
    simp
 ·rename_i zc n el hz hu
  obtain⟨z',hz',hzr⟩:=D6 hz w
  have hzg:=hzr g
  simp only[ai]at hzg
  obtain⟨zs,rfl,hzv⟩:=hzg
  cases hs:ia P el with
  |none=>simp[hs]at e
  |some size=>
   simp only[hs]at e
   cases hf:De (fun i=>some (i*size,size)) zc ps with
   |none=>simp[hf]at e
   |some cs=>
    simp[hf]at e;subst e
    obtain⟨c',h1,h2⟩:=J3 ps qs zc cs zs hp hzv hf
    refine⟨.agg c',?_,by simp only[ai];exact⟨_,rfl,h2⟩⟩
    simp only[Instr.build,Sem.run_bind,hz',Result.andThen_ok,aB hu,jQ hs,Value.cells]
    rw[h1]
    simp
 ·cases e
end
end
end Go.PB
end
