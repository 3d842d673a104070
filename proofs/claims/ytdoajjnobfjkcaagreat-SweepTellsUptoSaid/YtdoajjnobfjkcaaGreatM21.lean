import Derived.Test.YtdoajjnobfjkcaaGreatM12
import Derived.Test.YtdoajjnobfjkcaaGreatM20
set_option linter.all false
noncomputable section
namespace Go.Proofs
open Go Go.PB
def Cr {P:Program}{f:FuncId}{ags:List BV}{M M':List (Nat×aI)}{p:Nat}{R:RH}{Q:D->Prop}(h:M=M')(hp:BZ P f ags M' p (R ags M') Q):BZ P f ags M p (R ags M) Q:=by subst h;exact hp
def ch (l:List Int):Prop:=∀(i:Nat) (a b:Int),l[i]?=some a->l[i+1]?=some b->a<b
def ch.tail {a:Int}{l:List Int}(h:ch (a::l)):ch l:=fun i x y h1 h2=>h (i+1) x y (by simpa using h1) (by simpa using h2)
def ch.lt:∀{l:List Int} {a:Int},ch (a::l)->∀b∈l,a<b:=by
 intro l
 induction l with
 |nil=>intro a _ b hb;cases hb
 |cons c r ih=>
  intro a h b hb
  have h1:a<c:=h 0 a c rfl rfl
  rcases ag9.1 hb with rfl|hb
  ·exact h1
  ·have:=ih h.tail b hb;omega
def ch.lJ:∀{l:List Int},ch l->l.Nodup:=by
 intro l
 induction l with
 |nil=>intro _;simp
 |cons a r ih=>
  intro h
  refine ahO.2 ⟨fun hm=>?_,ih h.tail⟩
  have:=h.lt a hm;omega
namespace Wl
def an (x:Wl):aV:=x.th.map fun e=>(e.r,e.w)
def Rb (x:Wl):Int:=x.ma.foldr (·+·) 0
end Wl
def Js (l:List En)(i:Nat):Nat:=(l.filter fun e=>decide (e.w.k≠14/\e.w.h=(i:Int))).length
def iE (n:Nat)(l:List Int):List Bool:=l.foldl (fun a c=>a.set c.toNat true) (List.replicate (n+1) false)
def R9 (n:Nat)(l:List Int)(c:Int):iE n (l++[c])=(iE n l).set c.toNat true:=by simp[iE]
def Ew (l:List Int)(f:Int->Nat):∀a:List Bool,(l.foldl (fun a c=>a.set (f c) true) a).length=a.length:=by
 induction l with
 |nil=>intro a;rfl
 |cons c r ih=>intro a;simp[ih]
@[simp] def U8 (n:Nat)(l:List Int):(iE n l).length=n+1:=by simp[iE,Ew]
structure Wl.BY (x:Wl):Prop where
 par:oJ x.pa=true
 GO:x.ma.length=x.pa.length+1
 cut:∀c∈x.cu,1<=c/\c<=x.pa.length
 Pr:ch x.cu
 mb:∀m∈x.ma,0<=m/\m<=512
 la0:0<=x.la
 la1:x.la<=64*x.Rb
 rb:∀e∈x.th,1<=e.r/\e.r<=x.la
 Iy:ch (x.th.map En.r)
 Fl:∀e∈x.th,e.w.F (x.pa.length+1:Nat)/\(e.w.k=14->e.w.set<64)
 GK:∀(i:Nat) (m:Int),x.ma[i]?=some m->(Js x.th i:Int)<=m
 Q4:x.an.Kf
 Q5:x.la+eT (x.an.pE x.an.ab) (x.an.map (·.1))<=64*x.Rb
structure Wl.vx (x:Wl):Prop where
 ok:x.ok
 pa:x.pa.length<2^30
 cu:x.cu.length<2^30
 th:x.th.length<2^30
 ma:x.ma.length<2^30
 sz:∀e∈x.th,e.w.sz<2^30
def Wl.ct (x:Wl):x.an.map (·.1)=x.th.map En.r:=by simp[Wl.an]
def Rc (l:List Int)(h:∀m∈l,0<=m/\m<=512):0<=l.foldr (·+·) (0:Int)/\l.foldr (·+·) (0:Int)<=512*l.length:=by
 induction l with
 |nil=>simp
 |cons a r ih=>
  have h1:=h a (by simp)
  have h2:=ih fun m hm=>h m (by simp[hm])
  simp only[aiC,ahv]
  omega
def Re (l:List Int)(a:Int):(l++[a]).foldr (·+·) (0:Int)=l.foldr (·+·) 0+a:=by
 induction l with
 |nil=>simp
 |cons b r ih=>simp only[aia,aiC,ih];omega
structure Rs (l:List D)(n:Nat)(pre:List En):Prop where
 len:l.length=n
 HO:∀i,i<n->D.at l i= .z (Js pre i)
def Rs.afN (n:Nat):Rs (List.replicate n (D.z 0)) n []:=⟨by simp,fun i hi=>by simp[D.at,List.getD,hi,Js]⟩
def MB (pre:List En)(e:En)(i:Nat):Js (pre++[e]) i=Js pre i+if e.w.k≠14/\e.w.h=(i:Int)then 1 else 0:=by
 simp only[Js,aiP,ahc]
 by_cases h:e.w.k≠14/\e.w.h=(i:Int)
 ·rw[ag8 h,List.filter_cons_of_pos (by simpa using h)];rfl
 ·rw[ag4 h,List.filter_cons_of_neg (by simpa using h)];rfl
def Ud (pre:List En)(i:Nat):Js pre i<=pre.length:=ah1 _ _
def Rs.same {l:List D}{n:Nat}{pre:List En}(h:Rs l n pre){e:En}(he:e.w.k=14):Rs l n (pre++[e]):=⟨h.len,fun i hi=>by rw[h.HO i hi,MB,ag4 (by simp[he])];rfl⟩
def Rs.step {l:List D}{n:Nat}{pre:List En}(h:Rs l n pre){e:En}(he:e.w.k≠14)(h0:0<=e.w.h)(h1:e.w.h<n):Rs (l.set e.w.h.toNat (.z ((Js pre e.w.h.toNat:Int)+1))) n (pre++[e]):=by
 refine⟨by simp[h.len],fun i hi=>?_⟩
 rw[MB]
 by_cases hh:e.w.h=i
 ·have:e.w.h.toNat=i:=by omega
  rw[ag8 ⟨he,hh⟩,this]
  simp[D.at,List.getD,h.len,hi]
 ·have:e.w.h.toNat≠i:=by omega
  rw[ag4 (by simp[hh])]
  have:=h.HO i hi
  simp only[D.at,List.getD,ain ‹_›]at this ⊢
  simpa using this
def ch.JB {l:List Int}{b:Int}(h:ch l)(hl:∀a,0<l.length->l[l.length-1]?=some a->a<b):ch (l++[b]):=by
 intro i x y h1 h2
 have hi:=(aha.1 h2).1
 simp only[ahc,ah9]at hi
 rw[aiH (by omega)]at h1
 by_cases e:i+1<l.length
 ·rw[aiH e]at h2;exact h i x y h1 h2
 ·have:i+1=l.length:=by omega
  rw[ajV (by omega),this,Nat.sub_self]at h2
  cases h2
  exact hl x (by omega) (by rw[<-this];exact h1)
def aV.Ba (t u:aV)(r:Int):aV.get (t++u) r=(t.get r).or (u.get r):=by
 induction t with
 |nil=>simp[aV.get]
 |cons p q ih=>simp only[aia,aV.get];split<;>simp_all
abbrev afV (x:Wl)(cu:List D)(m:List (D×D))(st:List Nat)(c:Nat)(fm:List (D×D))(fs:List Nat)(fc:Nat):List (Nat×aI):=
 [(0,.cells [.bw cC (aw x.pa),.aZ 3 (x.pa.length+1) true,.map 1,.map 2,.int .i64 0,.aZ 4 (x.pa.length+1) true] bh false),(1,.bg aA (.bY 1 aH) m st c),(2,.bg aF (.data aA) fm fs fc),(3,.ak ai cu true),(4,.ak af (List.replicate (x.pa.length+1) (D.z 0)) true)]
def Bn (x:Wl){cu:List D}(h:cu.length=x.pa.length+1)(m:List (D×D))(st:List Nat)(c:Nat)(fm:List (D×D))(fs:List Nat)(fc:Nat):
 afV x cu m st c fm fs fc=Wm (WS.mk (aw x.pa) cu m st c fm fs fc 0 (List.replicate (x.pa.length+1) (D.z 0))):=by
 simp only[afV,Wm,h,ah8]
def ach (x:Wl)(cu:List Bool)(th:aV)(fa:gX)(st:List Nat)(c:Nat)(fs:List Nat)(fc:Nat):
 zC (WS.mk (aw x.pa) (cu.map D.b) th.ax st c fa.ax fs fc 0 (List.replicate (x.pa.length+1) (D.z 0))) ⟨x.pa,cu,th,fa,0,List.replicate (x.pa.length+1) 0⟩:=⟨rfl,rfl,rfl,rfl,rfl,by simp[aw]⟩
def IL (x:Wl)(d:D):Prop:=((d.aa 0).bool=true↔x.BY)/\(x.BY->∃f:gX,f.Idx x.an/\(d.aa 1).ae=aw x.pa/\(d.aa 2).ae=(iE x.pa.length x.cu).map D.b/\(d.aa 3).int=x.la/\(d.aa 4).ae=aw x.ma/\cn (D.aa d 5)=x.an.ax/\cn (D.aa d 8)=f.ax)
def aeH (x:Wl)(hs:x.vx):PH ij (lj x.ax) [] 0 jL (IL x):=by
 have no:¬x.BY->i0.bx=some 0/\∃d,T.dy (BV.tuple [.nA,.int .i64 71],([]:List (Nat×aI))) (jL (lj x.ax) [] d)/\IL x d:=fun h=>⟨rfl,.r [.b false],.ff rfl .ret,⟨fun a=>by simp[D.aa,D.at]at a,fun a=>(h a).elim⟩,fun a=>(h a).elim⟩
 have hok:=hs.ok
 have hpa:=hs.pa
 have hth:=hs.th
 have hma:=hs.ma
 have ewok:∀e∈x.th,e.w.ok:=fun e he=>(hok.2.2.2.2.2.1 e he).2.2
 have loop3:∀(ah:List Int) (i:Nat) (there:List D) (st:List Nat) (c:Nat),oJ x.pa=true->x.ma.length=x.pa.length+1->(∀c∈x.cu,1<=c/\c<=x.pa.length)->ch x.cu->(∀e∈x.th,1<=e.r/\e.r<=x.la)->ch (x.th.map En.r)->
  (∀e∈x.th,e.w.F (x.pa.length+1:Nat)/\(e.w.k=14->e.w.set<64))->Rs there (x.pa.length+1) x.th->x.ma.drop i=ah->(∀m∈x.ma.take i,0<=m/\m<=512)->(∀(j:Nat) (m:Int),j<i->x.ma[j]?=some m->(Js x.th j:Int)<=m)->
  ay pg ij [b6,aM] (.bx 0 (jL (lj x.ax) []) (IL x)) (tI x.ax (x.pa.length+1) there x.an.ax st c ((iE x.pa.length x.cu).map D.b) ((x.ma.take i).foldr (·+·) 0) i):=by
  intro ah
  induction ah with
  |nil=>
   intro i there st c g1 g2 g3 g4 g5 g6 g7 hc hd hm hh
   have hi:=drop_nil hd
   rw[ag5 hi]at hm ⊢
   have hsb:=Rc x.ma hm
   have hla:-2^63<=x.la/\x.la<2^63:=⟨hok.2.2.2.2.2.2.1,hok.2.2.2.2.2.2.2.1⟩
   have hone:x.an.one:=by rw[aV.one,Wl.ct];exact g6.lJ
   have hkeys:∀r y,x.an.get r=some y->∃e∈x.th,e.r=r/\e.w=y:=fun r y hy=>by
    have:=aV.np hy
    simp only[Wl.an,ahp]at this
    obtain⟨e,he,h⟩:=this
    cases h
    exact⟨e,he,rfl,rfl⟩
   have hgood:x.an.BY:=⟨hone,by simp[Wl.an];omega,fun r y hy=>by obtain⟨e,he,_,rfl⟩:=hkeys r y hy;exact ewok e he,fun r y hy=>by obtain⟨e,he,_,rfl⟩:=hkeys r y hy;exact hs.sz e he,fun r y hy=>by obtain⟨e,he,_,rfl⟩:=hkeys r y hy;exact(g7 e he).1.cN⟩
   refine E6 ?_
   simp only[rk,Wl.nf,Wl.vi,Wl.CD,agV,agW,agX,D.bE]
   refine⟨fun h=>by omega,fun _=>⟨fun h=>no fun g=>by have:=g.la0;omega,fun l0=>?_⟩⟩
   rw[bO (x:=64*_) (by omega) (by omega)]
   refine⟨fun h=>no fun g=>by have:=g.la1;simp only[Wl.Rb]at this;omega,fun l1=>?_⟩
   refine⟨_,_,rfl,Cr (Bn x (by simp) x.an.ax st c [] [] 0) (aay (ach x _ x.an [] st c [] 0) hgood rfl),?_⟩
   rintro d ⟨q1,q2⟩
   refine⟨fun h=>no fun g=>by rw[q1.2 g.Q4]at h;simp at h,fun h=>?_⟩
   have hS:x.an.Kf:=q1.1 (by simpa using h)
   obtain⟨f,hf,hidx⟩:=q2 hS
   have hset:∀r y,x.an.get r=some y->0<=y.set/\y.set<256:=fun r y hy=>by
    have:=hgood.ok r y hy;simp only[Wh.ok]at this;omega
   have hab:∀r y,x.an.get r=some y->0<=x.an.ab r/\x.an.ab r<64:=fun r y hy=>by
    obtain⟨n,hn,he⟩:=aV.JR hone (fun r x h=>(hS.1 r x h).2) hy
    have hfc:∀r y,x.an.get r=some y->y.k=14->js y.set (x.an.ab y.of)=0:=fun r y hy hk=>by
     have:=hS.2.2 r y hy
     simp[aV.JW,hk]at this
     exact this.2.2.2
    have:=(aV.Nq hset (.inl hfc) n r (by omega) he).2
    omega
   have hsp:PH mn (wv _) (Wm _) 3 sy (fun d=>D.int d=eT (x.an.pE x.an.ab) (x.an.map (·.1))):=aaz (ach x (iE x.pa.length x.cu) x.an f st c (cK (D.aa d 2)) (cJ (D.aa d 3))) hone (by simp[Wl.an];omega) x.an.ab fun r hr=>by
    obtain⟨y,hy⟩:=ahw.1 (aV.ri.2 hr)
    exact⟨⟨_,aV.acB (hS.1 r y hy).2⟩,hab r y hy⟩
   rw[hf]
   refine⟨_,_,rfl,Cr (Bn x (by simp) x.an.ax st c f.ax (cK (D.aa d 2)) (cJ (D.aa d 3))) hsp,?_⟩
   intro d2 hd2
   rw[hd2]
   have hsb2:=TG (t:=x.an) (ab:=x.an.ab) (x.an.map (·.1))
   have hkl:(x.an.map (·.1)).length=x.th.length:=by simp[Wl.an]
   rw[hkl]at hsb2
   have hsum:x.Rb=x.ma.foldr (·+·) 0:=rfl
   rw[bO (x:=x.la+_) (by omega) (by omega)]
   refine⟨fun h=>no fun g=>by have:=g.Q5;omega,fun h=>?_⟩
   refine⟨_,_,rfl,U3 (aw x.ma) (by simpa using hma),?_⟩
   intro d3 hd3
   rw[hd3]
   have rj:x.BY:=⟨g1,g2,g3,g4,hm,by omega,by omega,g5,g6,g7,fun j m hj=>hh j m (by have:=(aha.1 hj).1;omega) hj,hS,by omega⟩
   refine⟨rfl,.r [.b true,.r (aw x.pa),.r ((iE x.pa.length x.cu).map D.b),.z x.la,.r (aw x.ma),i5 x.an.ax,i6 st,.z c,i5 f.ax,i6 (cK (D.aa d 2)),.z (cJ (D.aa d 3))],.tt rfl (bm.2 ?_),⟨fun _=>rj,fun _=>rfl⟩,fun _=>⟨f,hidx,rfl,rfl,rfl,rfl,?_,?_⟩⟩
   ·simp only[D.aa,D.bE,D.at,aiA,aiM,dh,nb,na,D.bV,agV,U8]
   ·simp only[D.aa,D.bE,D.at,aiA,aiM,dh]
   ·simp only[D.aa,D.bE,D.at,aiA,aiM,dh]
  |cons m ah ih=>
   intro i there st c g1 g2 g3 g4 g5 g6 g7 hc hd hm hh
   obtain⟨k1,k2,k3⟩:=aB hd
   have hi:i<x.pa.length+1:=by omega
   have hmem:=agY k1
   have hsb:=Rc (x.ma.take i) hm
   have htl:(x.ma.take i).length<=x.ma.length:=ajh ..
   refine E6 ?_
   simp only[rk,Wl.vi,agV,agW,agX,ag6,bn (f:=D.z) k1,hc.HO i hi,hc.len,D.bV,aU k3,aU hi]
   refine⟨fun _=>⟨fun _=>⟨fun _=>⟨fun _=>⟨fun h=>no fun g=>by have:=g.GK i m k1;omega,fun h1=>⟨fun h=>no fun g=>by have:=g.mb m hmem;omega,fun h2=>?_⟩⟩,fun h=>by omega⟩,fun h=>by simp at h⟩,fun h=>by simp at h⟩,fun h=>by omega⟩
   have e:=ih (i+1) there st c g1 g2 g3 g4 g5 g6 g7 hc k2 (fun y hy=>?_) (fun j y hj hy=>?_)
   ·rw[aQ k1,Re]at e
    rw[bO (x:=_+m) (by omega) (by omega),bo k3 (by omega)]
    exact e
   ·rw[aQ k1]at hy
    rcases ahd.1 hy with hy|hy
    ·exact hm y hy
    ·simp only[ahb]at hy;subst hy;omega
   ·by_cases ej:j=i
    ·subst ej;rw[k1]at hy;cases hy;omega
    ·exact hh j y (by omega) hy
 have loop2:∀(ah:List En) (i:Nat) (last:Int) (there:List D) (st:List Nat) (c:Nat),oJ x.pa=true->x.ma.length=x.pa.length+1->(∀c∈x.cu,1<=c/\c<=x.pa.length)->ch x.cu->x.th.drop i=ah->
  (∀e∈x.th.take i,1<=e.r/\e.r<=x.la/\e.r<=last)->(i=0->last=0)->(∀e,0<i->x.th[i-1]?=some e->last=e.r)->0<=last->ch ((x.th.take i).map En.r)->(∀e∈x.th.take i,e.w.F (x.pa.length+1:Nat)/\(e.w.k=14->e.w.set<64))->Rs there (x.pa.length+1) (x.th.take i)->
  ay pg ij [b6,aM] (.bx 0 (jL (lj x.ax) []) (IL x)) (mA x.ax (x.pa.length+1) there ((iE x.pa.length x.cu).map D.b) last i (aV.ax ((x.th.take i).map fun e=>(e.r,e.w))) st c):=by
  intro ah
  induction ah with
  |nil=>
   intro i last there st c g1 g2 g3 g4 hd hb h0 hl hl0 hr hf hc
   have hi:=drop_nil hd
   rw[ag5 hi]at hb hr hf hc ⊢
   refine E5 ?_
   simp only[rk,Wl.kQ,agV,agW,agX]
   refine⟨fun h=>by omega,fun _=>?_⟩
   exact loop3 x.ma 0 there st c g1 g2 g3 g4 (fun e he=>⟨(hb e he).1,(hb e he).2.1⟩) hr hf hc rfl (by simp) (by intro j m hj;omega)
  |cons e ah ih=>
   intro i last there st c g1 g2 g3 g4 hd hb h0 hl hl0 hr hf hc
   obtain⟨k1,k2,k3⟩:=aB hd
   have hmem:=agY k1
   have hew:=ewok e hmem
   have e1:D.aa e.ax 1=e.w.ax:=En.Ug e
   have JB:aV.ax ((x.th.take i).map fun e=>(e.r,e.w))++[(D.z e.r,e.w.ax)]=aV.ax ((x.th.take (i+1)).map fun e=>(e.r,e.w)):=by rw[aQ k1];simp[aV.ax]
   refine E5 ?_
   simp only[rk,Wl.nf,Wl.kQ,Wl.CD,agV,agW,agX,ag6,bn k1,En.BC,e1,Wh.re,aU k3]
   refine⟨fun _=>⟨fun _=>⟨fun h=>no fun g=>?_,fun r1=>⟨fun h=>no fun g=>by have:=(g.rb e hmem).2;omega,fun r2=>?_⟩⟩,fun h=>by simp at h⟩,fun h=>by omega⟩
   ·by_cases hi0:i=0
    ·have:=h0 hi0;have:=(g.rb e hmem).1;omega
    ·obtain⟨p,hp⟩:∃p,x.th[i-1]?=some p:=⟨_,ag7 (by omega)⟩
     have h2:=hl p (by omega) hp
     have h3:=g.Iy (i-1) p.r e.r (by simp[hp]) (by rw[show i-1+1=i by omega];simp[k1])
     omega
   have hnone:aV.get ((x.th.take i).map fun e=>(e.r,e.w)) e.r=none:=by
    cases hg:aV.get ((x.th.take i).map fun e=>(e.r,e.w)) e.r with
    |none=>rfl
    |some y=>
     have:=aV.np hg
     simp only[ahp]at this
     obtain⟨q,hq,hq2⟩:=this
     have:=(hb q hq).2.2
     have hq3:=ahE Prod.fst hq2
     simp only at hq3;omega
   have hget:aV.get ((x.th.take (i+1)).map fun e=>(e.r,e.w)) e.r=some e.w:=by
    rw[aQ k1,ahr,aV.Ba,hnone];simp[aV.get]
   refine⟨_,_,rfl,Cr (Bn x (by simp) _ st c [] [] 0) (Xx (ach x (iE x.pa.length x.cu) ((x.th.take i).map fun e=>(e.r,e.w)) [] st c [] 0) e.w hew (hs.sz e hmem)),?_⟩
   intro d hd2
   rw[hd2]
   simp only[ah8]
   refine⟨fun h=>no fun g=>?_,fun hform=>?_⟩
   ·have:=(Wh.z8).2 (g.Fl e hmem)
    rw[this]at h;simp at h
   have hform:e.w.F (x.pa.length+1:Nat)/\(e.w.k=14->e.w.set<64):=Wh.z8.1 (by simpa using hform)
   refine⟨_,_,_,rfl,Ef e.w hew (hs.sz e hmem) hform.1.cN,?_⟩
   rintro _ rfl
   simp only[Wh.re,JB,aV.cS,hnone,hget,aV.val hget,Wh.cU,Wh.mH,ajX,ahU,agZ,ag0,ag1,ag3,ahk,ahf,aiI,ahV,aic,hc.len]
   have nx:∀there',Rs there' (x.pa.length+1) (x.th.take (i+1))->ay pg ij [b6,aM] (.bx 0 (jL (lj x.ax) []) (IL x)) (mA x.ax (x.pa.length+1) there' ((iE x.pa.length x.cu).map D.b) e.r (IntKind.i64.wrap ((i:Int)+1)) (aV.ax ((x.th.take (i+1)).map fun e=>(e.r,e.w))) (st++[c]) (c+1)):=fun there' hc'=>by
    rw[bo k3 (by omega)]
    refine ih (i+1) e.r there' (st++[c]) (c+1) g1 g2 g3 g4 k2 (fun q hq=>?_) (by omega) (fun p _ hp=>by rw[akD,k1]at hp;cases hp;rfl) (by omega) ?_ (fun q hq=>?_) hc'
    ·rw[aQ k1]at hq
     rcases ahd.1 hq with hq|hq
     ·have:=hb q hq;omega
     ·simp only[ahb]at hq;subst hq;omega
    ·rw[aQ k1,ahr]
     refine hr.JB fun a ha hla=>?_
     simp only[agV,ahx]at ha hla
     rw[show min i x.th.length=i by omega]at hla
     simp only[ahQ,aiJ (show i-1<i by omega),ahY]at hla
     obtain⟨p,hp,rfl⟩:=hla
     have:=hl p (by omega) hp
     omega
    ·rw[aQ k1]at hq
     rcases ahd.1 hq with hq|hq
     ·exact hf q hq
     ·simp only[ahb]at hq;subst hq;exact hform
   refine⟨fun hk=>?_,fun hk=>nx there (by rw[aQ k1];exact hc.same hk)⟩
   have hh:=hform.1.2.2.1 hk
   have hcl:=Ud (x.th.take i) e.w.h.toNat
   have htl:(x.th.take i).length<=x.th.length:=ajh ..
   have hin:cP e.w.h (x.pa.length+1)=true:=by simp[cP];omega
   refine⟨fun _=>⟨fun _=>?_,fun h=>by omega⟩,fun h=>by rw[hin]at h;cases h⟩
   rw[hc.HO _ (by omega),D.bV,bO (by omega) (by omega)]
   exact nx _ (by rw[aQ k1];exact hc.step hk hh.1 hh.2)
 have loop1:∀(ah:List Int) (i:Nat),oJ x.pa=true->x.ma.length=x.pa.length+1->x.cu.drop i=ah->(∀c∈x.cu.take i,1<=c/\c<=x.pa.length)->ch (x.cu.take i)->
  ay pg ij [b6,aM] (.bx 0 (jL (lj x.ax) []) (IL x)) (ot x.ax i ((iE x.pa.length (x.cu.take i)).map D.b)):=by
  intro ah
  induction ah with
  |nil=>
   intro i g1 g2 hd hc hr
   have hi:=drop_nil hd
   rw[ag5 hi]at hc hr ⊢
   refine Hk ?_
   simp only[rk,Wl.nf,Wl.Fj,agV,agW,agX]
   refine⟨fun h=>by omega,fun _=>⟨_,_,rfl,Cr (Bn x (by simp) [] [] 0 [] [] 0) (xY (w:=⟨x.pa,iE x.pa.length x.cu,[],[],0,List.replicate (x.pa.length+1) 0⟩) ⟨rfl,rfl,rfl,rfl,rfl,by simp[aw]⟩),?_⟩⟩
   intro d hd2
   rw[hd2]
   simp only[ah8]
   refine⟨fun _=>?_,fun h=>by simp[rZ]at h;omega⟩
   have e:=loop2 x.th 0 0 (List.replicate (x.pa.length+1) (D.z 0)) [] 0 g1 g2 hc hr rfl (by simp) (by simp) (by simp) (by omega) (by intro i a b h;simp at h) (by simp) (Rs.afN _)
   simpa [aV.ax]using e
  |cons c ah ih=>
   intro i g1 g2 hd hc hr
   obtain⟨k1,k2,k3⟩:=aB hd
   have hmem:=agY k1
   have hcu:=hs.cu
   have cutE:=UW (ach x (iE x.pa.length (x.cu.take i)) [] [] [] 0 [] 0) c (by simp)
   simp only[ah8]at cutE
   have after:(∀a,0<i->x.cu[i-1]?=some a->a<c)->∀d:D,((d.aa 0).int=(if 0<c/\c<(x.pa.length+1:Nat)then 0 else 2)/\(d.aa 1).ae=(if 0<c/\c<(x.pa.length+1:Nat)then (iE x.pa.length (x.cu.take i)).set c.toNat true else iE x.pa.length (x.cu.take i)).map D.b)->
    (((d.aa 0).int !=0)=true->i0.bx=some 0/\∃d,T.dy (BV.tuple [.nA,.int .i64 71],([]:List (Nat×aI))) (jL (lj x.ax) [] d)/\IL x d)/\
    (((d.aa 0).int !=0)=false->ay pg i0.f i0.rs (.bx 0 (jL (lj x.ax) []) (IL x)) (ot x.ax (IntKind.i64.wrap ((i:Int)+1)) (d.aa 1).ae)):=by
    rintro hprev d ⟨q1,q2⟩
    by_cases hcc:0<c/\c<(x.pa.length+1:Nat)
    ·rw[ag8 hcc]at q1 q2
     rw[q1,q2]
     refine⟨fun h=>by simp at h,fun _=>?_⟩
     rw[bo k3 (by omega),<-R9,<-aQ k1]
     refine ih (i+1) g1 g2 k2 (fun y hy=>?_) ?_
     ·rw[aQ k1]at hy
      rcases ahd.1 hy with hy|hy
      ·exact hc y hy
      ·simp only[ahb]at hy;subst hy;omega
     ·rw[aQ k1]
      refine hr.JB fun a ha hla=>?_
      simp only[ahx]at ha hla
      rw[show min i x.cu.length=i by omega,aiJ (by omega)]at hla
      exact hprev a (by omega) hla
    ·rw[ag4 hcc]at q1
     rw[q1]
     exact⟨fun _=>no fun g=>by have:=g.cut c hmem;omega,fun h=>by simp at h⟩
   refine Hk ?_
   simp only[rk,Wl.nf,Wl.Fj,agV,agW,agX,ag6,bn (f:=D.z) k1,D.bV,aU k3]
   refine⟨fun _=>⟨fun _=>⟨fun hi=>?_,fun hi=>⟨_,_,rfl,Cr (Bn x (by simp) [] [] 0 [] [] 0) cutE,after fun a ha=>by omega⟩⟩,fun h=>by simp at h⟩,fun h=>by omega⟩
   have hw:IntKind.i64.wrap ((i:Int)-1)=((i-1:Nat):Int):=by rw[bO (by omega) (by omega)];omega
   obtain⟨p,hp⟩:∃p,x.cu[i-1]?=some p:=⟨_,ag7 (by omega)⟩
   simp only[hw,ag6,bn (f:=D.z) hp,D.bV,aU (show i-1<x.cu.length by omega)]
   refine⟨fun _=>⟨fun h=>no fun g=>?_,fun h=>⟨_,_,rfl,Cr (Bn x (by simp) [] [] 0 [] [] 0) cutE,after fun a _ ha=>by rw[hp]at ha;cases ha;omega⟩⟩,fun h=>by simp at h⟩
   have:=g.Pr (i-1) p c hp (by rw[show i-1+1=i by omega];exact k1)
   omega
 refine Zn ?_
 simp only[rk,Wl.nf,Wl.vi,agV]
 refine⟨_,_,rfl,adf x.pa hpa,?_⟩
 intro d hd
 rw[hd]
 refine⟨fun g1=>⟨_,_,rfl,Cr (Bn x (by simp) [] [] 0 [] [] 0) (xY (w:=⟨x.pa,List.replicate (x.pa.length+1) false,[],[],0,List.replicate (x.pa.length+1) 0⟩) ⟨rfl,by simp,rfl,rfl,rfl,by simp[aw]⟩),?_⟩,fun g1=>no fun g=>by rw[g.par]at g1;cases g1⟩
 intro d2 hd2
 rw[hd2]
 simp only[ah8]
 refine⟨fun h=>no fun g=>by have:=g.GO;simp at h;omega,fun h=>?_⟩
 have e:=loop1 x.cu 0 g1 (by simp at h;omega) rfl (by simp) (by intro i a b h;simp at h)
 simpa [iE]using e
def iD (n:Nat)(l:List Int):List Bool:=l.foldl (fun a c=>a.set (c-1).toNat true) (List.replicate n false)
def R8 (n:Nat)(l:List Int)(c:Int):iD n (l++[c])=(iD n l).set (c-1).toNat true:=by simp[iD]
@[simp] def U6 (n:Nat)(l:List Int):(iD n l).length=n:=by
 have:=Ew l (fun c=>(c-1).toNat) (List.replicate n false)
 simpa [iD]using this
def ZN:∀{l:List Int} {lo la:Int},ch l->(∀a∈l,lo<a/\a<=la)->lo<=la->(l.length:Int)<=la-lo:=by
 intro l
 induction l with
 |nil=>intro lo la _ _ h;simp;omega
 |cons a r ih=>
  intro lo la h hb hl
  have ha:=hb a (by simp)
  have:=ih (lo:=a) (la:=la) h.tail (fun b hm=>⟨h.lt b hm,(hb b (by simp[hm])).2⟩) ha.2
  simp only[ahv];omega
def Wl.BY.afU {x:Wl}(g:x.BY):(x.th.length:Int)<=x.la:=by
 have:=ZN (lo:=0) (la:=x.la) g.Iy (fun a ha=>by obtain⟨e,he,rfl⟩:=ahp.1 ha;have:=g.rb e he;omega) g.la0
 simpa using this
def aV.XD {t:aV}(h1:t.one)(hch:∀r x,t.get r=some x->t.chain t.length r=true)(o:Int):t.oD (t.length+1) o=some (t.zE o):=by
 cases hg:t.get o with
 |none=>simp[aV.zE,aV.oD,hg]
 |some y=>
  obtain⟨n,hn,he⟩:=aV.JR h1 hch hg
  exact he.zE (by omega) _ (by omega)
abbrev afW (x:Wl)(c:Nat)(cu th ma:List D):List (Nat×aI):=
 [(0,.cells [.aZ 1 x.pa.length true,.aZ 2 x.pa.length true,.aZ 3 c true,.int .i64 x.la,.aZ 4 (x.pa.length+1) true] bd false),(1,.ak af (aw x.pa) true),(2,.ak ai cu true),(3,.ak bF th true),(4,.ak af ma true)]
def abG (x:Wl){c:Nat}{cu th ma:List D}(h1:cu.length=x.pa.length)(h2:th.length=c)(h3:ma.length=x.pa.length+1):afW x c cu th ma=Rm ⟨aw x.pa,cu,th,x.la,ma⟩:=by
 simp only[afW,Rm,h1,h2,h3,agV]
def agM (x:Wl)(cu:List Bool)(th:aV):Fe ⟨aw x.pa,cu.map D.b,th.ak,x.la,aw x.ma⟩ ⟨x.pa,cu,th,[],x.la,x.ma⟩:=⟨rfl,rfl,rfl,rfl,rfl⟩
def y7 (x:Wl)(d:D):Prop:=((d.aa 0).bool=true↔x.BY)/\(x.BY->(d.aa 1).ae=aw x.pa/\(d.aa 2).ae=(iD x.pa.length x.cu).map D.b/\(d.aa 3).ae=x.an.ak/\(d.aa 4).int=x.la/\(d.aa 5).ae=aw x.ma)
def UC (x:Wl)(hs:x.vx):PH cD (dV x.ax) [] 0 dF (y7 x):=by
 have no:¬x.BY->dX.bx=some 0/\∃d,T.dy (BV.tuple [.nA,.int .i64 71],([]:List (Nat×aI))) (dF (dV x.ax) [] d)/\y7 x d:=fun h=>⟨rfl,.r [.b false],.ff rfl .ret,⟨fun a=>by simp[D.aa,D.at]at a,fun a=>(h a).elim⟩,fun a=>(h a).elim⟩
 have hok:=hs.ok
 have hpa:=hs.pa
 have hth:=hs.th
 have hma:=hs.ma
 have hcu:=hs.cu
 have ewok:∀e∈x.th,e.w.ok:=fun e he=>(hok.2.2.2.2.2.1 e he).2.2
 have hla:-2^63<=x.la/\x.la<2^63:=⟨hok.2.2.2.2.2.2.1,hok.2.2.2.2.2.2.2.1⟩
 have htl:x.an.length=x.th.length:=by simp[Wl.an]
 have hkeys:∀r y,x.an.get r=some y->∃e∈x.th,e.r=r/\e.w=y:=fun r y hy=>by
  have:=aV.np hy
  simp only[Wl.an,ahp]at this
  obtain⟨e,he,h⟩:=this
  cases h
  exact⟨e,he,rfl,rfl⟩
 have htok:x.an.ok:=fun p hp=>by
  simp only[Wl.an,ahp]at hp
  obtain⟨e,he,rfl⟩:=hp
  exact ewok e he
 have G:=x.BY
 have bJ:oJ x.pa=true->x.ma.length=x.pa.length+1->(∀c∈x.cu,1<=c/\c<=x.pa.length)->ch x.cu->(∀m∈x.ma,0<=m/\m<=512)->0<=x.la->x.la<=64*x.Rb->(∀e∈x.th,1<=e.r/\e.r<=x.la)->ch (x.th.map En.r)->
  (∀e∈x.th,e.w.F (x.pa.length+1:Nat))->(∀(i:Nat) (m:Int),x.ma[i]?=some m->(Js x.th i:Int)<=m)->
  ay pg cD [bP,aM] (.bx 0 (dF (dV x.ax) []) (y7 x)) (lF x.ax x.Rb x.th.length ((iD x.pa.length x.cu).map D.b) x.an.ak (aw x.ma) 0):=by
  intro g1 g2 g3 g4 g5 l0 l1 g6 g7 g8 g9
  have hsb:=Rc x.ma g5
  have hsum:x.Rb=x.ma.foldr (·+·) 0:=rfl
  have hone:x.an.one:=by rw[aV.one,Wl.ct];exact g7.lJ
  have hforms:x.an.TT:=⟨hone,fun r y hy=>by obtain⟨e,he,rfl,_⟩:=hkeys r y hy;exact(g6 e he).1,fun r y hy=>by obtain⟨e,he,_,rfl⟩:=hkeys r y hy;exact(g8 e he).1,fun r y hy=>by
   obtain⟨e,he,_,rfl⟩:=hkeys r y hy
   have:=ewok e he;simp only[Wh.ok]at this;omega⟩
  have good_iff:x.BY↔((∀r y,x.an.get r=some y->x.an.Nb r)/\(∀r y,x.an.get r=some y->x.an.kL r y (x.an.zE y.of)=0))/\x.la+eT (x.an.pE x.an.ab) (x.an.map (·.1))<=64*x.Rb:=by
   rw[<-aV.M5 hforms]
   constructor
   ·intro g
    exact⟨⟨fun r y hy hk=>by obtain⟨e,he,_,rfl⟩:=hkeys r y hy;exact(g.Fl e he).2 hk,g.Q4⟩,g.Q5⟩
   ·rintro⟨⟨a,b⟩,c⟩
    refine⟨g1,g2,g3,g4,g5,l0,l1,g6,g7,fun e he=>⟨g8 e he,fun hk=>a e.r e.w ((aV.jF hone).2 ?_) hk⟩,g9,b,c⟩
    simp only[Wl.an,ahp];exact⟨e,he,rfl⟩
  have hgetE:∀e∈x.th,x.an.get e.r=some e.w:=fun e he=>(aV.jF hone).2 (by simp only[Wl.an,ahp];exact⟨e,he,rfl⟩)
  have hrl:(iD x.pa.length x.cu).length=x.pa.length:=by simp
  have hM:=abG x (c:=x.th.length) (cu:=(iD x.pa.length x.cu).map D.b) (th:=x.an.ak) (ma:=aw x.ma) (by simp) (by simp[htl]) (by simp[g2])
  have hrep:=agM x (iD x.pa.length x.cu) x.an
  have loopB:(∀r y,x.an.get r=some y->x.an.Nb r)->∀(ah:List En) (i:Nat),x.th.drop i=ah->(∀e∈x.th.take i,x.an.kL e.r e.w (x.an.zE e.w.of)=0)->
   ay pg cD [bP,aM] (.bx 0 (dF (dV x.ax) []) (y7 x)) (pS x.ax x.Rb x.th.length ((iD x.pa.length x.cu).map D.b) x.an.ak (aw x.ma) i):=by
   intro hway ah
   have hch:∀r y,x.an.get r=some y->x.an.chain x.an.length r=true:=fun r y hy=>(aV.HS hone r).2 (hway r y hy)
   induction ah with
   |nil=>
    intro i hd hq
    have hi:=drop_nil hd
    rw[ag5 hi]at hq
    have hask:∀r y,x.an.get r=some y->x.an.kL r y (x.an.zE y.of)=0:=fun r y hy=>by obtain⟨e,he,rfl,rfl⟩:=hkeys r y hy;exact hq e he
    obtain⟨h64,hS⟩:=(aV.M5 hforms).2 ⟨hway,hask⟩
    have hfc:∀r y,x.an.get r=some y->y.k=14->js y.set (x.an.ab y.of)=0:=fun r y hy hk=>by
     have:=hS.2.2 r y hy
     simp[aV.JW,hk]at this
     exact this.2.2.2
    have habs:∀r y,x.an.get r=some y->x.an.ab r=x.an.zE r/\0<=x.an.zE r/\x.an.zE r<64:=fun r y hy=>by
     obtain⟨n,hn,he⟩:=aV.JR hone hch hy
     exact(aV.Nq hforms.set (.inl hfc) n r (by omega) he).2
    have hsp:PH gr (p8 _) (Rm _) 1 mT (fun d=>D.int d=eT (x.an.pE x.an.ab) (x.an.map (·.1))):=Xs hrep htok hone (by show x.an.length<_;omega) x.an.ab fun r y hy hk=>by
     have:=habs r y hy
     exact⟨⟨_,by rw[this.1];exact aV.XD hone hch r⟩,by omega,by omega⟩
    have hsb2:=TG (t:=x.an) (ab:=x.an.ab) (x.an.map (·.1))
    have hkl:(x.an.map (·.1)).length=x.th.length:=by simp[Wl.an]
    rw[hkl]at hsb2
    refine BR ?_
    simp only[rk,Wl.nf,Wl.CD,agV,agW,agX]
    refine⟨fun h=>by omega,fun _=>⟨_,_,rfl,Cr hM hsp,?_⟩⟩
    intro d hd2
    rw[hd2,bO (x:=x.la+_) (by omega) (by omega),bO (x:=64*x.Rb) (by omega) (by omega)]
    refine⟨fun h=>no fun g=>by have:=g.Q5;omega,fun h=>?_⟩
    have rj:x.BY:=good_iff.2 ⟨⟨hway,hask⟩,by omega⟩
    refine⟨rfl,.r [.b true,.r (aw x.pa),.r ((iD x.pa.length x.cu).map D.b),.r x.an.ak,.z x.la,.r (aw x.ma)],.tt rfl (bm.2 ?_),⟨fun _=>rj,fun _=>rfl⟩,fun _=>⟨rfl,rfl,rfl,rfl,rfl⟩⟩
    have:=hM
    simp only[D.aa,D.bE,D.at,aiA,aiM,D.bV]
    rw[<-this]
   |cons e ah ih=>
    intro i hd hq
    obtain⟨k1,k2,k3⟩:=aB hd
    have hmem:=agY k1
    have hat:D.at x.an.ak i= .r [.z e.r,e.w.ax]:=yS (p:=(e.r,e.w)) (by simp[Wl.an,k1])
    have e1:D.aa (.r [.z e.r,e.w.ax]) 0= .z e.r:=rfl
    have e2:D.aa (.r [.z e.r,e.w.ax]) 1=e.w.ax:=rfl
    have ha:e.w.k=14->∃n,x.an.oD n e.w.of=some (x.an.zE e.w.of):=fun _=>⟨_,aV.XD hone hch _⟩
    refine BR ?_
    simp only[rk,Wl.nf,Wl.CD,agV,agW,agX,ag6,hat,e1,e2,D.bV,aU k3,aV.va,htl]
    refine⟨fun _=>⟨fun _=>⟨fun _=>⟨_,_,rfl,Cr hM (Xr hrep (by show x.an.length<_;omega) htok e.r e.w (x.an.zE e.w.of) (ewok e hmem) (hs.sz e hmem) (g8 e hmem).cN (g8 e hmem).1 ha),?_⟩,fun h=>by omega⟩,fun h=>by simp at h⟩,fun h=>by omega⟩
    intro d hd2
    rw[hd2]
    refine⟨fun h=>no fun g=>?_,fun h=>?_⟩
    ·have:=(good_iff.1 g).1.2 e.r e.w (hgetE e hmem)
     rw[this]at h;simp at h
    ·rw[bo k3 (by omega)]
     refine ih (i+1) k2 fun y hy=>?_
     rw[aQ k1]at hy
     rcases ahd.1 hy with hy|hy
     ·exact hq y hy
     ·simp only[ahb]at hy;subst hy;simpa using h
  have loopA:∀(ah:List En) (i:Nat),x.th.drop i=ah->(∀e∈x.th.take i,x.an.Nb e.r)->
   ay pg cD [bP,aM] (.bx 0 (dF (dV x.ax) []) (y7 x)) (lF x.ax x.Rb x.th.length ((iD x.pa.length x.cu).map D.b) x.an.ak (aw x.ma) i):=by
   intro ah
   induction ah with
   |nil=>
    intro i hd hq
    have hi:=drop_nil hd
    rw[ag5 hi]at hq
    refine BQ ?_
    simp only[rk,agW,agX]
    refine⟨fun h=>by omega,fun _=>?_⟩
    exact loopB (fun r y hy=>by obtain⟨e,he,rfl,rfl⟩:=hkeys r y hy;exact hq e he) x.th 0 rfl (by simp)
   |cons e ah ih=>
    intro i hd hq
    obtain⟨k1,k2,k3⟩:=aB hd
    have hmem:=agY k1
    have hat:D.at x.an.ak i= .r [.z e.r,e.w.ax]:=yS (p:=(e.r,e.w)) (by simp[Wl.an,k1])
    have e1:D.aa (.r [.z e.r,e.w.ax]) 0= .z e.r:=rfl
    have hget:=hgetE e hmem
    have bad:¬x.an.Nb e.r->¬x.BY:=fun h g=>h ((good_iff.1 g).1.1 e.r e.w hget)
    have hwl:=aV.Rp x.an (x.an.length+1) e.r
    have hw0:0<(x.an.iB (x.an.length+1) e.r).length:=by simp[aV.iB,hget]
    refine BQ ?_
    simp only[rk,Wl.nf,Wl.CD,agV,agW,agX,ag6,hat,e1,D.bV,aU k3,aV.va,htl]
    refine⟨fun _=>⟨fun _=>⟨fun _=>⟨_,_,rfl,Cr hM (adi hrep htok (by show x.an.length<_;omega) e.r),?_⟩,fun h=>by omega⟩,fun h=>by simp at h⟩,fun h=>by omega⟩
    intro d hd2
    rw[hd2]
    simp only[agV]
    change ((((x.an.iB (x.an.length+1) e.r).length:Int)>(x.th.length:Int))->_)/\(¬(((x.an.iB (x.an.length+1) e.r).length:Int)>(x.th.length:Int))->_)
    refine⟨fun h=>no (bad fun a=>by have:=a.1;omega),fun h=>?_⟩
    have hw1:IntKind.i64.wrap (((x.an.iB (x.an.length+1) e.r).length:Int)-1)=(((x.an.iB (x.an.length+1) e.r).length-1:Nat):Int):=by rw[bO (by omega) (by omega)];omega
    obtain⟨q,hq2⟩:∃q,(x.an.iB (x.an.length+1) e.r)[(x.an.iB (x.an.length+1) e.r).length-1]?=some q:=⟨_,ag7 (by omega)⟩
    have hlast:(x.an.iB (x.an.length+1) e.r).getLast?=some q:=by rw[List.getLast?_eq_getElem?];exact hq2
    simp only[hw1,ag6,aU (show (x.an.iB (x.an.length+1) e.r).length-1<(x.an.iB (x.an.length+1) e.r).length by omega),bn (f:=D.z) hq2,D.bV]
    refine⟨fun _=>⟨fun _=>⟨_,_,rfl,Cr hM (Nj hrep (by show x.an.length<_;omega) htok q),?_⟩,fun h=>by omega⟩,fun h=>by simp at h⟩
    intro d3 hd3
    rw[hd3]
    refine⟨_,_,_,rfl,qf (x.an.kind q),?_⟩
    rintro _ rfl
    simp only[D.bz]
    have hqget:∃y,x.an.get q=some y:=by
     have hqm:=agY hq2
     have key:∀(n:Nat) (r:Int),q∈x.an.iB n r->∃y,x.an.get q=some y:=by
      intro n
      induction n with
      |zero=>intro r h;cases h
      |succ n ih=>
       intro r h
       simp only[aV.iB]at h
       cases hg:x.an.get r with
       |none=>rw[hg]at h;cases h
       |some y=>
        simp only[hg]at h
        rcases ag9.1 h with rfl|h
        ·exact⟨y,hg⟩
        ·split at h
         ·exact ih _ h
         ·cases h
     exact key _ _ hqm
    obtain⟨y,hy⟩:=hqget
    have hkq:x.an.kind q=y.k:=by simp[aV.kind,hy]
    rw[hkq]
    refine⟨fun hw=>no (bad ?_),fun hw=>?_⟩
    ·rintro⟨_,q2,y2,a1,a2,a3⟩
     rw[hlast]at a1;cases a1
     rw[hy]at a2;cases a2
     rw[hw]at a3;cases a3
    ·rw[bo k3 (by omega)]
     refine ih (i+1) k2 fun z hz=>?_
     rw[aQ k1]at hz
     rcases ahd.1 hz with hz|hz
     ·exact hq z hz
     ·simp only[ahb]at hz;subst hz;exact⟨by omega,q,y,hlast,hy,hw⟩
  exact loopA x.th 0 rfl (by simp)
 have loop4:∀(ah:List Int) (i:Nat) (GK:List D),oJ x.pa=true->x.ma.length=x.pa.length+1->(∀c∈x.cu,1<=c/\c<=x.pa.length)->ch x.cu->(∀m∈x.ma,0<=m/\m<=512)->0<=x.la->x.la<=64*x.Rb->(∀e∈x.th,1<=e.r/\e.r<=x.la)->ch (x.th.map En.r)->
  (∀e∈x.th,e.w.F (x.pa.length+1:Nat))->Rs GK (x.pa.length+1) x.th->x.ma.drop i=ah->(∀(j:Nat) (m:Int),j<i->x.ma[j]?=some m->(Js x.th j:Int)<=m)->
  ay pg cD [bP,aM] (.bx 0 (dF (dV x.ax) []) (y7 x)) (pR x.ax x.Rb x.th.length GK ((iD x.pa.length x.cu).map D.b) x.an.ak (aw x.ma) i):=by
  intro ah
  induction ah with
  |nil=>
   intro i GK g1 g2 g3 g4 g5 l0 l1 g6 g7 g8 hc hd hh
   have hi:=drop_nil hd
   refine BP ?_
   simp only[rk,Wl.vi,agV,agW,agX]
   refine⟨fun h=>by omega,fun _=>?_⟩
   exact bJ g1 g2 g3 g4 g5 l0 l1 g6 g7 g8 fun j m hj=>hh j m (by have:=(aha.1 hj).1;omega) hj
  |cons m ah ih=>
   intro i GK g1 g2 g3 g4 g5 l0 l1 g6 g7 g8 hc hd hh
   obtain⟨k1,k2,k3⟩:=aB hd
   have hi:i<x.pa.length+1:=by omega
   refine BP ?_
   simp only[rk,Wl.nf,Wl.vi,agV,agW,agX,ag6,bn (f:=D.z) k1,hc.HO i hi,hc.len,D.bV,aU k3,aU hi]
   refine⟨fun _=>⟨fun _=>⟨fun _=>⟨fun _=>⟨fun _=>⟨fun h=>no fun g=>by have:=g.GK i m k1;omega,fun h=>?_⟩,fun h=>by omega⟩,fun h=>by simp at h⟩,fun h=>by omega⟩,fun h=>by simp at h⟩,fun h=>by omega⟩
   rw[bo k3 (by omega)]
   refine ih (i+1) GK g1 g2 g3 g4 g5 l0 l1 g6 g7 g8 hc k2 fun j y hj hy=>?_
   by_cases ej:j=i
   ·subst ej;rw[k1]at hy;cases hy;omega
   ·exact hh j y (by omega) hy
 have loop3:∀(ah:List En) (i:Nat) (GK:List D),oJ x.pa=true->x.ma.length=x.pa.length+1->(∀c∈x.cu,1<=c/\c<=x.pa.length)->ch x.cu->(∀m∈x.ma,0<=m/\m<=512)->0<=x.la->x.la<=64*x.Rb->x.th.drop i=ah->i<=x.th.length->
  (∀e∈x.th.take i,1<=e.r/\e.r<=x.la)->ch ((x.th.take i).map En.r)->(∀e∈x.th.take i,e.w.F (x.pa.length+1:Nat))->Rs GK (x.pa.length+1) (x.th.take i)->
  ay pg cD [bP,aM] (.bx 0 (dF (dV x.ax) []) (y7 x)) (fW x.ax x.Rb ((iD x.pa.length x.cu).map D.b) (aw x.ma) i i GK (aV.ak ((x.th.take i).map fun e=>(e.r,e.w)))):=by
  intro ah
  induction ah with
  |nil=>
   intro i GK g1 g2 g3 g4 g5 l0 l1 hd hile hb hr hf hc
   have hi:=drop_nil hd
   rw[ag5 hi]at hb hr hf hc ⊢
   refine Df ?_
   simp only[rk,Wl.kQ,agV,agW,agX]
   refine⟨fun h=>by omega,fun h=>?_⟩
   have hil:i=x.th.length:=by omega
   subst hil
   exact loop4 x.ma 0 GK g1 g2 g3 g4 g5 l0 l1 hb hr hf hc rfl (by intro j m hj;omega)
  |cons e ah ih=>
   intro i GK g1 g2 g3 g4 g5 l0 l1 hd hile hb hr hf hc
   obtain⟨k1,k2,k3⟩:=aB hd
   have hmem:=agY k1
   have hew:=ewok e hmem
   have e1:D.aa e.ax 1=e.w.ax:=En.Ug e
   have JB:aV.ak ((x.th.take i).map fun e=>(e.r,e.w))++[D.r [.z e.r,e.w.ax]]=aV.ak ((x.th.take (i+1)).map fun e=>(e.r,e.w)):=by rw[aQ k1];simp[aV.ak]
   have rl:(aV.ak ((x.th.take i).map fun e=>(e.r,e.w))).length=i:=by simp;omega
   have nx:(∀p,0<i->x.th[i-1]?=some p->p.r<e.r)->1<=e.r/\e.r<=x.la->e.w.F (x.pa.length+1:Nat)->∀home',Rs home' (x.pa.length+1) (x.th.take (i+1))->ay pg cD [bP,aM] (.bx 0 (dF (dV x.ax) []) (y7 x)) (fW x.ax x.Rb ((iD x.pa.length x.cu).map D.b) (aw x.ma) (IntKind.i64.wrap ((i:Int)+1)) (i+1) home' (aV.ak ((x.th.take (i+1)).map fun e=>(e.r,e.w)))):=fun hprev hb1 hform home' hc'=>by
    rw[bo k3 (by omega)]
    refine ih (i+1) home' g1 g2 g3 g4 g5 l0 l1 k2 (by omega) (fun q hq=>?_) ?_ (fun q hq=>?_) hc'
    ·rw[aQ k1]at hq
     rcases ahd.1 hq with hq|hq
     ·exact hb q hq
     ·simp only[ahb]at hq;subst hq;exact hb1
    ·rw[aQ k1,ahr]
     refine hr.JB fun a ha hla=>?_
     simp only[agV,ahx]at ha hla
     rw[show min i x.th.length=i by omega]at hla
     simp only[ahQ,aiJ (show i-1<i by omega),ahY]at hla
     obtain⟨p,hp,rfl⟩:=hla
     exact hprev p (by omega) hp
    ·rw[aQ k1]at hq
     rcases ahd.1 hq with hq|hq
     ·exact hf q hq
     ·simp only[ahb]at hq;subst hq;exact hform
   refine Df ?_
   simp only[rk,Wl.nf,Wl.kQ,Wl.vi,Wl.CD,agV,agW,agX,ag6,bn k1,En.BC,e1,Wh.re,aU k3,Wh.cU,Wh.mH,hew.wk,hc.len,rl]
   refine⟨fun _=>⟨fun _=>⟨fun h=>no fun g=>by have:=(g.rb e hmem).1;omega,fun r1=>⟨fun h=>no fun g=>by have:=(g.rb e hmem).2;omega,fun r2=>⟨fun hi=>?cxa1,fun hi=>?cxb1⟩⟩⟩,fun h=>by simp at h⟩,fun h=>by omega⟩
   case' cxa1=>
    have hw:IntKind.i64.wrap ((i:Int)-1)=((i-1:Nat):Int):=by rw[bO (by omega) (by omega)];omega
    obtain⟨p,hp⟩:∃p,x.th[i-1]?=some p:=⟨_,ag7 (by omega)⟩
    simp only[hw,ag6,bn hp,En.BC,aU (show i-1<x.th.length by omega)]
    refine⟨fun _=>⟨fun h=>no fun g=>?_,fun h=>?_⟩,fun h=>by simp at h⟩
    have h3:=g.Iy (i-1) p.r e.r (by simp[hp]) (by rw[show i-1+1=i by omega];simp[k1])
    omega
    have hprev:∀q,0<i->x.th[i-1]?=some q->q.r<e.r:=fun q _ hq=>by rw[hp]at hq;cases hq;omega
   case' cxb1=>
    have hprev:∀q,0<i->x.th[i-1]?=some q->q.r<e.r:=fun q h _=>by omega
   all_goals
    refine⟨_,_,_,rfl,acd e.w (x.ma.length:Int) hew (hs.sz e hmem),?_⟩
    rintro _ rfl
    have eml:((x.ma.length:Nat):Int)=((x.pa.length+1:Nat):Int):=by rw[g2]
    simp only[D.bz,ahl,ahq,aiI,ahV,aic]
    refine⟨fun h=>no fun g=>?_,fun h=>?_⟩
    have hFe:=Wh.GI.2 (g.Fl e hmem).1
    rw[eml,hFe]at h;cases h
    have hF:e.w.F (x.pa.length+1:Nat):=by rw[eml]at h;exact Wh.GI.1 h
    refine⟨fun hk=>?_,fun hk=>⟨_,_,_,rfl,Tf e.w hew (hs.sz e hmem),?_⟩⟩
    have hh:=hF.2.2.1 hk
    have hcl:=Ud (x.th.take i) e.w.h.toNat
    have htl2:(x.th.take i).length<=x.th.length:=ajh ..
    have hin:cP e.w.h x.ma.length=true:=by simp[cP];omega
    refine⟨fun _=>⟨fun _=>⟨_,_,_,rfl,Tf e.w hew (hs.sz e hmem),?_⟩,fun h=>by omega⟩,fun h=>by rw[hin]at h;cases h⟩
    rintro _ rfl
    rw[Wh.re,JB]
    refine⟨fun _=>?_,fun h=>by simp[aO]at h;omega⟩
    rw[hc.HO _ (by omega),D.bV,bO (x:=(Js _ _:Int)+1) (by omega) (by omega)]
    exact nx hprev ⟨by omega,by omega⟩ hF _ (by rw[aQ k1];exact hc.step hk hh.1 hh.2)
    rintro _ rfl
    rw[Wh.re,JB]
    refine⟨fun _=>?_,fun h=>by simp[aO]at h;omega⟩
    exact nx hprev ⟨by omega,by omega⟩ hF _ (by rw[aQ k1];exact hc.same (by omega))
 have loop2:∀(ah:List Int) (i:Nat) (md:List D),oJ x.pa=true->x.ma.length=x.pa.length+1->(∀c∈x.cu,1<=c/\c<=x.pa.length)->ch x.cu->x.ma.drop i=ah->(∀m∈x.ma.take i,0<=m/\m<=512)->md.length=x.pa.length+1->md.take i=aw (x.ma.take i)->
  ay pg cD [bP,aM] (.bx 0 (dF (dV x.ax) []) (y7 x)) (tz x.ax ((iD x.pa.length x.cu).map D.b) ((x.ma.take i).foldr (·+·) 0) i md):=by
  intro ah
  induction ah with
  |nil=>
   intro i md g1 g2 g3 g4 hd hm hl ht
   have hi:=drop_nil hd
   rw[ag5 hi]at hm ht ⊢
   rw[ag5 (by omega)]at ht
   subst ht
   have hsb:=Rc x.ma hm
   have hsum:x.Rb=x.ma.foldr (·+·) 0:=rfl
   refine EV ?_
   simp only[rk,Wl.kQ,Wl.vi,Wl.CD,agV,agW,agX]
   refine⟨fun h=>by omega,fun _=>⟨fun h=>no fun g=>by have:=g.la0;omega,fun l0=>?_⟩⟩
   rw[bO (x:=64*_) (by omega) (by omega)]
   refine⟨fun h=>no fun g=>by have:=g.la1;omega,fun l1=>⟨fun h=>no fun g=>by have:=g.afU;have:=g.la1;omega,fun l2=>⟨fun _=>?_,fun h=>by simp[rZ]at h;omega⟩⟩⟩
   rw[<-hsum]
   have e:=loop3 x.th 0 (List.replicate x.ma.length (D.z 0)) g1 g2 g3 g4 hm (by omega) (by omega) rfl (by omega) (by simp) (by intro i a b h;simp at h) (by simp) (by rw[g2];exact Rs.afN _)
   simpa [aV.ak]using e
  |cons m ah ih=>
   intro i md g1 g2 g3 g4 hd hm hl ht
   obtain⟨k1,k2,k3⟩:=aB hd
   have hmem:=agY k1
   have hsb:=Rc (x.ma.take i) hm
   have htl2:(x.ma.take i).length<=x.ma.length:=ajh ..
   refine EV ?_
   simp only[rk,Wl.nf,Wl.vi,agV,agW,agX,ag6,bn (f:=D.z) k1,D.bV,aU k3,hl,aU (show i<x.pa.length+1 by omega)]
   refine⟨fun _=>⟨fun _=>⟨fun h=>no fun g=>by have:=g.mb m hmem;omega,fun h1=>⟨fun h=>no fun g=>by have:=g.mb m hmem;omega,fun h2=>⟨fun _=>⟨fun _=>?_,fun h=>by omega⟩,fun h=>by simp at h⟩⟩⟩,fun h=>by simp at h⟩,fun h=>by omega⟩
   have e:=ih (i+1) (md.set i (.z m)) g1 g2 g3 g4 k2 (fun y hy=>?_) (by simpa using hl) (by rw[Az (by omega),aQ k1,ht];simp)
   ·rw[aQ k1,Re]at e
    rw[bO (x:=_+m) (by omega) (by omega),bo k3 (by omega)]
    exact e
   ·rw[aQ k1]at hy
    rcases ahd.1 hy with hy|hy
    ·exact hm y hy
    ·simp only[ahb]at hy;subst hy;omega
 have loop1:∀(ah:List Int) (i:Nat),oJ x.pa=true->x.ma.length=x.pa.length+1->x.cu.drop i=ah->(∀c∈x.cu.take i,1<=c/\c<=x.pa.length)->ch (x.cu.take i)->
  ay pg cD [bP,aM] (.bx 0 (dF (dV x.ax) []) (y7 x)) (tx x.ax i ((iD x.pa.length (x.cu.take i)).map D.b)):=by
  intro ah
  induction ah with
  |nil=>
   intro i g1 g2 hd hc hr
   have hi:=drop_nil hd
   rw[ag5 hi]at hc hr ⊢
   refine EU ?_
   simp only[rk,Wl.nf,Wl.Fj,agV,agW,agX]
   refine⟨fun h=>by omega,fun _=>?_⟩
   have e:=loop2 x.ma 0 (List.replicate (x.pa.length+1) (D.z 0)) g1 g2 hc hr rfl (by simp) (by simp) (by simp)
   simpa using e
  |cons c ah ih=>
   intro i g1 g2 hd hc hr
   obtain⟨k1,k2,k3⟩:=aB hd
   have hmem:=agY k1
   refine EU ?_
   simp only[rk,Wl.nf,Wl.Fj,agV,agW,agX,ag6,bn (f:=D.z) k1,D.bV,aU k3,U6]
   refine⟨fun _=>⟨fun _=>⟨fun h=>no fun g=>by have:=g.cut c hmem;omega,fun c1=>⟨fun h=>no fun g=>by have:=g.cut c hmem;omega,fun c2=>⟨fun hi=>?cxa2,fun hi=>?cxb2⟩⟩⟩,fun h=>by simp at h⟩,fun h=>by omega⟩
   case' cxa2=>
    have hw:IntKind.i64.wrap ((i:Int)-1)=((i-1:Nat):Int):=by rw[bO (by omega) (by omega)];omega
    obtain⟨p,hp⟩:∃p,x.cu[i-1]?=some p:=⟨_,ag7 (by omega)⟩
    simp only[hw,ag6,bn (f:=D.z) hp,D.bV,aU (show i-1<x.cu.length by omega)]
    refine⟨fun _=>⟨fun h=>no fun g=>?_,fun h=>?_⟩,fun h=>by simp at h⟩
    have h3:=g.Pr (i-1) p c hp (by rw[show i-1+1=i by omega];exact k1)
    omega
    have hprev:∀q,0<i->x.cu[i-1]?=some q->q<c:=fun q _ hq=>by rw[hp]at hq;cases hq;omega
   case' cxb2=>
    have hprev:∀q,0<i->x.cu[i-1]?=some q->q<c:=fun q h _=>by omega
   all_goals
    have hw2:IntKind.i64.wrap (c-1)=c-1:=bO (by omega) (by omega)
    have hin:cP (c-1) x.pa.length=true:=by simp[cP];omega
    rw[hw2,hin,bo k3 (by omega)]
    refine⟨fun _=>⟨fun _=>?_,fun h=>by omega⟩,fun h=>by simp at h⟩
    have e:=ih (i+1) g1 g2 k2 (fun y hy=>?_) ?_
    rw[aQ k1,R8,akH]at e
    exact e
    rw[aQ k1]at hy
    rcases ahd.1 hy with hy|hy
    exact hc y hy
    simp only[ahb]at hy;subst hy;omega
    rw[aQ k1]
    refine hr.JB fun a ha hla=>?_
    simp only[ahx]at ha hla
    rw[show min i x.cu.length=i by omega,aiJ (by omega)]at hla
    exact hprev a (by omega) hla
 refine V7 ?_
 simp only[rk,Wl.nf,Wl.vi,agV]
 refine⟨_,_,rfl,aev x.pa hpa,?_⟩
 intro d hd
 rw[hd,bO (x:=(x.pa.length:Int)+1) (by omega) (by omega)]
 refine⟨fun g1=>⟨fun h=>no fun g=>by have:=g.GO;simp at h;omega,fun h=>?_⟩,fun g1=>no fun g=>by rw[g.par]at g1;cases g1⟩
 have e:=loop1 x.cu 0 g1 (by simp at h;omega) rfl (by simp) (by intro i a b h;simp at h)
 simpa [iD]using e
end Go.Proofs
end
