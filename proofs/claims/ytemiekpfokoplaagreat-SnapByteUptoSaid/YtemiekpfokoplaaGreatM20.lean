import Derived.WalkKit
import Derived.ProofKit
import Derived.OpenShut
import Derived.Lib.ConvBytes
import Derived.Test.YtemiekpfokoplaaGreatM12
import Derived.Test.YtemiekpfokoplaaGreatM19
set_option linter.all false
noncomputable section
open Go.IntKind renaming wrap→wp
namespace Go.Proofs
open Go Go.PB
def pI (n:Nat)(l:List Int):List Bool:=l.foldl (fun a c=>a.set (c-1).toNat true) (List.replicate n false)
def P9 (n:Nat)(l:List Int)(c:Int):pI n (l++[c])=(pI n l).set (c-1).toNat true:=by simp[pI]
@[simp] def S6 (n:Nat)(l:List Int):(pI n l).length=n:=by
 have:=Df l (fun c=>(c-1).toNat) (List.replicate n false)
 simpa [pI]using this
def XG:∀{l:List Int} {lo la:Int},da l->(∀a∈l,lo<a/\a<=la)->lo<=la->(l.length:Int)<=la-lo:=by
 intro l
 induction l with
 |nil=>intro lo la _ _ h;simp;omega
 |cons a r ih=>
  intro lo la h hb hl
  have ha:=hb a (by simp)
  have:=ih (lo:=a) (la:=la) h.tail (fun b hm=>⟨h.lt b hm,(hb b (by simp[hm])).2⟩) ha.2
  simp only[ae9];omega
def Wl.zw.adQ {x:Wl}(g:x.zw):(x.th.length:Int)<=x.la:=by
 have:=XG (lo:=0) (la:=x.la) g.KD (fun a ha=>by obtain⟨e,he,rfl⟩:=afy.1 ha;have:=g.rb e he;omega) g.la0
 simpa using this
def aQ.Vm {t:aQ}(h1:t.one)(hch:∀r x,t.get r=some x->t.chain t.length r=true)(o:Int):t.nM (t.length+1) o=some (t.yE o):=by
 cases hg:t.get o with
 |none=>simp[aQ.yE,aQ.nM,hg]
 |some y=>
  obtain⟨n,hn,he⟩:=aQ.ID h1 hch hg
  exact he.yE (by omega) _ (by omega)
abbrev adS (x:Wl)(c:Nat)(cu th ma:List D):List (Nat×ax):=
 [(0,.cells [.aV 1 x.pa.length true,.aV 2 x.pa.length true,.aV 3 c true,.int .i64 x.la,.aV 4 (x.pa.length+1) true] bp false),(1,.an ah (ba x.pa) true),(2,.an aj cu true),(3,.an bQ th true),(4,.an ah ma true)]
def ZJ (x:Wl){c:Nat}{cu th ma:List D}(h1:cu.length=x.pa.length)(h2:th.length=c)(h3:ma.length=x.pa.length+1):adS x c cu th ma=Rm ⟨ba x.pa,cu,th,x.la,ma⟩:=by
 simp only[adS,Rm,h1,h2,h3,aeW]
def aeJ (x:Wl)(cu:List Bool)(th:aQ):YB ⟨ba x.pa,cu.map D.b,th.an,x.la,ba x.ma⟩ ⟨x.pa,cu,th,[],x.la,x.ma⟩:=⟨rfl,rfl,rfl,rfl,rfl⟩
def x5 (x:Wl)(d:D):Prop:=((d.ae 0).bool=true↔x.zw)/\(x.zw->(d.ae 1).aa=ba x.pa/\(d.ae 2).aa=(pI x.pa.length x.cu).map D.b/\(d.ae 3).aa=x.aD.an/\(d.ae 4).int=x.la/\(d.ae 5).aa=ba x.ma)
def aaj (x:Wl)(hs:x.Bf):PH cF (dV x.az) [] 0 dG (x5 x):=by
 have no:¬x.zw->dX.bu=some 0/\∃d,T.dm (BV.tuple [.gT,.int .i64 71],([]:List (Nat×ax))) (dG (dV x.az) [] d)/\x5 x d:=fun h=>⟨rfl,.r [.b false],.ff rfl .ret,⟨fun a=>by simp[D.ae,D.at]at a,fun a=>(h a).elim⟩,fun a=>(h a).elim⟩
 have hok:=hs.ok
 have hpa:=hs.pa
 have hth:=hs.th
 have hma:=hs.ma
 have hcu:=hs.cu
 have ewok:∀e∈x.th,e.w.ok:=fun e he=>(hok.2.2.2.2.2.1 e he).2.2
 have hla:-2^63<=x.la/\x.la<2^63:=⟨hok.2.2.2.2.2.2.1,hok.2.2.2.2.2.2.2.1⟩
 have htl:x.aD.length=x.th.length:=by simp[Wl.aD]
 have hkeys:∀r y,x.aD.get r=some y->∃e∈x.th,e.r=r/\e.w=y:=fun r y hy=>by
  have:=aQ.qG hy
  simp only[Wl.aD,afy]at this
  obtain⟨e,he,h⟩:=this
  cases h
  exact⟨e,he,rfl,rfl⟩
 have htok:x.aD.ok:=fun p hp=>by
  simp only[Wl.aD,afy]at hp
  obtain⟨e,he,rfl⟩:=hp
  exact ewok e he
 have G:=x.zw
 have bK:nO x.pa=true->x.ma.length=x.pa.length+1->(∀c∈x.cu,1<=c/\c<=x.pa.length)->da x.cu->(∀m∈x.ma,0<=m/\m<=512)->0<=x.la->x.la<=64*x.Pe->(∀e∈x.th,1<=e.r/\e.r<=x.la)->da (x.th.map En.r)->
  (∀e∈x.th,e.w.F (x.pa.length+1:Nat))->(∀(i:Nat) (m:Int),x.ma[i]?=some m->(Gt x.th i:Int)<=m)->
  aC pg cF [bN,aX] (.bu 0 (dG (dV x.az) []) (x5 x)) (kP x.az x.Pe x.th.length ((pI x.pa.length x.cu).map D.b) x.aD.an (ba x.ma) 0):=by
  intro g1 g2 g3 g4 g5 l0 l1 g6 g7 g8 g9
  have hsb:=Pf x.ma g5
  have hsum:x.Pe=x.ma.foldr (·+·) 0:=rfl
  have hone:x.aD.one:=by rw[aQ.one,Wl.cX];exact g7.ze
  have hforms:x.aD.RE:=⟨hone,fun r y hy=>by obtain⟨e,he,rfl,_⟩:=hkeys r y hy;exact(g6 e he).1,fun r y hy=>by obtain⟨e,he,_,rfl⟩:=hkeys r y hy;exact(g8 e he).1,fun r y hy=>by
   obtain⟨e,he,_,rfl⟩:=hkeys r y hy
   have:=ewok e he;simp only[Wh.ok]at this;omega⟩
  have good_iff:x.zw↔((∀r y,x.aD.get r=some y->x.aD.Lw r)/\(∀r y,x.aD.get r=some y->x.aD.ki r y (x.aD.yE y.of)=0))/\x.la+q7 (x.aD.ov x.aD.ab) (x.aD.map (·.1))<=64*x.Pe:=by
   rw[<-aQ.Lq hforms]
   constructor
   ·intro g
    exact⟨⟨fun r y hy hk=>by obtain⟨e,he,_,rfl⟩:=hkeys r y hy;exact(g.BC e he).2 hk,g.XR⟩,g.Lr⟩
   ·rintro⟨⟨a,b⟩,c⟩
    refine⟨g1,g2,g3,g4,g5,l0,l1,g6,g7,fun e he=>⟨g8 e he,fun hk=>a e.r e.w ((aQ.sA hone).2 ?_) hk⟩,g9,b,c⟩
    simp only[Wl.aD,afy];exact⟨e,he,rfl⟩
  have hgetE:∀e∈x.th,x.aD.get e.r=some e.w:=fun e he=>(aQ.sA hone).2 (by simp only[Wl.aD,afy];exact⟨e,he,rfl⟩)
  have hrl:(pI x.pa.length x.cu).length=x.pa.length:=by simp
  have hM:=ZJ x (c:=x.th.length) (cu:=(pI x.pa.length x.cu).map D.b) (th:=x.aD.an) (ma:=ba x.ma) (by simp) (by simp[htl]) (by simp[g2])
  have hrep:=aeJ x (pI x.pa.length x.cu) x.aD
  have loopB:(∀r y,x.aD.get r=some y->x.aD.Lw r)->∀(rest:List En) (i:Nat),x.th.drop i=rest->(∀e∈x.th.take i,x.aD.ki e.r e.w (x.aD.yE e.w.of)=0)->
   aC pg cF [bN,aX] (.bu 0 (dG (dV x.az) []) (x5 x)) (oU x.az x.Pe x.th.length ((pI x.pa.length x.cu).map D.b) x.aD.an (ba x.ma) i):=by
   intro hway rest
   have hch:∀r y,x.aD.get r=some y->x.aD.chain x.aD.length r=true:=fun r y hy=>(aQ.Gs hone r).2 (hway r y hy)
   induction rest with
   |nil=>
    intro i hd hq
    have hi:=drop_nil hd
    rw[ae7 hi]at hq
    have hask:∀r y,x.aD.get r=some y->x.aD.ki r y (x.aD.yE y.of)=0:=fun r y hy=>by obtain⟨e,he,rfl,rfl⟩:=hkeys r y hy;exact hq e he
    obtain⟨h64,hS⟩:=(aQ.Lq hforms).2 ⟨hway,hask⟩
    have hfc:∀r y,x.aD.get r=some y->y.k=14->kG y.set (x.aD.ab y.of)=0:=fun r y hy hk=>by
     have:=hS.2.2 r y hy
     simp[aQ.PC,hk]at this
     exact this.2.2.2
    have habs:∀r y,x.aD.get r=some y->x.aD.ab r=x.aD.yE r/\0<=x.aD.yE r/\x.aD.yE r<64:=fun r y hy=>by
     obtain⟨n,hn,he⟩:=aQ.ID hone hch hy
     exact(aQ.LG hforms.set (.inl hfc) n r (by omega) he).2
    have hsp:PH gp (pf _) (Rm _) 1 mz (fun d=>D.int d=q7 (x.aD.ov x.aD.ab) (x.aD.map (·.1))):=Ve hrep htok hone (by show x.aD.length<_;omega) x.aD.ab fun r y hy hk=>by
     have:=habs r y hy
     exact⟨⟨_,by rw[this.1];exact aQ.Vm hone hch r⟩,by omega,by omega⟩
    have hsb2:=Ro (t:=x.aD) (ab:=x.aD.ab) (x.aD.map (·.1))
    have hkl:(x.aD.map (·.1)).length=x.th.length:=by simp[Wl.aD]
    rw[hkl]at hsb2
    refine AM ?_
    simp only[rk,Wl.qv,Wl.Br,aeW,aeT,aeS]
    refine⟨fun h=>by omega,fun _=>⟨_,_,rfl,Bh hM hsp,?_⟩⟩
    intro d hd2
    rw[hd2,bL (x:=x.la+_) (by omega) (by omega),bL (x:=64*x.Pe) (by omega) (by omega)]
    refine⟨fun h=>no fun g=>by have:=g.Lr;omega,fun h=>?_⟩
    have vg:x.zw:=good_iff.2 ⟨⟨hway,hask⟩,by omega⟩
    refine⟨rfl,.r [.b true,.r (ba x.pa),.r ((pI x.pa.length x.cu).map D.b),.r x.aD.an,.z x.la,.r (ba x.ma)],.tt rfl (aS.2 ?_),⟨fun _=>vg,fun _=>rfl⟩,fun _=>⟨rfl,rfl,rfl,rfl,rfl⟩⟩
    have:=hM
    simp only[D.ae,D.bP,D.at,af4,agl,D.df]
    rw[<-this]
   |cons e rest ih=>
    intro i hd hq
    obtain⟨k1,k2,k3⟩:=aI hd
    have hmem:=aeU k1
    have hat:D.at x.aD.an i= .r [.z e.r,e.w.az]:=CL (p:=(e.r,e.w)) (by simp[Wl.aD,k1])
    have e1:D.ae (.r [.z e.r,e.w.az]) 0= .z e.r:=rfl
    have e2:D.ae (.r [.z e.r,e.w.az]) 1=e.w.az:=rfl
    have ha:e.w.k=14->∃n,x.aD.nM n e.w.of=some (x.aD.yE e.w.of):=fun _=>⟨_,aQ.Vm hone hch _⟩
    refine AM ?_
    simp only[rk,Wl.qv,Wl.Br,aeW,aeT,aeS,ae2,hat,e1,e2,D.df,aY k3,aQ.tQ,htl]
    refine⟨fun _=>⟨fun _=>⟨fun _=>⟨_,_,rfl,Bh hM (Vd hrep (by show x.aD.length<_;omega) htok e.r e.w (x.aD.yE e.w.of) (ewok e hmem) (hs.sz e hmem) (g8 e hmem).fG (g8 e hmem).1 ha),?_⟩,fun h=>by omega⟩,fun h=>by simp at h⟩,fun h=>by omega⟩
    intro d hd2
    rw[hd2]
    refine⟨fun h=>no fun g=>?_,fun h=>?_⟩
    ·have:=(good_iff.1 g).1.2 e.r e.w (hgetE e hmem)
     rw[this]at h;simp at h
    ·rw[bO k3 (by omega)]
     refine ih (i+1) k2 fun y hy=>?_
     rw[bn k1]at hy
     rcases afp.1 hy with hy|hy
     ·exact hq y hy
     ·simp only[afj]at hy;subst hy;simpa using h
  have loopA:∀(rest:List En) (i:Nat),x.th.drop i=rest->(∀e∈x.th.take i,x.aD.Lw e.r)->
   aC pg cF [bN,aX] (.bu 0 (dG (dV x.az) []) (x5 x)) (kP x.az x.Pe x.th.length ((pI x.pa.length x.cu).map D.b) x.aD.an (ba x.ma) i):=by
   intro rest
   induction rest with
   |nil=>
    intro i hd hq
    have hi:=drop_nil hd
    rw[ae7 hi]at hq
    refine AL ?_
    simp only[rk,aeT,aeS]
    refine⟨fun h=>by omega,fun _=>?_⟩
    exact loopB (fun r y hy=>by obtain⟨e,he,rfl,rfl⟩:=hkeys r y hy;exact hq e he) x.th 0 rfl (by simp)
   |cons e rest ih=>
    intro i hd hq
    obtain⟨k1,k2,k3⟩:=aI hd
    have hmem:=aeU k1
    have hat:D.at x.aD.an i= .r [.z e.r,e.w.az]:=CL (p:=(e.r,e.w)) (by simp[Wl.aD,k1])
    have e1:D.ae (.r [.z e.r,e.w.az]) 0= .z e.r:=rfl
    have hget:=hgetE e hmem
    have bad:¬x.aD.Lw e.r->¬x.zw:=fun h g=>h ((good_iff.1 g).1.1 e.r e.w hget)
    have hwl:=aQ.Pr x.aD (x.aD.length+1) e.r
    have hw0:0<(x.aD.iu (x.aD.length+1) e.r).length:=by simp[aQ.iu,hget]
    refine AL ?_
    simp only[rk,Wl.qv,Wl.Br,aeW,aeT,aeS,ae2,hat,e1,D.df,aY k3,aQ.tQ,htl]
    refine⟨fun _=>⟨fun _=>⟨fun _=>⟨_,_,rfl,Bh hM (abf hrep htok (by show x.aD.length<_;omega) e.r),?_⟩,fun h=>by omega⟩,fun h=>by simp at h⟩,fun h=>by omega⟩
    intro d hd2
    rw[hd2]
    simp only[aeW]
    change ((((x.aD.iu (x.aD.length+1) e.r).length:Int)>(x.th.length:Int))->_)/\(¬(((x.aD.iu (x.aD.length+1) e.r).length:Int)>(x.th.length:Int))->_)
    refine⟨fun h=>no (bad fun a=>by have:=a.1;omega),fun h=>?_⟩
    have hw1:IntKind.i64.wrap (((x.aD.iu (x.aD.length+1) e.r).length:Int)-1)=(((x.aD.iu (x.aD.length+1) e.r).length-1:Nat):Int):=by rw[bL (by omega) (by omega)];omega
    obtain⟨q,hq2⟩:∃q,(x.aD.iu (x.aD.length+1) e.r)[(x.aD.iu (x.aD.length+1) e.r).length-1]?=some q:=⟨_,aeY (by omega)⟩
    have hlast:(x.aD.iu (x.aD.length+1) e.r).getLast?=some q:=by rw[List.getLast?_eq_getElem?];exact hq2
    simp only[hw1,ae2,aY (show (x.aD.iu (x.aD.length+1) e.r).length-1<(x.aD.iu (x.aD.length+1) e.r).length by omega),bS (f:=D.z) hq2,D.df]
    refine⟨fun _=>⟨fun _=>⟨_,_,rfl,Bh hM (RG hrep (by show x.aD.length<_;omega) htok q),?_⟩,fun h=>by omega⟩,fun h=>by simp at h⟩
    intro d3 hd3
    rw[hd3]
    refine⟨_,_,_,rfl,px (x.aD.kind q),?_⟩
    rintro _ rfl
    simp only[D.cg]
    have hqget:∃y,x.aD.get q=some y:=by
     have hqm:=aeU hq2
     have key:∀(n:Nat) (r:Int),q∈x.aD.iu n r->∃y,x.aD.get q=some y:=by
      intro n
      induction n with
      |zero=>intro r h;cases h
      |succ n ih=>
       intro r h
       simp only[aQ.iu]at h
       cases hg:x.aD.get r with
       |none=>rw[hg]at h;cases h
       |some y=>
        simp only[hg]at h
        rcases ae5.1 h with rfl|h
        ·exact⟨y,hg⟩
        ·split at h
         ·exact ih _ h
         ·cases h
     exact key _ _ hqm
    obtain⟨y,hy⟩:=hqget
    have hkq:x.aD.kind q=y.k:=by simp[aQ.kind,hy]
    rw[hkq]
    refine⟨fun hw=>no (bad ?_),fun hw=>?_⟩
    ·rintro⟨_,q2,y2,a1,a2,a3⟩
     rw[hlast]at a1;cases a1
     rw[hy]at a2;cases a2
     rw[hw]at a3;cases a3
    ·rw[bO k3 (by omega)]
     refine ih (i+1) k2 fun z hz=>?_
     rw[bn k1]at hz
     rcases afp.1 hz with hz|hz
     ·exact hq z hz
     ·simp only[afj]at hz;subst hz;exact⟨by omega,q,y,hlast,hy,hw⟩
  exact loopA x.th 0 rfl (by simp)
 have loop4:∀(rest:List Int) (i:Nat) (DS:List D),nO x.pa=true->x.ma.length=x.pa.length+1->(∀c∈x.cu,1<=c/\c<=x.pa.length)->da x.cu->(∀m∈x.ma,0<=m/\m<=512)->0<=x.la->x.la<=64*x.Pe->(∀e∈x.th,1<=e.r/\e.r<=x.la)->da (x.th.map En.r)->
  (∀e∈x.th,e.w.F (x.pa.length+1:Nat))->Ps DS (x.pa.length+1) x.th->x.ma.drop i=rest->(∀(j:Nat) (m:Int),j<i->x.ma[j]?=some m->(Gt x.th j:Int)<=m)->
  aC pg cF [bN,aX] (.bu 0 (dG (dV x.az) []) (x5 x)) (oT x.az x.Pe x.th.length DS ((pI x.pa.length x.cu).map D.b) x.aD.an (ba x.ma) i):=by
  intro rest
  induction rest with
  |nil=>
   intro i DS g1 g2 g3 g4 g5 l0 l1 g6 g7 g8 hc hd hh
   have hi:=drop_nil hd
   refine AK ?_
   simp only[rk,Wl.zT,aeW,aeT,aeS]
   refine⟨fun h=>by omega,fun _=>?_⟩
   exact bK g1 g2 g3 g4 g5 l0 l1 g6 g7 g8 fun j m hj=>hh j m (by have:=(ae1.1 hj).1;omega) hj
  |cons m rest ih=>
   intro i DS g1 g2 g3 g4 g5 l0 l1 g6 g7 g8 hc hd hh
   obtain⟨k1,k2,k3⟩:=aI hd
   have hi:i<x.pa.length+1:=by omega
   refine AK ?_
   simp only[rk,Wl.qv,Wl.zT,aeW,aeT,aeS,ae2,bS (f:=D.z) k1,hc.ni i hi,hc.len,D.df,aY k3,aY hi]
   refine⟨fun _=>⟨fun _=>⟨fun _=>⟨fun _=>⟨fun _=>⟨fun h=>no fun g=>by have:=g.DS i m k1;omega,fun h=>?_⟩,fun h=>by omega⟩,fun h=>by simp at h⟩,fun h=>by omega⟩,fun h=>by simp at h⟩,fun h=>by omega⟩
   rw[bO k3 (by omega)]
   refine ih (i+1) DS g1 g2 g3 g4 g5 l0 l1 g6 g7 g8 hc k2 fun j y hj hy=>?_
   by_cases ej:j=i
   ·subst ej;rw[k1]at hy;cases hy;omega
   ·exact hh j y (by omega) hy
 have loop3:∀(rest:List En) (i:Nat) (DS:List D),nO x.pa=true->x.ma.length=x.pa.length+1->(∀c∈x.cu,1<=c/\c<=x.pa.length)->da x.cu->(∀m∈x.ma,0<=m/\m<=512)->0<=x.la->x.la<=64*x.Pe->x.th.drop i=rest->i<=x.th.length->
  (∀e∈x.th.take i,1<=e.r/\e.r<=x.la)->da ((x.th.take i).map En.r)->(∀e∈x.th.take i,e.w.F (x.pa.length+1:Nat))->Ps DS (x.pa.length+1) (x.th.take i)->
  aC pg cF [bN,aX] (.bu 0 (dG (dV x.az) []) (x5 x)) (fO x.az x.Pe ((pI x.pa.length x.cu).map D.b) (ba x.ma) i i DS (aQ.an ((x.th.take i).map fun e=>(e.r,e.w)))):=by
  intro rest
  induction rest with
  |nil=>
   intro i DS g1 g2 g3 g4 g5 l0 l1 hd hile hb hr hf hc
   have hi:=drop_nil hd
   rw[ae7 hi]at hb hr hf hc ⊢
   refine BY ?_
   simp only[rk,Wl.qw,aeW,aeT,aeS]
   refine⟨fun h=>by omega,fun h=>?_⟩
   have hil:i=x.th.length:=by omega
   subst hil
   exact loop4 x.ma 0 DS g1 g2 g3 g4 g5 l0 l1 hb hr hf hc rfl (by intro j m hj;omega)
  |cons e rest ih=>
   intro i DS g1 g2 g3 g4 g5 l0 l1 hd hile hb hr hf hc
   obtain⟨k1,k2,k3⟩:=aI hd
   have hmem:=aeU k1
   have hew:=ewok e hmem
   have e1:D.ae e.az 1=e.w.az:=En.R6 e
   have MW:aQ.an ((x.th.take i).map fun e=>(e.r,e.w))++[D.r [.z e.r,e.w.az]]=aQ.an ((x.th.take (i+1)).map fun e=>(e.r,e.w)):=by rw[bn k1];simp[aQ.an]
   have rl:(aQ.an ((x.th.take i).map fun e=>(e.r,e.w))).length=i:=by simp;omega
   have nx:(∀p,0<i->x.th[i-1]?=some p->p.r<e.r)->1<=e.r/\e.r<=x.la->e.w.F (x.pa.length+1:Nat)->∀home',Ps home' (x.pa.length+1) (x.th.take (i+1))->aC pg cF [bN,aX] (.bu 0 (dG (dV x.az) []) (x5 x)) (fO x.az x.Pe ((pI x.pa.length x.cu).map D.b) (ba x.ma) (IntKind.i64.wrap ((i:Int)+1)) (i+1) home' (aQ.an ((x.th.take (i+1)).map fun e=>(e.r,e.w)))):=fun hprev hb1 hform home' hc'=>by
    rw[bO k3 (by omega)]
    refine ih (i+1) home' g1 g2 g3 g4 g5 l0 l1 k2 (by omega) (fun q hq=>?_) ?_ (fun q hq=>?_) hc'
    ·rw[bn k1]at hq
     rcases afp.1 hq with hq|hq
     ·exact hb q hq
     ·simp only[afj]at hq;subst hq;exact hb1
    ·rw[bn k1,afI]
     refine hr.MW fun a ha hla=>?_
     simp only[aeW,afC]at ha hla
     rw[show min i x.th.length=i by omega]at hla
     simp only[afE,agJ (show i-1<i by omega),afz]at hla
     obtain⟨p,hp,rfl⟩:=hla
     exact hprev p (by omega) hp
    ·rw[bn k1]at hq
     rcases afp.1 hq with hq|hq
     ·exact hf q hq
     ·simp only[afj]at hq;subst hq;exact hform
   refine BY ?_
   simp only[rk,Wl.qv,Wl.qw,Wl.zT,Wl.Br,aeW,aeT,aeS,ae2,bS k1,En.Dd,e1,Wh.re,aY k3,Wh.fA,Wh.qu,hew.wk,hc.len,rl]
   refine⟨fun _=>⟨fun _=>⟨fun h=>no fun g=>by have:=(g.rb e hmem).1;omega,fun r1=>⟨fun h=>no fun g=>by have:=(g.rb e hmem).2;omega,fun r2=>⟨fun hi=>?cxa1,fun hi=>?cxb1⟩⟩⟩,fun h=>by simp at h⟩,fun h=>by omega⟩
   case' cxa1=>
    have hw:IntKind.i64.wrap ((i:Int)-1)=((i-1:Nat):Int):=by rw[bL (by omega) (by omega)];omega
    obtain⟨p,hp⟩:∃p,x.th[i-1]?=some p:=⟨_,aeY (by omega)⟩
    simp only[hw,ae2,bS hp,En.Dd,aY (show i-1<x.th.length by omega)]
    refine⟨fun _=>⟨fun h=>no fun g=>?_,fun h=>?_⟩,fun h=>by simp at h⟩
    have h3:=g.KD (i-1) p.r e.r (by simp[hp]) (by rw[show i-1+1=i by omega];simp[k1])
    omega
    have hprev:∀q,0<i->x.th[i-1]?=some q->q.r<e.r:=fun q _ hq=>by rw[hp]at hq;cases hq;omega
   case' cxb1=>
    have hprev:∀q,0<i->x.th[i-1]?=some q->q.r<e.r:=fun q h _=>by omega
   all_goals
    refine⟨_,_,_,rfl,aam e.w (x.ma.length:Int) hew (hs.sz e hmem),?_⟩
    rintro _ rfl
    have eml:((x.ma.length:Nat):Int)=((x.pa.length+1:Nat):Int):=by rw[g2]
    simp only[D.cg,afu,afO,agB,afF,agq]
    refine⟨fun h=>no fun g=>?_,fun h=>?_⟩
    have hFe:=Wh.Fh.2 (g.BC e hmem).1
    rw[eml,hFe]at h;cases h
    have hF:e.w.F (x.pa.length+1:Nat):=by rw[eml]at h;exact Wh.Fh.1 h
    refine⟨fun hk=>?_,fun hk=>⟨_,_,_,rfl,XA e.w hew (hs.sz e hmem),?_⟩⟩
    have hh:=hF.2.2.1 hk
    have hcl:=R2 (x.th.take i) e.w.h.toNat
    have htl2:(x.th.take i).length<=x.th.length:=ag3 ..
    have hin:dy e.w.h x.ma.length=true:=by simp[dy];omega
    refine⟨fun _=>⟨fun _=>⟨_,_,_,rfl,XA e.w hew (hs.sz e hmem),?_⟩,fun h=>by omega⟩,fun h=>by rw[hin]at h;cases h⟩
    rintro _ rfl
    rw[Wh.re,MW]
    refine⟨fun _=>?_,fun h=>by simp[bg]at h;omega⟩
    rw[hc.ni _ (by omega),D.df,bL (x:=(Gt _ _:Int)+1) (by omega) (by omega)]
    exact nx hprev ⟨by omega,by omega⟩ hF _ (by rw[bn k1];exact hc.step hk hh.1 hh.2)
    rintro _ rfl
    rw[Wh.re,MW]
    refine⟨fun _=>?_,fun h=>by simp[bg]at h;omega⟩
    exact nx hprev ⟨by omega,by omega⟩ hF _ (by rw[bn k1];exact hc.same (by omega))
 have loop2:∀(rest:List Int) (i:Nat) (md:List D),nO x.pa=true->x.ma.length=x.pa.length+1->(∀c∈x.cu,1<=c/\c<=x.pa.length)->da x.cu->x.ma.drop i=rest->(∀m∈x.ma.take i,0<=m/\m<=512)->md.length=x.pa.length+1->md.take i=ba (x.ma.take i)->
  aC pg cF [bN,aX] (.bu 0 (dG (dV x.az) []) (x5 x)) (sG x.az ((pI x.pa.length x.cu).map D.b) ((x.ma.take i).foldr (·+·) 0) i md):=by
  intro rest
  induction rest with
  |nil=>
   intro i md g1 g2 g3 g4 hd hm hl ht
   have hi:=drop_nil hd
   rw[ae7 hi]at hm ht ⊢
   rw[ae7 (by omega)]at ht
   subst ht
   have hsb:=Pf x.ma hm
   have hsum:x.Pe=x.ma.foldr (·+·) 0:=rfl
   refine Dw ?_
   simp only[rk,Wl.qw,Wl.zT,Wl.Br,aeW,aeT,aeS]
   refine⟨fun h=>by omega,fun _=>⟨fun h=>no fun g=>by have:=g.la0;omega,fun l0=>?_⟩⟩
   rw[bL (x:=64*_) (by omega) (by omega)]
   refine⟨fun h=>no fun g=>by have:=g.la1;omega,fun l1=>⟨fun h=>no fun g=>by have:=g.adQ;have:=g.la1;omega,fun l2=>⟨fun _=>?_,fun h=>by simp[rv]at h;omega⟩⟩⟩
   rw[<-hsum]
   have e:=loop3 x.th 0 (List.replicate x.ma.length (D.z 0)) g1 g2 g3 g4 hm (by omega) (by omega) rfl (by omega) (by simp) (by intro i a b h;simp at h) (by simp) (by rw[g2];exact Ps.adI _)
   simpa [aQ.an]using e
  |cons m rest ih=>
   intro i md g1 g2 g3 g4 hd hm hl ht
   obtain⟨k1,k2,k3⟩:=aI hd
   have hmem:=aeU k1
   have hsb:=Pf (x.ma.take i) hm
   have htl2:(x.ma.take i).length<=x.ma.length:=ag3 ..
   refine Dw ?_
   simp only[rk,Wl.qv,Wl.zT,aeW,aeT,aeS,ae2,bS (f:=D.z) k1,D.df,aY k3,hl,aY (show i<x.pa.length+1 by omega)]
   refine⟨fun _=>⟨fun _=>⟨fun h=>no fun g=>by have:=g.mb m hmem;omega,fun h1=>⟨fun h=>no fun g=>by have:=g.mb m hmem;omega,fun h2=>⟨fun _=>⟨fun _=>?_,fun h=>by omega⟩,fun h=>by simp at h⟩⟩⟩,fun h=>by simp at h⟩,fun h=>by omega⟩
   have e:=ih (i+1) (md.set i (.z m)) g1 g2 g3 g4 k2 (fun y hy=>?_) (by simpa using hl) (by rw[tT (by omega),bn k1,ht];simp)
   ·rw[bn k1,Pg]at e
    rw[bL (x:=_+m) (by omega) (by omega),bO k3 (by omega)]
    exact e
   ·rw[bn k1]at hy
    rcases afp.1 hy with hy|hy
    ·exact hm y hy
    ·simp only[afj]at hy;subst hy;omega
 have loop1:∀(rest:List Int) (i:Nat),nO x.pa=true->x.ma.length=x.pa.length+1->x.cu.drop i=rest->(∀c∈x.cu.take i,1<=c/\c<=x.pa.length)->da (x.cu.take i)->
  aC pg cF [bN,aX] (.bu 0 (dG (dV x.az) []) (x5 x)) (sF x.az i ((pI x.pa.length (x.cu.take i)).map D.b)):=by
  intro rest
  induction rest with
  |nil=>
   intro i g1 g2 hd hc hr
   have hi:=drop_nil hd
   rw[ae7 hi]at hc hr ⊢
   refine Dv ?_
   simp only[rk,Wl.qv,Wl.L4,aeW,aeT,aeS]
   refine⟨fun h=>by omega,fun _=>?_⟩
   have e:=loop2 x.ma 0 (List.replicate (x.pa.length+1) (D.z 0)) g1 g2 hc hr rfl (by simp) (by simp) (by simp)
   simpa using e
  |cons c rest ih=>
   intro i g1 g2 hd hc hr
   obtain⟨k1,k2,k3⟩:=aI hd
   have hmem:=aeU k1
   refine Dv ?_
   simp only[rk,Wl.qv,Wl.L4,aeW,aeT,aeS,ae2,bS (f:=D.z) k1,D.df,aY k3,S6]
   refine⟨fun _=>⟨fun _=>⟨fun h=>no fun g=>by have:=g.cut c hmem;omega,fun c1=>⟨fun h=>no fun g=>by have:=g.cut c hmem;omega,fun c2=>⟨fun hi=>?cxa2,fun hi=>?cxb2⟩⟩⟩,fun h=>by simp at h⟩,fun h=>by omega⟩
   case' cxa2=>
    have hw:IntKind.i64.wrap ((i:Int)-1)=((i-1:Nat):Int):=by rw[bL (by omega) (by omega)];omega
    obtain⟨p,hp⟩:∃p,x.cu[i-1]?=some p:=⟨_,aeY (by omega)⟩
    simp only[hw,ae2,bS (f:=D.z) hp,D.df,aY (show i-1<x.cu.length by omega)]
    refine⟨fun _=>⟨fun h=>no fun g=>?_,fun h=>?_⟩,fun h=>by simp at h⟩
    have h3:=g.Nu (i-1) p c hp (by rw[show i-1+1=i by omega];exact k1)
    omega
    have hprev:∀q,0<i->x.cu[i-1]?=some q->q<c:=fun q _ hq=>by rw[hp]at hq;cases hq;omega
   case' cxb2=>
    have hprev:∀q,0<i->x.cu[i-1]?=some q->q<c:=fun q h _=>by omega
   all_goals
    have hw2:IntKind.i64.wrap (c-1)=c-1:=bL (by omega) (by omega)
    have hin:dy (c-1) x.pa.length=true:=by simp[dy];omega
    rw[hw2,hin,bO k3 (by omega)]
    refine⟨fun _=>⟨fun _=>?_,fun h=>by omega⟩,fun h=>by simp at h⟩
    have e:=ih (i+1) g1 g2 k2 (fun y hy=>?_) ?_
    rw[bn k1,P9,aiC]at e
    exact e
    rw[bn k1]at hy
    rcases afp.1 hy with hy|hy
    exact hc y hy
    simp only[afj]at hy;subst hy;omega
    rw[bn k1]
    refine hr.MW fun a ha hla=>?_
    simp only[afC]at ha hla
    rw[show min i x.cu.length=i by omega,agJ (by omega)]at hla
    exact hprev a (by omega) hla
 refine T2 ?_
 simp only[rk,Wl.qv,Wl.zT,aeW]
 refine⟨_,_,rfl,acq x.pa hpa,?_⟩
 intro d hd
 rw[hd,bL (x:=(x.pa.length:Int)+1) (by omega) (by omega)]
 refine⟨fun g1=>⟨fun h=>no fun g=>by have:=g.DU;simp at h;omega,fun h=>?_⟩,fun g1=>no fun g=>by rw[g.par]at g1;cases g1⟩
 have e:=loop1 x.cu 0 g1 (by simp at h;omega) rfl (by simp) (by intro i a b h;simp at h)
 simpa [pI]using e
def da.cons {a:Int}{l:List Int}(h:da l)(hl:∀b∈l,a<b):da (a::l):=fun i x y h1 h2=>by
 cases i with
 |zero=>simp at h1 h2;subst h1;exact hl y (by cases l with|nil=>simp at h2|cons c r=>simp at h2;subst h2;simp)
 |succ i=>exact h i x y (by simpa using h1) (by simpa using h2)
def OW:∀{a b:List Int},da a->da b->(∀z,z∈a↔z∈b)->a=b:=by
 intro a
 induction a with
 |nil=>intro b _ _ h;cases b with|nil=>rfl|cons y r=>have:=(h y).2 (by simp);cases this
 |cons x l ih=>
  intro b ha hb h
  cases b with
  |nil=>have:=(h x).1 (by simp);cases this
  |cons y r=>
   have h1:=(h x).1 (by simp)
   have h2:=(h y).2 (by simp)
   have hxy:x=y:=by
    rcases ae5.1 h1 with e|e
    ·exact e
    ·rcases ae5.1 h2 with e2|e2
     ·exact e2.symm
     ·have:=ha.lt y e2;have:=hb.lt x e;omega
   subst hxy
   rw[ih ha.tail hb.tail fun z=>?_]
   constructor
   ·intro hz
    rcases ae5.1 ((h z).1 (by simp[hz]))with e|e
    ·have:=ha.lt z hz;omega
    ·exact e
   ·intro hz
    rcases ae5.1 ((h z).2 (by simp[hz]))with e|e
    ·have:=hb.lt z hz;omega
    ·exact e
def Q2:∀{l:List Int},l.Pairwise (·<=·)->l.Nodup->da l:=by
 intro l
 induction l with
 |nil=>intro _ _ i a b h;simp at h
 |cons a r ih=>
  intro h1 h2
  rw[agp]at h1
  rw[afD]at h2
  refine(ih h1.2 h2.2).cons fun b hb=>?_
  have:=h1.1 b hb
  have:a≠b:=fun e=>h2.1 (e▸hb)
  omega
def UE {l k:List Int}(hp:l.Perm k)(hk:da k):(l.mergeSort fun x y=>decide (x<=y))=k:=by
 have hs:(l.mergeSort fun x y=>decide (x<=y)).Perm l:=List.mergeSort_perm l _
 have hpw:(l.mergeSort fun x y=>decide (x<=y)).Pairwise (·<=·):=by
  have:=List.pairwise_mergeSort (le:=fun x y:Int=>decide (x<=y)) (by intro a b c;simp;omega) (by intro a b;simp;omega) l
  exact this.imp (by intro a b h;simpa using h)
 have hn:(l.mergeSort fun x y=>decide (x<=y)).Nodup:=(hs.trans hp).nodup_iff.2 hk.ze
 exact OW (Q2 hpw hn) hk fun z=>(hs.trans hp).mem_iff
def nQ:Int->List Bool->List Int
 |_,[]=>[]
 |n,b::r=>if b then n::nQ (n+1) r else nQ (n+1) r
def RB:∀(l:List Bool) (n:Int) (b:Bool),nQ n (l++[b])=nQ n l++if b then [n+l.length]else []:=by
 intro l
 induction l with
 |nil=>intro n b;cases b<;>simp[nQ]
 |cons a r ih=>
  intro n b
  simp only[af8,nQ,ih,ae9]
  rw[show n+1+(r.length:Int)=n+((r.length+1:Nat):Int)by omega]
  cases a<;>rfl
def Lf:∀{l:List Bool} {n z:Int},z∈nQ n l↔n<=z/\l[(z-n).toNat]?=some true:=by
 intro l
 induction l with
 |nil=>intro n z;simp[nQ]
 |cons a r ih=>
  intro n z
  have key:(n+1<=z/\r[(z-(n+1)).toNat]?=some true)↔(n<=z/\z≠n/\(a::r)[(z-n).toNat]?=some true):=by
   by_cases hz:n+1<=z
   ·rw[show (z-n).toNat=(z-(n+1)).toNat+1 by omega,af7]
    constructor
    ·rintro⟨_,h⟩;exact⟨by omega,by omega,h⟩
    ·rintro⟨_,_,h⟩;exact⟨hz,h⟩
   ·constructor
    ·rintro⟨h,_⟩;exact absurd h hz
    ·rintro⟨h1,h2,_⟩;omega
  simp only[nQ]
  cases a with
  |true=>
   simp only[afq,ae5,ih,key]
   constructor
   ·rintro(rfl| ⟨h1,h2,h3⟩)
    ·exact⟨by omega,by simp⟩
    ·exact⟨h1,h3⟩
   ·rintro⟨h1,h2⟩
    by_cases e:z=n
    ·exact .inl e
    ·exact .inr ⟨h1,e,h2⟩
  |false=>
   simp only[ae0,afS,ih,key]
   constructor
   ·rintro⟨h1,h2,h3⟩;exact⟨h1,h3⟩
   ·rintro⟨h1,h2⟩
    refine⟨h1,fun e=>?_,h2⟩
    subst e;simp at h2
def RA:∀(l:List Bool) (n:Int),da (nQ n l):=by
 intro l
 induction l with
 |nil=>intro n i a b h;simp[nQ]at h
 |cons a r ih=>
  intro n
  simp only[nQ]
  cases a with
  |true=>exact(ih (n+1)).cons fun b hb=>by have:=(Lf.1 hb).1;omega
  |false=>exact ih (n+1)
def NJ (f:Int->Nat):∀(l:List Int) (a:List Bool) (i:Nat),(l.foldl (fun a c=>a.set (f c) true) a)[i]?=some true↔i<a.length/\(a[i]?=some true\/∃c∈l,f c=i):=by
 intro l
 induction l with
 |nil=>
  intro a i
  simp only[List.foldl_nil]
  constructor
  ·intro h;exact⟨(ae1.1 h).1,.inl h⟩
  ·rintro⟨_,h| ⟨c,hc,_⟩⟩
   ·exact h
   ·cases hc
 |cons c r ih=>
  intro a i
  simp only[agm,ih,agu,agt,ae5]
  constructor
  ·rintro⟨h1,h2| ⟨c',h2,h3⟩⟩
   ·split at h2
    ·exact⟨h1,.inr ⟨c,.inl rfl,‹_›⟩⟩
    ·exact⟨h1,.inl h2⟩
   ·exact⟨h1,.inr ⟨c',.inr h2,h3⟩⟩
  ·rintro⟨h1,h2| ⟨c',rfl|h2,h3⟩⟩
   ·refine⟨h1,.inl ?_⟩
    split
    ·rename_i e;subst e;simp
     exact h1
    ·exact h2
   ·refine⟨h1,.inl ?_⟩
    rw[aeZ h3];subst h3;rw[aeZ h1]
   ·exact⟨h1,.inr ⟨c',h2,h3⟩⟩
def S8 {n:Nat}{l:List Int}(hr:da l)(hb:∀c∈l,1<=c/\c<=n):nQ 0 (gI n l)=l:=by
 refine OW (RA _ _) hr fun z=>?_
 rw[Lf,gI,NJ]
 simp only[af5,agf]
 constructor
 ·rintro⟨h1,h2,h3| ⟨c,h3,h4⟩⟩
  ·split at h3<;>simp at h3
  ·have:=hb c h3
   rw[show z=c by omega];exact h3
 ·intro h
  have:=hb z h
  exact⟨by omega,by omega,.inr ⟨z,h,by omega⟩⟩
def XZ {l:List Bool}{i:Nat}{b:Bool}(h:l[i]?=some b)(n:Int):nQ n (l.take (i+1))=nQ n (l.take i)++if b then [n+i]else []:=by
 have hi:=(ae1.1 h).1
 rw[List.take_add_one,h]
 simp only[Option.toList_some]
 rw[RB,afC,agn (by omega)]
def UR:∀(l:List Bool) (n:Int),(nQ n l).length<=l.length:=by
 intro l
 induction l with
 |nil=>intro n;simp[nQ]
 |cons a r ih=>intro n;have:=ih (n+1);cases a<;>simp[nQ]<;>omega
structure Wl.Yf (x:Wl):Prop where
 par:x.pa.length<16
 DU:x.ma.length=x.pa.length+1
 cut:∀c∈x.cu,1<=c/\c<=x.pa.length
 Nu:da x.cu
 th:x.th.length<2^30
 KD:da (x.th.map En.r)
 w:∀e∈x.th,e.w.ok/\e.w.sz<2^30/\∀v∈e.w.aF,v.fG=true
abbrev Wl.wo (x:Wl)(f:kb):Wo:=⟨x.pa,gI x.pa.length x.cu,x.aD,f,x.la,x.ma⟩
abbrev Wl.ro (x:Wl):Wo:=⟨x.pa,pI x.pa.length x.cu,x.aD,[],x.la,x.ma⟩
def Wl.Yf.one {x:Wl}(h:x.Yf):x.aD.one:=by rw[aQ.one,Wl.cX];exact h.KD.ze
def Rq {x:Wl}(h:x.aD.one){i:Nat}{e:En}(he:x.th[i]?=some e):x.aD.get e.r=some e.w:=by
 have hm:(e.r,e.w)∈x.aD:=afy.2 ⟨e,aeU he,rfl⟩
 exact(aQ.sA h).2 hm
section
def Jd (l:List D)(h:l.length<2^30):PH dC (we l) (wm l) 1 mw (fun d=>D.aa d=l):=by
 have hr:bg 8 (0+l.length)=true:=by simp[bg];omega
 refine JL ?_
 have res:∀l':List D,l'=l->∃d,T.dm (BV.aV 1 (0+l'.length) true,[(0,ax.an ah l true),(1,ax.an ah ([]++l') true)]) (Ba (we l) (wm l) d)/\D.aa d=l:=by
  intro l' h
  rw[h,afT,agv];exact⟨.r l,.ret,rfl⟩
 simp only[rk,hr,af2,afe,ae0,ae6,afc,afm,afW,afa,aft]
 refine⟨fun he=>⟨⟨rfl,.r l,?_,rfl⟩,rfl,res l rfl⟩,fun _=>⟨rfl,res l rfl⟩⟩
 have:l=[]:=by simpa using he
 subst this;exact .ret
abbrev Wl.wp (x:Wl)(t:aQ)(f:kb):Wo:=⟨x.pa,gI x.pa.length x.cu,t,f,x.la,x.ma⟩
def JQ {t u:aQ}(h:t.Perm u)(hu:u.one):t.one:=(h.map (Prod.fst (α:=Int) (β:=Wh))).nodup_iff.2 hu
def Xs {t u:aQ}(h:t.Perm u)(hu:u.one){r:Int}{x:Wh}(hg:u.get r=some x):t.get r=some x:=(aQ.sA (JQ h hu)).2 (h.mem_iff.2 ((aQ.sA hu).1 hg))
section
variable {W:WS} {x:Wl} {t:aQ} {f:kb} (hi:x.Yf) (ht:t.Perm x.aD)
include hi ht
theorem Gn (hW:Gl W (x.wp t f)):PH eI (yq W) (Wm W) 3 nY (·=x.az):=by
 have hma:=hi.DU
 have hpa:=hi.par
 have hcu:(gI x.pa.length x.cu).length=x.pa.length+1:=by simp
 have hth:=hi.th
 have loop2:∀(rest:List En) (i:Nat),x.th.drop i=rest->i<=x.th.length->aC pg eI [bF] (.bu 3 (nY (yq W) (Wm W)) (·=x.az))
  (vi W x.th.length x.th.length x.pa.length x.ma.length (ba (x.th.map En.r)) (ba x.pa) (ba x.ma) x.cu.length (ba x.cu) i i ((x.th.take i).map En.az)):=by
  intro rest
  induction rest with
  |nil=>
   intro i hd hil
   have hl:=drop_nil hd
   have hil:i=x.th.length:=by omega
   subst hil
   refine FJ ?_
   rw[afW]
   simp only[rk,aeW,aft,afe,ae6,afc,afm,Int.lt_irrefl,age,ae0,afL]
   refine⟨rfl,x.az,?_,rfl⟩
   rw[Wl.ay,hW.la]
   exact .ret
  |cons e rest ih=>
   intro i hd hil
   obtain⟨g1,g2,g3⟩:=aI hd
   obtain⟨w1,w2,w3⟩:=hi.w e (aeU g1)
   have hg:=Xs ht hi.one (Rq hi.one g1)
   refine FJ ?_
   have hat:D.at (ba (x.th.map En.r)) i= .z e.r:=bS (by rw[afE,g1];rfl)
   have hcl:(i:Int)<(x.th.length:Int):=by omega
   have hr:bg 200 (i+1)=true:=by simp[bg];omega
   simp only[rk,hcl,hat,aY g3,hW.th,aQ.fv,aQ.val hg,hg,Wh.re,D.df,ae2,aeW,g3,aft,afe,ae6,afc,afm,afY,afC,agn (Nat.le_of_lt g3),hr,ahb,bO g3 (by omega)]
   refine⟨_,_,_,rfl,G3 e.w w1 w2 w3,?_⟩
   intro d hd
   subst hd
   have:=ih (i+1) g2 (by omega)
   rw[<-sM (f:=En.az) g1]at this
   simp only[En.ay]at this
   simp only[Wh.re]
   exact this
 have loop1:∀(rest:List Bool) (i:Nat),(gI x.pa.length x.cu).drop i=rest->i<=x.pa.length+1->aC pg eI [bF] (.bu 3 (nY (yq W) (Wm W)) (·=x.az))
  (qK W x.pa.length x.ma.length (ba x.pa) (ba x.ma) i (nQ 0 ((gI x.pa.length x.cu).take i)).length (ba (nQ 0 ((gI x.pa.length x.cu).take i)))):=by
  intro rest
  induction rest with
  |nil=>
   intro i hd hil
   have hl:=drop_nil hd
   refine FI ?_
   rw[ae7 hl,S8 hi.Nu hi.cut]
   have hn:¬(i:Int)<((gI x.pa.length x.cu).length:Int):=by omega
   simp only[rk,hW.cu,aeW,hn,age,ae0,afc,afe,afL]
   have c:=abi hW (JQ ht hi.one) (by have:=ht.length_eq;simp[Wl.aD]at this;show t.length<_;omega)
   refine⟨_,_,rfl,c,?_⟩
   rintro d ⟨l,hp,hd⟩
   have hp:=hp.trans (ht.map (·.1))
   rw[Wl.cX]at hp
   rw[UE hp hi.KD]at hd
   have:=loop2 x.th 0 rfl (by omega)
   simpa [hd]using this
  |cons b rest ih=>
   intro i hd hil
   obtain⟨g1,g2,g3⟩:=aI hd
   refine FI ?_
   have hat:D.at ((gI x.pa.length x.cu).map D.b) i= .b b:=bS g1
   have hcl:(i:Int)<((gI x.pa.length x.cu).length:Int):=by omega
   have:=ih (i+1) g2 (by omega)
   rw[XZ g1 0]at this
   have hy:=UR ((gI x.pa.length x.cu).take i) 0
   rw[afC]at hy
   have hr:bg 8 ((nQ 0 ((gI x.pa.length x.cu).take i)).length+1)=true:=by simp[bg];omega
   simp only[rk,hW.cu,aeW,hcl,hat,aY g3,g3,D.cg,ae2,aft,afe,ae6,afc,afm,hr,ahb,bO g3 (by omega)]
   refine⟨fun hb=>?_,fun hb=>?_⟩
   ·subst hb;simpa using this
   ·subst hb;simpa using this
 refine W8 ?_
 simp only[rk,D.bP,hW.pa,hW.ma]
 refine⟨_,_,rfl,DN _ (by simp;omega),?_⟩
 intro d hd
 have c2:=Jd (ba x.ma) (by simp;omega)
 refine⟨_,_,rfl,c2,?_⟩
 intro d2 hd2
 rw[hd,hd2]
 have:=loop1 _ 0 rfl (by omega)
 simpa [nQ]using this
end
end
end Go.Proofs
namespace Go.Proofs
open Go Go.PB Go.ChangeShapes Go.WideShapes Go.ChangeAt Go.RowKit Go.Op
def ui (c:UInt8):Bool:=decide (97<=c.toNat)&&decide (c.toNat<=122)
def Bo (c:UInt8):Bool:=decide (48<=c.toNat)&&decide (c.toNat<=57)
def cE (s:List UInt8):Bool:=decide (0<s.length)&&decide (s.length<=32)&&ui (s.getD 0 0)&&s.all fun c=>ui c||Bo c
def PU (w:World)(e:TypeId)(s:ByteArray):CU w (Go.Lib.bytesWorld w e s):=by
 refine⟨by rw[Go.Lib.bytesWorld_size];omega,fun c hc=>Go.Lib.bytesWorld_at_old w e s c hc,?_,?_,?_⟩<;>rfl
def DL (s:ByteArray):∀(n i:Nat) (r:List UInt8),s.size-i=n->r.length<=(ByteArray.toList.loop s i r).length:=by
 intro n
 induction n with
 |zero=>
  intro i r h
  unfold ByteArray.toList.loop
  rw[aeX (by omega)];simp
 |succ n ih=>
  intro i r h
  unfold ByteArray.toList.loop
  rw[aeZ (by omega)]
  have:=ih (i+1) (s.get! i::r) (by omega)
  simp only[ae9]at this;omega
def KW {s:ByteArray}(h:s.toList=[]):s.size=0:=by
 rcases ahf s.size with h0|h0
 ·exact h0
 ·have h1:s.toList=ByteArray.toList.loop s 1 [s.get! 0]:=by
   show ByteArray.toList.loop s 0 []=_
   rw[ByteArray.toList.loop,aeZ h0]
  have:=DL s (s.size-1) 1 [s.get! 0] rfl
  rw[<-h1,h]at this
  simp at this
def He {s:ByteArray}(h:s.size=0):s=ByteArray.empty:=ahc (ahw h)
set_option maxRecDepth 20000
def N0 (s:ByteArray)(w:World)(hs:s.size<=maxLen):
 Calls pg 183 #[.string s] w fun e w'=>e= .returned (.bool (cE s.data.toList))/\CU w w':=by
 unfold maxLen at hs
 have hsz:s.data.toList.length=s.size:=rfl
 have h0:∀h:0<s.size,s.data.toList.getD 0 0=s[0]:=fun h=>by
  simp only[List.getD,afM]
  rw[afs h];rfl
 go_enter Tryz.func183,Tryz.ntmps183
 go_wp2
 ·rename_i h
  go_ret
  refine⟨?_,CU.refl w⟩
  have h:s=ByteArray.empty:=He (KW h)
  subst h
  rfl
 ·rename_i h1 h2 h3 h4
  go_ret
  refine⟨?_,CU.refl w⟩
  have:¬(s[0].toNat<=122):=by
   rcases h4 with ((h4|h4)|h4)|h4
   ·have:=KW (ahW.1 h4);omega
   ·omega
   ·omega
   ·omega
  have e:cE s.data.toList=false:=by unfold cE;rw[h0 h2];simp[ui,this]
  rw[e];rfl
 ·rw[Go.Lib.run_convert_string_bytes w 9 40 5 s (u:= .string) (by kernel_rfl) (by kernel_rfl) (by kernel_rfl)]
  have hk:=PU w 5 s
  have hcell:∀j,j<s.size->(Go.Lib.bytesWorld w 5 s).cell? ⟨w.heap.size,j,none⟩=some (.int .u8 (s.data.toList.getD j 0).toNat):=fun j hj=>Go.Lib.bytesWorld_cell w 5 s j hj
  generalize Go.Lib.bytesWorld w 5 s=w1 at hk hcell ⊢
  go_wp2
  go_loop [25] (fun i=>∃k:Nat,k<=s.size/\i= .int .i64 k/\(s.data.toList.take k).all (fun c=>ui c||Bo c)=true) (fun i=>s.size-(intOf i).toNat)
  case atStart=>exact⟨0,agr _,rfl,rfl⟩
  case round=>
   obtain⟨k,hk1,rfl,hall⟩:=hrel
   by_cases hlt:k<s.size
   ·have hc:=hcell k hlt
    have hat:s.data.toList.getD k 0=s.data[k]:=by
     simp only[List.getD,afM]
     rw[afs hlt];rfl
    have htk:s.data.toList.take (k+1)=s.data.toList.take k++[s.data[k]]:=by
     rw[agF (by simpa using hlt)];rfl
    have hmem:s.data[k]∈s.data.toList:=by simp
    have go:(ui s.data[k]||Bo s.data[k])=true->(∃k_1,k_1<=s.size/\Value.int IntKind.i64 ((k:Int)+1)=Value.int IntKind.i64 ((k_1:Nat):Int)/\((s.data.toList.take k_1).all fun c=>ui c||Bo c)=true)/\
     s.size-(intOf (Value.int IntKind.i64 ((k:Int)+1))).toNat<s.size-(intOf (Value.int IntKind.i64 (k:Int))).toNat:=fun h=>by
     refine⟨⟨k+1,by omega,rfl,?_⟩,by simp[intOf];omega⟩
     rw[htk,ahE,hall];simpa using h
    have bad:(ui s.data[k]||Bo s.data[k])=false->cE s.data.toList=false:=fun h=>by
     have:(s.data.toList.all fun c=>ui c||Bo c)=false:=by
      rw[List.all_eq_false];exact⟨_,hmem,by simp[h]⟩
     unfold cE;rw[this];simp
    simp only[ui,Bo,agd,aeV,aeT]at go
    simp only[ui,Bo,ahA,Bool.and_eq_false_iff,aeS]at bad
    go_wp2
    all_goals first
     |exact go (by omega)
     | (go_ret;refine⟨?_,hk⟩;rw[bad (by omega)];rfl)
   ·have hkk:k=s.size:=by omega
    have e:cE s.data.toList=true:=by
     rw[hkk,ae7 (by rw[hsz];exact afa _)]at hall
     have q3:0<s.size:=by assumption
     unfold cE
     rw[hall,h0 q3]
     simp[ui,hsz];omega
    go_wp2
    go_ret
    exact⟨by first|rfl| (rw[e];rfl),hk⟩
 ·rename_i h1 h2 h3 h4
  go_ret
  refine⟨?_,CU.refl w⟩
  have:¬97<=s[0].toNat:=by omega
  have e:cE s.data.toList=false:=by unfold cE;rw[h0 h3];simp[ui,this]
  rw[e];rfl
 ·rename_i K h1 h2 h3
  have h4:s=ByteArray.empty:=He (by omega)
  subst h4
  have h5:ByteArray.empty.toList=[]:=by
   unfold ByteArray.toList ByteArray.toList.loop
   rw[aeX (by decide)];rfl
  exact absurd h5 (by assumption)
 ·rename_i h1 h2
  go_ret
  refine⟨?_,CU.refl w⟩
  have h3:¬s.size<=32:=by omega
  have e:cE s.data.toList=false:=by unfold cE;rw[hsz];simp[h3]
  rw[e];rfl
def iJ (s:List UInt8)(hs:s.length<=maxLen):iq pg bz [bG] [.s s] [aj] (·= .b (cE s)):=by
 intro fz w as' hfz ha
 have e1:wX pg [bG] [.s s]=[.bj s]:=by kernel_rfl
 have e2:∀b,FZ pg [aj] (.b b)= .bool b:=fun b=>by kernel_rfl
 rw[e1]at ha
 obtain⟨v,h1,h2⟩:=ak.one ha
 simp only[ai]at h2
 subst h2
 obtain⟨l⟩:=as'
 have h1:l=[.string ⟨s.toArray⟩]:=h1
 subst h1
 refine(N0 ⟨s.toArray⟩ w (show s.toArray.size<=maxLen by simpa using hs)).mono ?_
 rintro ed w' ⟨rfl,hk⟩
 exact⟨_,fz,_,rfl,hk,fun _ h=>h,fun c h=>afk (hfz c h) hk.size,fun c h _=>h,by rw[e2];simp[ai],rfl⟩
end Go.Proofs
namespace Go.Proofs
open Go Go.PB
namespace Ex
def jv (v:Ex):Bool:=
 if v.k=1 then v.s==[]&&v.l.length==0
 else if v.k=2 then v.n==0&&decide (v.s.length<=256)&&v.l.length==0
 else if v.k=3 then v.n==0&&v.s==[]
 else if v.k=4 then v.n==0&&cE v.s&&v.l.length==0
 else false
mutual
def og:Ex->Bool
 | .mk k n s l=>lu l&&jv (.mk k n s l)
def lu:List Ex->Bool
 | []=>true
 |v::r=>og v&&lu r
end
mutual
def ya:Ex->Nat
 | .mk k _ _ l=>if k=3 then oM l+1 else 0
def oM:List Ex->Nat
 | []=>0
 |v::r=>max (ya v) (oM r)
end
def Hl (v:Ex):v.og=(lu v.l&&v.jv):=by cases v;rfl
def S9 (v:Ex):v.ya=if v.k=3 then oM v.l+1 else 0:=by cases v;rfl
mutual
def Nv:∀v:Ex,v.ya<=v.size
 | .mk k n s l=>by have:=E3 l;simp only[ya,size];split<;>omega
def E3:∀l:List Ex,oM l<=bI l
 | []=>by simp[oM]
 |v::r=>by have:=Nv v;have:=E3 r;simp only[oM,bI];omega
end
def zY {v:Ex}(h:v.jv=true)(hk:v.k≠3):v.l=[]:=by
 unfold jv at h
 by_cases h1:v.k=1
 ·rw[aeZ h1]at h;simp at h;exact h.2
 ·rw[aeX h1]at h
  by_cases h2:v.k=2
  ·rw[aeZ h2]at h;simp at h;exact h.2
  ·rw[aeX h2,aeX hk]at h
   by_cases h4:v.k=4
   ·rw[aeZ h4]at h;simp at h;exact h.2
   ·rw[aeX h4]at h;cases h
mutual
def Tj:∀v:Ex,v.og=true->v.ht<=v.ya
 | .mk k n s l,h=>by
   simp only[og,aeV]at h
   have:=Jv l h.1
   simp only[ht,ya]
   by_cases hk:k=3
   ·rw[aeZ hk];exact this
   ·rw[aeX hk]
    have hl:l=[]:=zY h.2 hk
    rw[hl];simp[Ju]
def Jv:∀l:List Ex,lu l=true->Ju l<=oM l+1
 | [],_=>by simp[Ju]
 |v::r,h=>by
  simp only[lu,aeV]at h
  have:=Tj v h.1;have:=Jv r h.2;simp only[Ju,oM];omega
end
def fG (v:Ex):Bool:=decide (v.size<=512)&&decide (v.ya<=16)&&v.og
end Ex
def kR (l:List jV):Bool:=decide (l.length<=64)&&l.all (fun n=>cE n.nm&&n.v.fG)&&decide (l.map jV.nm).Nodup
def D.VW (k:D):D.AA k k=true:=by simp[D.AA]
def D.adz (a b:nh):D.AA (.s a) (.s b)=decide (a=b):=by
 unfold D.AA
 by_cases h:a=b
 ·subst h;simp
 ·simp[h]
def D.TD (m:List (D×D))(k v:D):D.eu (D.jP m k v) k=(D.eu m k).map fun _=>v:=by
 induction m with
 |nil=>rfl
 |cons p q ih=>
  cases h:D.AA p.1 k with
  |true=>simp only[D.jP,h,D.eu];rfl
  |false=>simp only[D.jP,h,D.eu];exact ih
def D.TE {m:List (D×D)}{k v:D}(h:D.eu m k=none):D.eu (m++[(k,v)]) k=some v:=by
 induction m with
 |nil=>simp only[agv,D.eu,D.VW]
 |cons p q ih=>
  cases e:D.AA p.1 k with
  |true=>simp only[D.eu,e]at h;cases h
  |false=>simp only[D.eu,e]at h;simp only[af8,D.eu,e];exact ih h
def N4 (l:List nh):List (D×D):=l.map fun s=>(D.s s,D.z 1)
def Wu (l:List nh)(s:nh):D.eu (N4 l) (.s s)=if s∈l then some (.z 1)else none:=by
 induction l with
 |nil=>rfl
 |cons a r ih=>
  simp only[N4,afP,D.eu,D.adz]at ih ⊢
  by_cases h:a=s
  ·simp[h]
  ·have:¬s=a:=fun e=>h e.symm
   simp only[h,age,ae5,this,aiH];exact ih
def Sh (l:List nh)(hl:l.length<2^62):iq pg kZ [je] [.r (Im l)] [aj] (·= .b (!decide l.Nodup)):=by
 have loop:∀(rest:List nh) (i:Nat) (st:List Nat) (c:Nat),l.drop i=rest->(l.take i).Nodup->aC pg kZ [aj] (.kE (·= .b (!decide l.Nodup))) (qM (.r (Im l)) i (N4 (l.take i)) st c):=by
  intro rest
  induction rest with
  |nil=>
   intro i st c hd hn
   have hi:=drop_nil hd
   rw[ae7 hi]at hn
   refine FK ?_
   simp only[rk,D.bP,aeW,aeT,aeS]
   exact⟨fun h=>by omega,fun _=>by simp[hn]⟩
  |cons s rest ih=>
   intro i st c hd hn
   obtain⟨g1,g2,g3⟩:=aI hd
   have hg:=Wu (l.take i) s
   refine FK ?_
   simp only[rk,D.bP,aeW,aeT,aeS,ae2,bS (f:=D.s) g1,D.aa6,aY g3]
   refine⟨fun _=>⟨fun _=>⟨fun h=>?_,fun h=>?_⟩,fun h=>by simp at h⟩,fun h=>by omega⟩
   ·have hin:s∈l.take i:=by
     by_cases e:s∈l.take i
     ·exact e
     ·rw[aeX e]at hg;simp[D.fv,hg]at h
    rw[aeZ hin]at hg
    have hv:D.val (N4 (l.take i)) (.s s)= .z 1:=by simp[D.val,hg]
    have h2:D.eu (D.jP (N4 (l.take i)) (.s s) (.z 2)) (.s s)=some (.z 2):=by rw[D.TD,hg];rfl
    have hw:IntKind.i64.wrap ((1:Int)+1)=2:=by rfl
    rw[hv,D.df,hw]
    have hno:¬l.Nodup:=fun n=>by
     have n2:(l.take (i+1)).Nodup:=n.sublist (List.take_sublist _ _)
     rw[bn g1,ag0]at n2
     exact n2.2.2 s hin s (by simp) rfl
    refine⟨fun _=>⟨fun _=>by simp[hno],fun h3=>?_⟩,fun h3=>?_⟩
    ·simp[D.val,h2]at h3
    ·simp[D.fv,h2]at h3
   ·have hnin:¬s∈l.take i:=fun e=>by rw[aeZ e]at hg;simp[D.fv,hg]at h
    rw[aeX hnin]at hg
    have h2:=D.TE (v:= .z 1) hg
    have e:=ih (i+1) (st++[c]) (c+1) g2 (by
     rw[bn g1,ag0]
     exact⟨hn,by simp,fun a ha b hb=>by simp only[afj]at hb;subst hb;exact fun e=>hnin (e▸ha)⟩)
    have e3:N4 (l.take (i+1))=N4 (l.take i)++[(.s s,.z 1)]:=by rw[bn g1];simp[N4]
    rw[e3]at e
    rw[bO g3 (by omega)]
    refine⟨fun _=>⟨fun h3=>?_,fun _=>e⟩,fun h3=>?_⟩
    ·simp[D.val,h2]at h3
    ·simp[D.fv,h2]at h3
 exact TU (loop l 0 [] 0 rfl (by simp))
def Qz (l:List jV)(hl:l.length<2^62)(hok:∀n∈l,n.ok):iq pg iU [jT] [.r (l.map jV.az)] [aj] (·= .b (kR l)):=by
 have loop:∀(rest:List jV) (i:Nat),l.length<=64->i<=l.length->l.drop i=rest->((l.take i).all (fun n=>cE n.nm&&n.v.fG))=true->
  aC pg iU [aj] (.kE (·= .b (kR l))) (nD (.r (l.map jV.az)) i i (Im ((l.take i).map jV.nm))):=by
  intro rest
  induction rest with
  |nil=>
   intro i h64 hile hd hall
   have hi:=drop_nil hd
   have hil:i=l.length:=by omega
   rw[ae7 hi]at hall ⊢
   subst hil
   refine zk ?_
   simp only[rk,D.bP,aeW,aeT,aeS]
   refine⟨fun h=>by omega,fun _=>⟨fun _=>⟨_,_,_,rfl,Sh (l.map jV.nm) (by simpa using hl),?_⟩,fun h=>absurd trivial h⟩⟩
   rintro _ rfl
   simp[kR,h64,hall]
  |cons n rest ih=>
   intro i h64 hile hd hall
   obtain⟨g1,g2,g3⟩:=aI hd
   have hmem:=aeU g1
   obtain⟨ho1,ho2⟩:=hok n hmem
   have no:(cE n.nm&&n.v.fG)=false->D.b false=D.b (kR l):=fun h=>by
    have:l.all (fun n=>cE n.nm&&n.v.fG)=false:=by rw[List.all_eq_false];exact⟨n,hmem,by rw[h];simp⟩
    simp only[kR,this];simp
   refine zk ?_
   simp only[rk,D.bP,aeW,aeT,aeS,ae2,bS g1,jV.wC,jV.rq,ml,aY g3]
   refine⟨fun _=>⟨fun _=>⟨_,_,_,rfl,iJ n.nm (by unfold maxLen;omega),?_⟩,fun h=>by simp at h⟩,fun h=>by omega⟩
   rintro _ rfl
   simp only[D.cg,afu,afO]
   refine⟨fun h=>no (by simp[h]),fun h1=>⟨_,_,_,rfl,HQ n.v ho2,?_⟩⟩
   rintro _ rfl
   simp only[D.cg,afu,afO]
   refine⟨fun h=>no (by simp[h]),fun h2=>⟨fun _=>?_,fun h=>?_⟩⟩
   ·rw[bO g3 (by omega)]
    have e:=ih (i+1) h64 (by omega) g2 (by rw[bn g1,ahE,hall];simp[h1,h2])
    rw[bn g1]at e
    simpa using e
   ·simp[bg]at h;omega
 refine Mx ?_
 simp only[rk,D.bP,aeW,aeT,aeS]
 refine⟨fun h=>?_,fun h=>loop l 0 (by omega) (by omega) rfl rfl⟩
 have:¬l.length<=64:=by omega
 simp[kR,this]
end Go.Proofs
end
