import Derived.Shelf.SlGeneric
import Derived.Ground.SlgnProg
import Derived.Shelf.SlicesG.CompactI
import Derived.OpenShut
import Derived.Shelf.SortM.Plain
import Derived.Shelf.SortM.SortNone
import Derived.Ground.SlgmProg
import Derived.Test.YtpanfgalkajgdaaGreatM19
set_option linter.all false
noncomputable section
open Go.IntKind renaming wrap→wp
namespace Go.Proofs
open Go Go.PB
def kM (n:Nat)(l:List Int):List Bool:=l.foldl (fun a c=>a.set (c-1).toNat true) (List.replicate n false)
def Ym (n:Nat)(l:List Int)(c:Int):kM n (l++[c])=(kM n l).set (c-1).toNat true:=by simp[kM]
@[simp] def abV (n:Nat)(l:List Int):(kM n l).length=n:=by
 have:=Hw l (fun c=>(c-1).toNat) (List.replicate n false);simpa [kM]using this
def ago:∀{l:List Int} {lo la:Int},eA l->(∀a∈l,lo<a/\a<=la)->lo<=la->(l.length:Int)<=la-lo:=by
 intro l
 induction l with
 |nil=>intro lo la _ _ h;simp;omega
 |cons a r J=>intro lo la h hb hl;have I:=hb a (by simp);have:=J (lo:=a) (la:=la) h.tail (fun b A=>⟨h.lt b A,(hb b (by simp[A])).2⟩) I.2;simp only[amB];omega
def Wl.sO.ala {x:Wl}(g:x.sO):(x.th.length:Int)<=x.la:=by
 have:=ago (lo:=0) (la:=x.la) g.RF (fun a A=>by obtain⟨e,he,rfl⟩:=anh.1 A;have:=g.rb e he;omega) g.la0;simpa using this
def bm.ad5 {t:bm}(h1:t.one)(A:∀r x,t.get r=some x->t.chain t.length r=true)(o:Int):t.qX (t.length+1) o=some (t.Ch o):=by
 cases I:t.get o with
 |none=>simp[bm.Ch,bm.qX,I]
 |some y=>obtain⟨n,J,he⟩:=bm.Oe h1 A I;exact he.Ch (by omega) _ (by omega)
abbrev alc (x:Wl)(c:Nat)(cu th ma:List D):List (Nat×aE):=
 [(0,.cells [.hY 1 x.pa.length true,.hY 2 x.pa.length true,.hY 3 c true,.int .i64 x.la,.hY 4 (x.pa.length+1) true] bQ false),(1,.bY ah (aY x.pa) true),(2,.bY aj cu true),(3,.bY bF th true),(4,.bY ah ma true)]
def ahF (x:Wl){c:Nat}{cu th ma:List D}(h1:cu.length=x.pa.length)(h2:th.length=c)(A:ma.length=x.pa.length+1):alc x c cu th ma=Rm ⟨aY x.pa,cu,th,x.la,ma⟩:=by
 simp only[alc,Rm,h1,h2,A,amm]
def amb (x:Wl)(cu:List Bool)(th:bm):OK ⟨aY x.pa,cu.map D.b,th.bY,x.la,aY x.ma⟩ ⟨x.pa,cu,th,[],x.la,x.ma⟩:=⟨rfl,rfl,rfl,rfl,rfl⟩
def zN (x:Wl)(d:D):Prop:=((d.af 0).bool=true↔x.sO)/\(x.sO->(d.af 1).ae=aY x.pa/\(d.af 2).ae=(kM x.pa.length x.cu).map D.b/\(d.af 3).ae=x.aL.bY/\(d.af 4).int=x.la/\(d.af 5).ae=aY x.ma)
def ail (x:Wl)(hs:x.vN):PH ct (dg x.ar) [] 0 eE (zN x):=by
 have no:¬x.sO->oz.bK=some 0/\∃d,T.dV (BV.tuple [.gF,.int .i64 71],([]:List (Nat×aE))) (eE (dg x.ar) [] d)/\zN x d:=fun h=>⟨rfl,.r [.b false],.ff rfl .ret,⟨fun a=>by simp[D.af,D.at]at a,fun a=>(h a).elim⟩,fun a=>(h a).elim⟩;have e3:=hs.ok;have k5:=hs.pa;have m8:=hs.th;have o2:=hs.ma;have k9:=hs.cu;have b6:∀e∈x.th,e.w.ok:=fun e he=>(e3.2.2.2.2.2.1 e he).2.2;have a8:-2^63<=x.la/\x.la<2^63:=⟨e3.2.2.2.2.2.2.1,e3.2.2.2.2.2.2.2.1⟩;have h4:x.aL.length=x.th.length:=by simp[Wl.aL]
 have O:∀r y,x.aL.get r=some y->∃e∈x.th,e.r=r/\e.w=y:=fun r y hy=>by
  have:=bm.uw hy;simp only[Wl.aL,anh]at this;obtain⟨e,he,h⟩:=this
  cases h
  exact⟨e,he,rfl,rfl⟩
 have b4:x.aL.ok:=fun p hp=>by simp only[Wl.aL,anh]at hp;obtain⟨e,he,rfl⟩:=hp;exact b6 e he
 have G:=x.sO;have bB:qg x.pa=true->x.ma.length=x.pa.length+1->(∀c∈x.cu,1<=c/\c<=x.pa.length)->eA x.cu->(∀m∈x.ma,0<=m/\m<=512)->0<=x.la->x.la<=64*x.sum->(∀e∈x.th,1<=e.r/\e.r<=x.la)->eA (x.th.map En.r)->
  (∀e∈x.th,e.w.F (x.pa.length+1:Nat))->(∀(i:Nat) (m:Int),x.ma[i]?=some m->(LL x.th i:Int)<=m)->
  aC pg ct [aW,bn] (.bK 0 (eE (dg x.ar) []) (zN x)) (og x.ar x.sum x.th.length ((kM x.pa.length x.cu).map D.b) x.aL.bY (aY x.ma) 0):=by
  intro Y Z g3 g4 g5 l0 l1 g6 g7 g8 g9;have i1:=XB x.ma g5;have d8:x.sum=x.ma.foldr (·+·) 0:=rfl;have V:x.aL.one:=by rw[bm.one,Wl.fh];exact g7.Bo
  have a6:x.aL.aan:=⟨V,fun r y hy=>by obtain⟨e,he,rfl,_⟩:=O r y hy;exact(g6 e he).1,fun r y hy=>by obtain⟨e,he,_,rfl⟩:=O r y hy;exact(g8 e he).1,fun r y hy=>by
   obtain⟨e,he,_,rfl⟩:=O r y hy
   have:=b6 e he;simp only[Wh.ok]at this;omega⟩
  have U:x.sO↔((∀r y,x.aL.get r=some y->x.aL.S7 r)/\(∀r y,x.aL.get r=some y->x.aL.ny r y (x.aL.Ch y.of)=0))/\x.la+vD (x.aL.rX x.aL.ab) (x.aL.map (·.1))<=64*x.sum:=by
   rw[<-bm.SW a6];constructor
   ·intro g;exact⟨⟨fun r y hy hk=>by obtain⟨e,he,_,rfl⟩:=O r y hy;exact(g.G6 e he).2 hk,g.agC⟩,g.SX⟩
   rintro⟨⟨a,b⟩,c⟩;refine⟨Y,Z,g3,g4,g5,l0,l1,g6,g7,fun e he=>⟨g8 e he,fun hk=>a e.r e.w ((bm.wL V).2 ?_) hk⟩,g9,b,c⟩;simp only[Wl.aL,anh];exact⟨e,he,rfl⟩
  have d0:∀e∈x.th,x.aL.get e.r=some e.w:=fun e he=>(bm.wL V).2 (by simp only[Wl.aL,anh];exact⟨e,he,rfl⟩);have k7:(kM x.pa.length x.cu).length=x.pa.length:=by simp
  have hM:=ahF x (c:=x.th.length) (cu:=(kM x.pa.length x.cu).map D.b) (th:=x.aL.bY) (ma:=aY x.ma) (by simp) (by simp[h4]) (by simp[Z]);have b1:=amb x (kM x.pa.length x.cu) x.aL;have e4:(∀r y,x.aL.get r=some y->x.aL.S7 r)->∀(rest:List En) (i:Nat),x.th.drop i=rest->(∀e∈x.th.take i,x.aL.ny e.r e.w (x.aL.Ch e.w.of)=0)->
   aC pg ct [aW,bn] (.bK 0 (eE (dg x.ar) []) (zN x)) (sD x.ar x.sum x.th.length ((kM x.pa.length x.cu).map D.b) x.aL.bY (aY x.ma) i):=by
   intro d4 rest;have f9:∀r y,x.aL.get r=some y->x.aL.chain x.aL.length r=true:=fun r y hy=>(bm.LK V r).2 (d4 r y hy)
   induction rest with
   |nil=>
    intro i hd hq;have hi:=drop_nil hd;rw[amv hi]at hq;have d7:∀r y,x.aL.get r=some y->x.aL.ny r y (x.aL.Ch y.of)=0:=fun r y hy=>by obtain⟨e,he,rfl,rfl⟩:=O r y hy;exact hq e he
    obtain⟨k8,hS⟩:=(bm.SW a6).2 ⟨d4,d7⟩;have j1:∀r y,x.aL.get r=some y->y.k=14->nQ y.set (x.aL.ab y.of)=0:=fun r y hy hk=>by have:=hS.2.2 r y hy;simp[bm.XW,hk]at this;exact this.2.2.2
    have h9:∀r y,x.aL.get r=some y->x.aL.ab r=x.aL.Ch r/\0<=x.aL.Ch r/\x.aL.Ch r<64:=fun r y hy=>by obtain⟨n,hn,he⟩:=bm.Oe V f9 hy;exact(bm.Th a6.set (.inl j1) n r (by omega) he).2
    have j5:PH iA (il _) (Rm _) 1 aG (fun d=>D.int d=vD (x.aL.rX x.aL.ab) (x.aL.map (·.1))):=adZ b1 b4 V (by show x.aL.length<_;omega) x.aL.ab fun r y hy hk=>by have:=h9 r y hy;exact⟨⟨_,by rw[this.1];exact bm.ad5 V f9 r⟩,by omega,by omega⟩
    have i2:=Z9 (t:=x.aL) (ab:=x.aL.ab) (x.aL.map (·.1));have k0:(x.aL.map (·.1)).length=x.th.length:=(by simp[Wl.aL]);rw[k0]at i2;refine EA ?_;simp only[rk,Wl.iW,Wl.q9,amm,aml,amk];refine⟨fun h=>by omega,fun _=>⟨_,_,rfl,E6 hM j5,?_⟩⟩;intro d d1;rw[d1,bM (x:=x.la+_),bM (x:=64*x.sum)];refine⟨fun h=>no fun g=>by have:=g.SX;omega,fun h=>?_⟩;have fD:x.sO:=U.2 ⟨⟨d4,d7⟩,by omega⟩;refine⟨rfl,.r [.b true,.r (aY x.pa),.r ((kM x.pa.length x.cu).map D.b),.r x.aL.bY,.z x.la,.r (aY x.ma)],.tt rfl (bD.2 ?_),⟨fun _=>fD,fun _=>rfl⟩,fun _=>⟨rfl,rfl,rfl,rfl,rfl⟩⟩;have:=hM;simp only[D.af,D.aK,D.at,anB,an5,D.bu];rw[<-this]
   |cons e rest ih=>
    intro i hd hq;obtain⟨J,k2,k3⟩:=aF hd;have A:=amn J;have hat:D.at x.aL.bY i= .r [.z e.r,e.w.ar]:=D4 (p:=(e.r,e.w)) (by simp[Wl.aL,J]);have e1:D.af (.r [.z e.r,e.w.ar]) 0= .z e.r:=rfl;have e2:D.af (.r [.z e.r,e.w.ar]) 1=e.w.ar:=rfl;have ha:e.w.k=14->∃n,x.aL.qX n e.w.of=some (x.aL.Ch e.w.of):=fun _=>⟨_,bm.ad5 V f9 _⟩;refine EA ?_;simp only[rk,Wl.iW,Wl.q9,amm,aml,amk,amq,hat,e1,e2,D.bu,aR k3,bm.xQ,h4];refine⟨fun _=>⟨fun _=>⟨fun _=>⟨_,_,rfl,E6 hM (adY b1 (by show x.aL.length<_;omega) b4 e.r e.w (x.aL.Ch e.w.of) (b6 e A) (hs.sz e A) (g8 e A).fE (g8 e A).1 ha),?_⟩,fun h=>by omega⟩,fun h=>by simp at h⟩,fun h=>by omega⟩;intro d d1;rw[d1];refine⟨fun h=>no fun g=>?_,fun h=>?_⟩
    ·have:=(U.1 g).1.2 e.r e.w (d0 e A);rw[this]at h;simp at h
    rw[bL k3];refine ih (i+1) k2 fun y hy=>?_;rw[bH J]at hy;rcases amO.1 hy with hy|hy
    ·exact hq y hy
    simp only[amQ]at hy;subst hy;simpa using h
  have e0:∀(rest:List En) (i:Nat),x.th.drop i=rest->(∀e∈x.th.take i,x.aL.S7 e.r)->
   aC pg ct [aW,bn] (.bK 0 (eE (dg x.ar) []) (zN x)) (og x.ar x.sum x.th.length ((kM x.pa.length x.cu).map D.b) x.aL.bY (aY x.ma) i):=by
   intro rest
   induction rest with
   |nil=>intro i hd hq;have hi:=drop_nil hd;rw[amv hi]at hq;refine Ez ?_;simp only[rk,aml,amk];refine⟨fun h=>by omega,fun _=>?_⟩;exact e4 (fun r y hy=>by obtain⟨e,he,rfl,rfl⟩:=O r y hy;exact hq e he) x.th 0 rfl (by simp)
   |cons e rest ih=>
    intro i hd hq;obtain⟨J,k2,k3⟩:=aF hd;have A:=amn J;have hat:D.at x.aL.bY i= .r [.z e.r,e.w.ar]:=D4 (p:=(e.r,e.w)) (by simp[Wl.aL,J]);have e1:D.af (.r [.z e.r,e.w.ar]) 0= .z e.r:=rfl;have d6:=d0 e A;have pc:¬x.aL.S7 e.r->¬x.sO:=fun h g=>h ((U.1 g).1.1 e.r e.w d6);have m7:=bm.XR x.aL (x.aL.length+1) e.r;have m4:0<(x.aL.kL (x.aL.length+1) e.r).length:=(by simp[bm.kL,d6]);refine Ez ?_;simp only[rk,Wl.iW,Wl.q9,amm,aml,amk,amq,hat,e1,D.bu,aR k3,bm.xQ,h4];refine⟨fun _=>⟨fun _=>⟨fun _=>⟨_,_,rfl,E6 hM (ajh b1 b4 (by show x.aL.length<_;omega) e.r),?_⟩,fun h=>by omega⟩,fun h=>by simp at h⟩,fun h=>by omega⟩;intro d d1;rw[d1];simp only[amm]
    change ((((x.aL.kL (x.aL.length+1) e.r).length:Int)>(x.th.length:Int))->_)/\(¬(((x.aL.kL (x.aL.length+1) e.r).length:Int)>(x.th.length:Int))->_)
    refine⟨fun h=>no (pc fun a=>by have:=a.1;omega),fun h=>?_⟩;have j0:IntKind.i64.wrap (((x.aL.kL (x.aL.length+1) e.r).length:Int)-1)=(((x.aL.kL (x.aL.length+1) e.r).length-1:Nat):Int):=(by rw[bM];omega);obtain⟨q,e9⟩:∃q,(x.aL.kL (x.aL.length+1) e.r)[(x.aL.kL (x.aL.length+1) e.r).length-1]?=some q:=⟨_,amr (by omega)⟩;have d2:(x.aL.kL (x.aL.length+1) e.r).getLast?=some q:=(by rw[List.getLast?_eq_getElem?];exact e9);simp only[j0,amq,aR (show (x.aL.kL (x.aL.length+1) e.r).length-1<(x.aL.kL (x.aL.length+1) e.r).length by omega),bC (f:=D.z) e9,D.bu];refine⟨fun _=>⟨fun _=>⟨_,_,rfl,E6 hM (aap b1 (by show x.aL.length<_;omega) b4 q),?_⟩,fun h=>by omega⟩,fun h=>by simp at h⟩;intro d3 i4;rw[i4];refine⟨_,_,_,rfl,sZ (x.aL.kind q),?_⟩;rintro _ rfl;simp only[D.bV];have e6:∃y,x.aL.get q=some y:=by
     have j2:=amn e9;have key:∀(n:Nat) (r:Int),q∈x.aL.kL n r->∃y,x.aL.get q=some y:=by
      intro n
      induction n with
      |zero=>intro r h;cases h
      |succ n ih=>
       intro r h;simp only[bm.kL]at h
       cases hg:x.aL.get r with
       |none=>rw[hg]at h;cases h
       |some y=>
        simp only[hg]at h;rcases amz.1 h with rfl|h
        ·exact⟨y,hg⟩
        split at h
        ·exact ih _ h
        cases h
     exact key _ _ j2
    obtain⟨y,hy⟩:=e6;have j4:x.aL.kind q=y.k:=(by simp[bm.kind,hy]);rw[j4];refine⟨fun hw=>no (pc ?_),fun hw=>?_⟩
    ·rintro⟨_,q2,y2,a1,a2,a3⟩;rw[d2]at a1;cases a1;rw[hy]at a2;cases a2;rw[hw]at a3;cases a3
    rw[bL k3];refine ih (i+1) k2 fun z hz=>?_;rw[bH J]at hz;rcases amO.1 hz with hz|hz
    ·exact hq z hz
    simp only[amQ]at hz;subst hz;exact⟨by omega,q,y,d2,hy,hw⟩
  exact e0 x.th 0 rfl (by simp)
 have e8:∀(rest:List Int) (i:Nat) (IT:List D),qg x.pa=true->x.ma.length=x.pa.length+1->(∀c∈x.cu,1<=c/\c<=x.pa.length)->eA x.cu->(∀m∈x.ma,0<=m/\m<=512)->0<=x.la->x.la<=64*x.sum->(∀e∈x.th,1<=e.r/\e.r<=x.la)->eA (x.th.map En.r)->
  (∀e∈x.th,e.w.F (x.pa.length+1:Nat))->XT IT (x.pa.length+1) x.th->x.ma.drop i=rest->(∀(j:Nat) (m:Int),j<i->x.ma[j]?=some m->(LL x.th j:Int)<=m)->
  aC pg ct [aW,bn] (.bK 0 (eE (dg x.ar) []) (zN x)) (sB x.ar x.sum x.th.length IT ((kM x.pa.length x.cu).map D.b) x.aL.bY (aY x.ma) i):=by
  intro rest
  induction rest with
  |nil=>intro i IT Y Z g3 g4 g5 l0 l1 g6 g7 g8 hc hd hh;have hi:=drop_nil hd;refine Ey ?_;simp only[rk,Wl.nD,amm,aml,amk];refine⟨fun h=>by omega,fun _=>?_⟩;exact bB Y Z g3 g4 g5 l0 l1 g6 g7 g8 fun j m hj=>hh j m (by have:=(amw.1 hj).1;omega) hj
  |cons m rest ih=>
   intro i IT Y Z g3 g4 g5 l0 l1 g6 g7 g8 hc hd hh;obtain⟨J,k2,k3⟩:=aF hd;have hi:i<x.pa.length+1:=(by omega);refine Ey ?_;simp only[rk,Wl.iW,Wl.nD,amm,aml,amk,amq,bC (f:=D.z) J,hc.Lz i hi,hc.len,D.bu,aR k3,aR hi];refine⟨fun _=>⟨fun _=>⟨fun _=>⟨fun _=>⟨fun _=>⟨fun h=>no fun g=>by have:=g.IT i m J;omega,fun h=>?_⟩,fun h=>by omega⟩,fun h=>by simp at h⟩,fun h=>by omega⟩,fun h=>by simp at h⟩,fun h=>by omega⟩;rw[bL k3];refine ih (i+1) IT Y Z g3 g4 g5 l0 l1 g6 g7 g8 hc k2 fun j y hj hy=>?_
   by_cases ej:j=i
   ·subst ej;rw[J]at hy;cases hy;omega
   exact hh j y (by omega) hy
 have e5:∀(rest:List En) (i:Nat) (IT:List D),qg x.pa=true->x.ma.length=x.pa.length+1->(∀c∈x.cu,1<=c/\c<=x.pa.length)->eA x.cu->(∀m∈x.ma,0<=m/\m<=512)->0<=x.la->x.la<=64*x.sum->x.th.drop i=rest->i<=x.th.length->
  (∀e∈x.th.take i,1<=e.r/\e.r<=x.la)->eA ((x.th.take i).map En.r)->(∀e∈x.th.take i,e.w.F (x.pa.length+1:Nat))->XT IT (x.pa.length+1) (x.th.take i)->
  aC pg ct [aW,bn] (.bK 0 (eE (dg x.ar) []) (zN x)) (mW x.ar x.sum ((kM x.pa.length x.cu).map D.b) (aY x.ma) i i IT (bm.bY ((x.th.take i).map fun e=>(e.r,e.w)))):=by
  intro rest
  induction rest with
  |nil=>intro i IT Y Z g3 g4 g5 l0 l1 hd h6 hb hr hf hc;have hi:=drop_nil hd;rw[amv hi]at hb hr hf hc ⊢;refine Ga ?_;simp only[rk,Wl.gD,amm,aml,amk];refine⟨fun h=>by omega,fun h=>?_⟩;have k4:i=x.th.length:=(by omega);subst k4;exact e8 x.ma 0 IT Y Z g3 g4 g5 l0 l1 hb hr hf hc rfl (by intro j m hj;omega)
  |cons e rest ih=>
   intro i IT Y Z g3 g4 g5 l0 l1 hd h6 hb hr hf hc;obtain⟨J,k2,k3⟩:=aF hd;have A:=amn J;have d5:=b6 e A;have e1:D.af e.ar 1=e.w.ar:=En.VD e;have UP:bm.bY ((x.th.take i).map fun e=>(e.r,e.w))++[D.r [.z e.r,e.w.ar]]=bm.bY ((x.th.take (i+1)).map fun e=>(e.r,e.w)):=(by rw[bH J];simp[bm.bY]);have rl:(bm.bY ((x.th.take i).map fun e=>(e.r,e.w))).length=i:=(by simp;omega);have nx:(∀p,0<i->x.th[i-1]?=some p->p.r<e.r)->1<=e.r/\e.r<=x.la->e.w.F (x.pa.length+1:Nat)->∀a7,XT a7 (x.pa.length+1) (x.th.take (i+1))->aC pg ct [aW,bn] (.bK 0 (eE (dg x.ar) []) (zN x)) (mW x.ar x.sum ((kM x.pa.length x.cu).map D.b) (aY x.ma) (IntKind.i64.wrap ((i:Int)+1)) (i+1) a7 (bm.bY ((x.th.take (i+1)).map fun e=>(e.r,e.w)))):=fun I k6 d9 a7 j3=>by
    rw[bL k3];refine ih (i+1) a7 Y Z g3 g4 g5 l0 l1 k2 (by omega) (fun q hq=>?_) ?_ (fun q hq=>?_) j3
    ·rw[bH J]at hq;rcases amO.1 hq with hq|hq
     ·exact hb q hq
     simp only[amQ]at hq;subst hq;exact k6
    ·rw[bH J,am6];refine hr.UP fun a ha a8=>?_;simp only[amm,amI]at ha a8;rw[show min i x.th.length=i by omega]at a8;simp only[anw,aoa (show i-1<i by omega),am9]at a8;obtain⟨p,hp,rfl⟩:=a8;exact I p (by omega) hp
    rw[bH J]at hq;rcases amO.1 hq with hq|hq
    ·exact hf q hq
    simp only[amQ]at hq;subst hq;exact d9
   refine Ga ?_;simp only[rk,Wl.iW,Wl.gD,Wl.nD,Wl.q9,amm,aml,amk,amq,bC J,En.rB,e1,Wh.re,aR k3,Wh.ek,Wh.rA,d5.wk,hc.len,rl];refine⟨fun _=>⟨fun _=>⟨fun h=>no fun g=>by have:=(g.rb e A).1;omega,fun r1=>⟨fun h=>no fun g=>by have:=(g.rb e A).2;omega,fun r2=>⟨fun hi=>?cxa1,fun hi=>?cxb1⟩⟩⟩,fun h=>by simp at h⟩,fun h=>by omega⟩
   case' cxa1=>have hw:IntKind.i64.wrap ((i:Int)-1)=((i-1:Nat):Int):=(by rw[bM];omega);obtain⟨p,hp⟩:∃p,x.th[i-1]?=some p:=⟨_,amr (by omega)⟩;simp only[hw,amq,bC hp,En.rB,aR (show i-1<x.th.length by omega)];refine⟨fun _=>⟨fun h=>no fun g=>?_,fun h=>?_⟩,fun h=>by simp at h⟩;have h3:=g.RF (i-1) p.r e.r (by simp[hp]) (by rw[show i-1+1=i by omega];simp[J]);omega;have I:∀q,0<i->x.th[i-1]?=some q->q.r<e.r:=fun q _ hq=>by rw[hp]at hq;cases hq;omega
   case' cxb1=>have I:∀q,0<i->x.th[i-1]?=some q->q.r<e.r:=fun q h _=>by omega
   all_goals
    refine⟨_,_,_,rfl,aio e.w (x.ma.length:Int) d5 (hs.sz e A),?_⟩;rintro _ rfl;have h7:((x.ma.length:Nat):Int)=((x.pa.length+1:Nat):Int):=(by rw[Z]);simp only[D.bV,amJ,amP,aot,anE,an3];refine⟨fun h=>no fun g=>?_,fun h=>?_⟩;have i8:=Wh.J4.2 (g.G6 e A).1;rw[h7,i8]at h;cases h;have hF:e.w.F (x.pa.length+1:Nat):=(by rw[h7]at h;exact Wh.J4.1 h);refine⟨fun hk=>?_,fun hk=>⟨_,_,_,rfl,ZG e.w d5 (hs.sz e A),?_⟩⟩;have hh:=hF.2.2.1 hk;have o3:=aaL (x.th.take i) e.w.h.toNat;have h8:(x.th.take i).length<=x.th.length:=aoH ..;have h5:di e.w.h x.ma.length=true:=(by simp[di];omega);refine⟨fun _=>⟨fun _=>⟨_,_,_,rfl,ZG e.w d5 (hs.sz e A),?_⟩,fun h=>by omega⟩,fun h=>by rw[h5]at h;cases h⟩;rintro _ rfl;rw[Wh.re,UP];refine⟨fun _=>?_,fun h=>by simp[bh]at h;omega⟩;rw[hc.Lz _ (by omega),D.bu,bM (x:=(LL _ _:Int)+1)];exact nx I ⟨by omega,by omega⟩ hF _ (by rw[bH J];exact hc.step hk hh.1 hh.2);rintro _ rfl;rw[Wh.re,UP];refine⟨fun _=>?_,fun h=>by simp[bh]at h;omega⟩;exact nx I ⟨by omega,by omega⟩ hF _ (by rw[bH J];exact hc.same (by omega))
 have g0:∀(rest:List Int) (i:Nat) (md:List D),qg x.pa=true->x.ma.length=x.pa.length+1->(∀c∈x.cu,1<=c/\c<=x.pa.length)->eA x.cu->x.ma.drop i=rest->(∀m∈x.ma.take i,0<=m/\m<=512)->md.length=x.pa.length+1->md.take i=aY (x.ma.take i)->
  aC pg ct [aW,bn] (.bK 0 (eE (dg x.ar) []) (zN x)) (w7 x.ar ((kM x.pa.length x.cu).map D.b) ((x.ma.take i).foldr (·+·) 0) i md):=by
  intro rest
  induction rest with
  |nil=>intro i md Y Z g3 g4 hd hm hl ht;have hi:=drop_nil hd;rw[amv hi]at hm ht ⊢;rw[amv (by omega)]at ht;subst ht;have i1:=XB x.ma hm;have d8:x.sum=x.ma.foldr (·+·) 0:=rfl;refine HW ?_;simp only[rk,Wl.gD,Wl.nD,Wl.q9,amm,aml,amk];refine⟨fun h=>by omega,fun _=>⟨fun h=>no fun g=>by have:=g.la0;omega,fun l0=>?_⟩⟩;rw[bM (x:=64*_)];refine⟨fun h=>no fun g=>by have:=g.la1;omega,fun l1=>⟨fun h=>no fun g=>by have:=g.ala;have:=g.la1;omega,fun l2=>⟨fun _=>?_,fun h=>by simp[vQ]at h;omega⟩⟩⟩;rw[<-d8];have e:=e5 x.th 0 (List.replicate x.ma.length (D.z 0)) Y Z g3 g4 hm (by omega) (by omega) rfl (by omega) (by simp) (by intro i a b h;simp at h) (by simp) (by rw[Z];exact XT.ak1 _);simpa [bm.bY]using e
  |cons m rest ih=>
   intro i md Y Z g3 g4 hd hm hl ht;obtain⟨J,k2,k3⟩:=aF hd;have A:=amn J;have i1:=XB (x.ma.take i) hm;have h8:(x.ma.take i).length<=x.ma.length:=aoH ..;refine HW ?_;simp only[rk,Wl.iW,Wl.nD,amm,aml,amk,amq,bC (f:=D.z) J,D.bu,aR k3,hl,aR (show i<x.pa.length+1 by omega)];refine⟨fun _=>⟨fun _=>⟨fun h=>no fun g=>by have:=g.mb m A;omega,fun h1=>⟨fun h=>no fun g=>by have:=g.mb m A;omega,fun h2=>⟨fun _=>⟨fun _=>?_,fun h=>by omega⟩,fun h=>by simp at h⟩⟩⟩,fun h=>by simp at h⟩,fun h=>by omega⟩;have e:=ih (i+1) (md.set i (.z m)) Y Z g3 g4 k2 (fun y hy=>?_) (by simpa using hl) (by rw[xT (by omega),bH J,ht];simp)
   ·rw[bH J,XC]at e;rw[bM (x:=_+m),bL k3];exact e
   rw[bH J]at hy;rcases amO.1 hy with hy|hy
   ·exact hm y hy
   simp only[amQ]at hy;subst hy;omega
 have e7:∀(rest:List Int) (i:Nat),qg x.pa=true->x.ma.length=x.pa.length+1->x.cu.drop i=rest->(∀c∈x.cu.take i,1<=c/\c<=x.pa.length)->eA (x.cu.take i)->
  aC pg ct [aW,bn] (.bK 0 (eE (dg x.ar) []) (zN x)) (w6 x.ar i ((kM x.pa.length (x.cu.take i)).map D.b)):=by
  intro rest
  induction rest with
  |nil=>intro i Y Z hd hc hr;have hi:=drop_nil hd;rw[amv hi]at hc hr ⊢;refine HV ?_;simp only[rk,Wl.iW,Wl.tX,amm,aml,amk];refine⟨fun h=>by omega,fun _=>?_⟩;have e:=g0 x.ma 0 (List.replicate (x.pa.length+1) (D.z 0)) Y Z hc hr rfl (by simp) (by simp) (by simp);simpa using e
  |cons c rest ih=>
   intro i Y Z hd hc hr;obtain⟨J,k2,k3⟩:=aF hd;have A:=amn J;refine HV ?_;simp only[rk,Wl.iW,Wl.tX,amm,aml,amk,amq,bC (f:=D.z) J,D.bu,aR k3,abV];refine⟨fun _=>⟨fun _=>⟨fun h=>no fun g=>by have:=g.cut c A;omega,fun c1=>⟨fun h=>no fun g=>by have:=g.cut c A;omega,fun c2=>⟨fun hi=>?cxa2,fun hi=>?cxb2⟩⟩⟩,fun h=>by simp at h⟩,fun h=>by omega⟩
   case' cxa2=>have hw:IntKind.i64.wrap ((i:Int)-1)=((i-1:Nat):Int):=(by rw[bM];omega);obtain⟨p,hp⟩:∃p,x.cu[i-1]?=some p:=⟨_,amr (by omega)⟩;simp only[hw,amq,bC (f:=D.z) hp,D.bu,aR (show i-1<x.cu.length by omega)];refine⟨fun _=>⟨fun h=>no fun g=>?_,fun h=>?_⟩,fun h=>by simp at h⟩;have h3:=g.Q8 (i-1) p c hp (by rw[show i-1+1=i by omega];exact J);omega;have I:∀q,0<i->x.cu[i-1]?=some q->q<c:=fun q _ hq=>by rw[hp]at hq;cases hq;omega
   case' cxb2=>have I:∀q,0<i->x.cu[i-1]?=some q->q<c:=fun q h _=>by omega
   all_goals
    have i3:IntKind.i64.wrap (c-1)=c-1:=bM;have h5:di (c-1) x.pa.length=true:=(by simp[di];omega);rw[i3,h5,bL k3];refine⟨fun _=>⟨fun _=>?_,fun h=>by omega⟩,fun h=>by simp at h⟩;have e:=ih (i+1) Y Z k2 (fun y hy=>?_) ?_;rw[bH J,Ym,List.map_set]at e;exact e;rw[bH J]at hy;rcases amO.1 hy with hy|hy;exact hc y hy;simp only[amQ]at hy;subst hy;omega;rw[bH J];refine hr.UP fun a ha a8=>?_;simp only[amI]at ha a8;rw[show min i x.cu.length=i by omega,aoa (by omega)]at a8;exact I a (by omega) a8
 refine acY ?_;simp only[rk,Wl.iW,Wl.nD,amm];refine⟨_,_,rfl,aj2 x.pa k5,?_⟩;intro d hd;rw[hd,bM (x:=(x.pa.length:Int)+1)];refine⟨fun Y=>⟨fun h=>no fun g=>by have:=g.DS;simp at h;omega,fun h=>?_⟩,fun Y=>no fun g=>by rw[g.par]at Y;cases Y⟩;have e:=e7 x.cu 0 Y (by simp at h;omega) rfl (by simp) (by intro i a b h;simp at h);simpa [kM]using e
def tC:pg.underlying bW=some (.int .i64):=by kernel_rfl
def GY:pg.cellsOf bW=1:=by kernel_rfl
def ahe {fz:Nat->Prop}{w:World}{d:D}{vs:List Value}(h:qk pg fz w bW d vs):vs=[Value.int .i64 d.int]:=by
 cases h with
 |int h=>rw[tC]at h;cases h;rfl
 |bool h=>rw[tC]at h;cases h
 |ax h=>rw[tC]at h;cases h
 |cS h=>rw[tC]at h;cases h
 |empty h=>rw[tC]at h;cases h
 |slice h=>rw[tC]at h;cases h
 |struct h=>rw[tC]at h;cases h
def QD {fz:Nat->Prop}{w:World}{l:List Int}{vs:List Value}(h:dm pg fz w bW (aY l) vs):vs=l.map (Value.int .i64):=by
 obtain⟨h1,h2⟩:=h;rw[GY]at h1;simp only[GY,aqg,amm]at h1 h2;apply aoY;intro i
 by_cases hi:i<l.length
 ·have:=h2 i (.z l[i]) (by simp[hi]);have A:i<vs.length:=by omega
  rw[anU A]at this;simp only[aoP,aoJ]at this;have I:vs[i]=Value.int .i64 l[i]:=by have:=ahe this;simpa [D.int]using this
  rw[amr A,I];simp[hi]
 rw[anu (by omega),anu (by simp;omega)]
def YI {fz:Nat->Prop}{w:World}(l:List Int):dm pg fz w bW (aY l) (l.map (Value.int .i64)):=by
 refine⟨by simp[GY],fun i x I=>?_⟩;rw[GY,aqg];simp only[anw,am9]at I;obtain⟨n,A,rfl⟩:=I;have hi:=(amw.1 A).1;rw[anU (by simpa using hi)];simp only[aoP,aoJ,List.getElem_map];have e:l[i]=n:=by rw[amr hi]at A;exact amK A
 rw[e];exact .int (d:= .z n) tC
def W7 (d:Array Int)(c:Array Value)(off j:Nat)(A:j<d.size)(hc:off+j<c.size):(Go.Sort.putCells (Value.int .i64) off d c)[off+j]?=some (.int .i64 d[j]!):=by
 unfold Go.Sort.putCells;rw[Array.getElem?_mapIdx,am0 hc];simp[A]
def bq.aic {g:Gh}{w:World}{l d:List Int}{n aS aD:Nat}(U:bq pg g (hL [(0,.bY bW (aY l) true)]) w)(hm:g.m 0=some (aS,aD))(hd:d.length=l.length)(q:Nat):
 bq pg g (hL [(0,.bY bW (aY (d.take n)) true)]) (Go.Sort.putRow (Value.int .i64) (Go.Sort.ahead w q) aS aD d.toArray)/\
  Iw g (hL [(0,.bY bW (aY l) true)]) w g (hL [(0,.bY bW (aY (d.take n)) true)]) (Go.Sort.putRow (Value.int .i64) (Go.Sort.ahead w q) aS aD d.toArray):=by
 have hb:(hL [(0,.bY bW (aY l) true)]).get 0=some (.bY bW (aY l) true):=rfl;obtain⟨c,vs,⟨lo,hi⟩,h1,h2,h3,h4,V⟩:=U.bY hb hm;obtain⟨rfl,rfl⟩:lo=0/\hi=0:=V.2 (by kernel_rfl);have a6:=QD h2;have J:aS<w.heap.size:=U.img _ _ _ hm;have A:(Go.Sort.putRow (Value.int .i64) (Go.Sort.ahead w q) aS aD d.toArray).heap=w.heap.setIfInBounds aS (.cells (Go.Sort.putCells (Value.int .i64) aD d.toArray c) bW (0,0)):=by
  show w.heap.modify aS _=_;apply aoA;intro i;rw[aoh,ape]
  by_cases hi:aS=i
  ·subst hi;rw[amu rfl,amu rfl,h1,amu J];rfl
  rw[amt hi,amt hi]
 have I:∀s,w.shape? aS=some s->(Go.Sort.putRow (Value.int .i64) (Go.Sort.ahead w q) aS aD d.toArray).shape? aS=some s:=fun s hs=>by simp only[World.shape?,h1]at hs;simp only[World.shape?,A,amV J];rw[<-hs];simp[Go.Sort.putCells]
 obtain⟨k1,k2⟩:=U.XS (w':=Go.Sort.putRow (Value.int .i64) (Go.Sort.ahead w q) aS aD d.toArray) (o':= .bY bW (aY (d.take n)) true) hb hm h1 A ⟨rfl,rfl,rfl⟩ I (fun _=>by
  simp only[fO];refine⟨_,0,0,rfl,BF.zero _ _ _,_,YI (d.take n),fun i x hx=>?_⟩;rw[anw,am9]at hx;obtain⟨z,O,rfl⟩:=hx;have hi:=(amw.1 O).1;rw[amI]at hi;rw[ane,ifP]at O;have Y:aD+i<c.size:=by have:=h3 i (.int .i64 (l.getD i 0)) (by rw[a6,anw,amr (by omega)];simp[List.getD,amr (show i<l.length by omega)]);exact(amL.1 this).1
  rw[W7 _ _ _ _ (by simp;omega) Y];have Z:=(amw.1 O)
  simp[Z.2,show i<d.length by omega])
 have hg:∀b,(hL [(0,.bY bW (aY (d.take n)) true)]).get b=((hL [(0,.bY bW (aY l) true)]).put 0 (some (.bY bW (aY (d.take n)) true))).get b:=fun b=>by
  rw[ai.iR]
  by_cases e:b=0
  ·subst e;rfl
  rw[amt e]
  cases b with
  |zero=>exact absurd rfl e
  |succ b=>rfl
 have k3:bq pg g (hL [(0,.bY bW (aY (d.take n)) true)]) (Go.Sort.putRow (Value.int .i64) (Go.Sort.ahead w q) aS aD d.toArray):=k1.congr hg (amG _);refine⟨k3,.DW k2 ⟨amG _,fun _ _ _=>rfl,fun _ h=>h,fun _ _ h=> .inl h,k3.oU,fun c _ ho=>?_,fun _ _ h=>h,rfl,rfl,rfl⟩⟩;obtain⟨a,o,base',h5,h6⟩:=ho;exact⟨a,o,base',by rw[<-ai.Vb hg];exact h5,h6⟩
def Tryz.sort_ren:Go.Shelf.Ren:=⟨fun|5=>195|8=>267|7=>266|19=>314|20=>315|10=>305|11=>306|12=>307|13=>308|14=>309|15=>310|16=>311|17=>312|18=>313|30=>345|31=>346|32=>347|33=>348|34=>349|35=>331|40=>362|n=>n,fun|23=>56|25=>25|3=>3|32=>241|22=>56|0=>0|44=>330|46=>74|4=>4|36=>322|35=>321|41=>327|5=>5|9=>9|53=>361|57=>256|63=>381|64=>382|n=>n,fun|n=>n⟩
def Tryz.sort:Go.Proofs.SlLaysM.n5 pg Tryz.sort_ren:={
 mixed:=by kernel_rfl
 f5:=⟨Tryz.f195.name,by decide,Tryz.func195.trans (amZ some (by kernel_rfl))⟩
 f7:=⟨Tryz.f266.name,by decide,Tryz.func266.trans (amZ some (by kernel_rfl))⟩
 f8:=Tryz.func267.trans (amZ some (by kernel_rfl))
 f10:=⟨Tryz.f305.name,by decide,Tryz.func305.trans (amZ some (by kernel_rfl))⟩
 f11:=⟨Tryz.f306.name,by decide,Tryz.func306.trans (amZ some (by kernel_rfl))⟩
 f12:=⟨Tryz.f307.name,by decide,Tryz.func307.trans (amZ some (by kernel_rfl))⟩
 f13:=⟨Tryz.f308.name,by decide,Tryz.func308.trans (amZ some (by kernel_rfl))⟩
 f14:=⟨Tryz.f309.name,by decide,Tryz.func309.trans (amZ some (by kernel_rfl))⟩
 f15:=⟨Tryz.f310.name,by decide,Tryz.func310.trans (amZ some (by kernel_rfl))⟩
 f16:=⟨Tryz.f311.name,by decide,Tryz.func311.trans (amZ some (by kernel_rfl))⟩
 f17:=⟨Tryz.f312.name,by decide,Tryz.func312.trans (amZ some (by kernel_rfl))⟩
 f18:=⟨Tryz.f313.name,by decide,Tryz.func313.trans (amZ some (by kernel_rfl))⟩
 f19:=Tryz.func314.trans (amZ some (by kernel_rfl))
 f20:=Tryz.func315.trans (amZ some (by kernel_rfl))
 f30:=⟨Tryz.f345.name,by decide,Tryz.func345.trans (amZ some (by kernel_rfl))⟩
 f31:=Tryz.func346.trans (amZ some (by kernel_rfl))
 f32:=Tryz.func347.trans (amZ some (by kernel_rfl))
 f33:=⟨Tryz.f348.name,by decide,Tryz.func348.trans (amZ some (by kernel_rfl))⟩
 f34:=⟨Tryz.f349.name,by decide,Tryz.func349.trans (amZ some (by kernel_rfl))⟩
 f35:=⟨Tryz.f331.name,by decide,Tryz.func331.trans (amZ some (by kernel_rfl))⟩
 f40:=⟨Tryz.f362.name,by decide,Tryz.func362.trans (amZ some (by kernel_rfl))⟩
 t0:=Tryz.underlying0
 a0:=Tryz.isAgg0
 z0:=Tryz.sizeOf0
 v0:=Tryz.zeroValue0
 t3:=Tryz.underlying3
 a3:=Tryz.isAgg3
 z3:=Tryz.sizeOf3
 v3:=Tryz.zeroValue3
 t4:=Tryz.underlying4
 a4:=Tryz.isAgg4
 z4:=Tryz.sizeOf4
 v4:=Tryz.zeroValue4
 t5:=Tryz.underlying5
 a5:=Tryz.isAgg5
 z5:=Tryz.sizeOf5
 v5:=Tryz.zeroValue5
 t9:=Tryz.underlying9
 a9:=Tryz.isAgg9
 z9:=Tryz.sizeOf9
 v9:=Tryz.zeroValue9
 t22:=Tryz.underlying56
 a22:=Tryz.isAgg56
 z22:=Tryz.sizeOf56
 v22:=Tryz.zeroValue56
 t23:=Tryz.underlying56
 a23:=Tryz.isAgg56
 z23:=Tryz.sizeOf56
 v23:=Tryz.zeroValue56
 t25:=Tryz.underlying25
 a25:=Tryz.isAgg25
 z25:=Tryz.sizeOf25
 v25:=Tryz.zeroValue25
 t32:=Tryz.underlying241
 a32:=Tryz.isAgg241
 z32:=Tryz.sizeOf241
 v32:=Tryz.zeroValue241
 t35:=Tryz.underlying321
 a35:=Tryz.isAgg321
 z35:=Tryz.sizeOf321
 v35:=Tryz.zeroValue321
 t36:=Tryz.underlying322
 a36:=Tryz.isAgg322
 z36:=Tryz.sizeOf322
 v36:=Tryz.zeroValue322
 t41:=Tryz.underlying327
 a41:=Tryz.isAgg327
 z41:=Tryz.sizeOf327
 v41:=Tryz.zeroValue327
 t44:=Tryz.underlying330
 a44:=Tryz.isAgg330
 z44:=Tryz.sizeOf330
 v44:=Tryz.zeroValue330
 t46:=Tryz.underlying74
 a46:=Tryz.isAgg74
 z46:=Tryz.sizeOf74
 v46:=Tryz.zeroValue74
 t53:=Tryz.underlying361
 a53:=Tryz.isAgg361
 z53:=Tryz.sizeOf361
 v53:=Tryz.zeroValue361
 t57:=Tryz.underlying256
 a57:=Tryz.isAgg256
 z57:=Tryz.sizeOf256
 v57:=Tryz.zeroValue256
 t63:=Tryz.underlying381
 a63:=Tryz.isAgg381
 z63:=Tryz.sizeOf381
 v63:=Tryz.zeroValue381
 t64:=Tryz.underlying382
 a64:=Tryz.isAgg382
 z64:=Tryz.sizeOf382
 v64:=Tryz.zeroValue382}
def ab9 {g:Gh}{h:ai}{w:World}(J:bq pg g h w)(os:Array Obj):bq pg g h (Go.Sort.grow w os)/\Iw g h w g h (Go.Sort.grow w os):=by
 have A:∀c,c<w.heap.size->(Go.Sort.grow w os).heap[c]?=w.heap[c]?:=fun c hc=>apj hc;have O:∀c s,w.shape? c=some s->(Go.Sort.grow w os).shape? c=some s:=fun c s e=>by
  have hc:c<w.heap.size:=by
   apply anq;intro Y;simp only[World.shape?,aoV (Nat.le_of_not_lt Y)]at e
   cases e
  simpa only[World.shape?,A c hc]using e
 have Z:iL g w g (Go.Sort.grow w os):=⟨fun _ _ e=>e,fun _ e=>e,fun c e=>A c (J.oU c e),O,fun _ _ _ e=>e⟩;have I:w.heap.size<=(Go.Sort.grow w os).heap.size:=by simp[Go.Sort.grow]
 refine⟨J.nm.UH (fun l b x e=>amX (J.rV l b x e) I) J.rW (fun l o aS aD h1 V=>?_) (fun c e=>amX (J.oU c e) I),⟨I,fun c hc _=>A c hc,fun _ e=>e,fun _ _ e=> .inl e,fun c e=>amX (J.oU c e) I,fun c _ ho=>ho,O,rfl,rfl,rfl⟩⟩;obtain⟨n1,o',ho,U⟩:=J.vL l o aS aD h1 V;exact⟨n1,o',by rw[A _ (amL.1 ho).1];exact ho,U.mono Z⟩
def aag {g g1 g':Gh}{h h1 h':ai}{w w1 w':World}(a:Iw g h w g1 h1 w1)(b:Iw g1 h1 w1 g' h' w'):Iw g h w g' h' w' where
 size:=am8 a.size b.size
 FB:=fun c hc ho=>(b.FB c (amX hc a.size) fun h=>ho (a.nf c hc h)).trans (a.FB c hc ho)
 fz:=fun c hc=>b.fz c (a.fz c hc)
 YC:=fun c hc hf=>by
  rcases b.YC c (amX hc a.size) hf with h1|h1
  ·exact a.YC c hc h1
  exact .inr (a.nf c hc h1)
 oU:=b.oU
 nf:=fun c hc ho=>a.nf c hc (b.nf c (amX hc a.size) ho)
 ms:=fun c s hs=>b.ms c s (a.ms c s hs)
 os:=⟨b.os.1.trans a.os.1,b.os.2.1.trans a.os.2.1,b.os.2.2.trans a.os.2.2⟩
def aj6 (l:List Int)(h:l.length<2^31):PH Aa (mg (aY l)) (zM (aY l)) 1 Di (fun v=>D.ae v=aY (l.mergeSort fun x y=>decide (x<=y))):=by
 intro g w A J ha;obtain⟨v,h1,h2⟩:=ay.one ha;obtain⟨A⟩:=A;have h1:A=[v]:=h1;subst h1;have done:∀w',bq pg g (hL [(0,.bY bW (aY (l.mergeSort fun x y=>decide (x<=y))) true)]) w'->Iw g (hL [(0,.bY bW (aY l) true)]) w g (hL [(0,.bY bW (aY (l.mergeSort fun x y=>decide (x<=y))) true)]) w'->
  ∃(g':Gh) (d:D) (x:BV×List (Nat×aE)),T.dV x (Di (mg (aY l)) (zM (aY l)) d)/\Iw g (hL (zM (aY l))) w g' (hL x.2) w'/\Pin 1 g g'/\bq pg g' (hL x.2) w'/\Ls pg g' w' x.1 (Ending.returned (.tuple #[]))/\D.ae d=aY (l.mergeSort fun x y=>decide (x<=y)):=fun w' U k2=>
  ⟨g,.r (aY (l.mergeSort fun x y=>decide (x<=y))),(.tuple [],[(0,.bY bW (aY (l.mergeSort fun x y=>decide (x<=y))) true)]),.ret,k2,⟨fun _ _ _ h=>h,fun _ _ _ _ h=>h⟩,U,.ret (by simp[aw,ay]),rfl⟩
 have I:(aY l).length=l.length:=by simp
 rw[I]at h2;have empty:∀(a:Option Addr) (c:Nat),v= .slice a 0 c->l=[]->Calls pg Aa ⟨[v]⟩ w fun Y w'=>∃(g':Gh) (d:D) (x:BV×List (Nat×aE)),T.dV x (Di (mg (aY l)) (zM (aY l)) d)/\Iw g (hL (zM (aY l))) w g' (hL x.2) w'/\Pin 1 g g'/\bq pg g' (hL x.2) w'/\Ls pg g' w' x.1 Y/\D.ae d=aY (l.mergeSort fun x y=>decide (x<=y)):=by
  rintro a c rfl rfl;refine(AnyM.slices_Sort_int_none Tryz.sort a c w).mono ?_;rintro Y w' ⟨rfl,rfl⟩;have e0:(([]:List Int).mergeSort fun x y=>decide (x<=y))=[]:=by simp
  rw[e0]at done;rw[e0];exact done _ J ⟨amG _,fun _ _ _=>rfl,fun _ h=>h,fun _ _ h=> .inl h,J.oU,fun c _ ho=>ho,fun _ _ h=>h,rfl,rfl,rfl⟩
 simp only[aw]at h2;rcases h2 with ⟨⟨_,h0⟩,rfl| ⟨a,rfl⟩⟩| ⟨aS,aD,c,Z,rfl,hc,ht⟩
 ·have:=am3.1 h0;subst this;exact empty _ _ rfl rfl
 ·have:=am3.1 h0;subst this;exact empty _ _ rfl rfl
 obtain⟨cc,vs,⟨lo,hi⟩,U,k2,k3,k4,V⟩:=J.bY (b:=0) rfl Z;obtain⟨rfl,rfl⟩:lo=0/\hi=0:=V.2 (by kernel_rfl);have a6:=QD k2;have hH:Go.Sort.Holds (Value.int .i64) w aS aD l.toArray:=fun j O=>by
  have O:j<l.length:=by simpa using O
  refine⟨?_,by simp[World.frozen?,U]⟩;rw[k4 j (.int .i64 l[j]) (by rw[a6];simp[O])];simp[O]
 refine(AnyM.slices_Sort_int Tryz.sort aS aD c l w hH (J.img _ _ _ Z) (by omega)).mono ?_;rintro Y w' ⟨rfl,q,os,rfl⟩;obtain⟨m1,m2⟩:=bq.aic (n:=l.length) (d:=l.mergeSort fun x y=>decide (x<=y)) J Z (by simp) q;rw[amv (by simp)]at m1 m2;obtain⟨m3,m4⟩:=ab9 m1 os;exact done _ m3 (aag m2 m4)
section
section
variable {W:WS} {w:Wo} (hW:Lj W w)
include hW
theorem ajk (h1:w.th.one)(hn:w.th.length<2^30):PH ud (bG W) (Wm W) 3 Cd (fun d=>∃l:List Int,l.Perm (w.th.map (·.1))/\D.ae d=aY (l.mergeSort fun x y=>decide (x<=y))):=by
 have J:W.th.length=w.th.length:=by rw[hW.th];simp[bm.ar]
 have loop:aC pg ud [dH] (.bK 3 (Cd (bG W) (Wm W)) (fun d=>∃l:List Int,l.Perm (w.th.map (·.1))/\D.ae d=aY (l.mergeSort fun x y=>decide (x<=y)))) (xD W ([]:List Int).length (aY ([]:List Int).reverse) (aY [])):=by
  refine wA (M:=fun l=>aC pg ud [dH] (.bK 3 (Cd (bG W) (Wm W)) (fun d=>∃l:List Int,l.Perm (w.th.map (·.1))/\D.ae d=aY (l.mergeSort fun x y=>decide (x<=y)))) (xD W l.length (aY l.reverse) (aY l))) (w.th.map (·.1)) fun l hl A Z=>?_;have Y:l.length<=w.th.length:=by have:=CN A hl;simpa using this
  refine W9 (DZ hW (fun I=>?_) fun n O U=>?_)
  ·have cs:=aj6 l.reverse (by simp;omega);simp only[mg,amm,ap1]at cs;refine⟨_,_,rfl,cs,?_⟩;intro v V;refine⟨rfl,v,?_,l.reverse,(List.reverse_perm l).trans ((aoI A h1).2 fun a=>⟨hl a,fun ha=>by obtain⟨p,hp,rfl⟩:=anh.1 ha;exact I p hp⟩),V⟩;have:(D.ae v).length=l.length:=(by rw[V];simp);rw[<-this];exact .ret
  have e:=Z n O U;simp only[rk,amm,ap1,am2,anf];refine⟨fun _=>?_,fun h=>by simp[bh]at h;omega⟩;simpa using e
 refine afI ?_;simp only[rk];exact⟨fun _=>loop,fun h=>by simp[vQ]at h;omega⟩
end
end
def eA.cons {a:Int}{l:List Int}(h:eA l)(hl:∀b∈l,a<b):eA (a::l):=fun i x y h1 h2=>by
 cases i with
 |zero=>simp at h1 h2;subst h1;exact hl y (by cases l with|nil=>simp at h2|cons c r=>simp at h2;subst h2;simp)
 |succ i=>exact h i x y (by simpa using h1) (by simpa using h2)
def QB:∀{a b:List Int},eA a->eA b->(∀z,z∈a↔z∈b)->a=b:=by
 intro a
 induction a with
 |nil=>intro b _ _ h;cases b with|nil=>rfl|cons y r=>have:=(h y).2 (by simp);cases this
 |cons x l O=>
  intro b J hb h
  cases b with
  |nil=>have:=(h x).1 (by simp);cases this
  |cons y r=>
   have h1:=(h x).1 (by simp);have h2:=(h y).2 (by simp);have I:x=y:=by
    rcases amz.1 h1 with e|e
    ·exact e
    rcases amz.1 h2 with e2|e2
    ·exact e2.symm
    have:=J.lt y e2;have:=hb.lt x e;omega
   subst I;rw[O J.tail hb.tail fun z=>?_];constructor
   ·intro A;rcases amz.1 ((h z).1 (by simp[A]))with e|e
    ·have:=J.lt z A;omega
    exact e
   intro A;rcases amz.1 ((h z).2 (by simp[A]))with e|e
   ·have:=hb.lt z A;omega
   exact e
def ZL:∀{l:List Int},l.Pairwise (·<=·)->l.Nodup->eA l:=by
 intro l
 induction l with
 |nil=>intro _ _ i a b h;simp at h
 |cons a r A=>intro h1 h2;rw[an9]at h1;rw[anp]at h2;refine(A h1.2 h2.2).cons fun b hb=>?_;have:=h1.1 b hb;have:a≠b:=fun e=>h2.1 (e▸hb);omega
def adB {l k:List Int}(hp:l.Perm k)(I:eA k):(l.mergeSort fun x y=>decide (x<=y))=k:=by
 have hs:(l.mergeSort fun x y=>decide (x<=y)).Perm l:=List.mergeSort_perm l _;have A:(l.mergeSort fun x y=>decide (x<=y)).Pairwise (·<=·):=by have:=List.pairwise_mergeSort (le:=fun x y:Int=>decide (x<=y)) (by intro a b c;simp;omega) (by intro a b;simp;omega) l;exact this.imp (by intro a b h;simpa using h)
 have J:(l.mergeSort fun x y=>decide (x<=y)).Nodup:=(hs.trans hp).nodup_iff.2 I.Bo;exact QB (ZL A J) I fun z=>(hs.trans hp).mem_iff
def nr:Int->List Bool->List Int
 |_,[]=>[]
 |n,b::r=>if b then n::nr (n+1) r else nr (n+1) r
def aal:∀(l:List Bool) (n:Int) (b:Bool),nr n (l++[b])=nr n l++if b then [n+l.length]else []:=by
 intro l
 induction l with
 |nil=>intro n b;cases b<;>simp[nr]
 |cons a r A=>
  intro n b;simp only[anM,nr,A,amB];rw[show n+1+(r.length:Int)=n+((r.length+1:Nat):Int)by omega]
  cases a<;>rfl
def L5:∀{l:List Bool} {n z:Int},z∈nr n l↔n<=z/\l[(z-n).toNat]?=some true:=by
 intro l
 induction l with
 |nil=>intro n z;simp[nr]
 |cons a r I=>
  intro n z;have key:(n+1<=z/\r[(z-(n+1)).toNat]?=some true)↔(n<=z/\z≠n/\(a::r)[(z-n).toNat]?=some true):=by
   by_cases J:n+1<=z
   ·rw[show (z-n).toNat=(z-(n+1)).toNat+1 by omega,anO];constructor
    ·rintro⟨_,h⟩;exact⟨by omega,by omega,h⟩
    rintro⟨_,_,h⟩;exact⟨J,h⟩
   constructor
   ·rintro⟨h,_⟩;exact absurd h J
   rintro⟨h1,h2,_⟩;omega
  simp only[nr]
  cases a with
  |true=>
   simp only[am5,amz,I,key];constructor
   ·rintro(rfl| ⟨h1,h2,A⟩)
    ·exact⟨by omega,by simp⟩
    exact⟨h1,A⟩
   rintro⟨h1,h2⟩
   by_cases e:z=n
   ·exact .inl e
   exact .inr ⟨h1,e,h2⟩
  |false=>
   simp only[amp,ann,I,key];constructor
   ·rintro⟨h1,h2,A⟩;exact⟨h1,A⟩
   rintro⟨h1,h2⟩;refine⟨h1,fun e=>?_,h2⟩;subst e;simp at h2
def QZ:∀(l:List Bool) (n:Int),eA (nr n l):=by
 intro l
 induction l with
 |nil=>intro n i a b h;simp[nr]at h
 |cons a r A=>
  intro n;simp only[nr]
  cases a with
  |true=>exact(A (n+1)).cons fun b hb=>by have:=(L5.1 hb).1;omega
  |false=>exact A (n+1)
def M6 (f:Int->Nat):∀(l:List Int) (a:List Bool) (i:Nat),(l.foldl (fun a c=>a.set (f c) true) a)[i]?=some true↔i<a.length/\(a[i]?=some true\/∃c∈l,f c=i):=by
 intro l
 induction l with
 |nil=>
  intro a i;simp only[List.foldl_nil];constructor
  ·intro h;exact⟨(amw.1 h).1,.inl h⟩
  rintro⟨_,h| ⟨c,hc,_⟩⟩
  ·exact h
  cases hc
 |cons c r J=>
  intro a i;simp only[aol,J,List.length_set,aon,amz];constructor
  ·rintro⟨h1,h2| ⟨I,h2,A⟩⟩
   ·split at h2
    ·exact⟨h1,.inr ⟨c,.inl rfl,‹_›⟩⟩
    exact⟨h1,.inl h2⟩
   exact⟨h1,.inr ⟨I,.inr h2,A⟩⟩
  rintro⟨h1,h2| ⟨I,rfl|h2,A⟩⟩
  ·refine⟨h1,.inl ?_⟩
   split
   ·rename_i e;subst e;simp
    exact h1
   exact h2
  ·refine⟨h1,.inl ?_⟩;rw[amu A];subst A;rw[amu h1]
  exact⟨h1,.inr ⟨I,h2,A⟩⟩
def abY {n:Nat}{l:List Int}(I:eA l)(hb:∀c∈l,1<=c/\c<=n):nr 0 (jO n l)=l:=by
 refine QB (QZ _ _) I fun z=>?_;rw[L5,jO,M6];simp only[anH,anQ];constructor
 ·rintro⟨h1,h2,A| ⟨c,A,J⟩⟩
  ·split at A<;>simp at A
  have:=hb c A;rw[show z=c by omega];exact A
 intro h;have:=hb z h;exact⟨by omega,by omega,.inr ⟨z,h,by omega⟩⟩
def abW {n:Nat}{l:List Int}(I:eA l)(hb:∀c∈l,1<=c/\c<=n):nr 1 (kM n l)=l:=by
 refine QB (QZ _ _) I fun z=>?_;rw[L5,kM,M6];simp only[anH,anQ];constructor
 ·rintro⟨h1,h2,A| ⟨c,A,J⟩⟩
  ·split at A<;>simp at A
  have:=hb c A;rw[show z=c by omega];exact A
 intro h;have:=hb z h;exact⟨by omega,by omega,.inr ⟨z,h,by omega⟩⟩
def XD {l:List Bool}{i:Nat}{b:Bool}(h:l[i]?=some b)(n:Int):nr n (l.take (i+1))=nr n (l.take i)++if b then [n+i]else []:=by
 have hi:=(amw.1 h).1;rw[ao3,h];simp only[Option.toList_some];rw[aal,amI,anS (by omega)]
def Ta:∀(l:List Bool) (n:Int),(nr n l).length<=l.length:=by
 intro l
 induction l with
 |nil=>intro n;simp[nr]
 |cons a r A=>intro n;have:=A (n+1);cases a<;>simp[nr]<;>omega
structure Wl.Inv (x:Wl):Prop where
 par:x.pa.length<16
 DS:x.ma.length=x.pa.length+1
 cut:∀c∈x.cu,1<=c/\c<=x.pa.length
 Q8:eA x.cu
 th:x.th.length<2^30
 RF:eA (x.th.map En.r)
 w:∀e∈x.th,e.w.ok/\e.w.sz<2^30/\∀v∈e.w.aN,v.fE=true
abbrev Wl.wo (x:Wl)(f:nT):Wo:=⟨x.pa,jO x.pa.length x.cu,x.aL,f,x.la,x.ma⟩
abbrev Wl.ro (x:Wl):Wo:=⟨x.pa,kM x.pa.length x.cu,x.aL,[],x.la,x.ma⟩
def Wl.Inv.one {x:Wl}(h:x.Inv):x.aL.one:=by rw[bm.one,Wl.fh];exact h.RF.Bo
def aab {x:Wl}(h:x.aL.one){i:Nat}{e:En}(he:x.th[i]?=some e):x.aL.get e.r=some e.w:=by
 have A:(e.r,e.w)∈x.aL:=anh.2 ⟨e,amn he,rfl⟩;exact(bm.wL h).2 A
section
def Pv (l:List D)(h:l.length<2^30):PH gu (mg l) (zL l) 1 pD (fun d=>D.ae d=l):=by
 have I:bh 8 (0+l.length)=true:=by simp[bh];omega
 refine Qc ?_;have A:∀l':List D,l'=l->∃d,T.dV (BV.hY 1 (0+l'.length) true,[(0,aE.bY ah l true),(1,aE.bY ah ([]++l') true)]) (E4 (mg l) (zL l) d)/\D.ae d=l:=by intro l' h;rw[h,anr,an0];exact⟨.r l,.ret,rfl⟩
 simp only[rk,I,anJ,amA,amp,amx,amy,amS,ano,amG,am2];refine⟨fun he=>⟨⟨rfl,.r l,?_,rfl⟩,rfl,A l rfl⟩,fun _=>⟨rfl,A l rfl⟩⟩;have:l=[]:=by simpa using he
 subst this;exact .ret
abbrev Wl.wp (x:Wl)(t:bm)(f:nT):Wo:=⟨x.pa,jO x.pa.length x.cu,t,f,x.la,x.ma⟩
def Qn {t u:bm}(h:t.Perm u)(A:u.one):t.one:=(h.map (Prod.fst (α:=Int) (β:=Wh))).nodup_iff.2 A
def af1 {t u:bm}(h:t.Perm u)(A:u.one){r:Int}{x:Wh}(I:u.get r=some x):t.get r=some x:=(bm.wL (Qn h A)).2 (h.mem_iff.2 ((bm.wL A).1 I))
section
variable {W:WS} {x:Wl} {t:bm} {f:nT} (hi:x.Inv) (ht:t.Perm x.aL)
include hi ht
theorem Ix (hW:Lj W (x.wp t f)):PH gO (bG W) (Wm W) 3 iT (·=x.ar):=by
 have b1:=hi.DS;have a8:=hi.par;have a7:(jO x.pa.length x.cu).length=x.pa.length+1:=by simp
 have a6:=hi.th;have U:∀(rest:List En) (i:Nat),x.th.drop i=rest->i<=x.th.length->aC pg gO [aM] (.bK 3 (iT (bG W) (Wm W)) (·=x.ar))
  (yN W x.th.length x.th.length x.pa.length x.ma.length (aY (x.th.map En.r)) (aY x.pa) (aY x.ma) x.cu.length (aY x.cu) i i ((x.th.take i).map En.ar)):=by
  intro rest
  induction rest with
  |nil=>intro i hd A;have hl:=drop_nil hd;have A:i=x.th.length:=(by omega);subst A;refine KA ?_;rw[ano];simp only[rk,amm,am2,amA,amx,amy,amS,apx,ani,amp,am1];refine⟨rfl,x.ar,?_,rfl⟩;rw[Wl.az,hW.la];exact .ret
  |cons e rest ih=>intro i hd A;obtain⟨O,g2,I⟩:=aF hd;obtain⟨w1,w2,w3⟩:=hi.w e (amn O);have hg:=af1 ht hi.one (aab hi.one O);refine KA ?_;have hat:D.at (aY (x.th.map En.r)) i= .z e.r:=bC (by rw[anw,O];rfl);have V:(i:Int)<(x.th.length:Int):=(by omega);have Z:bh 200 (i+1)=true:=(by simp[bh];omega);simp only[rk,V,hat,aR I,hW.th,bm.i7,bm.val hg,hg,Wh.re,D.bu,amq,amm,I,am2,amA,amx,amy,amS,anD,amI,anS (aqd I),Z,aoC,bL I];refine⟨_,_,_,rfl,MD e.w w1 w2 w3,?_⟩;intro d hd;subst hd;have:=ih (i+1) g2 (by omega);rw[<-rZ (f:=En.ar) O]at this;simp only[En.az]at this;simp only[Wh.re];exact this
 have J:∀(rest:List Bool) (i:Nat),(jO x.pa.length x.cu).drop i=rest->i<=x.pa.length+1->aC pg gO [aM] (.bK 3 (iT (bG W) (Wm W)) (·=x.ar))
  (uF W x.pa.length x.ma.length (aY x.pa) (aY x.ma) i (nr 0 ((jO x.pa.length x.cu).take i)).length (aY (nr 0 ((jO x.pa.length x.cu).take i)))):=by
  intro rest
  induction rest with
  |nil=>intro i hd A;have hl:=drop_nil hd;refine Kz ?_;rw[amv hl,abY hi.Q8 hi.cut];have hn:¬(i:Int)<((jO x.pa.length x.cu).length:Int):=(by omega);simp only[rk,hW.cu,amm,hn,ani,amp,amy,amA,am1];have c:=ajk hW (Qn ht hi.one) (by have:=ht.length_eq;simp[Wl.aL]at this;show t.length<_;omega);refine⟨_,_,rfl,c,?_⟩;rintro d ⟨l,hp,hd⟩;have hp:=hp.trans (ht.map (·.1));rw[Wl.fh]at hp;rw[adB hp hi.RF]at hd;have:=U x.th 0 rfl (by omega);simpa [hd]using this
  |cons b rest ih=>
   intro i hd A;obtain⟨O,g2,I⟩:=aF hd;refine Kz ?_;have hat:D.at ((jO x.pa.length x.cu).map D.b) i= .b b:=bC O;have V:(i:Int)<((jO x.pa.length x.cu).length:Int):=(by omega);have:=ih (i+1) g2 (by omega);rw[XD O 0]at this;have hy:=Ta ((jO x.pa.length x.cu).take i) 0;rw[amI]at hy;have Z:bh 8 ((nr 0 ((jO x.pa.length x.cu).take i)).length+1)=true:=(by simp[bh];omega);simp only[rk,hW.cu,amm,V,hat,aR I,I,D.bV,amq,am2,amA,amx,amy,amS,Z,aoC,bL I];refine⟨fun hb=>?_,fun hb=>?_⟩
   ·subst hb;simpa using this
   subst hb;simpa using this
 refine afF ?_;simp only[rk,D.aK,hW.pa,hW.ma];refine⟨_,_,rfl,IK _ (by simp;omega),?_⟩;intro d hd;have c2:=Pv (aY x.ma) (by simp;omega);refine⟨_,_,rfl,c2,?_⟩;intro d2 Y;rw[hd,Y];have:=J _ 0 rfl (by omega);simpa [nr]using this
end
end

end Go.Proofs
end
