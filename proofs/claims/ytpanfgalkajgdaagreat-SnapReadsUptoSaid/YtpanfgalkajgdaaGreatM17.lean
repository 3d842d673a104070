import Derived.Test.YtpanfgalkajgdaaGreatM10
import Derived.Test.YtpanfgalkajgdaaGreatM32
import Derived.Test.YtpanfgalkajgdaaGreatM16
set_option linter.all false
noncomputable section
namespace Go.Proofs
open Go Go.PB
section
def aA.Cj (v:aA):Bool:=v.k==0&&v.n==0&&v.s==[]&&v.l.length==0&&v.r==0
def aA.zero:aA:= .mk 0 0 [] [] 0
def aA.agS:(D.r [.z 0,.z 0,.s [],.r [],.z 0])=aA.zero.ar:=rfl
def aA.RZ (v:aA):v.Cj=true↔v= .zero:=by
 cases v;simp[aA.Cj,aA.zero,aA.k,aA.n,aA.s,aA.l,aA.r,apY]
def aA.vH:aA.zero.ok:=by rw[aA.fe];simp[aA.zero,aA.k,aA.n,aA.s,aA.l,aA.r]
def UU (v:aA):dZ pg zC [ak] [v.ar] [aj] (·= .b v.Cj):=by
 refine adb ?_;simp only[rk,aA.ek,aA.jP,aA.pR,aA.hI,aA.rB,amm];refine⟨fun a=>⟨fun b=>⟨fun c=>⟨fun d=>?_,fun d=>?_⟩,fun c=>?_⟩,fun b=>?_⟩,fun a=>?_⟩
 all_goals (congr 1;simp_all [aA.Cj])
def Wh.bare (x:Wh):Wh:=
 {k:=x.k,h:=if x.k=14 then 0 else x.h,v:=if x.k=1\/x.k=7\/x.k=10 then x.v else aA.zero,vs:=if x.k=2\/x.k=4 then x.vs else [],
  n:=if x.k=3\/x.k=8\/x.k=9 then x.n else 0,lo:=if x.k=8 then x.lo else 0,
  of:=if x.k=6\/x.k=7\/x.k=9\/x.k=11\/x.k=13\/x.k=14\/x.k=15\/x.k=16 then x.of else 0,
  tD:=if x.k=15\/x.k=16 then x.tD else 0,set:=if x.k=14 then x.set else 0,Ae:=if x.k=10\/x.k=13 then x.Ae else false,
  co:=if x.k=12 then x.co else [],ns:=if x.k=12 then x.ns else []}
def aki (x:Wh):dZ pg J1 [aU] [x.ar] [aU] (·=x.bare.ar):=by
 refine afY ?_;simp only[rk,Wh.ek,Wh.rA,Wh.pS,Wh.BP,Wh.jP,Wh.Fp,Wh.mj,Wh.qy,Wh.pe,Wh.xu,Wh.iz,Wh.hZ,eN,aA.agS,amY,amF,an3]
 repeat' (first|refine And.intro (fun h=>?_) fun h=>?_)
 all_goals (rw[Wh.az x.bare];simp[Wh.bare, *])
def Wh.aaB {x:Wh}(h:x.h=x.bare.h)(v:x.bare.v.Cj=true->x.v.Cj=true)(vs:x.vs.length=x.bare.vs.length)(n:x.n=x.bare.n)(lo:x.lo=x.bare.lo)(of:x.of=x.bare.of)(tD:x.tD=x.bare.tD)(set:x.set=x.bare.set)
 (Ae:x.Ae=x.bare.Ae)(co:x.co.length=x.bare.co.length)(ns:x.ns.length=x.bare.ns.length):x.bare=x:=by
 have I:x.bare.v=x.v:=by
  by_cases c:x.k=1\/x.k=7\/x.k=10
  ·simp[Wh.bare,c]
  have e:x.bare.v= .zero:=by simp[Wh.bare,c]
  rw[e]at v ⊢;exact((aA.RZ _).1 (v rfl)).symm
 have U:x.bare.vs=x.vs:=by
  by_cases c:x.k=2\/x.k=4
  ·simp[Wh.bare,c]
  have e:x.bare.vs=[]:=by simp[Wh.bare,c]
  rw[e]at vs ⊢;exact(am3.1 vs).symm
 have J:x.bare.co=x.co:=by
  by_cases c:x.k=12
  ·simp[Wh.bare,c]
  have e:x.bare.co=[]:=by simp[Wh.bare,c]
  rw[e]at co ⊢;exact(am3.1 co).symm
 have O:x.bare.ns=x.ns:=by
  by_cases c:x.k=12
  ·simp[Wh.bare,c]
  have e:x.bare.ns=[]:=by simp[Wh.bare,c]
  rw[e]at ns ⊢;exact(am3.1 ns).symm
 have A:x.bare.k=x.k:=rfl;generalize x.bare=y at*
 cases x;cases y
 simp_all
def Wh.F (x:Wh)(n:Int):Prop:=
 (1<=x.k/\x.k<=16)/\x.bare=x/\(x.k≠14->0<=x.h/\x.h<n)/\x.v.fE=true/\(aA.ae x.vs).fE=true/\x.ns.length<=64/\(∀m∈x.ns,m.v.fE=true)/\
 (x.k=3\/x.k=8\/x.k=9->0<=x.n/\x.n<=9007199254740992/\0<=x.lo/\x.lo<=x.n)/\(x.k=10->x.Ae=true\/x.v.Cj=true)/\(x.k=12->St.dq x.co<=512/\St.oe x.co=true)
def aA.VV {l:List aA}(h:(aA.ae l).fE=true):∀v∈l,v.fE=true:=by
 obtain⟨h1,h2,I⟩:=(aA.fM _).1 h;intro v A;have O:(aA.ae l).size=1+aA.bA l:=rfl;have U:(aA.ae l).depth=aA.kg l+1:=rfl;have J:(aA.ae l).gX=(aA.nI l&&(aA.ae l).field):=rfl;have:=aA.fW A;have:=aA.GB A;rw[J,amo]at I;exact(aA.fM _).2 ⟨by omega,by omega,aA.Fx I.1 A⟩
def Wh.F.fE {x:Wh}{n:Int}(h:x.F n):∀v∈x.aN,v.fE=true:=by
 intro v hv;simp only[Wh.aN,amz,amO,anh]at hv;rcases hv with rfl|hv| ⟨m,A,rfl⟩
 ·exact h.2.2.2.1
 ·exact aA.VV h.2.2.2.2.1 v hv
 exact h.2.2.2.2.2.2.1 m A
open Classical in
noncomputable def Wh.Hx (x:Wh)(n:Int):Bool:=decide (x.F n/\(x.k=14->x.set<64))
def Wh.GN {x:Wh}{n:Int}:x.Hx n=true↔x.F n/\(x.k=14->x.set<64):=by simp[Wh.Hx]
def aau (s:Int)(h0:0<=s)(h1:s<256):dZ pg wG [ot] [.z s] [aj] (·= .b (decide (s<64))):=by
 refine ahV ?_;simp only[rk,D.bu];obtain⟨m,rfl⟩:=aoc h0;have h:m<256:=by omega
 have key:∀m:Nat,m<256->(IntKind.u8.wrap ((BitVec.ofInt 8 (m:Int) &&& ~~~BitVec.ofInt 8 63).toNat:Int)==0)=decide ((m:Int)<64):=by decide+kernel
 rw[key m h]
section
variable {W:WS} {w:Wo} (hW:Lj W w)
include hW
theorem ajj (x:Wh)(hx:x.ok)(hs:x.sz<2^30):PH rF (ov W x.ar) (Wm W) 3 cA (fun d=>D.bool d=x.Hx w.ma.length):=by
 have b6:=x.L3;have a8:=hs;simp only[Wh.sz]at a8;have V:=hx.aN
 have no:¬(x.F w.ma.length/\(x.k=14->x.set<64))->∃d,T.dV (BV.bool false,Wm W) (T.ret (BV.bool (D.bool d),Wm W))/\D.bool d=x.Hx w.ma.length:=fun h=>BT (by
  rw[<-Wh.GN]at h;simpa using h)
 have NH:∀b,(b=true↔x.F w.ma.length/\(x.k=14->x.set<64))->∃d,T.dV (BV.bool b,Wm W) (T.ret (BV.bool (D.bool d),Wm W))/\D.bool d=x.Hx w.ma.length:=fun b h=>BT (by
  rw[<-Wh.GN]at h;exact amW.2 h)
 have loop:∀(rest:List fx) (i:Nat),(1<=x.k/\x.k<=16)->x.bare=x->(x.k≠14->0<=x.h/\x.h<w.ma.length)->x.v.fE=true->(aA.ae x.vs).fE=true->x.ns.length<=64->x.ns.drop i=rest->(∀m∈x.ns.take i,m.v.fE=true)->
  aC pg rF [aj] (.bK 3 (cA (ov W x.ar) (Wm W)) fun d=>D.bool d=x.Hx w.ma.length) (rQ W x.ar i):=by
  intro rest
  induction rest with
  |nil=>
   intro i f1 f2 f3 f4 f5 f6 hd hm;have hi:=drop_nil hd;rw[amv hi]at hm;have b4:x.k≠8->x.lo=0:=fun h=>by rw[<-f2];simp[Wh.bare,h]
   refine HH ?_;simp only[rk,Wh.ek,Wh.pS,Wh.jP,Wh.Fp,Wh.pe,Wh.xu,Wh.iz,Wh.hZ,eN,amm,D.bu,D.aK];refine⟨fun h=>by simp at h;omega,fun _=>?_⟩;have Y:(x.k=3\/x.k=8\/x.k=9->0<=x.n/\x.n<=9007199254740992/\0<=x.lo/\x.lo<=x.n)->(x.k=10->x.Ae=true\/x.v.Cj=true)->(x.k=12->St.dq x.co<=512/\St.oe x.co=true)->x.F w.ma.length:=fun a b c=>⟨f1,f2,f3,f4,f5,f6,hm,a,b,c⟩;have O:x.F w.ma.length->(x.k=3\/x.k=8\/x.k=9->0<=x.n/\x.n<=9007199254740992/\0<=x.lo/\x.lo<=x.n)/\(x.k=10->x.Ae=true\/x.v.Cj=true)/\(x.k=12->St.dq x.co<=512/\St.oe x.co=true):=fun a=>a.2.2.2.2.2.2.2;refine⟨fun k3=>?_,fun k3=>⟨fun k8=>?_,fun k8=>⟨fun k9=>?_,fun k9=>⟨fun a6=>?_,fun a6=>⟨fun U=>?_,fun U=>⟨fun Z=>?_,fun Z=>?_⟩⟩⟩⟩⟩⟩
   iterate 3
    ·simp only[amY,amF,an3,aml,amk,ge_iff_le]at*;refine⟨fun a=>⟨fun b=>⟨fun c=>⟨rfl,NH _ ?_⟩,fun c=>⟨rfl,no ?_⟩⟩,fun b=>⟨rfl,no ?_⟩⟩,fun a=>⟨rfl,no ?_⟩⟩
     ·simp only[aml];exact⟨fun e=>⟨Y (fun _=>⟨a,b,c,e⟩) (by omega) (by omega),by omega⟩,fun e=>((O e.1).1 (by omega)).2.2.2⟩
     ·exact fun e=>c ((O e.1).1 (by omega)).2.2.1
     ·exact fun e=>b ((O e.1).1 (by omega)).2.1
     exact fun e=>a ((O e.1).1 (by omega)).1
   ·simp only[amY,amF,an3]at*;refine⟨fun a=>⟨rfl,NH _ ?_⟩,fun a=>⟨_,_,_,rfl,UU x.v,?_⟩⟩
    ·exact⟨fun _=>⟨Y (by omega) (fun _=> .inl a) (by omega),by omega⟩,fun _=>rfl⟩
    rintro _ rfl;refine⟨rfl,NH _ ?_⟩;simp only[D.bV];exact⟨fun e=>⟨Y (by omega) (fun _=> .inr e) (by omega),by omega⟩,fun e=>by rcases (O e.1).2.1 a6 with h|h;rw[a]at h;cases h;exact h⟩
   ·simp only[amY,amF,an3]at*;refine⟨_,_,rfl,aiJ x.co 0 hx.co (by omega) (by omega) (by omega),?_⟩;rintro d ⟨q1,_⟩;refine⟨rfl,NH _ ?_⟩;rw[q1,Mx];exact⟨fun e=>⟨Y (by omega) (by omega) (fun _=>⟨by omega,e.1⟩),by omega⟩,fun e=>⟨((O e.1).2.2 U).2,by have:=((O e.1).2.2 U).1;omega⟩⟩
   ·simp only[amY,amF,an3]at*;have h8:0<=x.set/\x.set<256:=(by have:=hx;simp only[Wh.ok]at this;omega);refine⟨_,_,_,rfl,aau x.set h8.1 h8.2,?_⟩;rintro _ rfl;refine⟨rfl,NH _ ?_⟩;simp only[D.bV,aml];exact⟨fun e=>⟨Y (by omega) (by omega) (by omega),fun _=>e⟩,fun e=>e.2 Z⟩
   simp only[amY,amF,an3]at*;exact⟨rfl,NH _ ⟨fun e=>⟨Y (by omega) (by omega) (by omega),by omega⟩,fun _=>rfl⟩⟩
  |cons m rest ih=>
   intro i f1 f2 f3 f4 f5 f6 hd hm;obtain⟨g1,g2,g3⟩:=aF hd;have J:=amn g1;refine HH ?_;simp only[rk,Wh.hZ,amm,amq,bC g1,fx.pS,eN];refine⟨fun _=>⟨fun _=>⟨_,_,_,rfl,QR m.v (V _ (by simp[Wh.aN];exact .inr (.inr ⟨m,J,rfl⟩))),?_⟩,fun h=>by simp[aR g3]at h⟩,fun h=>by simp at h;omega⟩;rintro _ rfl;refine⟨fun h=>⟨rfl,no fun e=>?_⟩,fun h=>?_⟩
   ·rw[e.1.2.2.2.2.2.2.1 m J]at h;simp at h
   rw[bL g3];refine ih (i+1) f1 f2 f3 f4 f5 f6 g2 fun y hy=>?_;rw[bH g1]at hy;rcases amO.1 hy with hy|hy
   ·exact hm y hy
   simp only[amQ]at hy;subst hy;simpa using h
 refine afH ?_;simp only[rk,Wh.re,Wh.ek,Wh.rA,Wh.pS,Wh.BP,Wh.jP,Wh.Fp,Wh.mj,Wh.qy,Wh.pe,Wh.xu,Wh.iz,Wh.hZ,eN,amm];refine⟨_,_,_,rfl,aki x,?_⟩;rintro _ rfl;simp only[Wh.ek,Wh.rA,Wh.pS,Wh.BP,Wh.jP,Wh.Fp,Wh.mj,Wh.qy,Wh.pe,Wh.xu,Wh.iz,Wh.hZ,eN,amm,aot,an3,anE,amY,amF,aml,amk,amJ,amP,Int.natCast_inj];have hk:0<=x.k:=by have:=hx;simp only[Wh.ok]at this;omega
 refine⟨fun h=>⟨rfl,no fun e=>by have:=e.1.1;omega⟩,fun g0=>⟨fun h=>⟨rfl,no fun e=>by have:=e.1.1;omega⟩,fun g1=>?_⟩⟩
 refine⟨fun h=>⟨rfl,no fun e=>h (by rw[e.1.2.1])⟩,fun e1=>⟨fun h=>⟨rfl,no fun e=>h (by rw[e.1.2.1])⟩,fun e2=>⟨fun h=>⟨rfl,no fun e=>h (by rw[e.1.2.1])⟩,fun e3=>⟨fun h=>⟨rfl,no fun e=>h (by rw[e.1.2.1])⟩,fun e4=>⟨fun h=>⟨rfl,no fun e=>h (by rw[e.1.2.1])⟩,fun e5=>
  ⟨fun h=>⟨rfl,no fun e=>h (by rw[e.1.2.1])⟩,fun e6=>⟨fun h=>⟨rfl,no fun e=>h (by rw[e.1.2.1])⟩,fun e7=>⟨fun h=>⟨rfl,no fun e=>h (by rw[e.1.2.1])⟩,fun e8=>⟨fun h=>⟨rfl,no fun e=>h (by rw[e.1.2.1])⟩,fun e9=>⟨fun h=>⟨rfl,no fun e=>h (by rw[e.1.2.1])⟩,fun a7=>?_⟩⟩⟩⟩⟩⟩⟩⟩⟩⟩
 have I:(x.bare.v.Cj=true->x.v.Cj=true)->x.bare=x:=fun h=>Wh.aaB e7 h e8 e1 e2 e3 e4 e5 e6 e9 a7;refine⟨_,_,_,rfl,UU x.bare.v,?_⟩;rintro _ rfl;simp only[D.bV];have tail:x.bare=x->(x.k≠14->0<=x.h/\x.h<w.ma.length)->∃ts rs Q',EF pI.cj lF=some (ts,rs)/\dZ pg lF ts [x.v.ar] rs Q'/\∀d,Q' d->
  (D.bool d=false->pI.bK=some 3/\∃d,T.dV (BV.bool false,Wm W) (cA (ov W x.ar) (Wm W) d)/\D.bool d=x.Hx w.ma.length)/\
  (D.bool d=true->∃ts rs Q',EF pI.cj LS=some (ts,rs)/\dZ pg LS ts [.r (x.vs.map aA.ar)] rs Q'/\∀d,Q' d->
    (¬(d.af 1).int=0->pI.bK=some 3/\∃d,T.dV (BV.bool false,Wm W) (cA (ov W x.ar) (Wm W) d)/\D.bool d=x.Hx w.ma.length)/\
    ((d.af 1).int=0->((x.ns.length:Int)>64->pI.bK=some 3/\∃d,T.dV (BV.bool false,Wm W) (cA (ov W x.ar) (Wm W) d)/\D.bool d=x.Hx w.ma.length)/\
      (¬(x.ns.length:Int)>64->aC pg pI.f pI.rs (.bK 3 (cA (ov W x.ar) (Wm W)) fun d=>D.bool d=x.Hx w.ma.length) (rQ W x.ar 0)))):=by
  intro f2 f3;refine⟨_,_,_,rfl,QR x.v (V _ (by simp[Wh.aN])),?_⟩;rintro _ rfl;simp only[D.bV];refine⟨fun h=>⟨rfl,no fun e=>by rw[e.1.2.2.2.1]at h;cases h⟩,fun f4=>⟨_,_,_,rfl,amg x.vs (fun v hv=>V v (by simp[Wh.aN,hv])) (by omega),?_⟩⟩;rintro _ rfl;have b1:D.int (D.af (if x.vs.all aA.fE then (if (aA.ae x.vs).fE then (.r [(aA.ae x.vs).ar,.z 0]:D)else .r [.r [.z 0,.z 0,.s [],.r [],.z 0],.z 4])else .r [.r [.z 0,.z 0,.s [],.r [],.z 0],.z 2]) 1)=0↔(aA.ae x.vs).fE=true:=by
   by_cases c1:x.vs.all aA.fE=true
   ·rw[amu c1]
    by_cases c2:(aA.ae x.vs).fE=true
    ·simp[c2,D.af,D.at]
    simp[c2,D.af,D.at]
   rw[amt c1];have:¬(aA.ae x.vs).fE=true:=fun h=>c1 (by simpa using aA.VV h);simp[this,D.af,D.at]
  rw[b1];refine⟨fun h=>⟨rfl,no fun e=>h e.1.2.2.2.2.1⟩,fun f5=>⟨fun h=>⟨rfl,no fun e=>by have:=e.1.2.2.2.2.2.1;omega⟩,fun f6=>?_⟩⟩;have:=loop x.ns 0 ⟨by omega,by omega⟩ f2 f3 f4 f5 (by omega) rfl (by simp);simpa using this
 refine⟨fun hb=>⟨_,_,_,rfl,UU x.v,?_⟩,fun hb=>?_⟩
 ·rintro _ rfl;simp only[D.bV];refine⟨fun h=>⟨rfl,no fun e=>by rw[e.1.2.1]at hb;rw[hb]at h;cases h⟩,fun h2=>?_⟩;have f2:=I fun _=>h2;refine⟨fun A=>⟨_,_,rfl,ad2 hW x.h,?_⟩,fun A=>tail f2 fun h=>absurd A h⟩;intro d hd;rw[hd];simp only[aml,amk];exact⟨fun h=>⟨rfl,no fun e=>h (e.1.2.2.1 A)⟩,fun h=>tail f2 fun _=>h⟩
 have f2:=I fun h=>by rw[hb]at h;cases h
 refine⟨fun A=>⟨_,_,rfl,ad2 hW x.h,?_⟩,fun A=>tail f2 fun h=>absurd A h⟩;intro d hd;rw[hd];simp only[aml,amk];exact⟨fun h=>⟨rfl,no fun e=>h (e.1.2.2.1 A)⟩,fun h=>tail f2 fun _=>h⟩
end
end
section
open Classical in
noncomputable def Wh.G6 (x:Wh)(n:Int):Bool:=decide (x.F n)
def Wh.J4 {x:Wh}{n:Int}:x.G6 n=true↔x.F n:=by simp[Wh.G6]
def Wh.F.num {x:Wh}{n:Int}(h:x.F n):0<=x.n/\x.n<=9007199254740992:=by
 by_cases c:x.k=3\/x.k=8\/x.k=9
 ·have:=h.2.2.2.2.2.2.2.1 c;omega
 have e:x.bare.n=0:=by simp[Wh.bare,c]
 rw[h.2.1]at e;omega
def aA.ag8 {v:aA}(h:v.fE=true)(A:v.k=0):v.Cj=true:=by
 have I:=((aA.fM v).1 h).2.2;rw[v.qA,amo]at I;have:=I.2;simp only[aA.field,A,am5]at this;simp only[aA.Cj,A];simpa using this
def aio (x:Wh)(n:Int)(hx:x.ok)(hs:x.sz<2^30):dZ pg jf [aU,ah] [x.ar,.z n] [aj] (·= .b (x.G6 n)):=by
 have f9:=x.L3;have e7:=hs;simp only[Wh.sz]at e7;have b4:=hx.aN;have no:¬x.F n->D.b false=D.b (x.G6 n):=fun h=>by rw[<-Wh.J4]at h;simpa using h
 have O:x.v.ok:=b4 _ (by simp[Wh.aN]);have d6:0<=x.k/\x.k<256:=by have:=hx;simp only[Wh.ok]at this;omega
 have tail:∀(yv:aA) (yn yo yl:Int) (yf:Bool) (ys yb V:Int) (b0 J I:Bool),yv.ok->(1<=x.k/\x.k<=16)->(x.k≠14->0<=x.h/\x.h<n)->
  ((x.k=2\/x.k=4->(aA.ae x.vs).fE=true)/\(x.k=8->0<=x.lo/\x.lo<=x.n)/\(x.k=10->x.Ae=true\/x.v.k=0)/\(x.k=12->x.ns.length<=64/\(∀m∈x.ns,m.v.fE=true)/\St.dq x.co<=512/\St.oe x.co=true))->
  (V=x.bare.h/\yv=x.bare.v/\yn=x.bare.n/\yo=x.bare.of/\yl=x.bare.lo/\yf=x.bare.Ae/\ys=x.bare.set/\yb=x.bare.tD/\(b0=true↔(x.k=2\/x.k=4))/\(J=true↔x.k=12)/\(I=true↔x.k=12))->
  aC pg jf [aj] (.cY (·= .b (x.G6 n))) (b8 x.ar (.z n) b0 yv.k yv.n yv.s (yv.l.map aA.ar) yv.r yn yo yl yf ys yb V J I):=by
  rintro yv yn yo yl yf ys yb V b0 J I e4 f1 f3 ⟨K2,K8,e5,b1⟩ ⟨rfl,rfl,rfl,rfl,rfl,rfl,rfl,rfl,B0,d4,d2⟩;refine RD ?_;simp only[rk,Wh.rA,Wh.pS,Wh.BP,Wh.jP,Wh.Fp,Wh.mj,Wh.qy,Wh.pe,Wh.xu,Wh.iz,Wh.hZ,eN,amm,<-aA.az,aml,amk,amY,amF,an3];refine⟨fun h=>no fun e=>by have:=e.num;omega,fun n0=>⟨fun h=>no fun e=>by have:=e.num;omega,fun n1=>⟨_,_,_,rfl,Mq x.v O,?_⟩⟩⟩;rintro _ rfl;simp only[D.bV,amJ,amP];refine⟨fun h=>no fun e=>(by rw[e.2.2.2.1]at h;cases h),fun f4=>⟨fun eh=>⟨_,_,_,rfl,abf x.v x.bare.v O e4,?_⟩,fun h=>no fun e=>h (by rw[e.2.1])⟩⟩;rintro _ rfl;simp only[D.bV];refine⟨fun h=>?_,fun h=>no fun e=>by rw[e.2.1,(aA.K1 _ _).2 rfl]at h;cases h⟩;have ev:=(aA.K1 _ _).1 h;refine⟨fun en=>⟨fun e6=>⟨fun e8=>⟨fun d9=>⟨fun d5=>⟨fun b6=>?_,fun h=>no fun e=>h (by rw[e.2.1])⟩,fun h=>no fun e=>h (by rw[e.2.1])⟩,fun h=>no fun e=>h (by rw[e.2.1])⟩,fun h=>no fun e=>h (by rw[e.2.1])⟩,fun h=>no fun e=>h (by rw[e.2.1])⟩,fun h=>no fun e=>h (by rw[e.2.1])⟩;have bz:∀b:Bool,(b=true↔(b0=true\/x.vs.length=0)/\(J=true\/x.ns.length=0)/\(I=true\/x.co.length=0))->D.b b=D.b (x.G6 n):=fun b hb=>by
   congr 1;rw[amW,hb,Wh.J4];constructor
   ·rintro⟨c0,d8,d1⟩;rw[B0]at c0;rw[d4]at d8;rw[d2]at d1;have e3:x.vs.length=x.bare.vs.length:=by
     by_cases c:x.k=2\/x.k=4
     ·simp[Wh.bare,c]
     rcases c0 with c0|c0
     ·exact absurd c0 c
     simp[Wh.bare,c,c0]
    have e9:x.ns.length=x.bare.ns.length:=by
     by_cases c:x.k=12
     ·simp[Wh.bare,c]
     rcases d8 with c0|c0
     ·exact absurd c0 c
     simp[Wh.bare,c,c0]
    have e2:x.co.length=x.bare.co.length:=by
     by_cases c:x.k=12
     ·simp[Wh.bare,c]
     rcases d1 with c0|c0
     ·exact absurd c0 c
     simp[Wh.bare,c,c0]
    have Y:x.bare=x:=Wh.aaB eh (by rw[<-ev];exact id) e3 en e6 e8 d9 d5 b6 e2 e9;have e0:x.k≠8->x.lo=0:=fun h=>by rw[<-Y];simp[Wh.bare,h]
    refine⟨f1,Y,f3,f4,?_,?_,?_,fun h=>⟨by omega,by omega,?_⟩,fun h=>?_,fun h=>(b1 h).2.2⟩
    ·by_cases c:x.k=2\/x.k=4
     ·exact K2 c
     have:x.vs=[]:=(by rw[<-Y];simp[Wh.bare,c]);rw[this];decide
    ·by_cases c:x.k=12
     ·exact(b1 c).1
     have:x.ns=[]:=(by rw[<-Y];simp[Wh.bare,c]);rw[this];simp
    ·by_cases c:x.k=12
     ·exact(b1 c).2.1
     have:x.ns=[]:=(by rw[<-Y];simp[Wh.bare,c]);rw[this];simp
    ·by_cases c:x.k=8
     ·exact K8 c
     have:=e0 c;omega
    rcases e5 h with h|h
    ·exact .inl h
    exact .inr (aA.ag8 f4 h)
   intro e;rw[B0,d4,d2];refine⟨?_,?_,?_⟩
   ·by_cases c:x.k=2\/x.k=4
    ·exact .inl c
    right;rw[<-e.2.1];simp[Wh.bare,c]
   ·by_cases c:x.k=12
    ·exact .inl c
    right;rw[<-e.2.1];simp[Wh.bare,c]
   by_cases c:x.k=12
   ·exact .inl c
   right;rw[<-e.2.1];simp[Wh.bare,c]
  simp only[Int.natCast_eq_zero]
  repeat' (first|refine And.intro (fun h=>?_) fun h=>?_)
  all_goals exact bz _ (by simp_all)
 have loop:∀(rest:List fx) (i:Nat) (V:Int),x.k=12->V=x.bare.h->(0<=x.h/\x.h<n)->x.ns.length<=64->St.dq x.co<=512->St.oe x.co=true->x.ns.drop i=rest->(∀m∈x.ns.take i,m.v.fE=true)->
  aC pg jf [aj] (.cY (·= .b (x.G6 n))) (i6 x.ar (.z n) V i):=by
  intro rest
  induction rest with
  |nil=>intro i V d0 eh f3 f6 f7 f8 hd hm;have hi:=drop_nil hd;rw[amv hi]at hm;refine xM ?_;simp only[rk,Wh.hZ,amm];refine⟨fun h=>by simp at h;omega,fun _=>?_⟩;exact tail .zero _ _ _ _ _ _ _ _ _ _ aA.vH (by omega) (fun _=>f3) ⟨by omega,by omega,by omega,fun _=>⟨f6,hm,f7,f8⟩⟩ (by simp[Wh.bare,d0,eh])
  |cons m rest ih=>
   intro i V d0 eh f3 f6 f7 f8 hd hm;obtain⟨g1,g2,g3⟩:=aF hd;have a7:=amn g1;refine xM ?_;simp only[rk,Wh.hZ,amm,amq,bC g1,fx.pS,eN];refine⟨fun _=>⟨fun _=>⟨_,_,_,rfl,Mq m.v (b4 _ (by simp[Wh.aN];exact .inr (.inr ⟨m,a7,rfl⟩))),?_⟩,fun h=>by simp[aR g3]at h⟩,fun h=>by simp at h;omega⟩;rintro _ rfl;refine⟨fun h=>no fun e=>?_,fun h=>?_⟩
   ·rw[e.2.2.2.2.2.2.1 m a7]at h;simp at h
   rw[bL g3];refine ih (i+1) V d0 eh f3 f6 f7 f8 g2 fun y hy=>?_;rw[bH g1]at hy;rcases amO.1 hy with hy|hy
   ·exact hm y hy
   simp only[amQ]at hy;subst hy;simpa using h
 refine ac4 ?_;have hw:IntKind.i64.wrap x.k=x.k:=abz d6.1 d6.2;have d7:(aA.ae x.vs).ok:=by rw[aA.fe];exact⟨by simp[aA.ae,aA.k],by simp[aA.ae,aA.k],by simp[aA.ae,aA.n],by simp[aA.ae,aA.n],by simp[aA.ae,aA.s],by simp only[aA.ae,aA.l];omega,by simp[aA.ae,aA.r],by simp[aA.ae,aA.r],fun v hv=>b4 v (by simp[Wh.aN];exact .inr (.inl hv))⟩
 have d3:(aA.ae x.vs).fE=true->x.vs.length<=512:=fun h=>by have h1:=((aA.fM _).1 h).1;have h2:=aA.fv x.vs;have e1:(aA.ae x.vs).size=1+aA.bA x.vs:=rfl;omega
 simp only[rk,Wh.ek,hw,Wh.rA,Wh.pS,Wh.BP,Wh.jP,Wh.Fp,Wh.mj,Wh.qy,Wh.pe,Wh.xu,Wh.iz,Wh.hZ,<-aA.VW,aA.ek,aA.jP,aA.pR,aA.hI,aA.rB,D.bu,amm,aml,amk,amY,amF,aot,anE,an3,amJ,amP];have a6:∀(M:Prop),(x.k=2\/x.k=4)->((aA.ae x.vs).fE=true->M)->∀d,d=D.b (aA.ae x.vs).fE->(D.bool d=false->D.b false=D.b (x.G6 n))/\(D.bool d=true->M):=by rintro M A h _ rfl;exact⟨fun h2=>no fun e=>by rw[e.2.2.2.2.1]at h2;simp at h2,fun h2=>h (by simpa using h2)⟩
 have a8:∀(M:Prop),x.k=12->(St.dq x.co<=512->St.oe x.co=true->M)->∀d,(d=D.z (D.int d)/\tI 0 (St.dq x.co) (D.int d))->((D.int d>512->D.b false=D.b (x.G6 n))/\(¬D.int d>512->∃ts rs Q',EF zr.cj dk=some (ts,rs)/\dZ pg dk ts [.r (x.co.map St.ar)] rs Q'/\∀d,Q' d->(D.bool d=false->D.b false=D.b (x.G6 n))/\(D.bool d=true->M))):=by rintro M A h d ⟨_,hq⟩;simp only[tI]at hq;refine⟨fun h1=>no fun e=>by have:=(e.2.2.2.2.2.2.2.2.2 A).1;omega,fun h1=>⟨_,_,_,rfl,No x.co hx.co (by omega),?_⟩⟩;rintro _ rfl;simp only[D.bV];exact⟨fun h2=>no fun e=>(by rw[(e.2.2.2.2.2.2.2.2.2 A).2]at h2;cases h2),fun h2=>h (by omega) h2⟩
 refine⟨fun h=>no fun e=>by have:=e.1;omega,fun a0=>⟨fun h=>no fun e=>by have:=e.1;omega,fun a1=>⟨fun U=>⟨fun h=>no fun e=>by have:=e.2.2.1 U;omega,fun h0=>⟨fun h=>no fun e=>by have:=e.2.2.1 U;omega,fun h1=>?_⟩⟩,fun U=>?_⟩⟩⟩
 ·have f1:1<=x.k/\x.k<=16:=by omega
  have f3:x.k≠14->0<=x.h/\x.h<n:=fun _=>by omega
  refine⟨fun A=>tail x.v _ _ _ _ _ _ _ _ _ _ O f1 f3 ⟨by omega,by omega,by omega,by omega⟩ (by simp[Wh.bare,A]),fun _=>⟨fun A=>⟨fun h=>no fun e=>by have:=d3 e.2.2.2.2.1;omega,fun _=>⟨_,_,_,rfl,Mq _ d7,a6 _ (by omega) fun hm=>tail .zero _ _ _ _ _ _ _ _ _ _ aA.vH f1 f3 ⟨fun _=>hm,by omega,by omega,by omega⟩ (by simp[Wh.bare,A])⟩⟩,fun _=>⟨fun A=>⟨fun h=>no fun e=>by have:=d3 e.2.2.2.2.1;omega,fun _=>⟨_,_,_,rfl,Mq _ d7,a6 _ (by omega) fun hm=>tail .zero _ _ _ _ _ _ _ _ _ _ aA.vH f1 f3 ⟨fun _=>hm,by omega,by omega,by omega⟩ (by simp[Wh.bare,A])⟩⟩,fun _=>?_⟩⟩⟩;have Z:∀{yn yo yl yf ys yb V b0 J I},(x.k≠2/\x.k≠4/\x.k≠8/\x.k≠10/\x.k≠12)->_->_:=fun {yn yo yl yf ys yb V b0 J I} (A:x.k≠2/\x.k≠4/\x.k≠8/\x.k≠10/\x.k≠12) H=>tail .zero yn yo yl yf ys yb V b0 J I aA.vH f1 f3 ⟨by omega,by omega,by omega,by omega⟩ H;refine⟨fun A=>Z (by omega) (by simp[Wh.bare,A]),fun _=>⟨fun A=>Z (by omega) (by simp[Wh.bare,A]),fun _=>⟨fun A=>Z (by omega) (by simp[Wh.bare,A]),fun _=>⟨fun A=>tail x.v _ _ _ _ _ _ _ _ _ _ O f1 f3 ⟨by omega,by omega,by omega,by omega⟩ (by simp[Wh.bare,A]),fun _=>?_⟩⟩⟩⟩;refine⟨fun A=>⟨fun h=>no fun e=>by have:=e.2.2.2.2.2.2.2.1 (by omega);omega,fun l0=>⟨fun h=>no fun e=>by have:=e.2.2.2.2.2.2.2.1 (by omega);omega,fun l1=>tail .zero _ _ _ _ _ _ _ _ _ _ aA.vH f1 f3 ⟨by omega,fun _=>by omega,by omega,by omega⟩ (by simp[Wh.bare,A])⟩⟩,fun _=>⟨fun A=>Z (by omega) (by simp[Wh.bare,A]),fun _=>?_⟩⟩;refine⟨fun A=>⟨fun hf=>⟨fun h=>no fun e=>?_,fun h=>tail x.v _ _ _ _ _ _ _ _ _ _ O f1 f3 ⟨by omega,by omega,fun _=> .inr h,by omega⟩ (by simp[Wh.bare,A])⟩,fun hf=>tail x.v _ _ _ _ _ _ _ _ _ _ O f1 f3 ⟨by omega,by omega,fun _=> .inl hf,by omega⟩ (by simp[Wh.bare,A])⟩,fun _=>?_⟩
  ·rcases e.2.2.2.2.2.2.2.2.1 A with h2|h2
   ·rw[hf]at h2;cases h2
   rw[(aA.RZ _).1 h2]at h;exact h rfl
  refine⟨fun A=>⟨fun h=>no fun e=>by have:=e.2.2.2.2.2.1;omega,fun h=>⟨_,_,_,rfl,OA x.co hx.co (by omega),a8 _ A fun c1 c2=>?_⟩⟩,fun _=>⟨fun A=>Z (by omega) (by simp[Wh.bare,A]),fun _=>⟨fun A=>absurd A U,fun _=>⟨fun A=>Z (by omega) (by simp[Wh.bare,A]),fun _=>⟨fun A=>Z (by omega) (by simp[Wh.bare,A]),fun _=>Z (by omega) ?_⟩⟩⟩⟩⟩
  ·have e:=loop x.ns 0 x.h A (by simp[Wh.bare,A]) (by omega) (by omega) c1 c2 rfl (by simp);simpa using e
  have:x.k=5:=by omega
  simp[Wh.bare,this]
 have U:x.k=14:=by omega
 refine⟨fun A=>by omega,fun _=>⟨fun A=>by omega,fun _=>⟨fun A=>by omega,fun _=>⟨fun A=>by omega,fun _=>⟨fun A=>by omega,fun _=>⟨fun A=>by omega,fun _=>⟨fun A=>by omega,fun _=>⟨fun A=>by omega,fun _=>⟨fun A=>by omega,fun _=>⟨fun A=>by omega,fun _=>⟨fun A=>by omega,fun _=>⟨fun A=>by omega,fun _=>⟨fun A=>?_,fun A=>absurd U A⟩⟩⟩⟩⟩⟩⟩⟩⟩⟩⟩⟩⟩;exact tail .zero _ _ _ _ _ _ _ _ _ _ aA.vH (by omega) (by omega) ⟨by omega,by omega,by omega,by omega⟩ (by simp[Wh.bare,A])
end
section
def Wh.zero:Wh:=⟨0,0,.zero,[],0,0,0,0,0,false,[],[]⟩
def bm.at (t:bm)(r:Int):Wh:=(t.get r).getD Wh.zero
def bm.bY (t:bm):List D:=t.map fun p=>D.r [.z p.1,p.2.ar]
@[simp] def bm.xQ (t:bm):t.bY.length=t.length:=by simp[bm.bY]
def bm.TS (t:bm)(r:Int):t.kind r=(t.at r).k:=by
 unfold bm.kind bm.at;cases t.get r<;>rfl
def bm.ok (t:bm):Prop:=∀p∈t,p.2.ok
def bm.uw {t:bm}{r:Int}{x:Wh}(h:t.get r=some x):(r,x)∈t:=by
 induction t with
 |nil=>cases h
 |cons p q A=>
  simp only[bm.get]at h
  split at h
  ·rename_i e;cases h;subst e;exact anl
  exact am4 _ (A h)
def Wh.vH:Wh.zero.ok:=by
 have:=aA.vH;simp[Wh.ok,Wh.zero,this]
def bm.ok.at {t:bm}(h:t.ok)(r:Int):(t.at r).ok:=by
 unfold bm.at
 cases e:t.get r with
 |none=>exact Wh.vH
 |some x=>exact h _ (bm.uw e)
def Wh.ok.wk {x:Wh}(h:x.ok):IntKind.i64.wrap x.k=x.k:=by simp only[Wh.ok]at h;exact abz h.1 h.2.1
structure OK (R:RS)(w:Wo):Prop where
 pa:R.pa=aY w.pa
 cu:R.cu=w.cu.map D.b
 th:R.th=w.th.bY
 la:R.la=w.la
 ma:R.ma=aY w.ma
def D4 {t:bm}{i:Nat}{p:Int×Wh}(h:t[i]?=some p):D.at t.bY i= .r [.z p.1,p.2.ar]:=bC h
section
variable {R:RS} {w:Wo} (hR:OK R w) (hn:w.th.length<2^62)
include hR hn
theorem RR (r:Int):PH ly (mD R r) (Rm R) 1 yE (fun d=>D.af d 0=(w.th.at r).ar/\(d.af 1).bool=(w.th.get r).isSome):=by
 have loop:∀(rest:bm) (i:Nat),w.th.drop i=rest->aC pg ly [aU,aj] (.bK 1 (yE (mD R r) (Rm R)) fun d=>D.af d 0=(rest.at r).ar/\(d.af 1).bool=(rest.get r).isSome) (DM R r i):=by
  intro rest
  induction rest with
  |nil=>
   intro i hd;have:=drop_nil hd;refine Qq ?_;simp only[rk,hR.th,bm.xQ];refine⟨fun h=>by simp at h;omega,fun _=>⟨rfl,.r [Wh.zero.ar,.b false],?_,rfl,rfl⟩⟩;refine bD.2 ?_
   kernel_rfl
  |cons p rest O=>
   intro i hd;obtain⟨J,I,A⟩:=aF hd;refine Qq ?_;simp only[rk,hR.th,bm.xQ,amq,D4 J,aR A,bL A (n:=w.th.length)];refine⟨fun _=>⟨fun _=>⟨fun _=>⟨fun h=>⟨rfl,.r [p.2.ar,.b true],.ret,?_⟩,fun h=>?_⟩,fun h=>by simp at h;omega⟩,fun h=>by simp at h⟩,fun h=>by simp at h;omega⟩
   ·have h:p.1=r:=(by simpa [D.af,D.at]using h);have e:bm.get (p::rest) r=some p.2:=(by simp[bm.get,h]);exact⟨by rw[bm.at,e];rfl,by rw[e];rfl⟩
   have h:¬p.1=r:=(by simpa [D.af,D.at]using h);have e:bm.get (p::rest) r=bm.get rest r:=(by simp[bm.get,h]);have:=O (i+1) I;rw[bm.at,e];exact this
 exact ahU (loop w.th 0 rfl)
theorem aap (ht:w.th.ok)(r:Int):PH zA (mD R r) (Rm R) 1 aG (fun d=>D.int d=w.th.kind r):=by
 refine acB ?_;simp only[rk];refine⟨_,_,rfl,RR hR hn r,?_⟩;rintro d ⟨h1,h2⟩;rw[h1];simp only[Wh.ek,(ht.at r).wk];exact⟨rfl,G7 (bm.TS _ _).symm⟩
def bm.qX (t:bm):Nat->Int->Option Int
 |0,_=>none
 |n+1,r=>match t.get r with|none=>some 0|some x=>if x.k=14 then some x.set else if x.k=15\/x.k=16 then bm.qX t n x.of else some (IG x.k)
theorem aao (ht:w.th.ok):∀(n:Nat) (r a:Int),w.th.qX n r=some a->PH oA (mD R r) (Rm R) 1 ka (fun d=>D.int d=a):=by
 intro n
 induction n with
 |zero=>intro r a h;simp[bm.qX]at h
 |succ n ih=>
  intro r a h;refine acA ?_;simp only[rk];refine⟨_,_,rfl,RR hR hn r,?_⟩;rintro d ⟨h1,h2⟩;rw[h1,h2];simp only[bm.qX]at h
  cases U:w.th.get r with
  |none=>simp only[U]at h;exact⟨fun _=>⟨rfl,G7 (by simpa using h)⟩,fun Z=>by simp at Z⟩
  |some x=>
   have hat:w.th.at r=x:=(by simp[bm.at,U]);simp only[U]at h;rw[hat];have Z:x.ok:=(by have:=ht.at r;rwa [hat]at this);simp only[Wh.ek,Z.wk,Wh.pe,Wh.mj,anD,anY,amp,amy,amA,am1,amY,amF,an3];have A:∀v:Int,(x.k≠14->x.k≠15->x.k≠16->IG x.k=v)->x.k≠14->x.k≠15->x.k≠16->Gx.bK=some 1/\∃d,T.dV (BV.int .u8 v,Rm R) (ka (mD R r) (Rm R) d)/\D.int d=a:=fun v hv J Y a6=>by rw[amt J,ifN]at h;exact⟨rfl,G7 (by rw[<-hv J Y a6];simpa using h)⟩
   refine⟨fun k=>A _ (by intros;simp[IG,k]) (by omega) (by omega) (by omega),fun k1=>⟨fun k=>A _ (by intros;simp[IG,k]) (by omega) (by omega) (by omega),fun k2=>⟨fun k=>A _ (by intros;simp[IG,k]) (by omega) (by omega) (by omega),fun k3=>⟨fun k=>A _ (by intros;simp[IG,k]) (by omega) (by omega) (by omega),fun k4=>⟨fun k=>A _ (by intros;simp[IG,k]) (by omega) (by omega) (by omega),fun k5=>⟨fun k=>A _ (by intros;simp[IG,k]) (by omega) (by omega) (by omega),fun k6=>⟨fun k=>A _ (by intros;simp[IG,k]) (by omega) (by omega) (by omega),fun k7=>⟨fun k=>A _ (by intros;simp[IG,k]) (by omega) (by omega) (by omega),fun k8=>?_⟩⟩⟩⟩⟩⟩⟩⟩;refine⟨fun k=>A _ (by intros;simp[IG,k]) (by omega) (by omega) (by omega),fun k9=>⟨fun k=>A _ (by intros;simp[IG,k]) (by omega) (by omega) (by omega),fun a8=>⟨fun k=>A _ (by intros;simp[IG,k]) (by omega) (by omega) (by omega),fun b1=>⟨fun k=>A _ (by intros;simp[IG,k]) (by omega) (by omega) (by omega),fun b4=>⟨fun k=>?_,fun a7=>⟨fun k=>?_,fun O=>⟨fun k=>?_,fun V=>A _ (by intros;simp[IG, *]) a7 O V⟩⟩⟩⟩⟩⟩⟩
   ·rw[amu k]at h;exact⟨rfl,G7 (by simpa using h)⟩
   ·rw[ifN,ifP]at h;refine⟨_,_,rfl,ih x.of a h,?_⟩;intro d2 I;exact⟨rfl,G7 I⟩
   rw[ifN,ifP]at h;refine⟨_,_,rfl,ih x.of a h,?_⟩;intro d2 I;exact⟨rfl,G7 I⟩
def bm.sY (t:bm)(r k o:Int)(b:Bool):Bool:=t.any fun p=>decide (p.1≠r/\p.2.k=k/\(if b then p.2.tD=o else p.2.of=o))
theorem OI (ht:w.th.ok)(r k o:Int)(b:Bool):PH mn (zJ R r k o b) (Rm R) 1 cA (fun d=>D.bool d=w.th.sY r k o b):=by
 have loop:∀(rest:bm) (i:Nat),w.th.drop i=rest->aC pg mn [aj] (.bK 1 (cA (zJ R r k o b) (Rm R)) fun d=>D.bool d=rest.sY r k o b) (rN R r k o b i):=by
  intro rest
  induction rest with
  |nil=>intro i hd;have:=drop_nil hd;refine HF ?_;simp only[rk,hR.th,bm.xQ];exact⟨fun h=>by simp at h;omega,fun _=>⟨rfl,BT rfl⟩⟩
  |cons p rest V=>
   intro i hd;obtain⟨I,O,J⟩:=aF hd;have hp:=ht p (amn I);refine HF ?_;have U:D.af (.r [.z p.1,p.2.ar]) 0= .z p.1:=rfl;have Y:D.af (.r [.z p.1,p.2.ar]) 1=p.2.ar:=rfl;simp only[rk,hR.th,bm.xQ,amq,D4 I,aR J,bL J (n:=w.th.length),U,Y,D.bu,Wh.ek,Wh.mj,Wh.qy,hp.wk,aot,anE,amY,amF,an3];have A:¬(p.1≠r/\p.2.k=k/\(if b then p.2.tD=o else p.2.of=o))->aC pg mn [aj] (.bK 1 (cA (zJ R r k o b) (Rm R)) fun d=>D.bool d=bm.sY (p::rest) r k o b) (rN R r k o b ((i+1:Nat):Int)):=fun h=>by have e:bm.sY (p::rest) r k o b=bm.sY rest r k o b:=(by simp only[bm.sY,List.any_cons,h,ani,aoD]);rw[e];exact V (i+1) O
   have NH:(p.1≠r/\p.2.k=k/\(if b then p.2.tD=o else p.2.of=o))->bm.sY (p::rest) r k o b=true:=fun h=>by simp only[bm.sY,List.any_cons,anm h,apC]
   refine⟨fun _=>⟨fun _=>⟨fun _=>⟨fun a=>⟨fun c=>⟨fun hb=>⟨fun ho=>⟨rfl,BT (NH ⟨a,c,by rw[amu hb];exact ho⟩).symm⟩,fun ho=>A fun h=>?_⟩,fun hb=>⟨fun ho=>⟨rfl,BT (NH ⟨a,c,by rw[amt (by simp[hb])];exact ho⟩).symm⟩,fun ho=>A fun h=>?_⟩⟩,fun c=>A fun h=>c h.2.1⟩,fun a=>A fun h=>h.1 a⟩,fun h=>by simp at h;omega⟩,fun h=>by simp at h⟩,fun h=>by simp at h;omega⟩
   ·rw[amu hb]at h;exact ho h.2.2
   rw[amt (by simp[hb])]at h;exact ho h.2.2
 exact Y0 (loop w.th 0 rfl)
end
def aj2 (l:List Int)(hl:l.length<2^30):PH xz (ga (aY l)) [] 0 Ce (fun d=>D.bool d=qg l):=by
 have no:¬qg l=true->∃d,T.dV (BV.tuple [.gF,.int .i64 71],([]:List (Nat×aE))) (Ce (ga (aY l)) [] d)/\D.bool d=qg l:=fun h=>⟨.b false,.ff rfl .ret,by simpa using h⟩;have loop:∀(rest:List Int) (i:Nat),l.length<16->i<=l.length->l.drop i=rest->(∀(j:Nat) (x:Int),j<i->l[j]?=some x->0<=x/\x<=j)->
  aC pg xz [aW,bn] (.bK 0 (Ce (ga (aY l)) []) fun d=>D.bool d=qg l) (yS (aY l) i i (aY (l.take i))):=by
  intro rest
  induction rest with
  |nil=>intro i A Y hd hp;have hi:=drop_nil hd;have U:qg l=true:=(tA l).2 ⟨A,fun j x V=>hp j x (by have:=(amw.1 V).1;omega) V⟩;refine KI ?_;rw[bM (x:=((aY l).length:Int)+1) (by simp;omega) (by simp;omega)];simp only[rk,amm];refine⟨fun h=>by simp at h;omega,fun _=>⟨rfl,.b true,.tt rfl ?_,U.symm⟩⟩;have O:i=l.length:=(by omega);subst O;have e1:((l.length:Int)+1).toNat=(aY l).length+1:=(by simp);rw[ano,e1,show l.length=(aY l).length by simp];exact .ret
  |cons x rest ih=>
   intro i A Y hd hp;obtain⟨I,g2,Z⟩:=aF hd;refine KI ?_;simp only[rk,amm,amq,aR Z,bC (f:=D.z) I,bL Z (n:=l.length),D.bu,aml,amk];refine⟨fun _=>⟨fun _=>⟨fun h=>⟨rfl,no fun a=>by have:=((tA l).1 a).2 i x I;omega⟩,fun h=>⟨fun h2=>⟨rfl,no fun a=>by have:=((tA l).1 a).2 i x I;omega⟩,fun h2=>⟨fun _=>?_,fun hr=>?_⟩⟩⟩,fun h=>by simp at h⟩,fun h=>by omega⟩
   ·rw[rZ I];refine ih (i+1) A (by omega) g2 fun j y V J=>?_
    by_cases e:j=i
    ·subst e;rw[I]at J;cases J;omega
    exact hp j y (by omega) J
   simp[bh]at hr;omega
 refine afR ?_;simp only[rk,amm];refine⟨fun h=>⟨rfl,no fun a=>by have:=((tA l).1 a).1;simp at h;omega⟩,fun h=>⟨fun _=>⟨fun _=>loop l 0 (by simp at h;omega) (by omega) rfl (by intros;omega),fun h2=>?_⟩,fun h2=>?_⟩⟩
 ·simp[vQ]at h2;omega
 rw[bM]at h2;simp[vQ]at h2;omega
end
section
def X8 (a b:Int):(a==b)=decide (a=b):=rfl
def gy (k:Int):Bool:=decide (k=14\/k=15\/k=16)
def UW (k:Int):dZ pg zD [vT] [.z k] [aj] (·= .b (gy k)):=by
 refine adf ?_;simp only[rk,D.bu,amY,amF,an3,gy];exact⟨fun h=>by simp[h],fun h=>⟨fun h2=>by simp[h2],fun h2=>by simp[h,h2,X8]⟩⟩
def sZ (k:Int):dZ pg lC [ah] [.z k] [aj] (·= .b (gy k)):=by
 refine Ul ?_;simp only[rk,D.bu,amY,amF,an3,gy];exact⟨fun h=>by simp[h],fun h=>⟨fun h2=>by simp[h2],fun h2=>by simp[h,h2,X8]⟩⟩
def zQ (k:Int):Bool:=decide (k=6\/k=7\/k=9\/k=11)||gy k
def agO (k:Int):dZ pg DH [vT] [.z k] [aj] (·= .b (zQ k)):=by
 refine Zz ?_;simp only[rk,D.bu,amY,amF,an3,zQ];refine⟨fun h=>by simp[h],fun h=>⟨fun h2=>by simp[h2],fun h2=>⟨fun A=>by simp[A],fun A=>⟨fun I=>by simp[I],fun I=>⟨_,_,_,rfl,UW k,?_⟩⟩⟩⟩⟩;rintro _ rfl;simp[h,h2,A,I]
def xZ (k:Int):Bool:=decide (k=15\/k=16)
def agN (k:Int):dZ pg wu [vT] [.z k] [aj] (·= .b (xZ k)):=by
 refine Zy ?_;simp only[rk,D.bu,amY,amF,an3,xZ];exact⟨fun h=>by simp[h],fun h=>by simp[h,X8]⟩
def nQ (a b:Int):Int:=IntKind.u8.wrap ((BitVec.ofInt 8 a &&& ~~~ BitVec.ofInt 8 b).toNat:Int)
def NF (a b:Int):IntKind.u8.wrap ((BitVec.ofInt 8 a &&& ~~~ BitVec.ofInt 8 b).toNat:Int)=nQ a b:=rfl
def nT.get (t:nT)(o s:Int):Option Int:=match t with| []=>none|p::q=>if p.1=(o,s)then some p.2 else nT.get q o s
def D.aeK (a b c d:Int):D.Ht (.r [.z a,.z b]) (.r [.z c,.z d])=decide ((a,b)=(c,d)):=by
 unfold D.Ht
 by_cases h:(a,b)=(c,d)
 ·cases h;simp
 simp at h;simpa using h
def nT.ia (t:nT)(o s:Int):D.ia t.ar (.r [.z o,.z s])=(t.get o s).map D.z:=by
 induction t with
 |nil=>rfl
 |cons p q A=>
  simp only[nT.ar,anb,D.ia,D.aeK,nT.get]
  by_cases h:p.1=(o,s)
  ·simp[h]
  simp only[h,ani,ann];exact A
@[simp] def nT.i7 (t:nT)(o s:Int):D.i7 t.ar (.r [.z o,.z s])=(t.get o s).isSome:=by simp[D.i7,nT.ia]
def nT.val {t:nT}{o s r:Int}(h:t.get o s=some r):D.val t.ar (.r [.z o,.z s])= .z r:=by simp[D.val,nT.ia,h]
def nT.set (t:nT)(o s r:Int):nT:=match t with| []=>[]|p::q=>if p.1=(o,s)then (p.1,r)::nT.set q o s r else p::nT.set q o s r
def nT.mC (t:nT)(o s r:Int):D.mC t.ar (.r [.z o,.z s]) (.z r)=(t.set o s r).ar:=by
 induction t with
 |nil=>rfl
 |cons p q A=>
  simp only[nT.ar,anb,D.mC,D.aeK,nT.set]at A ⊢
  by_cases h:p.1=(o,s)
  ·simp[h,A]
  simp[h,A]
def nT.put (t:nT)(o s r:Int):nT:=if (t.get o s).isSome then t.set o s r else t++[((o,s),r)]
def nT.DK (t u:nT)(o s:Int):nT.get (t++u) o s=(t.get o s).or (u.get o s):=by
 induction t with
 |nil=>simp[nT.get]
 |cons p q A=>simp only[anM,nT.get];split<;>simp_all
def nT.DL (t:nT)(o s r o' s':Int):(t.set o s r).get o' s'=if (o',s')=(o,s)then (t.get o s).map fun _=>r else t.get o' s':=by
 induction t with
 |nil=>simp[nT.set,nT.get]
 |cons p q A=>
  simp only[nT.set,nT.get]
  by_cases h:p.1=(o,s)
  ·rw[amu h];simp only[nT.get]
   by_cases h2:p.1=(o',s')
   ·have e:(o',s')=(o,s):=(by rw[<-h2,h]);simp[h2,e]
   have e:¬(o',s')=(o,s):=fun e=>h2 (by rw[h,e]);rw[amt h2,A,amt e,amt e,amt h2]
  rw[amt h];simp only[nT.get]
  by_cases h2:p.1=(o',s')
  ·have e:¬(o',s')=(o,s):=fun e=>h (by rw[h2,e]);rw[amu h2,amt e,amu h2]
  rw[amt h2,A,amt h,amt h2]
def nT.iR (t:nT)(o s r o' s':Int):(t.put o s r).get o' s'=if (o',s')=(o,s)then some r else t.get o' s':=by
 unfold nT.put
 by_cases h:(t.get o s).isSome
 ·rw[amu h,nT.DL];obtain⟨q,A⟩:=amR.1 h;simp[A]
 rw[amt h,nT.DK];simp only[amR,not_exists]at h
 by_cases e:(o',s')=(o,s)
 ·cases e
  rw[amu rfl]
  cases I:t.get o s with
  |none=>simp[nT.get]
  |some q=>exact absurd I (h q)
 rw[amt e];have:nT.get [((o,s),r)] o' s'=none:=by simp[nT.get];intro h1 h2;exact e (by rw[h1,h2])
 rw[this];simp
section
variable {W:WS} {w:Wo} (hW:Lj W w)
include hW
def Wo.EW (w:Wo)(r:Int)(x:Wh)(a:Int):Bool:=
 if x.k=6 then decide (w.th.kind x.of=5/\(w.th.at x.of).h=x.h)&&!w.th.CS r 6 x.of
 else if x.k=7 then decide (w.th.kind x.of=5/\(w.th.at x.of).h=x.h)
 else if x.k=9 then decide (w.th.kind x.of=8/\(w.th.at x.of).h=x.h)
 else if x.k=11 then decide (w.th.kind x.of=10/\(w.th.at x.of).h=x.h)&&!w.th.CS r 11 x.of
 else if x.k=15 then decide (w.th.kind x.tD=13/\(w.th.at x.tD).h=x.h/\(w.th.get x.of).isSome=true/\(w.th.at x.tD).of=r)
 else if x.k=16 then decide (w.th.kind x.tD=3/\(w.th.at x.tD).h=x.h/\(w.th.get x.of).isSome=true)
 else if x.k=13 then decide (x.of=0\/w.th.kind x.of=15/\(w.th.at x.of).tD=r)
 else if x.k=14 then decide ((w.th.get x.of).isSome=true/\w.th.kind x.of≠14/\x.set≠a/\nQ x.set a=0/\(w.fa.get x.of x.set=none\/w.fa.get x.of x.set=some r))
 else true
theorem aji (h1:w.th.one)(r:Int)(x:Wh)(a:Int)(ha:x.k=14->∃n,w.th.BI n x.of 63=some a):
 PH CC (OH W r x.ar) (Wm W) 3 cA (fun d=>D.bool d=w.EW r x a):=by
 have I:∀v,v=w.EW r x a->JC.bK=some 3/\∃d,T.dV (BV.bool v,Wm W) (cA (OH W r x.ar) (Wm W) d)/\D.bool d=w.EW r x a:=fun v hv=>⟨rfl,BT hv⟩;have U:∀q,(w.th.get q).isSome=true->D.val w.th.ar (.z q)=(w.th.at q).ar:=fun q hq=>by obtain⟨y,hy⟩:=amR.1 hq;rw[bm.val hy];simp[bm.at,hy]
 have Z:∀q k,w.th.kind q=k->k≠0->(w.th.get q).isSome=true:=fun q k h J=>by
  unfold bm.kind at h
  cases hg:w.th.get q with
  |none=>rw[hg]at h;exact absurd h.symm J
  |some y=>rfl
 refine afG ?_;simp only[rk,hW.th,hW.fa,bm.i7,nT.i7,Wh.ek,Wh.rA,Wh.mj,Wh.qy,Wh.pe,NF,amY,amF,aot,anE,an3];refine⟨fun J=>⟨_,_,rfl,Dk hW x.of,?_⟩,fun n6=>⟨fun J=>⟨_,_,rfl,Dk hW x.of,?_⟩,fun n7=>⟨fun J=>⟨_,_,rfl,Dk hW x.of,?_⟩,fun n9=>⟨fun J=>⟨_,_,rfl,Dk hW x.of,?_⟩,fun b4=>⟨fun J=>⟨_,_,rfl,Dk hW x.tD,?_⟩,fun b1=>⟨fun J=>⟨_,_,rfl,Dk hW x.tD,?_⟩,fun b6=>⟨fun J=>⟨fun h0=>?_,fun h0=>⟨_,_,rfl,Dk hW x.of,?_⟩⟩,fun d0=>⟨fun J=>?_,fun a8=>?_⟩⟩⟩⟩⟩⟩⟩⟩
 ·intro d hd;rw[hd];refine⟨fun O=>⟨fun A=>⟨fun V=>⟨_,_,rfl,aas hW h1 r 6 x.of,?_⟩,fun V=>I _ ?_⟩,fun A=>?_⟩,fun O=>I _ ?_⟩
  ·intro d2 Y;rw[U _ A,Wh.rA]at V;exact I _ (by rw[Y];simp[Wo.EW,J,O,V])
  ·rw[U _ A,Wh.rA]at V;simp[Wo.EW,J,O,V]
  ·rw[Z _ _ O (by decide)]at A;cases A
  simp[Wo.EW,J,O]
 ·intro d hd;rw[hd];refine⟨fun O=>⟨fun A=>I _ ?_,fun A=>?_⟩,fun O=>I _ ?_⟩
  ·rw[U _ A,Wh.rA];simp[Wo.EW,J,O,X8]
  ·rw[Z _ _ O (by decide)]at A;cases A
  simp[Wo.EW,J,O]
 ·intro d hd;rw[hd];refine⟨fun O=>⟨fun A=>I _ ?_,fun A=>?_⟩,fun O=>I _ ?_⟩
  ·rw[U _ A,Wh.rA];simp[Wo.EW,J,O,X8]
  ·rw[Z _ _ O (by decide)]at A;cases A
  simp[Wo.EW,J,O]
 ·intro d hd;rw[hd];refine⟨fun O=>⟨fun A=>⟨fun V=>⟨_,_,rfl,aas hW h1 r 11 x.of,?_⟩,fun V=>I _ ?_⟩,fun A=>?_⟩,fun O=>I _ ?_⟩
  ·intro d2 Y;rw[U _ A,Wh.rA]at V;exact I _ (by rw[Y];simp[Wo.EW,J,O,V])
  ·rw[U _ A,Wh.rA]at V;simp[Wo.EW,J,O,V]
  ·rw[Z _ _ O (by decide)]at A;cases A
  simp[Wo.EW,J,O]
 ·intro d hd;rw[hd];refine⟨fun O=>⟨fun A=>⟨fun V=>⟨_,_,rfl,Lw hW x.of,?_⟩,fun V=>I _ ?_⟩,fun A=>?_⟩,fun O=>I _ ?_⟩
  ·intro d2 Y;rw[Y];rw[U _ A,Wh.rA]at V;refine⟨fun ho=>I _ ?_,fun ho=>I _ ?_⟩
   ·rw[U _ A,Wh.mj];simp[Wo.EW,J,O,V,ho,X8]
   simp[Wo.EW,J,O,V,ho]
  ·rw[U _ A,Wh.rA]at V;simp[Wo.EW,J,O,V]
  ·rw[Z _ _ O (by decide)]at A;cases A
  simp[Wo.EW,J,O]
 ·intro d hd;rw[hd];refine⟨fun O=>⟨fun A=>⟨fun V=>⟨_,_,rfl,Lw hW x.of,?_⟩,fun V=>I _ ?_⟩,fun A=>?_⟩,fun O=>I _ ?_⟩
  ·intro d2 Y;rw[U _ A,Wh.rA]at V;exact I _ (by rw[Y];simp[Wo.EW,J,O,V])
  ·rw[U _ A,Wh.rA]at V;simp[Wo.EW,J,O,V]
  ·rw[Z _ _ O (by decide)]at A;cases A
  simp[Wo.EW,J,O]
 ·exact I _ (by simp[Wo.EW,J,h0])
 ·intro d hd;rw[hd];refine⟨fun O=>⟨fun A=>I _ ?_,fun A=>?_⟩,fun O=>I _ ?_⟩
  ·rw[U _ A,Wh.qy];simp[Wo.EW,J,O,h0,X8]
  ·rw[Z _ _ O (by decide)]at A;cases A
  simp[Wo.EW,J,O,h0]
 ·obtain⟨n,hn⟩:=ha J;refine⟨_,_,rfl,ad1 hW x.of a n hn,?_⟩;intro d hd;rw[hd];have a7:∀q,w.fa.get x.of x.set=some q->D.int (D.val w.fa.ar (.r [.z x.of,.z x.set]))=q:=fun q hq=>by rw[nT.val hq];rfl
  refine⟨fun hf=>⟨_,_,rfl,Lw hW x.of,?_⟩,fun hf=>⟨_,_,rfl,Lw hW x.of,?_⟩⟩
  ·intro d2 Y;rw[Y];obtain⟨q,hq⟩:=amR.1 hf;refine⟨fun A=>⟨_,_,rfl,Dk hW x.of,?_⟩,fun A=>I _ (by simp[Wo.EW,J,A])⟩;intro d3 a6;rw[a6,a7 q hq];refine⟨fun a1=>⟨fun a2=>⟨fun a3=>I _ ?_,fun a3=>I _ ?_⟩,fun a2=>I _ ?_⟩,fun a1=>I _ ?_⟩
   ·by_cases e:q=r<;>simp[Wo.EW,J,A,hq,a1,a2,a3,e]
   ·simp[Wo.EW,J,A,hq,a1,a2,a3]
   ·simp[Wo.EW,J,A,hq,a1,a2]
   simp[Wo.EW,J,A,hq,a1]
  intro d2 Y;rw[Y];have hq:w.fa.get x.of x.set=none:=by simpa using hf
  refine⟨fun A=>⟨_,_,rfl,Dk hW x.of,?_⟩,fun A=>I _ (by simp[Wo.EW,J,A])⟩;intro d3 a6;rw[a6];refine⟨fun a1=>⟨fun a2=>⟨fun a3=>I _ ?_,fun a3=>I _ ?_⟩,fun a2=>I _ ?_⟩,fun a1=>I _ ?_⟩
  ·simp[Wo.EW,J,A,hq,a1,a2,a3]
  ·simp[Wo.EW,J,A,hq,a1,a2,a3]
  ·simp[Wo.EW,J,A,hq,a1,a2]
  simp[Wo.EW,J,A,hq,a1]
 exact I _ (by simp[Wo.EW,n6,n7,n9,b4,b1,b6,d0,a8])
def Wo.idx (w:Wo)(r:Int)(x:Wh):nT:=if x.k=14 then w.fa.put x.of x.set r else w.fa
theorem aar (r:Int)(x:Wh)(O:w.th.get r=some x):PH tm (oQ W r) (Wm W) 3 Cc (fun d=>oS (D.af d 0)=(w.idx r x).ar):=by
 have A:∀(m:List (D×D)) (st:List Nat) (c:Nat),m=(w.idx r x).ar->Gy.bK=some 3/\∃d,T.dV (BV.tuple [],Wm (WS.mk W.pa W.cu W.th W.st W.ck m st c W.la W.ma)) (Cc (oQ W r) (Wm W) d)/\oS (D.af d 0)=(w.idx r x).ar:=fun m st c U=>by
  refine⟨rfl,.r [VB m,VC st,.z c],bD.2 ?_,?_⟩
  ·simp only[D.af,D.aK,D.at,anB,an5,xr,JQ,JP];rfl
  simp only[D.af,D.aK,D.at,anB,xr];exact U
 have V:D.val W.th (.z r)=x.ar:=by rw[hW.th];exact bm.val O
 have Y:D.i7 W.th (.z r)=true:=by rw[hW.th];simp[O]
 refine acE ?_;simp only[rk,V,Y,hW.fa,nT.i7,nT.mC,Wh.ek,Wh.mj,Wh.pe,amY,amF,an3,amA,amx,amy,amS];refine⟨fun I=>⟨fun J=>A _ _ _ ?_,fun J=>A _ _ _ ?_⟩,fun I=>?_⟩
 ·simp[Wo.idx,I,nT.put,J]
 ·simp[Wo.idx,I,nT.put,J,nT.ar]
 have:=A W.fa W.sf W.cf (by simp[Wo.idx,I,hW.fa]);exact this
end
end
end Go.Proofs
end
