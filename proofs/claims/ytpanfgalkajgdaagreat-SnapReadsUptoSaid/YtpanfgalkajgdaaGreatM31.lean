import Derived.Test.YtpanfgalkajgdaaGreatM30
set_option linter.all false
noncomputable section
namespace Go.Proofs
open Go Go.PB Go.ChangeShapes Go.WideShapes Go.RowKit
def ai6:List TypeId:=[aM,cR,cP,br,aV,bF,aU,dG,ak,aJ,aI,kG,jW,zl,dH,aQ,fw,dn,D7,fY,aq,aj,cq,bW,QO,ah,vT,ot,tOp,Jc,Mz]
def KV:af4 pg ai6=true:=by kernel_rfl
def dW:cZ pg aM=true:=by kernel_rfl
def dU:cZ pg br=true:=by kernel_rfl
def gU:jw pg br=some false:=by kernel_rfl
def sU (d:D):de pg br d= .bx aV d.ae:=by kernel_rfl
def dC:cZ pg aQ=true:=by kernel_rfl
def gC:jw pg aQ=some false:=by kernel_rfl
def sC (d:D):de pg aQ d= .bx aJ d.ae:=by kernel_rfl
def dP:cZ pg cR=true:=by kernel_rfl
def gP:jw pg cR=some false:=by kernel_rfl
def sP (d:D):de pg cR d= .bx cP d.ae:=by kernel_rfl
def lP:pg.underlying cR=some (.slice cP):=by kernel_rfl
set_option maxRecDepth 100000 in
def amj {H:Type}{ar:TypeId×Value->H}{w:World}{sp:Nat->Bool}{r:Reach}{aD:Nat}{args:Array Value}{ds:List (DataW H)}{p:List MemPlace}{ub:DataW H->Nat}{uba:List (DataW H)->Nat}(hb:adR ub uba)
 (hw:∀v,args[0]?=some v->Value.okWide pg w r aD aM v)(hs:∀v,args[1]?=some v->Value.okWide pg w r aD br v)
 (hc:∀v,args[2]?=some v->Value.okWide pg w r aD aQ v)(hp:∀v,args[3]?=some v->Value.okWide pg w r aD cR v)
 (ht:∀v,args[4]?=some v->Value.okWide pg w r aD aq v)
 (A:DataW.TrodAll ar pg w 0 sp true [aM,br,aQ,cR,aq] args.toList ds p)(hu:uba ds<=1048576):
 Calls pg nZ args w fun e w'=>e= .returned (.bool true)/\EG w w':=by
 obtain⟨args⟩:=args;obtain⟨v0,I,d0,J,p0,q,Z,rfl,rfl,h0,A⟩:=trodAll_cons A;obtain⟨v1,I,d1,J,p1,q,rfl,rfl,rfl,h1,A⟩:=trodAll_cons A;obtain⟨v2,I,d2,J,p2,q,rfl,rfl,rfl,h2,A⟩:=trodAll_cons A;obtain⟨v3,I,d3,J,p3,q,rfl,rfl,rfl,Y,A⟩:=trodAll_cons A;obtain⟨v4,I,d4,J,p4,q,rfl,rfl,rfl,h4,A⟩:=trodAll_cons A;obtain⟨rfl,rfl,rfl⟩:=trodAll_nil A;replace Z:args=[v0,v1,v2,v3,v4]:=Z;subst Z;have a6:=hw v0 (by simp);have a7:=hs v1 (by simp);have O:=hc v2 (by simp);have b4:=hp v3 (by simp);obtain⟨cs,rfl,_⟩:∃cs,v0= .agg cs/\cs.size=pg.cellsOf aM:=by
  have hf:=f7;unfold PW at hf
  cases hp:pg.underlying aM with
  |none=>rw[hp]at hf;cases hf
  |some td=>
   rw[hp]at hf
   cases td<;>try (cases hf;done)
   exact okWide_struct hp a6
 obtain⟨a,len,cap,rfl⟩:=okWide_slice lU a7;obtain⟨a2,b6,d7,rfl⟩:=okWide_slice lS O;obtain⟨a3,d6,d5,rfl⟩:=okWide_slice lP b4;obtain⟨o,rfl,rfl,rfl,_⟩:=Go.ChangeMaps.open_string uT (ht v4 (by simp)) h4;obtain⟨⟨o⟩⟩:=o;obtain⟨n0,h0⟩:=h0;obtain⟨n1,h1⟩:=h1;obtain⟨n2,h2⟩:=h2;obtain⟨n3,Y⟩:=Y;obtain⟨x0,g0,c0,b0⟩:=OC KV hb n0 aM _ _ (.head _) h0;obtain⟨x1,g1,c1,b1⟩:=OC KV hb n1 br _ _ (.tail _ (.tail _ (.tail _ (.head _)))) h1;obtain⟨x2,g2,c2,b2⟩:=OC KV hb n2 aQ _ _ (by simp[ai6]) h2;obtain⟨x3,g3,c3,b3⟩:=OC KV hb n3 cR _ _ (.tail _ (.head _)) Y;obtain⟨x,rfl,hx⟩:=alN _ _ c0;obtain⟨l,rfl,hl,U⟩:=ij (f:=Su.ar) (Q:=Su.ok) lU c1 fun j _ y hy=>alH _ _ hy;obtain⟨c,rfl,a8,V⟩:=ij (f:=St.ar) (Q:=St.ok) lS c2 fun j _ y hy=>agF _ _ hy;rw[hb.cons,hb.cons,hb.cons,hb.cons,hb.cons,hb.cS]at hu;dsimp only at b0 b1 b2;rw[D.bZ]at b1 b2;refine adg (adA x (Wl.C9 hx (by omega)) (by omega) l (by omega) (fun s hs=>Su.akP (U s hs) ?_) c ⟨a8,V⟩ (by omega) x3.ae o) (fun y d h=>?_) ?_
 ·have:=tg (an6 (f:=Su.ar) hs);omega
 ·simp only[bg]at h;exact bD.1 h
 refine⟨_,_,rfl,?_,_,_,rfl,?_,_,_,rfl,?_,_,_,rfl,?_,_,_,rfl,rfl,rfl⟩
 ·exact⟨cs,rfl,qk.shape dW g0⟩
 ·have:=Tn dU gU g1;rw[sU]at this;exact this
 ·have:=Tn dC gC g2;rw[sC]at this;exact this
 have:=Tn dP gP g3;rw[sP]at this;exact this
end Go.Proofs
end
