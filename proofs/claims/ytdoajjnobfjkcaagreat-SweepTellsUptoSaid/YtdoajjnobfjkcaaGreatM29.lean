import Derived.Test.YtdoajjnobfjkcaaGreatM28
set_option linter.all false
noncomputable section
namespace Go.Proofs
open Go Go.PB
section
def qG {f:FuncId}{ags ags':List BV}{L L':List (Nat×aI)}{p:Nat}{R:RH}{Q:D->Prop}(h1:ags=ags')(h2:L=L')(h:PH f ags' L' p R Q):PH f ags L p R Q:=by
 subst h1 h2;exact h
def Zt {f:FuncId}{ts rs:List TypeId}{ds ds':List D}{Q:D->Prop}(h1:ds=ds')(h:fk pg f ts ds' rs Q):fk pg f ts ds rs Q:=by
 subst h1;exact h
def oF:Wh:=⟨1,0,.zero,[],0,0,0,0,0,false,[],[]⟩
def Gu:oF.ok:=by
 exact⟨by decide,by decide,by decide,by decide,aE.p6,by decide,fun _ h=>(by cases h),by decide,by decide,by decide,by decide,by decide,by decide,by decide,by decide,by decide,by decide,by decide,fun _ h=>(by cases h),by decide,fun _ h=>(by cases h)⟩
def Gv:oF.sz<2^30:=by decide
def Gt:∀v∈oF.aJ,v.cN=true:=by decide
def adw (n:Int)(h:0<n):oF.CM n=true:=by
 rw[Wh.z8]
 refine⟨⟨by decide,rfl,fun _=>⟨by decide,h⟩,by decide,by decide,by decide,by decide,by decide,by decide,by decide⟩,by decide⟩
section
variable {W:WS} {x:Wl} {f:gX}
def MP (hW:zC W (x.wo f))(h1:x.an.one)(hla:0<=x.la/\x.la<2^62)(hno:x.an.get (x.la+1)=none)(m:Int)(r:List Int)(hma:x.ma=m::r)(hm:0<=m/\m<512)(hr:∀a∈r,0<=a/\a<2^62):
 PH ug (OX W) (Wm W) 3 F1 (fun d=>(d.aa 8).int=x.la+1/\(d.aa 9).int=0/\zC (EA W d) ((x.LJ oF).wo f)):=by
 have hWma:W.ma=aw x.ma:=hW.ma
 refine Y0 ?_
 simp only[rk]
 refine⟨_,_,rfl,qG (by kernel_rfl) rfl (Xx hW oF Gu Gv),?_⟩
 intro d0 hd0
 rw[hd0,adw _ (by show (0:Int)<(x.ma.length:Int);rw[hma];simp)]
 refine⟨fun h=>(by cases h),fun _=>⟨_,_,rfl,qG (by kernel_rfl) rfl (TX hW oF Gu Gv Gt),?_⟩⟩
 intro d1 hd1
 have hn:(x.wo f).th.CW oF=true:=rfl
 rw[hd1,hn]
 refine⟨fun h=>(by cases h),fun _=>⟨_,_,_,rfl,Rn 1,?_⟩⟩
 rintro _ rfl
 refine⟨fun h=>(by cases h),fun _=>⟨_,_,_,rfl,Rl 1,?_⟩⟩
 rintro _ rfl
 refine⟨fun h=>(by cases h),fun _=>⟨_,_,rfl,qG (by kernel_rfl) rfl (Xw hW (by exact h1) 0 oF 0 (fun h=>by cases h)),?_⟩⟩
 intro d2 hd2
 have hf:(x.wo f).B5 0 oF 0=true:=rfl
 rw[hd2,hf]
 have e0:D.at W.ma 0= .z m:=by rw[hWma,hma];rfl
 have el:W.ma.length=r.length+1:=by rw[hWma,hma];simp
 refine⟨fun h=>(by cases h),fun _=>⟨fun _=>⟨fun _=>⟨fun h=>?_,fun _=>?_⟩,fun h=>by rw[el]at h;simp at h⟩,fun h=>by rw[el]at h;simp[cP]at h⟩⟩
 ·rw[e0]at h;simp only[D.bV,agW]at h;omega
 ·refine⟨_,_,_,rfl,Zt (by kernel_rfl) (Ef oF Gu Gv Gt),?_⟩
  rintro _ rfl
  rw[Wh.re]
  refine⟨_,_,rfl,acA hW oF hla hno (fun _=>⟨by decide,by rw[hma];simp[oF],fun a ha=>?_⟩),?_⟩
  ·rw[hma]at ha
   rcases ag9.1 ha with rfl|ha
   ·omega
   ·exact hr a ha
  ·rintro d ⟨k1,f',k3,k2⟩
   have k3:=k3 (by decide)
   subst k3
   refine⟨rfl,F8 (EA W d) (d.aa 8).int 0,?_,k1,rfl,?_⟩
   ·simp only[F1,Ns,Nt,Nu,Nv,Nw,Ny,Nz,NA,RK,XJ]
    exact .ret
   ·rw[RL W (EA W d) _ _ rfl rfl];exact k2
end
def x0:Wl:=⟨[],[],[],0,[0]⟩
def Vf:Wh:=⟨14,0,.zero,[],0,0,1,0,1,false,[],[]⟩
def x3:Wl:=((x0.LJ oF).LJ oF).LJ Vf
def UQ:Su:=⟨0,[],[⟨[120],⟨4,0,[],[],1⟩⟩],[1]⟩
def Rr:x3.th=[⟨1,oF⟩,⟨2,oF⟩,⟨3,Vf⟩]:=rfl
def aec:Vf.ok:=by
 exact⟨by decide,by decide,by decide,by decide,aE.p6,by decide,fun _ h=>(by cases h),by decide,by decide,by decide,by decide,by decide,by decide,by decide,by decide,by decide,by decide,by decide,fun _ h=>(by cases h),by decide,fun _ h=>(by cases h)⟩
def Lz {P:En->Prop}(h1:P ⟨1,oF⟩)(h2:P ⟨2,oF⟩)(h3:P ⟨3,Vf⟩):∀e∈x3.th,P e:=by
 rw[Rr]
 intro e he
 simp only[ag9,aiy,ajk]at he
 rcases he with rfl|rfl|rfl<;>assumption
def aah {r q:Int}(h:x3.YQ r q):q=1:=by
 obtain⟨y,h1,h2⟩:=h
 have h1:=Wl.jF h1
 have:(∀e∈x3.th,(q∈aE.bD e.w.aJ\/q∈e.w.eM)->q=1):=Lz (fun h=>by simp[oF,Wh.aJ,Wh.eM,aE.bD,aE.dt,aE.zero]at h) (fun h=>by simp[oF,Wh.aJ,Wh.eM,aE.bD,aE.dt,aE.zero]at h) (fun h=>by simpa [Vf,Wh.aJ,Wh.eM,aE.bD,aE.dt,aE.zero]using h)
 exact this _ h1 h2
def HD:x3.O6:=by
 refine⟨⟨by decide,by decide,fun c h=>(by cases h),D8.2 (by decide),by decide,D8.2 (by decide),Lz ⟨Gu,Gv,Gt⟩ ⟨Gu,Gv,Gt⟩ ⟨aec,by decide,by decide⟩⟩,⟨?_,?_,?_,Lz rfl rfl rfl,?_,?_,?_,?_,?_,?_,?_,?_,?_⟩,by decide,?_⟩
 ·show (x3.an.map (·.1)).Nodup
  decide
 all_goals first| (refine Lz ?_ ?_ ?_<;>(try unfold Wl.is)<;>decide)|skip
 intro r q h
 rw[aah h]
 unfold Wl.is
 decide
def aen:ga.ok ⟨[120],⟨4,0,[],[],1⟩⟩:=⟨by decide,by rw[aE.gL];simp[aE.k,aE.n,aE.s,aE.l,aE.r]⟩
def Z5:SuS [UQ]:=by
 refine⟨by decide,fun s h=>?_,by decide⟩
 simp only[ag9,aiy,ajk]at h
 subst h
 refine⟨⟨⟨by decide,by decide,by decide,fun _ h=>(by cases h),by decide,fun n h=>?_,by decide,fun n h=>?_⟩,by decide,by decide,by decide,fun n h=>?_,by decide⟩,by decide⟩
 ·simp only[UQ,ag9,aiy,ajk]at h;subst h;exact aen
 ·simp only[UQ,ag9,aiy,ajk]at h;subst h;decide
 ·simp only[UQ,ag9,aiy,ajk]at h;subst h;decide
def aag:[UQ].all x3.cN=true:=by
 simp only[akw,List.all_nil,aib]
 rw[Wl.cW]
 refine⟨by decide,by decide,by decide,⟨by decide,by decide⟩,fun n h r hr=>?_⟩
 simp only[UQ,ag9,aiy,ajk]at h;subst h
 simp only[aE.dt,aE.bD,ahz,ahM,ag9,aiy,ajk]at hr
 subst hr;decide
def aeJ {q:Int}(h:x3.LC (gi [UQ]) q):q=1:=by
 induction h with
 |az h=>
  have:gi [UQ]=[1]:=by decide
  rw[this]at h;simpa using h
 |step _ hn _=>exact aah hn
def Rq (q:Int):x3.ln [UQ] q↔q=1\/q=3:=by
 constructor
 ·intro h
  have h:x3.Gr (·∈[1,3]) q:=h.bind fun q hq=> .az (by rw[aeJ hq];decide)
  have:=h.aey (Lz (by unfold LF;decide) (by unfold LF;decide) (by unfold LF;decide))
  simpa using this
 ·have b:x3.ln [UQ] 1:= .az (.az (by decide))
  rintro(rfl|rfl)
  ·exact b
  ·exact .Ve (e:=⟨3,Vf⟩) (by rw[Rr];simp) rfl b
def acv:x3.fL [UQ]=[1,3]:=by
 classical
 rw[<-Wl.N4 (s:=[1,3]) (fun q=>by rw[Rq];simp),Rr];rfl
def acw:x3.ah [UQ]=[2]:=by
 classical
 rw[<-Wl.UH (s:=[1,3]) (fun q=>by rw[Rq];simp),Rr];rfl
def acu:(x3.drop [2]).th.length=2:=by
 simp only[Wl.drop,Rr];rfl
def PK:PH kr xP xR 0 tS (fun d=>D.bool d=true):=by
 refine Qh ?_
 simp only[rk]
 refine⟨_,_,rfl,adf [] (by decide),?_⟩
 intro d0 hd0
 rw[hd0]
 refine⟨fun _=>?_,fun h=>absurd h (by decide)⟩
 have r0:zC (WS.mk [] (List.replicate 1 (D.b false)) [] [] 0 [] [] 0 0 (List.replicate 1 (D.z 0))) (x0.wo []):=⟨rfl,rfl,rfl,rfl,rfl,rfl⟩
 refine⟨_,_,rfl,qG (by kernel_rfl) (by kernel_rfl) (MP r0 (by unfold aV.one;decide) (by decide) rfl 0 [] rfl (by decide) (by decide)),?_⟩
 rintro d1 ⟨a1,a2,a3⟩
 refine⟨_,_,rfl,qG (by kernel_rfl) (by kernel_rfl) (MP a3 (by unfold aV.one;decide) (by decide) rfl 1 [] rfl (by decide) (by decide)),?_⟩
 rintro d2 ⟨b1,b2,b3⟩
 rw[a1,a2]
 refine⟨_,_,rfl,qG (by kernel_rfl) (by kernel_rfl) (aax b3 ⟨1,oF⟩ rfl (by decide) 1 (by decide) (by decide) rfl (by decide) rfl),?_⟩
 rintro d3 ⟨c1,c2,f',c3⟩
 have c3:zC _ (x3.wo f'):=c3
 refine⟨_,_,rfl,qG (by kernel_rfl) (by kernel_rfl) (ZO HD.Ju HD.len c3 HD.Rz.Mz HD.la [UQ] Z5),?_⟩
 intro d4 hd4
 obtain⟨e1,e2⟩:=FX hd4
 rw[ag8 aag]at e1 e2
 refine⟨_,_,rfl,qG (by kernel_rfl) (by kernel_rfl) (UK HD [UQ] Z5 c3),?_⟩
 intro d5 hd5
 simp only[QS]at hd5
 rw[ag8 aag,acw]at hd5
 obtain⟨g1,g2,g3,_⟩:=hd5
 have g4:(cn (D.aa d5 2)).length=2:=by rw[g3];simp[aV.ax,Wl.an,acu]
 rw[b1,b2,c1,c2,e1,e2,acv,g1,g2,g4]
 have bj:tZ.bx=some 0/\∃d,T.dy (BV.bool true,([]:List (Nat×aI))) (tS xP xR d)/\D.bool d=true:=⟨rfl,.b true,.ret,rfl⟩
 simp[x0,Wl.LJ,aw,cP,D.at]
 exact bj
end
end Go.Proofs
namespace Go.Proofs
open Go Go.PB Go.ChangeShapes Go.WideShapes Go.RowKit
def agk:List TypeId:=[bu,eg,br,bF,aH,iF,av,ba,aG,Bz,Dn,OL,aW,bK,ke,dE,IF,gD,bX,ai,cC,aA,W0,af,lO,lM,tOp,FE,ID]
def QN:Zs pg agk=true:=by kernel_rfl
def dW:cQ pg bu=true:=by kernel_rfl
def dU:cQ pg eg=true:=by kernel_rfl
def gU:il pg eg=some false:=by kernel_rfl
def sU (d:D):cj pg eg d= .bw br d.ae:=by kernel_rfl
set_option maxRecDepth 100000 in
def agT {H:Type}{ax:TypeId×Value->H}{w:World}{sp:Nat->Bool}{r:Reach}{az:Nat}{args:Array Value}{ds:List (DataW H)}{p:List MemPlace}{ub:DataW H->Nat}{uba:List (DataW H)->Nat}(hb:Xi ub uba)
 (hw:∀v,args[0]?=some v->Value.okWide pg w r az bu v)(hs:∀v,args[1]?=some v->Value.okWide pg w r az eg v)
 (hA:DataW.TrodAll ax pg w 0 sp true [bu,eg] args.toList ds p)(hu:uba ds<=1048576):
 Calls pg fw args w fun e w'=>e= .returned (.bool true)/\Eh w w':=by
 obtain⟨args⟩:=args
 obtain⟨v0,vr,d0,dr,p0,q,e1,rfl,rfl,h0,hA⟩:=trodAll_cons hA
 obtain⟨v1,vr,d1,dr,p1,q,rfl,rfl,rfl,h1,hA⟩:=trodAll_cons hA
 obtain⟨rfl,rfl,rfl⟩:=trodAll_nil hA
 replace e1:args=[v0,v1]:=e1
 subst e1
 have hw0:=hw v0 (by simp)
 have hs0:=hs v1 (by simp)
 obtain⟨cs,rfl,_⟩:∃cs,v0= .agg cs/\cs.size=pg.cellsOf bu:=by
  have hf:=f7
  unfold KG at hf
  cases hp:pg.underlying bu with
  |none=>rw[hp]at hf;cases hf
  |some td=>
   rw[hp]at hf
   cases td<;>try (cases hf;done)
   exact okWide_struct hp hw0
 obtain⟨a,len,cap,rfl⟩:=okWide_slice lU hs0
 obtain⟨n0,h0⟩:=h0
 obtain⟨n1,h1⟩:=h1
 obtain⟨x0,g0,c0,b0⟩:=UF QN hb n0 bu _ _ (.head _) h0
 obtain⟨x1,g1,c1,b1⟩:=UF QN hb n1 eg _ _ (.tail _ (.head _)) h1
 obtain⟨x,rfl,hx⟩:=agu _ _ c0
 obtain⟨l,rfl,hl,hl2⟩:=fP (f:=Su.ax) (Q:=Su.ok) lU c1 fun j _ y hy=>ago _ _ hy
 rw[hb.cons,hb.cons,hb.cX]at hu
 dsimp only at b0 b1
 rw[D.iA]at b1
 have hlen:=qn (l.map Su.ax)
 rw[agV]at hlen
 obtain⟨k1,k2⟩:=Vj l hl2 (by omega)
 refine Wr (TH PK x l (Wl.Z0 hx (by omega)) (by omega) k1 (by omega)) (fun y d h=>?_) ?_
 ·simp only[gZ]at h
  exact bm.1 h
 ·refine⟨_,_,rfl,?_,_,_,rfl,?_,rfl⟩
  ·exact⟨cs,rfl,nG.yU dW g0⟩
  ·have:=aaF dU gU g1
   rw[sU]at this
   exact this
end Go.Proofs
end
