import Derived.Test.YtemiekpfokoplaaGreatM20
set_option linter.all false
noncomputable section
namespace Go.Proofs
open Go Go.PB
def xu (x:Ex)(m k:Int):Prop:=x.og=true/\(x.size:Int)<=m/\(x.ya:Int)<=k
def Jp (l:List Ex)(m k:Int):Prop:=Ex.lu l=true/\(Ex.bI l:Int)<=m/\(Ex.oM l:Int)<=k
def Ng (x:Ex)(m k:Int)(d:D):Prop:=((d.ae 0).bool=true↔xu x m k)/\(xu x m k->(d.ae 1).int=m-x.size)
def acf {x:Ex}{m k:Int}{b:Bool}{n:Int}(h1:b=true↔xu x m k)(h2:xu x m k->n=m-x.size):
 ∃d,T.dm (BV.bool b,[(0,ax.cells [.int .i64 n] ah false)]) (T.ret (BV.bool (d.ae 0).bool,[(0,ax.cells [.int .i64 (d.ae 1).int] ah false)]))/\Ng x m k d:=⟨.r [.b b,.z n],.ret,h1,h2⟩
def Gi (l:List Ex)(m k:Int)(b:Bool)(n:Int):Prop:=(b=false↔Jp l m (k-1))/\(Jp l m (k-1)->n=m-Ex.bI l)
def Tx (x:Ex):∀m k:Int,x.ok->x.size<2^30->0<=m->m<=600->0<=k->k<=16->
 PH mG (sQ x.az m k) (sV x.az m k) 1 mA (Ng x m k):=by
 induction x using Ex.ind with|h x ih=>
 intro m k hx hs h0 h1 h2 h3
 have hse:=x.gj
 have hde:=x.S9
 have hfe:=x.Hl
 have hok:=(Ex.lH x).1 hx
 have loop:∀(m0:Int) (rest:List Ex) (i:Nat) (n:Int),0<k->0<=n->n<=600->x.l.drop i=rest->
  aC pg gv [ah] (.bu 3 (nT (nR (x.l.map Ex.az) m0 k) (nS (x.l.map Ex.az) m0 k)) (fun d=>Gi rest n k (decide (0<=(d.ae 0).int)) (d.ae 1).int)) (gF (x.l.map Ex.az) m0 k i n):=by
  intro m0 rest
  induction rest with
  |nil=>
   intro i n hk hn0 hn hd
   have:=drop_nil hd
   refine qV ?_
   simp only[rk,aeW]
   refine⟨fun h=>by simp at h;omega,fun _=>⟨rfl,.r [.z (-1),.z n],.ret,?_⟩⟩
   simp[Gi,Jp,Ex.bI,Ex.oM,Ex.lu,D.ae,D.at]
   omega
  |cons y rest ihr=>
   intro i n hk hn0 hn hd
   obtain⟨g1,g2,g3⟩:=aI hd
   have hy:=aeU g1
   have hsy:=Ex.fh hy
   have hpy:0<y.size:=by have:=y.gj;omega
   refine qV ?_
   simp[-exists_and_left,g3,aY,bS g1,bO g3 hx.len]
   rw[bL (x:=k-1) (by omega) (by omega)]
   refine⟨_,_,rfl,ih y hy n (k-1) (hx.mem hy) (by omega) hn0 (by omega) (by omega) (by omega),?_⟩
   rintro d ⟨q1,q2⟩
   have hrw:∀a b,Gi (y::rest) n k a b↔((a=false↔((y.og&&Ex.lu rest)=true/\((y.size+Ex.bI rest:Nat):Int)<=n/\((max y.ya (Ex.oM rest):Nat):Int)<=k-1))/\(((y.og&&Ex.lu rest)=true/\((y.size+Ex.bI rest:Nat):Int)<=n/\((max y.ya (Ex.oM rest):Nat):Int)<=k-1)->b=n-((y.size+Ex.bI rest:Nat):Int))):=fun a b=>Iff.rfl
   refine⟨fun hb=>⟨rfl,.r [.z i,.z (d.ae 1).int],.ret,?_⟩,fun hb=>?_⟩
   ·have hno:¬xu y n (k-1):=fun h=>by rw[q1.2 h]at hb;cases hb
    rw[hrw]
    simp only[xu,aeV]at hno ⊢
    have e0:decide (0<=D.int (D.ae (.r [.z (i:Int),.z (d.ae 1).int]) 0))=true:=by show decide (0<=(i:Int))=true;simp
    rw[e0]
    exact⟨⟨fun a=>by simp at a,fun a=>(hno ⟨a.1.1,by omega,by omega⟩).elim⟩,fun a=>(hno ⟨a.1.1,by omega,by omega⟩).elim⟩
   ·have hyes:=q1.1 hb
    have e:=q2 hyes
    simp only[xu]at hyes
    have:=ihr (i+1) (d.ae 1).int hk (by omega) (by omega) g2
    refine aC.BL ?_ this
    intro d2 hq
    rw[hrw]
    simp only[Gi,Jp,aeV]at hq ⊢
    rw[e]at hq
    refine⟨hq.1.trans ⟨fun a=>⟨⟨hyes.1,a.1⟩,by omega,by omega⟩,fun a=>⟨a.1.2,by omega,by omega⟩⟩,fun a=>by have:=hq.2 ⟨a.1.2,by omega,by omega⟩;omega⟩
 have cont:∀m0:Int,0<k->0<=m0->m0<=600->PH aW (p6 (x.l.map Ex.az) m0 k) (qc (x.l.map Ex.az) m0 k) 3 eS
  (fun d=>Gi x.l m0 k (d.ae 0).bool (d.ae 1).int):=by
  intro m0 hk a b
  refine Al ?_
  simp only[rk]
  refine⟨_,_,rfl,C0 (loop m0 x.l 0 m0 hk a b rfl),?_⟩
  intro d hd
  exact⟨rfl,.r [.b _,.z _],.ret,hd⟩
 have hsl:=Ex.dx x.l
 refine OB ?_
 rw[bL (x:=m-1) (by omega) (by omega)]
 simp only[rk,Ex.fA,Ex.wB,Ex.Hk,Ex.Bq,aeW,aeT,aeS]
 refine⟨fun h=>⟨rfl,acf ?_ ?_⟩,fun hm=>?_⟩
 ·simp only[xu,ae0,false_iff];omega
 ·simp only[xu];omega
 have bE:∀b:Bool,(b=true↔xu x m k)->(b=true->x.k≠3)->mC.bu=some 1/\∃d,T.dm (BV.bool b,[(0,ax.cells [.int .i64 (m-1)] ah false)]) (mA (sQ x.az m k) (sV x.az m k) d)/\Ng x m k d:=fun b h e=>⟨rfl,acf h fun g=>by
  have hl:x.l=[]:=Ex.zY (by have:=g.1;rw[hfe,aeV]at this;exact this.2) (e (h.2 g))
  rw[hl]at hse;simp only[Ex.bI]at hse;omega⟩
 have finL:x.k≠3->∀b:Bool,b=x.jv->mC.bu=some 1/\∃d,T.dm (BV.bool b,[(0,ax.cells [.int .i64 (m-1)] ah false)]) (mA (sQ x.az m k) (sV x.az m k) d)/\Ng x m k d:=fun hk b hb=>bE b (by
  rw[hb]
  constructor
  ·intro g
   have hl:x.l=[]:=Ex.zY g hk
   rw[aeX hk]at hde
   rw[hl]at hse hfe
   simp only[Ex.bI]at hse
   refine⟨?_,by omega,by omega⟩
   rw[hfe,g];rfl
  ·intro g
   have:=g.1
   rw[hfe,aeV]at this
   exact this.2) (fun _=>hk)
 by_cases k1:x.k=1
 ·have hf:x.jv=(x.s==[]&&x.l.length==0):=by simp[Ex.jv,k1]
  simp[k1]
  exact⟨fun a=>finL (by omega) _ (by rw[hf];simp;intro _ e;simp[e]at a),fun a=>⟨fun b=>finL (by omega) _ (by simp[hf,b]),fun b=>finL (by omega) _ (by simp[hf,a,b])⟩⟩
 by_cases k2:x.k=2
 ·have hf:x.jv=(x.n==0&&decide (x.s.length<=256)&&x.l.length==0):=by simp[Ex.jv,k2]
  simp[k2]
  exact⟨fun a=>finL (by omega) _ (by simp[hf,a]),fun a=>⟨fun b=>finL (by omega) _ (by rw[hf];simp;intro _ _ e;simp[e]at b),fun b=>finL (by omega) _ (by simp[hf,a,b];omega)⟩⟩
 by_cases k3:x.k=3
 ·have hf:x.jv=(x.n==0&&x.s==[]):=by simp[Ex.jv,k3]
  rw[aeZ k3]at hde
  simp[-exists_and_left,k3]
  have no:¬xu x m k->mC.bu=some 1/\∃d,T.dm (BV.bool false,[(0,ax.cells [.int .i64 (m-1)] ah false)]) (mA (sQ x.az m k) (sV x.az m k) d)/\Ng x m k d:=fun h=>bE false (by simp[h]) (by simp)
  refine⟨fun a=>no ?_,fun a=>⟨fun b=>no ?_,fun b=>⟨fun c=>⟨_,_,rfl,cont (m-1) c (by omega) (by omega),?_⟩,fun c=>no ?_⟩⟩⟩
  ·intro g;have:=g.1;rw[hfe,hf]at this;simp[a]at this
  ·intro g;have:=g.1;rw[hfe,hf]at this;simp[b]at this
  ·intro d hq
   have hf2:x.og=Ex.lu x.l:=by rw[hfe,hf];simp[a,b]
   simp only[Gi,Jp]at hq
   refine⟨rfl,acf ?_ ?_⟩
   ·rw[afu,hq.1]
    simp only[xu,hf2]
    exact⟨fun g=>⟨g.1,by omega,by omega⟩,fun g=>⟨g.1,by omega,by omega⟩⟩
   ·intro g
    simp only[xu,hf2]at g
    have:=hq.2 ⟨g.1,by omega,by omega⟩
    omega
  ·intro g;have:=g.2.2;omega
 by_cases k4:x.k=4
 ·have hf:x.jv=(x.n==0&&cE x.s&&x.l.length==0):=by simp[Ex.jv,k4]
  simp[-exists_and_left,k4]
  refine⟨fun a=>finL (by omega) _ (by simp[-exists_and_left,hf,a]),fun a=>⟨fun b=>finL (by omega) _ (by rw[hf];simp;intro _ _ e;simp[-exists_and_left,e]at b),fun b=>⟨_,_,_,rfl,iJ x.s (by unfold maxLen;omega),?_⟩⟩⟩
  rintro _ rfl
  exact finL (by omega) _ (by simp[hf,a,b])
 ·have hf:x.jv=false:=by simp[Ex.jv,k1,k2,k3,k4]
  simp[k1,k2,k3,k4]
  exact⟨fun a=>finL k3 _ (by simp[hf]),fun a=>⟨fun b=>finL k3 _ (by simp[hf]),fun b=>⟨fun c=>finL k3 _ (by simp[hf]),fun c=>finL k3 _ (by simp[hf])⟩⟩⟩
def nI (x:Ex)(hx:x.ok)(hs:x.size<2^30):iq pg cJ [aE] [x.az] [aj] (·= .b x.fG):=by
 refine Oq ?_
 simp only[rk]
 refine⟨_,_,rfl,Tx x 512 16 hx hs (by omega) (by omega) (by omega) (by omega),?_⟩
 rintro d ⟨q,_⟩
 congr 1
 rw[afo,q]
 simp only[xu,Ex.fG,aeV,aeT]
 exact⟨fun g=>⟨⟨by omega,by omega⟩,g.1⟩,fun g=>⟨g.2,by omega,by omega⟩⟩
noncomputable def RW:cw:=({f:=gC,rs:=[ah],bu:=none,cK:=[],bD:=[],bK:=[]}:cw)
def aea (n:Nat)(h:n<64):iq pg gC [mn] [.z n] [ah] (·= .z (JR n)):=by
 rcases n with _|n
 ·exact iq.kS (C:=RW) Hq 600 (.lit .all) (t:= .ret (.z (JR 0))) (by kernel_rfl) (by kernel_rfl) (by kernel_rfl) rfl
 iterate 63 (rcases n with _|n;· exact iq.kS (C:=RW) Hq 600 (.lit .all) (t:= .ret (.z (JR _))) (by kernel_rfl) (by kernel_rfl) (by kernel_rfl) rfl)
 omega
def QJ (a:Int):Bool:=a==1||a==2||a==4||a==8||a==16||a==32
def WY:∀n:Nat,n<64->(decide ((JR n:Int)=1))=QJ n:=by decide
def ac8 (a:Int)(h0:0<=a)(h1:a<256):iq pg E7 [nP] [.z a] [aj] (·= .b (QJ a)):=by
 refine Z0 ?_
 simp only[rk,D.df]
 refine⟨_,_,_,rfl,RL a h0 h1,?_⟩
 rintro _ rfl
 simp only[D.cg,aeT,aeS]
 obtain⟨n,rfl⟩:=ahg h0
 refine⟨fun h=>⟨_,_,_,rfl,aea n (by omega),?_⟩,fun h=>?_⟩
 ·rintro _ rfl
  have:=WY n (by omega)
  rw[<-this,D.df];congr 1
 ·have:QJ n=false:=by simp[QJ];omega
  rw[this]
namespace Ex
def zero:Ex:= .mk 0 0 [] []
def none (e:Ex):Bool:=e.k==0&&(e.n==0&&(e.s==[]&&e.l.length==0))
def PD (e:Ex):Bool:=e.none||e.fG
def Oc {e:Ex}(h:e.none=true):e.fG=false:=by
 simp only[none,aeV,afv]at h
 have:e.og=false:=by rw[e.Hl];simp[jv,h.1]
 simp[fG,this]
def TG:zero.none=true:=rfl
end Ex
def GH (e:Ex):iq pg bH [aE] [e.az] [aj] (·= .b e.none):=by
 refine Xd ?_
 simp only[rk,Ex.fA,Ex.wB,Ex.Hk,Ex.Bq,aeW]
 refine⟨fun a=>⟨fun b=>⟨fun c=>?_,fun c=>?_⟩,fun b=>?_⟩,fun a=>?_⟩
 ·have:(((e.l.length:Nat):Int)==0)=(e.l.length==0):=by rw[afo];simp
  simp[Ex.none,a,b,c,this]
 ·simp[Ex.none,c]
 ·simp[Ex.none,b]
 ·simp[Ex.none,a]
def y6 (e:Ex)(h:e.ok)(hs:e.size<2^30):iq pg eJ [aE] [e.az] [aj] (·= .b e.PD):=by
 refine QO ?_
 simp only[rk,Ex.re]
 refine⟨_,_,_,rfl,GH e,?_⟩
 rintro _ rfl
 simp only[D.cg]
 refine⟨fun a=>by simp[Ex.PD,a],fun a=>⟨_,_,_,rfl,nI e h hs,?_⟩⟩
 rintro _ rfl
 simp[Ex.PD,a]
def AU (l:List nh)(hl:l.length<2^62)(hok:∀s∈l,s.length<2^63):PH fg (rp (Im l)) [] 0 lz (·= .b (!l.all cE)):=by
 have loop:∀(rest:List nh) (i:Nat),l.drop i=rest->aC pg dT [ah] (.bu 0 (kg (pe (Im l)) []) (fun d=>decide (0<=D.int d)=!rest.all cE)) (ij (Im l) i):=by
  intro rest
  induction rest with
  |nil=>
   intro i hd
   have:=drop_nil hd
   refine rz ?_
   simp only[rk,aeW]
   exact⟨fun h=>by simp at h;omega,fun _=>⟨rfl,.z (-1),.ret,rfl⟩⟩
  |cons s rest ih=>
   intro i hd
   obtain⟨g1,g2,g3⟩:=aI hd
   refine rz ?_
   simp only[rk,aeW,ae2,bS (f:=D.s) g1,D.aa6,aY g3,afu,afO]
   refine⟨fun _=>⟨fun _=>⟨_,_,_,rfl,iJ s (by have:=hok s (aeU g1);unfold maxLen;omega),?_⟩,fun h=>by simp at h⟩,fun h=>by simp at h;omega⟩
   rintro _ rfl
   simp only[D.cg]
   refine⟨fun a=>⟨rfl,.z i,.ret,?_⟩,fun a=>?_⟩
   ·simp[a]
   ·rw[bO g3 (by omega)]
    exact(ih _ g2).BL fun d h=>by simp[h,a]
 refine AY ?_
 simp only[rk]
 refine⟨_,_,rfl,D1 (loop l 0 rfl),?_⟩
 intro d h
 refine⟨rfl,.b _,.ret,?_⟩
 show D.b (decide (0<=D.int d))=_
 rw[h]
section
namespace St
def vg (s:St):Prop:=s.ok/\s.Yw<2^30/\s.wi.length<2^62/\∀w∈s.wi,w.length<2^63
def I6 (s:St):St:= .mk 0 s.nm [] 0 0 s.a .zero [] [] [] []
def RM (s:St):St:= .mk 0 s.nm [] s.ab 0 s.a s.b [] [] [] []
def RN (s:St):St:= .mk 0 s.nm [] 0 0 s.a s.b [] [] [] []
def RO (s:St):St:= .mk 0 [] [] 0 0 s.a s.b s.th s.el [] []
def RP (s:St):St:= .mk 0 [] [] s.ab 0 s.a .zero s.th s.el [] []
def RQ (s:St):St:= .mk 0 [] [] 0 0 s.a .zero [] [] [] []
def Nk (s:St):St:= .mk 0 [] [] 0 0 .zero .zero [] [] [] []
def Nl (s:St):St:=
 if s.wh=1 then .mk 0 s.nm [] 0 s.wh s.a .zero [] [] [] []
 else if s.wh=14 then .mk 0 s.nm [] s.ab s.wh s.a .zero [] [] [] []
 else if s.wh=15\/s.wh=16 then .mk 0 s.nm s.sc 0 s.wh s.a .zero [] [] [] []
 else if s.wh=5\/s.wh=10 then .mk 0 s.nm s.sc 0 s.wh .zero .zero [] [] [] []
 else if s.wh=12 then .mk 0 s.nm [] 0 s.wh .zero .zero [] [] s.co s.wi
 else .mk 0 s.nm [] 0 s.wh .zero .zero [] [] [] []
def ok1 (s:St):Bool:=cE s.nm&&s.a.PD
def WX (s:St):Bool:=cE s.nm&&QJ s.ab&&s.a.fG&&s.b.PD&&(s.b.none||(s.ab !=1&&s.ab !=32))
def ok3 (s:St):Bool:=cE s.nm&&s.a.fG&&s.b.fG
def ok4 (s:St):Bool:=s.a.PD&&s.b.PD
def ok5 (s:St):Bool:=s.a.fG&&decide (s.ab<64)
def ok8 (s:St):Bool:=cE s.nm&&s.a.fG
def okM (s:St):Bool:=
 if s.wh=1 then cE s.nm&&s.a.PD
 else if s.wh=2\/s.wh=3\/s.wh=4\/s.wh=8 then cE s.nm
 else if s.wh=14 then cE s.nm&&s.a.fG&&decide (s.ab<64)
 else if s.wh=15\/s.wh=16 then cE s.nm&&s.a.fG&&cE s.sc&&!(s.sc==s.nm)
 else if s.wh=5\/s.wh=10 then cE s.nm&&cE s.sc&&!(s.sc==s.nm)
 else if s.wh=12 then cE s.nm&&decide (s.wi.length<=64)&&s.wi.all cE&&decide s.wi.Nodup
 else false
def qm (s t:St):Bool:=s.nm==t.nm&&s.sc==t.sc&&s.ab==t.ab&&s.wh==t.wh&&(t.a.none==s.a.none)&&(t.b.none==s.b.none)&&t.th.length==s.th.length&&t.el.length==s.el.length&&t.co.length==s.co.length&&t.wi.length==s.wi.length
def fm (s:St):Option (St×Bool):=
 if s.op=1 then some (s.I6,s.ok1)else if s.op=2 then some (s.RM,s.WX)else if s.op=3 then some (s.Nl,s.okM)
 else if s.op=4 then some (s.RN,s.ok3)else if s.op=5 then some (s.RO,s.ok4)else if s.op=6 then some (s.RP,s.ok5)
 else if s.op=7 then some (s.RQ,s.a.PD)else if s.op=8 then some (s.Nk,true)else if s.op=9 then some (s.I6,s.ok8)else none
def ug (s:St):Bool:=match s.fm with|some (t,b)=>b&&s.qm t|none=>false
end St
section
variable (s:St) (h:s.vg)
include h
theorem St.vg.b:s.nm.length<=maxLen/\s.sc.length<=maxLen/\s.a.ok/\s.b.ok/\s.a.size<2^30/\s.b.size<2^30/\0<=s.ab/\s.ab<256:=by
 obtain⟨o1,o2,o3,o4,o5,o6,o7,o8,o9,o10,_⟩:=(St.lH s).1 h.1
 have e:=s.zU
 have:=h.2.1
 unfold maxLen
 exact⟨by omega,by omega,o9,o10,by omega,by omega,o5,o6⟩
end
def R8 (t:St)(b:Bool):D:= .r [t.az,.b b]
attribute [local go_sem] R8 D.cg afB ahk af2 aii aiA ahT ahZ agU
def To (s:St)(h:s.vg):iq pg tf [aT] [s.az] [aT,aj] (·=R8 s.I6 s.ok1):=by
 obtain⟨n1,n2,ha,hb,za,zb,a0,a1⟩:=h.b
 refine Ot ?_
 simp only[rk,St.wC,St.Dc,Ex.re]
 refine⟨_,_,_,rfl,iJ _ n1,?_⟩
 rintro _ rfl
 simp only[D.cg]
 refine⟨fun a=>⟨_,_,_,rfl,y6 _ ha za,?_⟩,fun a=>?_⟩
 ·rintro _ rfl
  (simp only[go_sem,St.ok1,a];rw[St.ay];rfl)
 ·(simp only[go_sem,St.ok1,a];rw[St.ay];rfl)
def Tp (s:St)(h:s.vg):iq pg tg [aT] [s.az] [aT,aj] (·=R8 s.RM s.WX):=by
 obtain⟨n1,n2,ha,hb,za,zb,a0,a1⟩:=h.b
 refine Ou ?_
 simp only[rk,St.wC,St.Dc,St.K3,St.Jm,Ex.re]
 refine⟨_,_,_,rfl,iJ _ n1,?_⟩
 rintro _ rfl
 simp only[D.cg]
 refine⟨fun a=>⟨_,_,_,rfl,ac8 _ a0 a1,?_⟩,fun a=>(by simp only[go_sem,St.WX,a];rw[St.ay];rfl)⟩
 rintro _ rfl
 simp only[D.cg]
 refine⟨fun b=>⟨_,_,_,rfl,nI _ ha za,?_⟩,fun b=>(by simp only[go_sem,St.WX,a,b];rw[St.ay];rfl)⟩
 rintro _ rfl
 simp only[D.cg]
 refine⟨fun c=>⟨_,_,_,rfl,y6 _ hb zb,?_⟩,fun c=>(by simp only[go_sem,St.WX,a,b,c];rw[St.ay];rfl)⟩
 rintro _ rfl
 simp only[D.cg]
 refine⟨fun d=>⟨_,_,_,rfl,GH _,?_⟩,fun d=>(by simp only[go_sem,St.WX,a,b,c,d];rw[St.ay];rfl)⟩
 rintro _ rfl
 simp only[D.cg]
 refine⟨fun e=>(by simp only[go_sem,St.WX,a,b,c,d,e];rw[St.ay];rfl),fun e=>⟨fun f=>(by simp only[go_sem,St.WX,a,b,c,d,e,f];rw[St.ay];rfl),fun f=>(by simp only[go_sem,St.WX,a,b,c,d,e,f];rw[St.ay];rfl)⟩⟩
def Tq (s:St)(h:s.vg):iq pg tj [aT] [s.az] [aT,aj] (·=R8 s.RN s.ok3):=by
 obtain⟨n1,n2,ha,hb,za,zb,a0,a1⟩:=h.b
 refine Ov ?_
 simp only[rk,St.wC,St.Dc,St.K3,Ex.re]
 refine⟨_,_,_,rfl,iJ _ n1,?_⟩
 rintro _ rfl
 simp only[D.cg]
 refine⟨fun a=>⟨_,_,_,rfl,nI _ ha za,?_⟩,fun a=>(by simp only[go_sem,St.ok3,a];rw[St.ay];rfl)⟩
 rintro _ rfl
 simp only[D.cg]
 refine⟨fun b=>⟨_,_,_,rfl,nI _ hb zb,?_⟩,fun b=>(by simp only[go_sem,St.ok3,a,b];rw[St.ay];rfl)⟩
 rintro _ rfl
 (simp only[go_sem,St.ok3,a,b];rw[St.ay];rfl)
def Ts (s:St)(h:s.vg):iq pg tm [aT] [s.az] [aT,aj] (·=R8 s.RO s.ok4):=by
 obtain⟨n1,n2,ha,hb,za,zb,a0,a1⟩:=h.b
 refine Ow ?_
 simp only[rk,St.wC,St.Dc,St.K3,St.qw,St.Jn,Ex.re]
 refine⟨_,_,_,rfl,y6 _ ha za,?_⟩
 rintro _ rfl
 simp only[D.cg]
 refine⟨fun a=>⟨_,_,_,rfl,y6 _ hb zb,?_⟩,fun a=>(by simp only[go_sem,St.ok4,a];rw[St.ay];rfl)⟩
 rintro _ rfl
 (simp only[go_sem,St.ok4,a];rw[St.ay];rfl)
def Tt (s:St)(h:s.vg):iq pg tn [aT] [s.az] [aT,aj] (·=R8 s.RP s.ok5):=by
 obtain⟨n1,n2,ha,hb,za,zb,a0,a1⟩:=h.b
 refine Ox ?_
 simp only[rk,St.Dc,St.Jm,St.qw,St.Jn,Ex.re]
 refine⟨_,_,_,rfl,nI _ ha za,?_⟩
 rintro _ rfl
 simp only[D.cg]
 refine⟨fun a=>⟨_,_,_,rfl,RL _ a0 a1,?_⟩,fun a=>(by simp only[go_sem,St.ok5,a];rw[St.ay];rfl)⟩
 rintro _ rfl
 (simp only[go_sem,St.ok5,a];rw[St.ay];rfl)
def Tu (s:St)(h:s.vg):iq pg tp [aT] [s.az] [aT,aj] (·=R8 s.RQ s.a.PD):=by
 obtain⟨n1,n2,ha,hb,za,zb,a0,a1⟩:=h.b
 refine Oy ?_
 simp only[rk,St.Dc,Ex.re]
 refine⟨_,_,_,rfl,y6 _ ha za,?_⟩
 rintro _ rfl
 (simp only[go_sem,St.ok1];rw[St.ay];rfl)
def Tv (s:St):iq pg pN [aT] [s.az] [aT,aj] (·=R8 s.Nk true):=by
 refine Oz ?_
 simp only[rk]
 (simp only[go_sem,St.ok1];rw[St.ay];rfl)
def Tw (s:St)(h:s.vg):iq pg tq [aT] [s.az] [aT,aj] (·=R8 s.I6 s.ok8):=by
 obtain⟨n1,n2,ha,hb,za,zb,a0,a1⟩:=h.b
 refine OA ?_
 simp only[rk,St.wC,St.Dc,Ex.re]
 refine⟨_,_,_,rfl,iJ _ n1,?_⟩
 rintro _ rfl
 simp only[D.cg]
 refine⟨fun a=>⟨_,_,_,rfl,nI _ ha za,?_⟩,fun a=>(by simp only[go_sem,St.ok8,a];rw[St.ay];rfl)⟩
 rintro _ rfl
 (simp only[go_sem,St.ok8,a];rw[St.ay];rfl)
end
section
attribute [local go_sem] R8 St.Nl St.okM D.cg afB ahk af2 aii aiA ahT ahZ agU afq afS or_true true_or or_false aiH aft age
def ZC (s:St)(h:s.vg):iq pg yV [aT] [s.az] [aT,aj] (·=R8 s.Nl s.okM):=by
 obtain⟨n1,n2,ha,hb,za,zb,a0,a1⟩:=h.b
 refine TT ?_
 simp only[rk,St.wC,St.Qd,St.Dc,St.K3,St.Jm,St.Qf,St.Qg,St.pq,Ex.re,aeW,afv,afd,agq,aeT,aeS,afu,afO]
 refine⟨_,_,_,rfl,iJ _ n1,?_⟩
 rintro _ rfl
 simp only[D.cg]
 refine⟨fun w=>⟨fun a=>⟨_,_,_,rfl,y6 _ ha za,?_⟩,fun a=>(by simp only[go_sem,Int.reduceEq,w,a];rw[St.ay];rfl)⟩,fun w1=>⟨fun w=>(by simp only[go_sem,Int.reduceEq,w];rw[St.ay];rfl),fun w2=>⟨fun w=>(by simp only[go_sem,Int.reduceEq,w];rw[St.ay];rfl),fun w3=>⟨fun w=>(by simp only[go_sem,Int.reduceEq,w];rw[St.ay];rfl),fun w4=>⟨fun w=>(by simp only[go_sem,Int.reduceEq,w];rw[St.ay];rfl),fun w8=>⟨fun w=>⟨fun a=>⟨_,_,_,rfl,nI _ ha za,?_⟩,fun a=>(by simp only[go_sem,Int.reduceEq,w,a];rw[St.ay];rfl)⟩,fun w14=>⟨fun w=>⟨fun a=>⟨_,_,_,rfl,nI _ ha za,?_⟩,fun a=>(by simp only[go_sem,Int.reduceEq,w,a];rw[St.ay];rfl)⟩,fun w15=>⟨fun w=>⟨fun a=>⟨_,_,_,rfl,nI _ ha za,?_⟩,fun a=>(by simp only[go_sem,Int.reduceEq,w,a];rw[St.ay];rfl)⟩,fun w16=>⟨fun w=>⟨fun a=>⟨_,_,_,rfl,iJ _ n2,?_⟩,fun a=>(by simp only[go_sem,Int.reduceEq,w,a];rw[St.ay];rfl)⟩,fun w5=>⟨fun w=>⟨fun a=>⟨_,_,_,rfl,iJ _ n2,?_⟩,fun a=>(by simp only[go_sem,Int.reduceEq,w,a];rw[St.ay];rfl)⟩,fun w10=>⟨fun w=>⟨fun a=>⟨fun b=>⟨_,_,rfl,AU _ h.2.2.1 h.2.2.2,?_⟩,fun b=>?_⟩,fun a=>(by simp only[go_sem,Int.reduceEq,w,a];rw[St.ay];rfl)⟩,fun w12=>?_⟩⟩⟩⟩⟩⟩⟩⟩⟩⟩⟩
 ·rintro _ rfl
  (simp only[go_sem,Int.reduceEq,w,a];rw[St.ay];rfl)
 ·rintro _ rfl
  simp only[D.cg]
  refine⟨fun b=>⟨_,_,_,rfl,RL _ a0 a1,?_⟩,fun b=>(by simp only[go_sem,Int.reduceEq,w,a,b];rw[St.ay];rfl)⟩
  rintro _ rfl
  (simp only[go_sem,Int.reduceEq,w,a,b];rw[St.ay];rfl)
 ·rintro _ rfl
  simp only[D.cg]
  refine⟨fun b=>⟨_,_,_,rfl,iJ _ n2,?_⟩,fun b=>(by simp only[go_sem,Int.reduceEq,w,a,b];rw[St.ay];rfl)⟩
  rintro _ rfl
  simp only[D.cg]
  exact⟨fun c=>(by simp only[go_sem,Int.reduceEq,w,a,b,c];rw[St.ay];rfl),fun c=>(by simp only[go_sem,Int.reduceEq,w,a,b,c];rw[St.ay];rfl)⟩
 ·rintro _ rfl
  simp only[D.cg]
  refine⟨fun b=>⟨_,_,_,rfl,iJ _ n2,?_⟩,fun b=>(by simp only[go_sem,Int.reduceEq,w,a,b];rw[St.ay];rfl)⟩
  rintro _ rfl
  simp only[D.cg]
  exact⟨fun c=>(by simp only[go_sem,Int.reduceEq,w,a,b,c];rw[St.ay];rfl),fun c=>(by simp only[go_sem,Int.reduceEq,w,a,b,c];rw[St.ay];rfl)⟩
 ·rintro _ rfl
  simp only[D.cg]
  exact⟨fun c=>(by simp only[go_sem,Int.reduceEq,w,a,c];rw[St.ay];rfl),fun c=>(by simp only[go_sem,Int.reduceEq,w,a,c];rw[St.ay];rfl)⟩
 ·rintro _ rfl
  simp only[D.cg]
  exact⟨fun c=>(by simp only[go_sem,Int.reduceEq,w,a,c];rw[St.ay];rfl),fun c=>(by simp only[go_sem,Int.reduceEq,w,a,c];rw[St.ay];rfl)⟩
 ·rintro _ rfl
  simp only[D.cg]
  have b2:s.wi.length<=64:=by omega
  refine⟨fun c=>⟨_,_,_,rfl,Sh _ h.2.2.1,?_⟩,fun c=>?_⟩
  ·rintro _ rfl
   simp only[afO]at c
   simp only[D.cg,Bool.not_not]
   (simp only[go_sem,Int.reduceEq,w,a,b2,c];rw[St.ay];rfl)
  ·simp only[afu]at c
   (simp only[go_sem,Int.reduceEq,w,a,b2,c];rw[St.ay];rfl)
 ·have b2:¬s.wi.length<=64:=by omega
  (simp only[go_sem,Int.reduceEq,w,a,b2];rw[St.ay];rfl)
 ·(simp only[go_sem,Int.reduceEq,w1,w2,w3,w4,w8,w14,w15,w16,w5,w10,w12];rw[St.ay];rfl)
end
def adC (t:St)(b:Bool):D.ae (R8 t b) 0=t.az:=rfl
def adD (t:St)(b:Bool):D.bool (D.ae (R8 t b) 1)=b:=rfl
def ach (a b:Nat):(((a:Nat):Int)==((b:Nat):Int))=(a==b):=by rw[afo];simp;omega
def tk {s t:St}{b:Bool}(e:s.ug=(b&&s.qm t)):∃t' b',t=t'/\b=b'/\s.ug=(b'&&s.qm t'):=⟨t,b,rfl,rfl,e⟩
def adN (s:St)(h:s.vg):iq pg Fa [aT] [s.az] [aj] (·= .b s.ug):=by
 obtain⟨bt,hbt⟩:∃b:Bool,b=true:=⟨_,rfl⟩
 refine Z3 ?_
 simp only[rk,St.VQ,St.re,afv,afd,agq]
 refine⟨fun o1=>⟨_,_,_,rfl,To s h,?_⟩,fun n1=>⟨fun o2=>⟨_,_,_,rfl,Tp s h,?_⟩,fun n2=>⟨fun o3=>⟨_,_,_,rfl,ZC s h,?_⟩,fun n3=>⟨fun o4=>⟨_,_,_,rfl,Tq s h,?_⟩,fun n4=>⟨fun o5=>⟨_,_,_,rfl,Ts s h,?_⟩,fun n5=>⟨fun o6=>⟨_,_,_,rfl,Tt s h,?_⟩,fun n6=>⟨fun o7=>⟨_,_,_,rfl,Tu s h,?_⟩,fun n7=>⟨fun o8=>⟨_,_,_,rfl,(hbt▸Tv s:iq pg pN [aT] [s.az] [aT,aj] (·=R8 s.Nk bt)),?_⟩,fun n8=>⟨fun o9=>⟨_,_,_,rfl,Tw s h,?_⟩,fun n9=>?_⟩⟩⟩⟩⟩⟩⟩⟩⟩
 obtain⟨t,b,ht,hb,e⟩:=tk (show s.ug=(s.ok1&&s.qm s.I6)by simp[St.ug,St.fm,o1])
 rw[ht,hb];clear ht hb;rotate_left
 obtain⟨t,b,ht,hb,e⟩:=tk (show s.ug=(s.WX&&s.qm s.RM)by simp[St.ug,St.fm,o2])
 rw[ht,hb];clear ht hb;rotate_left
 obtain⟨t,b,ht,hb,e⟩:=tk (show s.ug=(s.okM&&s.qm s.Nl)by simp[St.ug,St.fm,o3])
 rw[ht,hb];clear ht hb;rotate_left
 obtain⟨t,b,ht,hb,e⟩:=tk (show s.ug=(s.ok3&&s.qm s.RN)by simp[St.ug,St.fm,o4])
 rw[ht,hb];clear ht hb;rotate_left
 obtain⟨t,b,ht,hb,e⟩:=tk (show s.ug=(s.ok4&&s.qm s.RO)by simp[St.ug,St.fm,o5])
 rw[ht,hb];clear ht hb;rotate_left
 obtain⟨t,b,ht,hb,e⟩:=tk (show s.ug=(s.ok5&&s.qm s.RP)by simp[St.ug,St.fm,o6])
 rw[ht,hb];clear ht hb;rotate_left
 obtain⟨t,b,ht,hb,e⟩:=tk (show s.ug=(s.a.PD&&s.qm s.RQ)by simp[St.ug,St.fm,o7])
 rw[ht,hb];clear ht hb;rotate_left
 obtain⟨t,b,ht,hb,e⟩:=tk (show s.ug=(bt&&s.qm s.Nk)by simp[St.ug,St.fm,o8,hbt])
 rw[ht,hb];clear ht hb;rotate_left
 obtain⟨t,b,ht,hb,e⟩:=tk (show s.ug=(s.ok8&&s.qm s.I6)by simp[St.ug,St.fm,o9])
 rw[ht,hb];clear ht hb;rotate_left
 have:s.ug=false:=by simp[St.ug,St.fm,n1,n2,n3,n4,n5,n6,n7,n8,n9]
 rw[this]
 all_goals
  intro dd hd;subst hd
  simp only[adC,adD,St.wC,St.Qd,St.Jm,St.Qf,St.Dc,St.K3,St.qw,St.Jn,St.pq,St.Qg,aeW,Ex.re,ach,afu,afO,D.cg]
  have no:∀q:Bool,q=false->D.b false=D.b q:=fun q hq=>by rw[hq]
  rw[e]
  refine⟨fun h=>no _ (by rw[h];rfl),fun c0=>?_⟩
  rw[c0,afB]
  simp only[St.qm]
  refine⟨fun h=>no _ (by simp[h]),fun c1=>⟨fun h=>no _ (by simp[h]),fun c2=>⟨fun h=>no _ ?_,fun c3=>⟨fun h=>no _ ?_,fun c4=>⟨_,_,_,rfl,GH _,?_⟩⟩⟩⟩⟩
  ·have e:(s.ab==t.ab)=false:=by simpa using h
   simp[e]
  ·have e:(s.wh==t.wh)=false:=by simpa using h
   simp[e]
  intro dd hd;subst hd
  refine⟨_,_,_,rfl,GH _,?_⟩
  intro dd hd;subst hd
  simp only[D.cg]
  refine⟨fun h=>no _ (by rw[h];simp),fun c5=>⟨_,_,_,rfl,GH _,?_⟩⟩
  intro dd hd;subst hd
  refine⟨_,_,_,rfl,GH _,?_⟩
  intro dd hd;subst hd
  simp only[D.cg]
  have e3:(s.ab==t.ab)=true:=by simpa using c3
  have e4:(s.wh==t.wh)=true:=by simpa using c4
  rw[c1,c2,e3,e4,c5]
  refine⟨fun h=>no _ (by rw[h];simp),fun c6=>⟨fun c7=>⟨fun c8=>⟨fun c9=>?_,fun h=>no _ ?_⟩,fun h=>no _ ?_⟩,fun h=>no _ ?_⟩⟩
  ·have d7:t.th.length=s.th.length:=by omega
   have d8:t.el.length=s.el.length:=by omega
   have d9:t.co.length=s.co.length:=by omega
   rw[c6,d7,d8,d9];simp
  ·have d9:¬t.co.length=s.co.length:=by omega
   simp[d9]
  ·have d9:¬t.el.length=s.el.length:=by omega
   simp[d9]
  ·have d9:¬t.th.length=s.th.length:=by omega
   simp[d9]
structure US where
 (nm sc a b ab:Int) (wh bl cl:Bool)
def US.az (f:US):D:= .r [.z f.nm,.z f.sc,.z f.a,.z f.b,.z f.ab,.b f.wh,.b f.bl,.b f.cl]
def CG (s:nh)(NN:Int):Bool:=if NN=0 then s==[]else cE s
def Ex.NN (e:Ex)(NN:Int):Bool:=if e.none then decide (NN<2)else decide (NN>0)&&e.fG
def zH (ab NN:Int):Bool:=!(NN==0&&ab !=0)&&!(NN==1&&!QJ ab)&&!(NN==2&&decide (ab>63))
def X8 (l:List nh):Bool:=decide (l.length<=64)&&decide l.Nodup&&l.all cE
namespace St
def frm (s:St):Option US:=
 if s.op=1 then some ⟨2,0,1,0,0,false,false,false⟩
 else if s.op=2 then (if s.ab=1\/s.ab=32 then some ⟨2,0,2,0,1,false,false,false⟩else some ⟨2,0,2,1,1,false,false,false⟩)
 else if s.op=3 then
  if s.wh=1 then some ⟨2,0,1,0,0,true,false,false⟩
  else if s.wh=2\/s.wh=3\/s.wh=4\/s.wh=8 then some ⟨2,0,0,0,0,true,false,false⟩
  else if s.wh=14 then some ⟨2,0,2,0,2,true,false,false⟩
  else if s.wh=15\/s.wh=16 then some ⟨2,2,2,0,0,true,false,false⟩
  else if s.wh=5\/s.wh=10 then some ⟨2,2,0,0,0,true,false,false⟩
  else if s.wh=12 then some ⟨2,0,0,0,0,true,false,true⟩
  else none
 else if s.op=4 then some ⟨2,0,2,2,0,false,false,false⟩
 else if s.op=5 then some ⟨0,0,1,1,0,false,true,false⟩
 else if s.op=6 then some ⟨0,0,2,0,2,false,true,false⟩
 else if s.op=7 then some ⟨0,0,1,0,0,false,false,false⟩
 else if s.op=8 then some ⟨0,0,0,0,0,false,false,false⟩
 else if s.op=9 then some ⟨2,0,2,0,0,false,false,false⟩
 else none
def XY (s:St)(f:US):Bool:=zH s.ab f.ab&&(f.wh||s.wh==0)&&(f.bl||s.th.length+s.el.length==0)&&(if f.cl then X8 s.wi else s.co.length+s.wi.length==0)
def Le (s:St):Bool:=match s.frm with|none=>false|some f=>CG s.nm f.nm&&CG s.sc f.sc&&!(decide (f.sc>0)&&s.sc==s.nm)&&s.a.NN f.a&&s.b.NN f.b&&s.XY f
end St
section
section
variable (f:US)
def US.f1:D.int (D.ae f.az 1)=f.sc:=rfl
def US.f2:D.int (D.ae f.az 2)=f.a:=rfl
def US.f3:D.int (D.ae f.az 3)=f.b:=rfl
def US.f4:D.int (D.ae f.az 4)=f.ab:=rfl
def US.f5:D.bool (D.ae f.az 5)=f.wh:=rfl
def US.f6:D.bool (D.ae f.az 6)=f.bl:=rfl
def US.f7:D.bool (D.ae f.az 7)=f.cl:=rfl
end
end
section
def Ex.aeB (e:Ex):e.NN 0=e.none:=by unfold Ex.NN;cases h:e.none<;>simp
def Ex.aeC (e:Ex):e.NN 1=e.PD:=by unfold Ex.NN Ex.PD;cases h:e.none<;>simp
def Ex.aeD (e:Ex):e.NN 2=e.fG:=by
 unfold Ex.NN
 cases h:e.none with
 |true=>simp[Ex.Oc h]
 |false=>simp
def Ex.Wq {e:Ex}(h:e.fG=true):e.none=false:=by
 cases hn:e.none with
 |true=>rw[Ex.Oc hn]at h;cases h
 |false=>rfl
def Vn (a:Int):zH a 0=(a==0):=by simp[zH];rfl
def Vo (a:Int):zH a 1=QJ a:=by simp[zH]
def Vp (a:Int):zH a 2=decide (a<64):=by
 simp only[zH];rw[afo];simp;omega
def WQ (s:nh):CG s 0=(s==[]):=by simp[CG]
def WR (s:nh):CG s 2=cE s:=by simp[CG]
def aeL (a b:Nat):(a+b==0)=(a==0&&b==0):=by rw[afo];simp
def aeQ (a:Nat):((0:Nat)==a)=(a==0):=by rw[afo];simp;omega
section
variable (op:Int) (nm:nh) (sc:nh) (ab:Int) (wh:Int) (a:Ex) (b:Ex) (th:List St) (el:List St) (co:List St) (wi:List nh)
def St.adW:(St.mk op nm sc ab wh a b th el co wi).nm=nm:=rfl
def St.adX:(St.mk op nm sc ab wh a b th el co wi).sc=sc:=rfl
def St.adT:(St.mk op nm sc ab wh a b th el co wi).ab=ab:=rfl
def St.adZ:(St.mk op nm sc ab wh a b th el co wi).wh=wh:=rfl
def St.aeE:(St.mk op nm sc ab wh a b th el co wi).a=a:=rfl
def St.aeF:(St.mk op nm sc ab wh a b th el co wi).b=b:=rfl
def St.adY:(St.mk op nm sc ab wh a b th el co wi).th=th:=rfl
def St.adV:(St.mk op nm sc ab wh a b th el co wi).el=el:=rfl
def St.adU:(St.mk op nm sc ab wh a b th el co wi).co=co:=rfl
def St.ad0:(St.mk op nm sc ab wh a b th el co wi).wi=wi:=rfl
end
def eqt (b:Bool):(true==b)=b:=by cases b<;>rfl
def aex (b:Bool):(b==b)=true:=by cases b<;>rfl
attribute [local go_sem] St.ug St.fm St.Le St.frm St.XY afq afS St.qm St.Nl St.I6 St.RM St.RN St.RO St.RP St.RQ St.Nk St.ok1 St.WX St.ok3 St.ok4 St.ok5 St.ok8 St.okM St.adW St.adX St.adT St.adZ St.aeE St.aeF St.adY St.adV St.adU St.ad0 aiE or_true true_or or_false aiH Ex.aeB Ex.aeC Ex.aeD Vn Vo Vp WQ WR aeL aeQ Ex.TG eqt aex afX beq_self_eq_true afB af2 ahk aii ahZ aiA agU ahT aij agI aft age ae0
def St.ZH (s:St):s.ug=s.Le:=by
 have nm:s.b.PD=true->s.b.fG=true->s.b.none=false:=fun _=>Ex.Wq
 by_cases o1:s.op=1
 ·simp only[go_sem,Int.reduceEq,Int.reduceLT,o1]
  (rw[afo];simp only[aeV];constructor<;>(intro h;simp only[h,afL,afm,agG]))
 by_cases o2:s.op=2
 ·by_cases w:s.ab=1\/s.ab=32
  ·have e:(s.ab !=1&&s.ab !=32)=false:=by rcases w with w|w<;>simp[w]
   have e2:(s.b.PD&&s.b.none)=s.b.none:=by unfold Ex.PD;cases s.b.none<;>simp
   simp only[go_sem,Int.reduceEq,Int.reduceLT,o2,w,e]
   rw[<-e2]
   (rw[afo];simp only[aeV];constructor<;>(intro h;simp only[h,afL,afm,agG]))
  ·have e:(s.ab !=1&&s.ab !=32)=true:=by simp;omega
   simp only[go_sem,Int.reduceEq,Int.reduceLT,o2,w,e]
   (rw[afo];simp only[aeV];constructor<;>(intro h;simp only[h,afL,afm,agG]))
 by_cases o3:s.op=3
 ·by_cases w1:s.wh=1
  ·simp only[go_sem,Int.reduceEq,Int.reduceLT,o3,w1]
   (rw[afo];simp only[aeV];constructor<;>(intro h;simp only[h,afL,afm,agG]))
  by_cases w2:s.wh=2\/s.wh=3\/s.wh=4\/s.wh=8
  ·have w14:¬s.wh=14:=by omega
   have w15:¬(s.wh=15\/s.wh=16):=by omega
   have w5:¬(s.wh=5\/s.wh=10):=by omega
   have w12:¬s.wh=12:=by omega
   simp only[go_sem,Int.reduceEq,Int.reduceLT,o3,w1,w2,w14,w15,w5,w12]
   (rw[afo];simp only[aeV];constructor<;>(intro h;simp only[h,afL,afm,agG]))
  by_cases w14:s.wh=14
  ·simp only[go_sem,Int.reduceEq,Int.reduceLT,o3,w14]
   (rw[afo];simp only[aeV];constructor<;>(intro h;simp only[h,afL,afm,agG]))
  by_cases w15:s.wh=15\/s.wh=16
  ·simp only[go_sem,Int.reduceEq,Int.reduceLT,o3,w1,w2,w14,w15]
   (rw[afo];simp only[aeV];constructor<;>(intro h;simp only[h,afL,afm,agG]))
  by_cases w5:s.wh=5\/s.wh=10
  ·simp only[go_sem,Int.reduceEq,Int.reduceLT,o3,w1,w2,w14,w15,w5]
   (rw[afo];simp only[aeV];constructor<;>(intro h;simp only[h,afL,afm,agG]))
  by_cases w12:s.wh=12
  ·simp only[go_sem,Int.reduceEq,Int.reduceLT,o3,w12,X8]
   (rw[afo];simp only[aeV];constructor<;>(intro h;simp only[h,afL,afm,agG]))
  ·simp only[go_sem,Int.reduceEq,Int.reduceLT,o3,w1,w2,w14,w15,w5,w12]
 by_cases o4:s.op=4
 ·simp only[go_sem,Int.reduceEq,Int.reduceLT,o4]
  (rw[afo];simp only[aeV];constructor<;>(intro h;simp only[h,afL,afm,agG]))
 by_cases o5:s.op=5
 ·simp only[go_sem,Int.reduceEq,Int.reduceLT,o5]
  (rw[afo];simp only[aeV];constructor<;>(intro h;simp only[h,afL,afm,agG]))
 by_cases o6:s.op=6
 ·simp only[go_sem,Int.reduceEq,Int.reduceLT,o6]
  (rw[afo];simp only[aeV];constructor<;>(intro h;simp only[h,afL,afm,agG]))
 by_cases o7:s.op=7
 ·simp only[go_sem,Int.reduceEq,Int.reduceLT,o7]
  (rw[afo];simp only[aeV];constructor<;>(intro h;simp only[h,afL,afm,agG]))
 by_cases o8:s.op=8
 ·simp only[go_sem,Int.reduceEq,Int.reduceLT,o8]
  (rw[afo];simp only[aeV];constructor<;>(intro h;simp only[h,afL,afm,agG]))
 by_cases o9:s.op=9
 ·simp only[go_sem,Int.reduceEq,Int.reduceLT,o9]
  (rw[afo];simp only[aeV];constructor<;>(intro h;simp only[h,afL,afm,agG]))
 ·simp only[go_sem,Int.reduceEq,Int.reduceLT,o1,o2,o3,o4,o5,o6,o7,o8,o9]
end
namespace St
mutual
def ab6:St->List St
 | .mk op nm sc ab wh a b th el co wi=> .mk op nm sc ab wh a b th el co wi::(eb th++eb el++eb co)
def eb:List St->List St
 | []=>[]
 |v::r=>ab6 v++eb r
end
def Zm (v:St):v.ab6=v::(eb v.th++eb v.el++eb v.co):=by cases v;rfl
def Ql (v:St)(r:List St):eb (v::r)=v.ab6++eb r:=rfl
def vg.of {s:St}(h:s.ok)(h2:s.Yw<2^30):s.vg:=by
 have e:=s.zU
 have o:=(lH s).1 h
 exact⟨h,h2,by omega,o.2.2.2.2.2.2.2.2.2.2.2.2.2.2.2.2.2⟩
end St
def rD:Int->List St->Option (Int×Int)
 |_,[]=>none
 |n,s::r=>if n=512 then some (512,4)else if s.Le=false then some (n,160)else rD (n+1) r
def Gb (n:Int)(a b:List St):rD n (a++b)=match rD n a with|some x=>some x|none=>rD (n+a.length) b:=by
 induction a generalizing n with
 |nil=>simp[rD]
 |cons s r ih=>
  simp only[af8,rD]
  by_cases h:n=512
  ·simp[h]
  ·by_cases h2:s.Le=false
   ·simp[h,h2]
   ·rw[aeX h,aeX h2,aeX h,aeX h2,ih (n+1)]
    rw[show n+1+(r.length:Int)=n+((s::r).length:Nat)by simp;omega]
def Ry {n:Int}{l:List St}(h:rD n l=none)(hn:n<=512):n+l.length<=512:=by
 induction l generalizing n with
 |nil=>simpa using hn
 |cons s r ih=>
  simp only[rD]at h
  by_cases h1:n=512
  ·simp[h1]at h
  ·rw[aeX h1]at h
   by_cases h2:s.Le=false
   ·simp[h2]at h
   ·rw[aeX h2]at h
    have:=ih h (by omega)
    simp only[ae9];omega
def Pt (l:List St)(n a:Int)(b:Bool)(n' a' e':Int):Prop:=match rD n l with
 |none=>b=true/\n'=n+l.length/\a'=a/\e'=0
 |some (p,e)=>b=false/\a'=p/\e'=e
def aca (l:List St):∀(dp n a:Int),0<=n->n<=512->St.AW l->St.mF l<2^30->
 PH iV (sR (l.map St.az) dp n a 0) (sW (l.map St.az) dp n a 0) 3 nZ
  (fun d=>Pt (St.eb l) n a (d.ae 0).bool (d.ae 1).int (d.ae 2).int (d.ae 3).int):=by
 induction l using St.Qs with|h l ih=>
 intro dp n a h0 h1 hl hs
 have leaf:∀(F:List St) (n' a':Int) (b:Bool) (m1 m2 m3:Int),Pt F n' a' b m1 m2 m3->∃d,T.dm (BV.bool b,[(0,ax.cells [.int .i64 m1] ah false),(1,ax.cells [.int .i64 m2] ah false),(2,ax.cells [.int .i64 m3] aX false)]) (nZ (sR (l.map St.az) dp n a 0) (sW (l.map St.az) dp n a 0) d)/\Pt F n' a' (d.ae 0).bool (d.ae 1).int (d.ae 2).int (d.ae 3).int:=
  fun F n' a' b m1 m2 m3 h=>⟨.r [.b b,.z m1,.z m2,.z m3],.ret,h⟩
 have key:∀(rest:List St) (i:Nat) (m:Int),l.drop i=rest->0<=m->m<=512->
  aC pg iV [aj] (.bu 3 (nZ (sR (l.map St.az) dp n a 0) (sW (l.map St.az) dp n a 0)) (fun d=>Pt (St.eb rest) m a (d.ae 0).bool (d.ae 1).int (d.ae 2).int (d.ae 3).int)) (xz (l.map St.az) dp n a 0 i m a 0):=by
  intro rest
  induction rest with
  |nil=>
   intro i m hd m0 m1
   have:=drop_nil hd
   refine Hx ?_
   simp only[rk,aeW,aeT,aeS]
   exact⟨fun h=>by omega,fun _=>⟨rfl,leaf _ _ _ _ _ _ _ (by simp[Pt,St.eb,rD])⟩⟩
  |cons x rest ihr=>
   intro i m hd m0 m1
   obtain⟨g1,g2,g3⟩:=aI hd
   have hx:=aeU g1
   obtain⟨o1,o2,o3,_⟩:=hl.th hx
   obtain⟨i1,i2,i3⟩:=ih x hx
   have hxe:=x.zU
   have hxm:=St.zV hx
   have hgood:=St.vg.of (hl.2 x hx) (by omega)
   have hF:St.eb (x::rest)=x::(St.eb x.th++St.eb x.el++St.eb x.co++St.eb rest):=by rw[St.Ql,St.Zm];rfl
   refine Hx ?_
   simp only[rk,aeW,ae2,bS g1,aY g3,St.re,St.qw,St.Jn,St.pq,afv,afd,agq,aeT,aeS,afu,afO]
   rw[bL (x:=m+1) (by omega) (by omega)]
   refine⟨fun _=>⟨fun _=>⟨fun h=>by omega,fun _=>⟨fun h=>?_,fun hm=>⟨_,_,_,rfl,adN x hgood,?_⟩⟩⟩,fun h=>by simp at h⟩,fun h=>by omega⟩
   ·refine⟨rfl,leaf _ _ _ _ _ _ _ ?_⟩
    rw[hF];simp[Pt,rD,h]
   rintro _ rfl
   rw[x.ZH]
   simp only[D.cg]
   refine⟨fun h=>⟨rfl,leaf _ _ _ _ _ _ _ ?_⟩,fun h=>⟨fun h=>absurd trivial h,fun _=>?_⟩⟩
   ·rw[hF];simp[Pt,rD,hm,h]
   have hsc:∀(b:Bool) (n' a' e':Int),Pt (St.eb (x::rest)) m a b n' a' e'↔Pt (St.eb x.th++St.eb x.el++St.eb x.co++St.eb rest) (m+1) a b n' a' e':=by
    intro b n' a' e'
    have hm':¬m=512:=hm
    have h':¬x.Le=false:=by rw[h];simp
    rw[hF];unfold Pt;simp only[rD,hm',h',afS]
    cases rD (m+1) (St.eb x.th++St.eb x.el++St.eb x.co++St.eb rest)with
    |none=>
     simp only[ae9]
     exact⟨fun g=>⟨g.1,by have:=g.2.1;omega,g.2.2⟩,fun g=>⟨g.1,by have:=g.2.1;omega,g.2.2⟩⟩
    |some p=>rfl
   have inner:∀(q:Nat) (blocks:List (List St)) (m2:Int) (j:Nat),j+blocks.length=3->([x.th,x.el,x.co]:List (List St)).drop j=blocks->0<=m2->m2<=512->
    aC pg iV [aj] (.bu 3 (nZ (sR (l.map St.az) dp n a 0) (sW (l.map St.az) dp n a 0)) (fun d=>Pt ((blocks.map St.eb).flatten++St.eb rest) m2 a (d.ae 0).bool (d.ae 1).int (d.ae 2).int (d.ae 3).int)) (qN (l.map St.az) dp n a 0 j m2 a 0 i [.r (x.th.map St.az),.r (x.el.map St.az),.r (x.co.map St.az)]):=by
    intro q blocks
    induction blocks with
    |nil=>
     intro m2 j hj hb p0 p1
     have hj:j=3:=by simpa using hj
     subst hj
     refine BT ?_
     simp only[rk,aeT,aeS]
     refine⟨fun h=>by omega,fun _=>?_⟩
     rw[bO g3 hl.1]
     exact ihr (i+1) m2 g2 p0 p1
    |cons bk bs ihb=>
     intro m2 j hj hb p0 p1
     simp only[ae9]at hj
     have hj3:j<3:=by omega
     obtain⟨b1,b2,b3⟩:=aI hb
     have hbk:∀(dp2:Int),PH iV (sR (bk.map St.az) dp2 m2 a 0) (sW (bk.map St.az) dp2 m2 a 0) 3 nZ (fun d=>Pt (St.eb bk) m2 a (d.ae 0).bool (d.ae 1).int (d.ae 2).int (d.ae 3).int):=by
      intro dp2
      rcases j with _|_|_|j
      ·simp only[af0,ae3]at b1;subst b1;exact i1 dp2 m2 a p0 p1 o1 (by omega)
      ·simp only[afT,af7,af0,ae3]at b1;subst b1;exact i2 dp2 m2 a p0 p1 o2 (by omega)
      ·simp only[afT,Nat.reduceAdd,af7,af0,ae3]at b1;subst b1;exact i3 dp2 m2 a p0 p1 o3 (by omega)
      ·omega
     have hat:D.aa (D.at [.r (x.th.map St.az),.r (x.el.map St.az),.r (x.co.map St.az)] j)=bk.map St.az:=by
      rcases j with _|_|_|j
      ·simp only[af0,ae3]at b1;subst b1;rfl
      ·simp only[afT,af7,af0,ae3]at b1;subst b1;rfl
      ·simp only[afT,Nat.reduceAdd,af7,af0,ae3]at b1;subst b1;rfl
      ·omega
     refine BT ?_
     simp only[rk,ae2,hat,aY hj3,ae9,afX,aeT,aeS,afu,afO]
     refine⟨fun _=>⟨fun _=>⟨fun _=>⟨_,_,rfl,hbk _,?_⟩,fun h=>by omega⟩,fun h=>by simp at h⟩,fun h=>by omega⟩
     intro d hq
     have hfl:((bk::bs).map St.eb).flatten++St.eb rest=St.eb bk++((bs.map St.eb).flatten++St.eb rest):=by simp
     rw[hfl]
     simp only[Pt]at hq
     cases hsb:rD m2 (St.eb bk)with
     |some p=>
      rw[hsb]at hq
      obtain⟨q1,q2,q3⟩:=hq
      refine⟨fun _=>⟨rfl,leaf _ _ _ _ _ _ _ ?_⟩,fun h=>by rw[q1]at h;cases h⟩
      simp only[Pt,Gb,hsb]
      exact⟨trivial,q2,q3⟩
     |none=>
      rw[hsb]at hq
      obtain⟨q1,q2,q3,q4⟩:=hq
      have hle:=Ry hsb p1
      refine⟨fun h=>(by rw[q1]at h;cases h),fun _=>?_⟩
      rw[q2,q3,q4,bO hj3 (by omega)]
      have e:=ihb (m2+(St.eb bk).length) (j+1) (by omega) b2 (by omega) hle
      refine e.BL fun d hd=>?_
      unfold Pt at hd ⊢
      rw[Gb,hsb]
      simp only
      cases hs2:rD (m2+((St.eb bk).length:Int)) ((bs.map St.eb).flatten++St.eb rest)with
      |some p=>rw[hs2]at hd;exact hd
      |none=>
       rw[hs2]at hd
       refine⟨hd.1,?_,hd.2.2⟩
       rw[hd.2.1];simp only[ae4];omega
   have e:=inner 0 [x.th,x.el,x.co] (m+1) 0 rfl rfl (by omega) (by omega)
   refine e.BL fun d hd=>?_
   rw[hsc]
   simpa [ahm]using hd
 exact Xe (key l 0 n rfl h0 h1)
def chk (l:List St):Int×Int:=(rD 0 (St.eb l)).getD (0,0)
def ZB (l:List St)(hl:St.AW l)(hs:St.mF l<2^30):iq pg yU [bB] [.r (l.map St.az)] [ah,aX] (·= .r [.z (chk l).1,.z (chk l).2]):=by
 refine TR ?_
 simp only[rk,D.bP]
 refine⟨_,_,rfl,aca l 0 0 0 (by omega) (by omega) hl hs,?_⟩
 intro d hd
 unfold Pt at hd
 unfold chk
 cases h:rD 0 (St.eb l)with
 |none=>rw[h]at hd;rw[hd.2.2.1,hd.2.2.2];rfl
 |some p=>rw[h]at hd;rw[hd.2.1,hd.2.2];rfl
def Sg (l:List St)(hl:St.AW l)(hs:St.mF l<2^30):iq pg rZ [bB] [.r (l.map St.az)] [aX] (·= .z (chk l).2):=by
 refine TS ?_
 simp only[rk,D.bP]
 refine⟨_,_,_,rfl,ZB l hl hs,?_⟩
 rintro _ rfl
 rfl
def Fm (l:List St):Bool:=(chk l).2==0
def adL (l:List St)(hl:St.AW l)(hs:St.mF l<2^30):iq pg E8 [bB] [.r (l.map St.az)] [aj] (·= .b (Fm l)):=by
 refine Z1 ?_
 simp only[rk,D.bP]
 refine⟨_,_,_,rfl,Sg l hl hs,?_⟩
 rintro _ rfl
 rfl
def mg:Nat->Int->List D
 |0,_=>[]
 |w+1,n=> .z (IntKind.u8.wrap (n.fdiv (2^(8*w))))::mg w n
def cG (w:Nat)(n:Int):(mg w n).length=w:=by
 induction w with
 |zero=>rfl
 |succ w ih=>simp[mg,ih]
def be4 (n:Int):[D.z (IntKind.u8.wrap (n.fdiv 16777216)),D.z (IntKind.u8.wrap (n.fdiv 65536)),D.z (IntKind.u8.wrap (n.fdiv 256)),D.z (IntKind.u8.wrap n)]=mg 4 n:=by
 simp[mg,Int.fdiv_one]
def gn (s:nh):(cH s).length=s.length:=by simp[cH]
def Md {R:D->T (BV×List (Nat×ax))}(hR:∀d,R d= .ret (.tuple [],Lm (D.aa d))){l' X:List D}{k:Nat}(hk:k=l'.length)(h:l'=X):
 ∃d,T.dm (BV.tuple [],[(0,ax.cells [.aV 1 k true] br false),(1,.an mn l' true)]) (R d)/\D.aa d=X:=⟨.r l',by rw[hR,hk];exact .ret,h⟩
def xM {m:Nat}(h:m<2^41):bg 1 m=true:=by simp[bg];omega
def kD (l:List D)(n:Int)(hl:l.length+4<2^41):PH aw (xT l n) (xW l n) 1 bV (fun d=>D.aa d=l++mg 4 n):=by
 refine Ks ?_
 simp only[rk,aft,afB,xM hl]
 exact⟨fun _=>⟨rfl,Md (fun _=>rfl) (by simp) (by rw[be4])⟩,fun h=>(by cases h)⟩
def Mj (l:List D)(n:Int)(hl:l.length+8<2^41):PH ca (p9 l n) (qd l n) 1 fC (fun d=>D.aa d=l++mg 8 n):=by
 have loop:∀(w:Nat) (l2:List D),w<=8->l2++mg w n=l++mg 8 n->aC pg ca [] (.bu 1 (fC (p9 l n) (qd l n)) (fun d=>D.aa d=l++mg 8 n)) (qO l n (8*(w:Int)-8) l2.length l2):=by
  intro w
  induction w with
  |zero=>
   intro l2 _ h
   refine BU ?_
   simp only[rk]
   refine⟨fun h=>by simp at h,fun _=>⟨rfl,Md (fun _=>rfl) rfl (by simpa [mg]using h)⟩⟩
  |succ w ih=>
   intro l2 hw h
   have hlen:=afg List.length h
   simp only[ae4,cG]at hlen
   refine BU ?_
   simp only[rk,aft,afB,xM (show l2.length+1<2^41 by omega),aeT,aeS]
   refine⟨fun _=>⟨fun _=>⟨fun _=>?_,fun h=>by cases h⟩,fun h=>by omega⟩,fun h=>by omega⟩
   have e:=ih (l2++[.z (IntKind.u8.wrap (n.fdiv (2^(8*w))))]) (by omega) (by rw[<-h];simp[mg])
   have e1:(8*((w+1:Nat):Int)-8).toNat=8*w:=by omega
   rw[e1,show min (8*w) 64=8*w by omega,bL (by omega) (by omega),show 8*((w+1:Nat):Int)-8-8=8*(w:Int)-8 by omega]
   simpa using e
 refine MD ?_
 have e:=loop 8 l (by omega) rfl
 exact e
def WN (l:List D)(s:nh)(hl:l.length+4+s.length<2^41):PH cA (zt l s) (zx l s) 1 gx (fun d=>D.aa d=l++(mg 4 s.length++cH s)):=by
 refine MC ?_
 simp only[rk]
 refine⟨_,_,rfl,kD l _ (by omega),fun d hd=>?_⟩
 rw[hd]
 simp only[aft,afB,xM (show (l++mg 4 (s.length:Int)).length+(cH s).length<2^41 by simp[cG,gn];omega)]
 exact⟨fun _=>⟨rfl,Md (fun _=>rfl) (by simp;omega) (by simp)⟩,fun h=>by cases h⟩
def MY (l:List D)(n:Int)(wd:Nat)(hw:wd<=8)(hl:l.length+wd<2^41):PH mJ (Er l n wd) (EB l n wd) 0 Be (fun d=>D.aa d=l++mg wd n):=by
 have loop:∀(w:Nat) (l2:List D),w<=wd->l2++mg w n=l++mg wd n->aC pg mJ [Rr] (.bu 0 (Be (Er l n wd) (EB l n wd)) (fun d=>D.aa d=l++mg wd n)) (xB l n wd l2.length ((w:Int)-1) l2):=by
  intro w
  induction w with
  |zero=>
   intro l2 _ h
   refine Hz ?_
   simp only[rk]
   refine⟨fun h=>by simp at h,fun _=>⟨rfl,.r l2,.ret,by simpa [mg]using h⟩⟩
  |succ w ih=>
   intro l2 hw2 h
   have hlen:=afg List.length h
   simp only[ae4,cG]at hlen
   refine Hz ?_
   have e0:IntKind.i64.wrap (8*(((w+1:Nat):Int)-1))=8*(w:Int):=by rw[bL (by omega) (by omega)];omega
   simp only[rk,e0,aft,afB,xM (show l2.length+1<2^41 by omega),aeT,aeS]
   refine⟨fun _=>⟨fun _=>⟨fun _=>?_,fun h=>by cases h⟩,fun h=>by omega⟩,fun h=>by omega⟩
   have e:=ih (l2++[.z (IntKind.u8.wrap (n.fdiv (2^(8*w))))]) (by omega) (by rw[<-h];simp[mg])
   rw[show (8*(w:Int)).toNat=8*w by omega,show min (8*w) 64=8*w by omega,bL (by omega) (by omega),show ((w+1:Nat):Int)-1-1=(w:Int)-1 by omega]
   simpa using e
 refine Xm ?_
 have e:=loop wd l (afa _) rfl
 rw[<-bL (x:=(wd:Int)-1) (by omega) (by omega)]at e
 exact e
def K9 (n:Int)(c:UInt8):Int:=IntKind.u64.wrap (IntKind.u64.wrap (((BitVec.ofInt 64 n ^^^ BitVec.ofInt 64 (IntKind.u64.wrap (c.toNat:Int))).toNat:Nat):Int)*1099511628211)
def AF (s:nh):Int:=s.foldl K9 14695981039346656037
def Ht (s:nh)(hs:s.length<2^62):iq pg ie [bG] [.s s] [q9] (·= .z (AF s)):=by
 have e0:D.bj (.s s)=s:=rfl
 have loop:∀(rest:nh) (i:Nat) (n:Int),s.drop i=rest->aC pg ie [q9] (.kE (·= .z (rest.foldl K9 n))) (Ab (.s s) n i):=by
  intro rest
  induction rest with
  |nil=>
   intro i n hd
   have:=drop_nil hd
   refine JU ?_
   simp only[rk,e0,aeT,aeS]
   exact⟨fun h=>by omega,fun _=>rfl⟩
  |cons c rest ih=>
   intro i n hd
   obtain⟨k1,k2,k3⟩:=aI hd
   refine JU ?_
   simp only[rk,e0,aeT,aeS,aY k3,ae2]
   refine⟨fun _=>⟨fun _=>?_,fun h=>by cases h⟩,fun h=>by omega⟩
   have e:=ih (i+1) (K9 n c) k2
   have e1:s.getD i 0=c:=by simp[List.getD,k1]
   rw[bO k3 (by omega),e1]
   exact e
 refine Z5 ?_
 exact loop s 0 _ rfl
end Go.Proofs
end
