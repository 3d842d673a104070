import Derived.Test.YtdoajjnobfjkcaaGreatM13
import Derived.Test.YtdoajjnobfjkcaaGreatM22
set_option linter.all false
noncomputable section
namespace Go.Proofs
open Go Go.PB
def yu (x:Ex)(m k:Int):Prop:=x.jg=true/\(x.size:Int)<=m/\(x.mD:Int)<=k
def KD (l:List Ex)(m k:Int):Prop:=Ex.fC l=true/\(Ex.bB l:Int)<=m/\(Ex.gf l:Int)<=k
def O7 (x:Ex)(m k:Int)(d:D):Prop:=((d.aa 0).bool=true↔yu x m k)/\(yu x m k->(d.aa 1).int=m-x.size)
def ael {x:Ex}{m k:Int}{b:Bool}{n:Int}(h1:b=true↔yu x m k)(h2:yu x m k->n=m-x.size):
 ∃d,T.dy (BV.bool b,[(0,aI.cells [.int .i64 n] af false)]) (T.ret (BV.bool (d.aa 0).bool,[(0,aI.cells [.int .i64 (d.aa 1).int] af false)]))/\O7 x m k d:=⟨.r [.b b,.z n],.ret,h1,h2⟩
def HJ (l:List Ex)(m k:Int)(b:Bool)(n:Int):Prop:=(b=false↔KD l m (k-1))/\(KD l m (k-1)->n=m-Ex.bB l)
def Vv (x:Ex):∀m k:Int,x.ok->x.size<2^30->0<=m->m<=600->0<=k->k<=16->
 PH nh (tL x.ax m k) (tP x.ax m k) 1 mU (O7 x m k):=by
 induction x using Ex.GM with|h x ih=>
 intro m k hx hs h0 h1 h2 h3
 have hse:=x.eo
 have hde:=x.ME
 have hfe:=x.CK
 have hok:=(Ex.gL x).1 hx
 have loop:∀(m0:Int) (ah:List Ex) (i:Nat) (n:Int),0<k->0<=n->n<=600->x.l.drop i=ah->
  ay pg gy [af] (.bx 3 (oO (oM (x.l.map Ex.ax) m0 k) (oN (x.l.map Ex.ax) m0 k)) (fun d=>HJ ah n k (decide (0<=(d.aa 0).int)) (d.aa 1).int)) (gK (x.l.map Ex.ax) m0 k i n):=by
  intro m0 ah
  induction ah with
  |nil=>
   intro i n hk hn0 hn hd
   have:=drop_nil hd
   refine rN ?_
   simp only[rk,agV]
   refine⟨fun h=>by simp at h;omega,fun _=>⟨rfl,.r [.z (-1),.z n],.ret,?_⟩⟩
   simp[HJ,KD,Ex.bB,Ex.gf,Ex.fC,D.aa,D.at]
   omega
  |cons y ah ihr=>
   intro i n hk hn0 hn hd
   obtain⟨g1,g2,g3⟩:=aB hd
   have hy:=agY g1
   have hsy:=Ex.eb hy
   have hpy:0<y.size:=by have:=y.eo;omega
   refine rN ?_
   simp[-exists_and_left,g3,aU,bn g1,bo g3 hx.len]
   rw[bO (x:=k-1) (by omega) (by omega)]
   refine⟨_,_,rfl,ih y hy n (k-1) (hx.mem hy) (by omega) hn0 (by omega) (by omega) (by omega),?_⟩
   rintro d ⟨q1,q2⟩
   have hrw:∀a b,HJ (y::ah) n k a b↔((a=false↔((y.jg&&Ex.fC ah)=true/\((y.size+Ex.bB ah:Nat):Int)<=n/\((max y.mD (Ex.gf ah):Nat):Int)<=k-1))/\(((y.jg&&Ex.fC ah)=true/\((y.size+Ex.bB ah:Nat):Int)<=n/\((max y.mD (Ex.gf ah):Nat):Int)<=k-1)->b=n-((y.size+Ex.bB ah:Nat):Int))):=fun a b=>Iff.rfl
   refine⟨fun hb=>⟨rfl,.r [.z i,.z (d.aa 1).int],.ret,?_⟩,fun hb=>?_⟩
   ·have hno:¬yu y n (k-1):=fun h=>by rw[q1.2 h]at hb;cases hb
    rw[hrw]
    simp only[yu,ag2]at hno ⊢
    have e0:decide (0<=D.int (D.aa (.r [.z (i:Int),.z (d.aa 1).int]) 0))=true:=by show decide (0<=(i:Int))=true;simp
    rw[e0]
    exact⟨⟨fun a=>by simp at a,fun a=>(hno ⟨a.1.1,by omega,by omega⟩).elim⟩,fun a=>(hno ⟨a.1.1,by omega,by omega⟩).elim⟩
   ·have hyes:=q1.1 hb
    have e:=q2 hyes
    simp only[yu]at hyes
    have:=ihr (i+1) (d.aa 1).int hk (by omega) (by omega) g2
    refine ay.xA ?_ this
    intro d2 hq
    rw[hrw]
    simp only[HJ,KD,ag2]at hq ⊢
    rw[e]at hq
    refine⟨hq.1.trans ⟨fun a=>⟨⟨hyes.1,a.1⟩,by omega,by omega⟩,fun a=>⟨a.1.2,by omega,by omega⟩⟩,fun a=>by have:=hq.2 ⟨a.1.2,by omega,by omega⟩;omega⟩
 have cont:∀m0:Int,0<k->0<=m0->m0<=600->PH bp (qK (x.l.map Ex.ax) m0 k) (qN (x.l.map Ex.ax) m0 k) 3 eP
  (fun d=>HJ x.l m0 k (d.aa 0).bool (d.aa 1).int):=by
  intro m0 hk a b
  refine Bq ?_
  simp only[rk]
  refine⟨_,_,rfl,Em (loop m0 x.l 0 m0 hk a b rfl),?_⟩
  intro d hd
  exact⟨rfl,.r [.b _,.z _],.ret,hd⟩
 have hsl:=Ex.dx x.l
 refine Qg ?_
 rw[bO (x:=m-1) (by omega) (by omega)]
 simp only[rk,Ex.cU,Ex.lu,Ex.BD,Ex.vA,agV,agW,agX]
 refine⟨fun h=>⟨rfl,ael ?_ ?_⟩,fun hm=>?_⟩
 ·simp only[yu,agZ,false_iff];omega
 ·simp only[yu];omega
 have bj:∀b:Bool,(b=true↔yu x m k)->(b=true->x.k≠3)->mY.bx=some 1/\∃d,T.dy (BV.bool b,[(0,aI.cells [.int .i64 (m-1)] af false)]) (mU (tL x.ax m k) (tP x.ax m k) d)/\O7 x m k d:=fun b h e=>⟨rfl,ael h fun g=>by
  have hl:x.l=[]:=Ex.A8 (by have:=g.1;rw[hfe,ag2]at this;exact this.2) (e (h.2 g))
  rw[hl]at hse;simp only[Ex.bB]at hse;omega⟩
 have finL:x.k≠3->∀b:Bool,b=x.iw->mY.bx=some 1/\∃d,T.dy (BV.bool b,[(0,aI.cells [.int .i64 (m-1)] af false)]) (mU (tL x.ax m k) (tP x.ax m k) d)/\O7 x m k d:=fun hk b hb=>bj b (by
  rw[hb]
  constructor
  ·intro g
   have hl:x.l=[]:=Ex.A8 g hk
   rw[ag4 hk]at hde
   rw[hl]at hse hfe
   simp only[Ex.bB]at hse
   refine⟨?_,by omega,by omega⟩
   rw[hfe,g];rfl
  ·intro g
   have:=g.1
   rw[hfe,ag2]at this
   exact this.2) (fun _=>hk)
 by_cases k1:x.k=1
 ·have hf:x.iw=(x.s==[]&&x.l.length==0):=by simp[Ex.iw,k1]
  simp[k1]
  exact⟨fun a=>finL (by omega) _ (by rw[hf];simp;intro _ e;simp[e]at a),fun a=>⟨fun b=>finL (by omega) _ (by simp[hf,b]),fun b=>finL (by omega) _ (by simp[hf,a,b])⟩⟩
 by_cases k2:x.k=2
 ·have hf:x.iw=(x.n==0&&decide (x.s.length<=256)&&x.l.length==0):=by simp[Ex.iw,k2]
  simp[k2]
  exact⟨fun a=>finL (by omega) _ (by simp[hf,a]),fun a=>⟨fun b=>finL (by omega) _ (by rw[hf];simp;intro _ _ e;simp[e]at b),fun b=>finL (by omega) _ (by simp[hf,a,b];omega)⟩⟩
 by_cases k3:x.k=3
 ·have hf:x.iw=(x.n==0&&x.s==[]):=by simp[Ex.iw,k3]
  rw[ag8 k3]at hde
  simp[-exists_and_left,k3]
  have no:¬yu x m k->mY.bx=some 1/\∃d,T.dy (BV.bool false,[(0,aI.cells [.int .i64 (m-1)] af false)]) (mU (tL x.ax m k) (tP x.ax m k) d)/\O7 x m k d:=fun h=>bj false (by simp[h]) (by simp)
  refine⟨fun a=>no ?_,fun a=>⟨fun b=>no ?_,fun b=>⟨fun c=>⟨_,_,rfl,cont (m-1) c (by omega) (by omega),?_⟩,fun c=>no ?_⟩⟩⟩
  ·intro g;have:=g.1;rw[hfe,hf]at this;simp[a]at this
  ·intro g;have:=g.1;rw[hfe,hf]at this;simp[b]at this
  ·intro d hq
   have hf2:x.jg=Ex.fC x.l:=by rw[hfe,hf];simp[a,b]
   simp only[HJ,KD]at hq
   refine⟨rfl,ael ?_ ?_⟩
   ·rw[ahl,hq.1]
    simp only[yu,hf2]
    exact⟨fun g=>⟨g.1,by omega,by omega⟩,fun g=>⟨g.1,by omega,by omega⟩⟩
   ·intro g
    simp only[yu,hf2]at g
    have:=hq.2 ⟨g.1,by omega,by omega⟩
    omega
  ·intro g;have:=g.2.2;omega
 by_cases k4:x.k=4
 ·have hf:x.iw=(x.n==0&&bR x.s&&x.l.length==0):=by simp[Ex.iw,k4]
  simp[-exists_and_left,k4]
  refine⟨fun a=>finL (by omega) _ (by simp[-exists_and_left,hf,a]),fun a=>⟨fun b=>finL (by omega) _ (by rw[hf];simp;intro _ _ e;simp[-exists_and_left,e]at b),fun b=>⟨_,_,_,rfl,iT x.s (by unfold maxLen;omega),?_⟩⟩⟩
  rintro _ rfl
  exact finL (by omega) _ (by simp[hf,a,b])
 ·have hf:x.iw=false:=by simp[Ex.iw,k1,k2,k3,k4]
  simp[k1,k2,k3,k4]
  exact⟨fun a=>finL k3 _ (by simp[hf]),fun a=>⟨fun b=>finL k3 _ (by simp[hf]),fun b=>⟨fun c=>finL k3 _ (by simp[hf]),fun c=>finL k3 _ (by simp[hf])⟩⟩⟩
def ou (x:Ex)(hx:x.ok)(hs:x.size<2^30):fk pg cR [aG] [x.ax] [ai] (·= .b x.cN):=by
 refine P7 ?_
 simp only[rk]
 refine⟨_,_,rfl,Vv x 512 16 hx hs (by omega) (by omega) (by omega) (by omega),?_⟩
 rintro d ⟨q,_⟩
 congr 1
 rw[ahu,q]
 simp only[yu,Ex.cN,ag2,agW]
 exact⟨fun g=>⟨⟨by omega,by omega⟩,g.1⟩,fun g=>⟨g.2,by omega,by omega⟩⟩
noncomputable def T9:cm:=({f:=gI,rs:=[af],bx:=none,cz:=[],bL:=[],bJ:=[]}:cm)
def age (n:Nat)(h:n<64):fk pg gI [tu8] [.z n] [af] (·= .z (K5 n)):=by
 rcases n with _|n
 ·exact fk.nB (C:=T9) KI 600 (.lit .all) (t:= .ret (.z (K5 0))) (by kernel_rfl) (by kernel_rfl) (by kernel_rfl) rfl
 iterate 63 (rcases n with _|n;· exact fk.nB (C:=T9) KI 600 (.lit .all) (t:= .ret (.z (K5 _))) (by kernel_rfl) (by kernel_rfl) (by kernel_rfl) rfl)
 omega
def Jw (a:Int):Bool:=a==1||a==2||a==4||a==8||a==16||a==32
def YS:∀n:Nat,n<64->(decide ((K5 n:Int)=1))=Jw n:=by decide
def afj (a:Int)(h0:0<=a)(h1:a<256):fk pg GA [lM] [.z a] [ai] (·= .b (Jw a)):=by
 refine abU ?_
 simp only[rk,D.bV]
 refine⟨_,_,_,rfl,TZ a h0 h1,?_⟩
 rintro _ rfl
 simp only[D.bz,agW,agX]
 obtain⟨n,rfl⟩:=ai1 h0
 refine⟨fun h=>⟨_,_,_,rfl,age n (by omega),?_⟩,fun h=>?_⟩
 ·rintro _ rfl
  have:=YS n (by omega)
  rw[<-this,D.bV];congr 1
 ·have:Jw n=false:=by simp[Jw];omega
  rw[this]
def ab7 (a:Int)(h0:0<=a)(h1:a<256):fk pg nR [lM] [.z a] [ai] (·= .b (Jw a)):=by
 have loop:∀m k:Nat,m+k=6->(∀j<k,a≠2^j)->ay pg nR [ai] (.dQ (·= .b (Jw a))) (vU (.z a) k):=by
  intro m
  induction m with
  |zero=>
   intro k hk hp
   have:k=6:=by omega
   subst this
   refine Hb ?_
   have a0:=hp 0 (by omega);have a1:=hp 1 (by omega);have a2:=hp 2 (by omega);have a3:=hp 3 (by omega);have a4:=hp 4 (by omega);have a5:=hp 5 (by omega)
   have:Jw a=false:=by simp[Jw];omega
   simp[this]
  |succ m ih=>
   intro k hk hp
   refine Hb ?_
   have hk6:k<6:=by omega
   have e:IntKind.u8.wrap ((1:Int)*2^(min k 8))=2^k:=by
    rcases k with _|_|_|_|_|_|k<;>first|rfl|omega
   simp only[rk,D.bV,ag6,e,aht,ahe,agW,agX]
   refine⟨fun _=>⟨fun _=>⟨fun h=>?_,fun h=>?_⟩,fun h=>by omega⟩,fun h=>by omega⟩
   ·subst h
    have:Jw (2^k)=true:=by rcases k with _|_|_|_|_|_|k<;>first|rfl|omega
    rw[this]
   ·rw[bo hk6 (by omega)]
    refine ih (k+1) (by omega) fun j hj=>?_
    by_cases e:j=k
    ·subst e;exact h
    ·exact hp j (by omega)
 exact V2 (loop 6 0 rfl (by omega))
namespace Ex
def zero:Ex:= .mk 0 0 [] []
def none (e:Ex):Bool:=e.k==0&&(e.n==0&&(e.s==[]&&e.l.length==0))
def RA (e:Ex):Bool:=e.none||e.cN
def PW {e:Ex}(h:e.none=true):e.cN=false:=by
 simp only[none,ag2,aht]at h
 have:e.jg=false:=by rw[e.CK];simp[iw,h.1]
 simp[cN,this]
def VF:zero.none=true:=rfl
end Ex
def Ij (e:Ex):fk pg bN [aG] [e.ax] [ai] (·= .b e.none):=by
 refine Za ?_
 simp only[rk,Ex.cU,Ex.lu,Ex.BD,Ex.vA,agV]
 refine⟨fun a=>⟨fun b=>⟨fun c=>?_,fun c=>?_⟩,fun b=>?_⟩,fun a=>?_⟩
 ·have:(((e.l.length:Nat):Int)==0)=(e.l.length==0):=by rw[ahu];simp
  simp[Ex.none,a,b,c,this]
 ·simp[Ex.none,c]
 ·simp[Ex.none,b]
 ·simp[Ex.none,a]
def Ab (e:Ex)(h:e.ok)(hs:e.size<2^30):fk pg eJ [aG] [e.ax] [ai] (·= .b e.RA):=by
 refine SK ?_
 simp only[rk,Ex.re]
 refine⟨_,_,_,rfl,Ij e,?_⟩
 rintro _ rfl
 simp only[D.bz]
 refine⟨fun a=>by simp[Ex.RA,a],fun a=>⟨_,_,_,rfl,ou e h hs,?_⟩⟩
 rintro _ rfl
 simp[Ex.RA,a]
def B4 (l:List Ei)(hl:l.length<2^62)(hok:∀s∈l,s.length<2^63):PH fi (rW (Dm l)) [] 0 mC (·= .b (!l.all bR)):=by
 have loop:∀(ah:List Ei) (i:Nat),l.drop i=ah->ay pg dS [af] (.bx 0 (kG (p7 (Dm l)) []) (fun d=>decide (0<=D.int d)=!ah.all bR)) (iz (Dm l) i):=by
  intro ah
  induction ah with
  |nil=>
   intro i hd
   have:=drop_nil hd
   refine r7 ?_
   simp only[rk,agV]
   exact⟨fun h=>by simp at h;omega,fun _=>⟨rfl,.z (-1),.ret,rfl⟩⟩
  |cons s ah ih=>
   intro i hd
   obtain⟨g1,g2,g3⟩:=aB hd
   refine r7 ?_
   simp only[rk,agV,ag6,bn (f:=D.s) g1,D.Lq,aU g3,ahl,ahq]
   refine⟨fun _=>⟨fun _=>⟨_,_,_,rfl,iT s (by have:=hok s (agY g1);unfold maxLen;omega),?_⟩,fun h=>by simp at h⟩,fun h=>by simp at h;omega⟩
   rintro _ rfl
   simp only[D.bz]
   refine⟨fun a=>⟨rfl,.z i,.ret,?_⟩,fun a=>?_⟩
   ·simp[a]
   ·rw[bo g3 (by omega)]
    exact(ih _ g2).xA fun d h=>by simp[h,a]
 refine B7 ?_
 simp only[rk]
 refine⟨_,_,rfl,Fz (loop l 0 rfl),?_⟩
 intro d h
 refine⟨rfl,.b _,.ret,?_⟩
 show D.b (decide (0<=D.int d))=_
 rw[h]
section
namespace St
def rj (s:St):Prop:=s.ok/\s.esz<2^30/\s.wi.length<2^62/\∀w∈s.wi,w.length<2^63
def Km (s:St):St:= .mk 0 s.nm [] 0 0 s.a .zero [] [] [] []
def T0 (s:St):St:= .mk 0 s.nm [] s.ab 0 s.a s.b [] [] [] []
def T1 (s:St):St:= .mk 0 s.nm [] 0 0 s.a s.b [] [] [] []
def T2 (s:St):St:= .mk 0 [] [] 0 0 s.a s.b s.th s.el [] []
def T3 (s:St):St:= .mk 0 [] [] s.ab 0 s.a .zero s.th s.el [] []
def T4 (s:St):St:= .mk 0 [] [] 0 0 s.a .zero [] [] [] []
def Pc (s:St):St:= .mk 0 [] [] 0 0 .zero .zero [] [] [] []
def Pd (s:St):St:=
 if s.wh=1 then .mk 0 s.nm [] 0 s.wh s.a .zero [] [] [] []
 else if s.wh=14 then .mk 0 s.nm [] s.ab s.wh s.a .zero [] [] [] []
 else if s.wh=15\/s.wh=16 then .mk 0 s.nm s.sc 0 s.wh s.a .zero [] [] [] []
 else if s.wh=5\/s.wh=10 then .mk 0 s.nm s.sc 0 s.wh .zero .zero [] [] [] []
 else if s.wh=12 then .mk 0 s.nm [] 0 s.wh .zero .zero [] [] s.co s.wi
 else .mk 0 s.nm [] 0 s.wh .zero .zero [] [] [] []
def ok1 (s:St):Bool:=bR s.nm&&s.a.RA
def YR (s:St):Bool:=bR s.nm&&Jw s.ab&&s.a.cN&&s.b.RA&&(s.b.none||(s.ab !=1&&s.ab !=32))
def ok3 (s:St):Bool:=bR s.nm&&s.a.cN&&s.b.cN
def ok4 (s:St):Bool:=s.a.RA&&s.b.RA
def ok5 (s:St):Bool:=s.a.cN&&decide (s.ab<64)
def ok8 (s:St):Bool:=bR s.nm&&s.a.cN
def okM (s:St):Bool:=
 if s.wh=1 then bR s.nm&&s.a.RA
 else if s.wh=2\/s.wh=3\/s.wh=4\/s.wh=8 then bR s.nm
 else if s.wh=14 then bR s.nm&&s.a.cN&&decide (s.ab<64)
 else if s.wh=15\/s.wh=16 then bR s.nm&&s.a.cN&&bR s.sc&&!(s.sc==s.nm)
 else if s.wh=5\/s.wh=10 then bR s.nm&&bR s.sc&&!(s.sc==s.nm)
 else if s.wh=12 then bR s.nm&&decide (s.wi.length<=64)&&s.wi.all bR&&decide s.wi.Nodup
 else false
def qT (s t:St):Bool:=s.nm==t.nm&&s.sc==t.sc&&s.ab==t.ab&&s.wh==t.wh&&(t.a.none==s.a.none)&&(t.b.none==s.b.none)&&t.th.length==s.th.length&&t.el.length==s.el.length&&t.co.length==s.co.length&&t.wi.length==s.wi.length
def fm (s:St):Option (St×Bool):=
 if s.op=1 then some (s.Km,s.ok1)else if s.op=2 then some (s.T0,s.YR)else if s.op=3 then some (s.Pd,s.okM)
 else if s.op=4 then some (s.T1,s.ok3)else if s.op=5 then some (s.T2,s.ok4)else if s.op=6 then some (s.T3,s.ok5)
 else if s.op=7 then some (s.T4,s.a.RA)else if s.op=8 then some (s.Pc,true)else if s.op=9 then some (s.Km,s.ok8)else none
def vn (s:St):Bool:=match s.fm with|some (t,b)=>b&&s.qT t|none=>false
end St
section
variable (s:St) (h:s.rj)
include h
def St.rj.b:s.nm.length<=maxLen/\s.sc.length<=maxLen/\s.a.ok/\s.b.ok/\s.a.size<2^30/\s.b.size<2^30/\0<=s.ab/\s.ab<256:=by
 obtain⟨o1,o2,o3,o4,o5,o6,o7,o8,o9,o10,_⟩:=(St.gL s).1 h.1
 have e:=s.xk
 have:=h.2.1
 unfold maxLen
 exact⟨by omega,by omega,o9,o10,by omega,by omega,o5,o6⟩
end
def Ul (t:St)(b:Bool):D:= .r [t.ax,.b b]
attribute [local go_sem] Ul D.bz ah0 ajf aib ajT akG ajJ akb ai7
def Vn (s:St)(h:s.rj):fk pg uo [ba] [s.ax] [ba,ai] (·=Ul s.Km s.ok1):=by
 obtain⟨n1,n2,ha,hb,za,zb,a0,a1⟩:=h.b
 refine P8 ?_
 simp only[rk,St.xj,St.CB,Ex.re]
 refine⟨_,_,_,rfl,iT _ n1,?_⟩
 rintro _ rfl
 simp only[D.bz]
 refine⟨fun a=>⟨_,_,_,rfl,Ab _ ha za,?_⟩,fun a=>?_⟩
 ·rintro _ rfl
  (simp only[go_sem,St.ok1,a];rw[St.aD];rfl)
 ·(simp only[go_sem,St.ok1,a];rw[St.aD];rfl)
def Vo (s:St)(h:s.rj):fk pg uw [ba] [s.ax] [ba,ai] (·=Ul s.T0 s.YR):=by
 obtain⟨n1,n2,ha,hb,za,zb,a0,a1⟩:=h.b
 refine P9 ?_
 simp only[rk,St.xj,St.CB,St.KA,St.HY,Ex.re]
 refine⟨_,_,_,rfl,iT _ n1,?_⟩
 rintro _ rfl
 simp only[D.bz]
 refine⟨fun a=>⟨_,_,_,rfl,afj _ a0 a1,?_⟩,fun a=>(by simp only[go_sem,St.YR,a];rw[St.aD];rfl)⟩
 rintro _ rfl
 simp only[D.bz]
 refine⟨fun b=>⟨_,_,_,rfl,ou _ ha za,?_⟩,fun b=>(by simp only[go_sem,St.YR,a,b];rw[St.aD];rfl)⟩
 rintro _ rfl
 simp only[D.bz]
 refine⟨fun c=>⟨_,_,_,rfl,Ab _ hb zb,?_⟩,fun c=>(by simp only[go_sem,St.YR,a,b,c];rw[St.aD];rfl)⟩
 rintro _ rfl
 simp only[D.bz]
 refine⟨fun d=>⟨_,_,_,rfl,Ij _,?_⟩,fun d=>(by simp only[go_sem,St.YR,a,b,c,d];rw[St.aD];rfl)⟩
 rintro _ rfl
 simp only[D.bz]
 refine⟨fun e=>(by simp only[go_sem,St.YR,a,b,c,d,e];rw[St.aD];rfl),fun e=>⟨fun f=>(by simp only[go_sem,St.YR,a,b,c,d,e,f];rw[St.aD];rfl),fun f=>(by simp only[go_sem,St.YR,a,b,c,d,e,f];rw[St.aD];rfl)⟩⟩
def Vp (s:St)(h:s.rj):fk pg ux [ba] [s.ax] [ba,ai] (·=Ul s.T1 s.ok3):=by
 obtain⟨n1,n2,ha,hb,za,zb,a0,a1⟩:=h.b
 refine Qa ?_
 simp only[rk,St.xj,St.CB,St.KA,Ex.re]
 refine⟨_,_,_,rfl,iT _ n1,?_⟩
 rintro _ rfl
 simp only[D.bz]
 refine⟨fun a=>⟨_,_,_,rfl,ou _ ha za,?_⟩,fun a=>(by simp only[go_sem,St.ok3,a];rw[St.aD];rfl)⟩
 rintro _ rfl
 simp only[D.bz]
 refine⟨fun b=>⟨_,_,_,rfl,ou _ hb zb,?_⟩,fun b=>(by simp only[go_sem,St.ok3,a,b];rw[St.aD];rfl)⟩
 rintro _ rfl
 (simp only[go_sem,St.ok3,a,b];rw[St.aD];rfl)
def Vq (s:St)(h:s.rj):fk pg uy [ba] [s.ax] [ba,ai] (·=Ul s.T2 s.ok4):=by
 obtain⟨n1,n2,ha,hb,za,zb,a0,a1⟩:=h.b
 refine Qb ?_
 simp only[rk,St.xj,St.CB,St.KA,St.kQ,St.CC,Ex.re]
 refine⟨_,_,_,rfl,Ab _ ha za,?_⟩
 rintro _ rfl
 simp only[D.bz]
 refine⟨fun a=>⟨_,_,_,rfl,Ab _ hb zb,?_⟩,fun a=>(by simp only[go_sem,St.ok4,a];rw[St.aD];rfl)⟩
 rintro _ rfl
 (simp only[go_sem,St.ok4,a];rw[St.aD];rfl)
def Vr (s:St)(h:s.rj):fk pg uC [ba] [s.ax] [ba,ai] (·=Ul s.T3 s.ok5):=by
 obtain⟨n1,n2,ha,hb,za,zb,a0,a1⟩:=h.b
 refine Qc ?_
 simp only[rk,St.CB,St.HY,St.kQ,St.CC,Ex.re]
 refine⟨_,_,_,rfl,ou _ ha za,?_⟩
 rintro _ rfl
 simp only[D.bz]
 refine⟨fun a=>⟨_,_,_,rfl,TZ _ a0 a1,?_⟩,fun a=>(by simp only[go_sem,St.ok5,a];rw[St.aD];rfl)⟩
 rintro _ rfl
 (simp only[go_sem,St.ok5,a];rw[St.aD];rfl)
def Vs (s:St)(h:s.rj):fk pg uD [ba] [s.ax] [ba,ai] (·=Ul s.T4 s.a.RA):=by
 obtain⟨n1,n2,ha,hb,za,zb,a0,a1⟩:=h.b
 refine Qd ?_
 simp only[rk,St.CB,Ex.re]
 refine⟨_,_,_,rfl,Ab _ ha za,?_⟩
 rintro _ rfl
 (simp only[go_sem,St.ok1];rw[St.aD];rfl)
def Vt (s:St):fk pg qC [ba] [s.ax] [ba,ai] (·=Ul s.Pc true):=by
 refine Qe ?_
 simp only[rk]
 (simp only[go_sem,St.ok1];rw[St.aD];rfl)
def Vu (s:St)(h:s.rj):fk pg uF [ba] [s.ax] [ba,ai] (·=Ul s.Km s.ok8):=by
 obtain⟨n1,n2,ha,hb,za,zb,a0,a1⟩:=h.b
 refine Qf ?_
 simp only[rk,St.xj,St.CB,Ex.re]
 refine⟨_,_,_,rfl,iT _ n1,?_⟩
 rintro _ rfl
 simp only[D.bz]
 refine⟨fun a=>⟨_,_,_,rfl,ou _ ha za,?_⟩,fun a=>(by simp only[go_sem,St.ok8,a];rw[St.aD];rfl)⟩
 rintro _ rfl
 (simp only[go_sem,St.ok8,a];rw[St.aD];rfl)
end
section
attribute [local go_sem] Ul St.Pd St.okM D.bz ah0 ajf aib ajT akG ajJ akb ai7 ahz ahN or_true true_or ajk akO ahg ahj
def abA (s:St)(h:s.rj):fk pg zY [ba] [s.ax] [ba,ai] (·=Ul s.Pd s.okM):=by
 obtain⟨n1,n2,ha,hb,za,zb,a0,a1⟩:=h.b
 refine VZ ?_
 simp only[rk,St.xj,St.Sb,St.CB,St.KA,St.HY,St.NU,St.CE,St.iI,Ex.re,agV,aht,ahe,aic,agW,agX,ahl,ahq]
 refine⟨_,_,_,rfl,iT _ n1,?_⟩
 rintro _ rfl
 simp only[D.bz]
 refine⟨fun w=>⟨fun a=>⟨_,_,_,rfl,Ab _ ha za,?_⟩,fun a=>(by simp only[go_sem,Int.reduceEq,w,a];rw[St.aD];rfl)⟩,fun w1=>⟨fun w=>(by simp only[go_sem,Int.reduceEq,w];rw[St.aD];rfl),fun w2=>⟨fun w=>(by simp only[go_sem,Int.reduceEq,w];rw[St.aD];rfl),fun w3=>⟨fun w=>(by simp only[go_sem,Int.reduceEq,w];rw[St.aD];rfl),fun w4=>⟨fun w=>(by simp only[go_sem,Int.reduceEq,w];rw[St.aD];rfl),fun w8=>⟨fun w=>⟨fun a=>⟨_,_,_,rfl,ou _ ha za,?_⟩,fun a=>(by simp only[go_sem,Int.reduceEq,w,a];rw[St.aD];rfl)⟩,fun w14=>⟨fun w=>⟨fun a=>⟨_,_,_,rfl,ou _ ha za,?_⟩,fun a=>(by simp only[go_sem,Int.reduceEq,w,a];rw[St.aD];rfl)⟩,fun w15=>⟨fun w=>⟨fun a=>⟨_,_,_,rfl,ou _ ha za,?_⟩,fun a=>(by simp only[go_sem,Int.reduceEq,w,a];rw[St.aD];rfl)⟩,fun w16=>⟨fun w=>⟨fun a=>⟨_,_,_,rfl,iT _ n2,?_⟩,fun a=>(by simp only[go_sem,Int.reduceEq,w,a];rw[St.aD];rfl)⟩,fun w5=>⟨fun w=>⟨fun a=>⟨_,_,_,rfl,iT _ n2,?_⟩,fun a=>(by simp only[go_sem,Int.reduceEq,w,a];rw[St.aD];rfl)⟩,fun w10=>⟨fun w=>⟨fun a=>⟨fun b=>⟨_,_,rfl,B4 _ h.2.2.1 h.2.2.2,?_⟩,fun b=>?_⟩,fun a=>(by simp only[go_sem,Int.reduceEq,w,a];rw[St.aD];rfl)⟩,fun w12=>?_⟩⟩⟩⟩⟩⟩⟩⟩⟩⟩⟩
 ·rintro _ rfl
  (simp only[go_sem,Int.reduceEq,w,a];rw[St.aD];rfl)
 ·rintro _ rfl
  simp only[D.bz]
  refine⟨fun b=>⟨_,_,_,rfl,TZ _ a0 a1,?_⟩,fun b=>(by simp only[go_sem,Int.reduceEq,w,a,b];rw[St.aD];rfl)⟩
  rintro _ rfl
  (simp only[go_sem,Int.reduceEq,w,a,b];rw[St.aD];rfl)
 ·rintro _ rfl
  simp only[D.bz]
  refine⟨fun b=>⟨_,_,_,rfl,iT _ n2,?_⟩,fun b=>(by simp only[go_sem,Int.reduceEq,w,a,b];rw[St.aD];rfl)⟩
  rintro _ rfl
  simp only[D.bz]
  exact⟨fun c=>(by simp only[go_sem,Int.reduceEq,w,a,b,c];rw[St.aD];rfl),fun c=>(by simp only[go_sem,Int.reduceEq,w,a,b,c];rw[St.aD];rfl)⟩
 ·rintro _ rfl
  simp only[D.bz]
  refine⟨fun b=>⟨_,_,_,rfl,iT _ n2,?_⟩,fun b=>(by simp only[go_sem,Int.reduceEq,w,a,b];rw[St.aD];rfl)⟩
  rintro _ rfl
  simp only[D.bz]
  exact⟨fun c=>(by simp only[go_sem,Int.reduceEq,w,a,b,c];rw[St.aD];rfl),fun c=>(by simp only[go_sem,Int.reduceEq,w,a,b,c];rw[St.aD];rfl)⟩
 ·rintro _ rfl
  simp only[D.bz]
  exact⟨fun c=>(by simp only[go_sem,Int.reduceEq,w,a,c];rw[St.aD];rfl),fun c=>(by simp only[go_sem,Int.reduceEq,w,a,c];rw[St.aD];rfl)⟩
 ·rintro _ rfl
  simp only[D.bz]
  exact⟨fun c=>(by simp only[go_sem,Int.reduceEq,w,a,c];rw[St.aD];rfl),fun c=>(by simp only[go_sem,Int.reduceEq,w,a,c];rw[St.aD];rfl)⟩
 ·rintro _ rfl
  simp only[D.bz]
  have b2:s.wi.length<=64:=by omega
  refine⟨fun c=>⟨_,_,_,rfl,Ut _ h.2.2.1,?_⟩,fun c=>?_⟩
  ·rintro _ rfl
   simp only[ahq]at c
   simp only[D.bz,Bool.not_not]
   (simp only[go_sem,Int.reduceEq,w,a,b2,c];rw[St.aD];rfl)
  ·simp only[ahl]at c
   (simp only[go_sem,Int.reduceEq,w,a,b2,c];rw[St.aD];rfl)
 ·have b2:¬s.wi.length<=64:=by omega
  (simp only[go_sem,Int.reduceEq,w,a,b2];rw[St.aD];rfl)
 ·(simp only[go_sem,Int.reduceEq,w1,w2,w3,w4,w8,w14,w15,w16,w5,w10,w12];rw[St.aD];rfl)
end
def afG (t:St)(b:Bool):D.aa (Ul t b) 0=t.ax:=rfl
def afH (t:St)(b:Bool):D.bool (D.aa (Ul t b) 1)=b:=rfl
def aeo (a b:Nat):(((a:Nat):Int)==((b:Nat):Int))=(a==b):=by rw[ahu];simp;omega
def tk {s t:St}{b:Bool}(e:s.vn=(b&&s.qT t)):∃t' b',t=t'/\b=b'/\s.vn=(b'&&s.qT t'):=⟨t,b,rfl,rfl,e⟩
def afR (s:St)(h:s.rj):fk pg GC [ba] [s.ax] [ai] (·= .b s.vn):=by
 obtain⟨bt,hbt⟩:∃b:Bool,b=true:=⟨_,rfl⟩
 refine abX ?_
 simp only[rk,St.X7,St.re,aht,ahe,aic]
 refine⟨fun o1=>⟨_,_,_,rfl,Vn s h,?_⟩,fun n1=>⟨fun o2=>⟨_,_,_,rfl,Vo s h,?_⟩,fun n2=>⟨fun o3=>⟨_,_,_,rfl,abA s h,?_⟩,fun n3=>⟨fun o4=>⟨_,_,_,rfl,Vp s h,?_⟩,fun n4=>⟨fun o5=>⟨_,_,_,rfl,Vq s h,?_⟩,fun n5=>⟨fun o6=>⟨_,_,_,rfl,Vr s h,?_⟩,fun n6=>⟨fun o7=>⟨_,_,_,rfl,Vs s h,?_⟩,fun n7=>⟨fun o8=>⟨_,_,_,rfl,(hbt▸Vt s:fk pg qC [ba] [s.ax] [ba,ai] (·=Ul s.Pc bt)),?_⟩,fun n8=>⟨fun o9=>⟨_,_,_,rfl,Vu s h,?_⟩,fun n9=>?_⟩⟩⟩⟩⟩⟩⟩⟩⟩
 obtain⟨t,b,ht,hb,e⟩:=tk (show s.vn=(s.ok1&&s.qT s.Km)by simp[St.vn,St.fm,o1])
 rw[ht,hb];clear ht hb;rotate_left
 obtain⟨t,b,ht,hb,e⟩:=tk (show s.vn=(s.YR&&s.qT s.T0)by simp[St.vn,St.fm,o2])
 rw[ht,hb];clear ht hb;rotate_left
 obtain⟨t,b,ht,hb,e⟩:=tk (show s.vn=(s.okM&&s.qT s.Pd)by simp[St.vn,St.fm,o3])
 rw[ht,hb];clear ht hb;rotate_left
 obtain⟨t,b,ht,hb,e⟩:=tk (show s.vn=(s.ok3&&s.qT s.T1)by simp[St.vn,St.fm,o4])
 rw[ht,hb];clear ht hb;rotate_left
 obtain⟨t,b,ht,hb,e⟩:=tk (show s.vn=(s.ok4&&s.qT s.T2)by simp[St.vn,St.fm,o5])
 rw[ht,hb];clear ht hb;rotate_left
 obtain⟨t,b,ht,hb,e⟩:=tk (show s.vn=(s.ok5&&s.qT s.T3)by simp[St.vn,St.fm,o6])
 rw[ht,hb];clear ht hb;rotate_left
 obtain⟨t,b,ht,hb,e⟩:=tk (show s.vn=(s.a.RA&&s.qT s.T4)by simp[St.vn,St.fm,o7])
 rw[ht,hb];clear ht hb;rotate_left
 obtain⟨t,b,ht,hb,e⟩:=tk (show s.vn=(bt&&s.qT s.Pc)by simp[St.vn,St.fm,o8,hbt])
 rw[ht,hb];clear ht hb;rotate_left
 obtain⟨t,b,ht,hb,e⟩:=tk (show s.vn=(s.ok8&&s.qT s.Km)by simp[St.vn,St.fm,o9])
 rw[ht,hb];clear ht hb;rotate_left
 have:s.vn=false:=by simp[St.vn,St.fm,n1,n2,n3,n4,n5,n6,n7,n8,n9]
 rw[this]
 all_goals
  intro dd hd;subst hd
  simp only[afG,afH,St.xj,St.Sb,St.HY,St.NU,St.CB,St.KA,St.kQ,St.CC,St.iI,St.CE,agV,Ex.re,aeo,ahl,ahq,D.bz]
  have no:∀q:Bool,q=false->D.b false=D.b q:=fun q hq=>by rw[hq]
  rw[e]
  refine⟨fun h=>no _ (by rw[h];rfl),fun c0=>?_⟩
  rw[c0,ah0]
  simp only[St.qT]
  refine⟨fun h=>no _ (by simp[h]),fun c1=>⟨fun h=>no _ (by simp[h]),fun c2=>⟨fun h=>no _ ?_,fun c3=>⟨fun h=>no _ ?_,fun c4=>⟨_,_,_,rfl,Ij _,?_⟩⟩⟩⟩⟩
  ·have e:(s.ab==t.ab)=false:=by simpa using h
   simp[e]
  ·have e:(s.wh==t.wh)=false:=by simpa using h
   simp[e]
  intro dd hd;subst hd
  refine⟨_,_,_,rfl,Ij _,?_⟩
  intro dd hd;subst hd
  simp only[D.bz]
  refine⟨fun h=>no _ (by rw[h];simp),fun c5=>⟨_,_,_,rfl,Ij _,?_⟩⟩
  intro dd hd;subst hd
  refine⟨_,_,_,rfl,Ij _,?_⟩
  intro dd hd;subst hd
  simp only[D.bz]
  have e3:(s.ab==t.ab)=true:=by simpa using c3
  have e4:(s.wh==t.wh)=true:=by simpa using c4
  rw[c1,c2,e3,e4,c5]
  refine⟨fun h=>no _ (by rw[h];simp),fun c6=>⟨fun c7=>⟨fun c8=>⟨fun c9=>?_,fun h=>no _ ?_⟩,fun h=>no _ ?_⟩,fun h=>no _ ?_⟩⟩
  ·have d7:t.th.length=s.th.length:=by omega
   have d8:t.el.length=s.el.length:=by omega
   have d9:t.co.length=s.co.length:=by omega
   rw[c6,d7,d8,d9];simp
  ·have d9:¬t.co.length=s.co.length:=by omega
   simp[d9]
  ·have d9:¬t.el.length=s.el.length:=by omega
   simp[d9]
  ·have d9:¬t.th.length=s.th.length:=by omega
   simp[d9]
structure Jp where
 (nm sc a b ab:Int) (wh bl cl:Bool)
def Jp.ax (f:Jp):D:= .r [.z f.nm,.z f.sc,.z f.a,.z f.b,.z f.ab,.b f.wh,.b f.bl,.b f.cl]
def rK (s:Ei)(Fp:Int):Bool:=if Fp=0 then s==[]else bR s
def Ex.Fp (e:Ex)(Fp:Int):Bool:=if e.none then decide (Fp<2)else decide (Fp>0)&&e.cN
def iX (ab Fp:Int):Bool:=!(Fp==0&&ab !=0)&&!(Fp==1&&!Jw ab)&&!(Fp==2&&decide (ab>63))
def FH (l:List Ei):Bool:=decide (l.length<=64)&&decide l.Nodup&&l.all bR
namespace St
def Fo (s:St):Option Jp:=
 if s.op=1 then some ⟨2,0,1,0,0,false,false,false⟩
 else if s.op=2 then (if s.ab=1\/s.ab=32 then some ⟨2,0,2,0,1,false,false,false⟩else some ⟨2,0,2,1,1,false,false,false⟩)
 else if s.op=3 then
  if s.wh=1 then some ⟨2,0,1,0,0,true,false,false⟩
  else if s.wh=2\/s.wh=3\/s.wh=4\/s.wh=8 then some ⟨2,0,0,0,0,true,false,false⟩
  else if s.wh=14 then some ⟨2,0,2,0,2,true,false,false⟩
  else if s.wh=15\/s.wh=16 then some ⟨2,2,2,0,0,true,false,false⟩
  else if s.wh=5\/s.wh=10 then some ⟨2,2,0,0,0,true,false,false⟩
  else if s.wh=12 then some ⟨2,0,0,0,0,true,false,true⟩
  else none
 else if s.op=4 then some ⟨2,0,2,2,0,false,false,false⟩
 else if s.op=5 then some ⟨0,0,1,1,0,false,true,false⟩
 else if s.op=6 then some ⟨0,0,2,0,2,false,true,false⟩
 else if s.op=7 then some ⟨0,0,1,0,0,false,false,false⟩
 else if s.op=8 then some ⟨0,0,0,0,0,false,false,false⟩
 else if s.op=9 then some ⟨2,0,2,0,0,false,false,false⟩
 else none
def gx (s:St)(f:Jp):Bool:=iX s.ab f.ab&&(f.wh||s.wh==0)&&(f.bl||s.th.length+s.el.length==0)&&(if f.cl then FH s.wi else s.co.length+s.wi.length==0)
def CV (s:St):Bool:=match s.Fo with|none=>false|some f=>rK s.nm f.nm&&rK s.sc f.sc&&!(decide (f.sc>0)&&s.sc==s.nm)&&s.a.Fp f.a&&s.b.Fp f.b&&s.gx f
def ue:∀l:List St,2*l.length<=lv l
 | []=>by simp[lv]
 |v::r=>by
  have:=ue r;have:=v.xk;have:=v.a.eo;have:=v.b.eo
  simp only[lv,ahv];omega
def rj.Yw {s:St}(h:s.rj):s.th.length<2^30/\s.el.length<2^30/\s.co.length<2^30/\s.wi.length<2^30:=by
 have:=s.xk;have:=h.2.1;have:=ue s.th;have:=ue s.el;have:=ue s.co
 omega
end St
def Mr (s:St)(d:D):Prop:=match s.Fo with|some f=>d= .r [f.ax,.b true]|none=>(d.aa 1).bool=false
def Zz (s:St)(h:s.ok):fk pg xo [ba] [s.ax] [dq,ai] (Mr s):=by
 obtain⟨o1,o2,_⟩:=(St.gL s).1 h
 refine SQ ?_
 simp only[rk,St.X7,St.HY,St.NU,aaf o1 o2,aht,ahe,aic]
 have go:∀f:Jp,s.Fo=some f->Mr s (.r [f.ax,.b true]):=fun f hf=>by simp only[Mr,hf]
 have nn:∀x:D,s.Fo=none->Mr s (.r [x,.b false]):=fun f hf=>by simp only[Mr,hf];rfl
 refine⟨fun o=>go ⟨2,0,1,0,0,false,false,false⟩ (by simp[St.Fo,o]),fun n1=>⟨fun o=>⟨fun a=>go ⟨2,0,2,0,1,false,false,false⟩ (by simp[St.Fo,o,a]),fun a=>⟨fun b=>go ⟨2,0,2,0,1,false,false,false⟩ (by simp[St.Fo,o,b]),fun b=>go ⟨2,0,2,1,1,false,false,false⟩ (by simp[St.Fo,o,a,b])⟩⟩,fun n2=>⟨fun o=>?_,fun n3=>⟨fun o=>go ⟨2,0,2,2,0,false,false,false⟩ (by simp[St.Fo,o]),fun n4=>⟨fun o=>go ⟨0,0,1,1,0,false,true,false⟩ (by simp[St.Fo,o]),fun n5=>⟨fun o=>go ⟨0,0,2,0,2,false,true,false⟩ (by simp[St.Fo,o]),fun n6=>⟨fun o=>go ⟨0,0,1,0,0,false,false,false⟩ (by simp[St.Fo,o]),fun n7=>⟨fun o=>go ⟨0,0,0,0,0,false,false,false⟩ (by simp[St.Fo,o]),fun n8=>⟨fun o=>go ⟨2,0,2,0,0,false,false,false⟩ (by simp[St.Fo,o]),fun n9=>nn _ (by simp[St.Fo,n1,n2,n3,n4,n5,n6,n7,n8,n9])⟩⟩⟩⟩⟩⟩⟩⟩⟩
 refine⟨fun w=>go ⟨2,0,1,0,0,true,false,false⟩ (by simp[St.Fo,o,w]),fun w1=>⟨fun w=>go ⟨2,0,0,0,0,true,false,false⟩ (by simp[St.Fo,o,w]),fun w2=>⟨fun w=>go ⟨2,0,0,0,0,true,false,false⟩ (by simp[St.Fo,o,w]),fun w3=>⟨fun w=>go ⟨2,0,0,0,0,true,false,false⟩ (by simp[St.Fo,o,w]),fun w4=>⟨fun w=>go ⟨2,0,0,0,0,true,false,false⟩ (by simp[St.Fo,o,w]),fun w8=>⟨fun w=>go ⟨2,0,2,0,2,true,false,false⟩ (by simp[St.Fo,o,w]),fun w14=>⟨fun w=>go ⟨2,2,2,0,0,true,false,false⟩ (by simp[St.Fo,o,w]),fun w15=>⟨fun w=>go ⟨2,2,2,0,0,true,false,false⟩ (by simp[St.Fo,o,w]),fun w16=>⟨fun w=>go ⟨2,2,0,0,0,true,false,false⟩ (by simp[St.Fo,o,w]),fun w5=>⟨fun w=>go ⟨2,2,0,0,0,true,false,false⟩ (by simp[St.Fo,o,w]),fun w10=>⟨fun w=>go ⟨2,0,0,0,0,true,false,true⟩ (by simp[St.Fo,o,w]),fun w12=>nn _ (by simp[St.Fo,o,w1,w2,w3,w4,w8,w14,w15,w16,w5,w10,w12])⟩⟩⟩⟩⟩⟩⟩⟩⟩⟩⟩
def QH (s:Ei)(k:Int)(h:s.length<2^63):fk pg sS [bX,af] [.s s,.z k] [ai] (·= .b (rK s k)):=by
 refine SR ?_
 simp only[rk,D.bV,D.Lq,aht,ahe,aic]
 refine⟨fun a=>by simp[rK,a],fun a=>⟨_,_,_,rfl,yQ s h,?_⟩⟩
 rintro _ rfl
 simp[rK,a]
def QG (e:Ex)(k:Int)(h:e.ok)(hs:e.size<2^40):fk pg gu [aG,af] [e.ax,.z k] [ai] (·= .b (e.Fp k)):=by
 have t:e.none=false->(0<k->∃ts rs Q',Dl xf.cz ey=some (ts,rs)/\fk pg ey ts [e.ax] rs Q'/\∀d,Q' d->D.b (D.bool d)=D.b (e.Fp k)):=fun hn hk=>⟨_,_,_,rfl,QF e h hs,by rintro _ rfl;simp[Ex.Fp,hn,hk]⟩
 have f:e.none=false->¬k>0->D.b false=D.b (e.Fp k):=fun hn hk=>by simp[Ex.Fp,hn,hk]
 refine SP ?_
 simp only[rk,Ex.cU,Ex.lu,Ex.BD,Ex.vA,Ex.re,D.bV,agV,aht,ahe,aic,agW,agX]
 refine⟨fun a=>⟨fun b=>⟨fun c=>⟨fun d=>?_,fun d=>?_⟩,fun c=>?_⟩,fun b=>?_⟩,fun a=>?_⟩
 ·have:e.l.length=0:=by omega
  have hn:e.none=true:=by simp[Ex.none,a,b,c];exact ahy.1 this
  simp[Ex.Fp,hn]
 ·have hl:¬e.l.length=0:=by omega
  have hn:e.none=false:=by simp[Ex.none,a,b,c];exact fun z=>hl (by simp[z])
  exact⟨t hn,f hn⟩
 ·have hn:e.none=false:=by simp[Ex.none,c]
  exact⟨t hn,f hn⟩
 ·have hn:e.none=false:=by simp[Ex.none,b]
  exact⟨t hn,f hn⟩
 ·have hn:e.none=false:=by simp[Ex.none,a]
  exact⟨t hn,f hn⟩
section
section
variable (f:Jp)
def Jp.f0:D.int (D.aa f.ax 0)=f.nm:=rfl
def Jp.f1:D.int (D.aa f.ax 1)=f.sc:=rfl
def Jp.f2:D.int (D.aa f.ax 2)=f.a:=rfl
def Jp.f3:D.int (D.aa f.ax 3)=f.b:=rfl
def Jp.f4:D.int (D.aa f.ax 4)=f.ab:=rfl
def Jp.f5:D.bool (D.aa f.ax 5)=f.wh:=rfl
def Jp.f6:D.bool (D.aa f.ax 6)=f.bl:=rfl
def Jp.f7:D.bool (D.aa f.ax 7)=f.cl:=rfl
end
def St.aee {s:St}{f:Jp}(h:s.Fo=some f):f.ab=0\/f.ab=1\/f.ab=2:=by
 unfold St.Fo at h
 repeat' split at h
 all_goals first| (cases h;done)| (injection h with h;subst h;simp)
def Zw (s:St)(h:s.rj):fk pg cg [ba] [s.ax] [ai] (·= .b s.CV):=by
 obtain⟨n1,n2,ha,hb,za,zb,a0,a1⟩:=h.b
 obtain⟨l1,l2,l3,l4⟩:=h.Yw
 have hwi:∀w∈s.wi,w.length<2^63:=fun w hw=>by have:=h.2.2.2 w hw;omega
 unfold maxLen at n1 n2
 have t1215:∀(ah:List Ei) (i:Nat),s.wi.drop i=ah->ay pg cg [ai] (.dQ (·= .b (ah.all bR))) (pM s.ax i):=by
  intro ah
  induction ah with
  |nil=>
   intro i hd
   have:=drop_nil hd
   refine BI ?_
   simp only[rk,St.CE,agV,agW,agX]
   exact⟨fun h=>by omega,fun _=>rfl⟩
  |cons w ah ih=>
   intro i hd
   obtain⟨g1,g2,g3⟩:=aB hd
   refine BI ?_
   simp only[rk,St.CE,agV,ag6,bn (f:=D.s) g1,D.Lq,aU g3,agW,agX,ahl,ahq]
   refine⟨fun _=>⟨fun _=>⟨_,_,_,rfl,yQ w (hwi w (agY g1)),?_⟩,fun h=>by simp at h⟩,fun h=>by omega⟩
   rintro _ rfl
   simp only[D.bz]
   refine⟨fun a=>by simp[a],fun a=>?_⟩
   rw[bo g3 (by omega)]
   exact(ih _ g2).GQ fun d h=>by simp[h,a]
 have t63:ay pg cg [ai] (.dQ (·= .b (FH s.wi))) (zj s.ax):=by
  refine L8 ?_
  simp only[rk,St.CE,agV,agW,agX]
  refine⟨fun a=>?_,fun a=>⟨_,_,_,rfl,MY s.wi (by omega),?_⟩⟩
  ·have:¬s.wi.length<=64:=by omega
   simp[FH,this]
  ·rintro _ rfl
   have a:s.wi.length<=64:=by omega
   simp only[D.bz,ahl,ahq,agW,agX]
   refine⟨fun b=>by simp[FH,b],fun b=>(t1215 s.wi 0 rfl).GQ fun d h=>by rw[h];simp[FH,a,b]⟩
 have t31:∀f:Jp,ay pg cg [ai] (.dQ (·= .b (if f.cl then FH s.wi else s.co.length+s.wi.length==0))) (eB s.ax f.ax):=by
  intro f
  refine L7 ?_
  simp only[rk,Jp.f7,St.iI,St.CE,agV,ahl,ahq]
  rw[bO (by omega) (by omega)]
  refine⟨fun a=>?_,fun a=>by rw[a];exact t63⟩
  rw[a]
  simp only[agZ,ahN]
  congr 1
  rw[ahu];simp only[aht];omega
 have t15:∀f:Jp,(f.ab=0\/f.ab=1\/f.ab=2)->ay pg cg [ai] (.dQ (·= .b (s.gx f))) (tp s.ax f.ax):=by
  intro f hf
  refine L6 ?_
  simp only[rk,Jp.f4,Jp.f5,Jp.f6,St.HY,St.NU,St.kQ,St.CC,agV]
  rw[bO (x:=(s.th.length:Int)+s.el.length) (by omega) (by omega)]
  have no:s.gx f=false->D.b false=D.b (s.gx f):=fun h=>by rw[h]
  have e31:iX s.ab f.ab=true->(f.wh||s.wh==0)=true->(f.bl||s.th.length+s.el.length==0)=true->ay pg cg [ai] (.dQ (·= .b (s.gx f))) (eB s.ax f.ax):=fun e1 e2 e3=>by
   refine(t31 f).GQ fun d h=>?_
   rw[h];simp only[St.gx,e1,e2,e3,ah0]
  have bl:iX s.ab f.ab=true->(f.wh||s.wh==0)=true->((! f.bl)=true->(decide (((s.th.length:Int)+s.el.length)>0)=true->D.b false=D.b (s.gx f))/\(decide (((s.th.length:Int)+s.el.length)>0)=false->ay pg cg [ai] (.dQ (·= .b (s.gx f))) (eB s.ax f.ax)))/\((! f.bl)=false->ay pg cg [ai] (.dQ (·= .b (s.gx f))) (eB s.ax f.ax)):=fun e1 e2=>by
   simp only[ahl,ahq,agW,agX]
   refine⟨fun a=>⟨fun b=>no ?_,fun b=>e31 e1 e2 ?_⟩,fun a=>e31 e1 e2 (by simp[a])⟩
   ·have e:(s.th.length+s.el.length==0)=false:=by simp only[ahe];omega
    simp only[St.gx,a,e,ajJ,ajT,ajf]
   ·have:s.th.length+s.el.length=0:=by omega
    simp[this]
  have wh:iX s.ab f.ab=true->((! f.wh)=true->(((s.wh:Int)!=0)=true->D.b false=D.b (s.gx f))/\(((s.wh:Int)!=0)=false->((! f.bl)=true->(decide (((s.th.length:Int)+s.el.length)>0)=true->D.b false=D.b (s.gx f))/\(decide (((s.th.length:Int)+s.el.length)>0)=false->ay pg cg [ai] (.dQ (·= .b (s.gx f))) (eB s.ax f.ax)))/\((! f.bl)=false->ay pg cg [ai] (.dQ (·= .b (s.gx f))) (eB s.ax f.ax))))/\((! f.wh)=false->((! f.bl)=true->(decide (((s.th.length:Int)+s.el.length)>0)=true->D.b false=D.b (s.gx f))/\(decide (((s.th.length:Int)+s.el.length)>0)=false->ay pg cg [ai] (.dQ (·= .b (s.gx f))) (eB s.ax f.ax)))/\((! f.bl)=false->ay pg cg [ai] (.dQ (·= .b (s.gx f))) (eB s.ax f.ax))):=fun e1=>by
   refine⟨fun a=>⟨fun b=>no ?_,fun b=>bl e1 ?_⟩,fun a=>bl e1 ?_⟩
   ·simp only[ahl]at a
    have:(s.wh==0)=false:=by simpa using b
    simp[St.gx,a,this]
   ·have:(s.wh==0)=true:=by simpa using b
    simp[this]
   ·simp only[ahq]at a
    simp[a]
  simp only[aht,ahe,aic]
  have noA:iX s.ab f.ab=false->D.b false=D.b (s.gx f):=fun h=>no (by simp[St.gx,h])
  rcases hf with hf|hf|hf
  ·refine⟨fun _=>⟨fun b=>noA ?_,fun b=>⟨fun c=>by omega,fun _=>⟨fun c=>by omega,fun _=>wh ?_⟩⟩⟩,fun c=>absurd hf c⟩
   ·simp only[iX,hf,b];rfl
   ·have b:(s.ab !=0)=false:=by simpa using b
    simp only[iX,hf,b];rfl
  ·refine⟨fun c=>by omega,fun _=>⟨fun _=>⟨_,_,_,rfl,ab7 s.ab a0 a1,?_⟩,fun c=>absurd hf c⟩⟩
   rintro _ rfl
   simp only[D.bz,ahl,ahq]
   refine⟨fun b=>noA ?_,fun b=>⟨fun c=>by omega,fun _=>?_⟩⟩
   ·simp only[iX,hf,b];rfl
   ·have:=wh (by simp only[iX,hf,b];rfl)
    simp only[ahl,ahq]at this
    exact this
  ·refine⟨fun c=>by omega,fun _=>⟨fun c=>by omega,fun _=>⟨fun _=>⟨fun b=>noA ?_,fun b=>wh ?_⟩,fun c=>absurd hf c⟩⟩⟩
   ·simp only[iX,hf,b];rfl
   ·simp only[iX,hf,b];rfl
 refine SM ?_
 simp only[rk,St.re]
 refine⟨_,_,_,rfl,Zz s h.1,?_⟩
 intro d hd
 unfold Mr at hd
 cases hf:s.Fo with
 |none=>
  rw[hf]at hd
  have:s.CV=false:=by simp[St.CV,hf]
  rw[this]
  exact⟨fun _=>rfl,fun h=>by rw[hd]at h;cases h⟩
 |some f=>
  rw[hf]at hd
  subst hd
  have hm:s.CV=(rK s.nm f.nm&&rK s.sc f.sc&&!(decide (f.sc>0)&&s.sc==s.nm)&&s.a.Fp f.a&&s.b.Fp f.b&&s.gx f):=by simp only[St.CV,hf]
  rw[hm]
  have f0:D.aa (.r [f.ax,.b true]) 0=f.ax:=rfl
  have f1:D.aa (.r [f.ax,.b true]) 1= .b true:=rfl
  simp only[f0,f1,Jp.f0,Jp.f1,Jp.f2,Jp.f3,St.xj,St.Sb,St.CB,St.KA,Ex.re,D.bz]
  refine⟨fun h=>by simp at h,fun _=>⟨_,_,_,rfl,QH s.nm f.nm (by omega),?_⟩⟩
  rintro _ rfl
  simp only[D.bz,ahl,ahq]
  refine⟨fun a=>by simp[a],fun a=>⟨_,_,_,rfl,QH s.sc f.sc (by omega),?_⟩⟩
  rintro _ rfl
  simp only[D.bz]
  have ah:∀q:Bool,q=false->(∃ts rs Q',Dl eF.cz gu=some (ts,rs)/\fk pg gu ts [s.a.ax,.z f.a] rs Q'/\∀d,Q' d->(D.bool d=false->D.b false=D.b (true&&true&&!q&&s.a.Fp f.a&&s.b.Fp f.b&&s.gx f))/\(D.bool d=true->∃ts rs Q',Dl eF.cz gu=some (ts,rs)/\fk pg gu ts [s.b.ax,.z f.b] rs Q'/\∀d,Q' d->(D.bool d=false->D.b false=D.b (true&&true&&!q&&s.a.Fp f.a&&s.b.Fp f.b&&s.gx f))/\(D.bool d=true->ay pg cg [ai] (.dQ (·= .b (true&&true&&!q&&s.a.Fp f.a&&s.b.Fp f.b&&s.gx f))) (tp s.ax f.ax)))):=by
   rintro _ rfl
   refine⟨_,_,_,rfl,QG s.a f.a ha (by omega),?_⟩
   rintro _ rfl
   simp only[D.bz]
   refine⟨fun a=>by simp[a],fun a=>⟨_,_,_,rfl,QG s.b f.b hb (by omega),?_⟩⟩
   rintro _ rfl
   simp only[D.bz]
   refine⟨fun b=>by simp[b],fun b=>(t15 f (St.aee hf)).GQ fun d h=>by rw[h];simp[a,b]⟩
  refine⟨fun b=>by simp[b],fun b=>⟨fun c=>⟨fun e=>?_,fun e=>?_⟩,fun c=>?_⟩⟩
  ·simp[a,b,c,e]
  ·rw[a,b];exact ah _ (by rw[c,e];rfl)
  ·rw[a,b];exact ah _ (by rw[c];rfl)
end
section
def Ex.agF (e:Ex):e.Fp 0=e.none:=by unfold Ex.Fp;cases h:e.none<;>simp
def Ex.agG (e:Ex):e.Fp 1=e.RA:=by unfold Ex.Fp Ex.RA;cases h:e.none<;>simp
def Ex.agH (e:Ex):e.Fp 2=e.cN:=by
 unfold Ex.Fp
 cases h:e.none with
 |true=>simp[Ex.PW h]
 |false=>simp
def Ex.YB {e:Ex}(h:e.cN=true):e.none=false:=by
 cases hn:e.none with
 |true=>rw[Ex.PW hn]at h;cases h
 |false=>rfl
def XE (a:Int):iX a 0=(a==0):=by simp[iX];rfl
def XF (a:Int):iX a 1=Jw a:=by simp[iX]
def XG (a:Int):iX a 2=decide (a<64):=by
 simp only[iX];rw[ahu];simp;omega
def YL (s:Ei):rK s 0=(s==[]):=by simp[rK]
def YM (s:Ei):rK s 2=bR s:=by simp[rK]
def agO (a b:Nat):(a+b==0)=(a==0&&b==0):=by rw[ahu];simp
def agS (a:Nat):((0:Nat)==a)=(a==0):=by rw[ahu];simp;omega
section
variable (op:Int) (nm:Ei) (sc:Ei) (ab:Int) (wh:Int) (a:Ex) (b:Ex) (th:List St) (el:List St) (co:List St) (wi:List Ei)
def St.af0:(St.mk op nm sc ab wh a b th el co wi).nm=nm:=rfl
def St.af1:(St.mk op nm sc ab wh a b th el co wi).sc=sc:=rfl
def St.afX:(St.mk op nm sc ab wh a b th el co wi).ab=ab:=rfl
def St.af3:(St.mk op nm sc ab wh a b th el co wi).wh=wh:=rfl
def St.agI:(St.mk op nm sc ab wh a b th el co wi).a=a:=rfl
def St.agJ:(St.mk op nm sc ab wh a b th el co wi).b=b:=rfl
def St.af2:(St.mk op nm sc ab wh a b th el co wi).th=th:=rfl
def St.afZ:(St.mk op nm sc ab wh a b th el co wi).el=el:=rfl
def St.afY:(St.mk op nm sc ab wh a b th el co wi).co=co:=rfl
def St.af4:(St.mk op nm sc ab wh a b th el co wi).wi=wi:=rfl
end
def eqt (b:Bool):(true==b)=b:=by cases b<;>rfl
def agC (b:Bool):(b==b)=true:=by cases b<;>rfl
attribute [local go_sem] St.vn St.fm St.CV St.Fo St.gx ahz ahN St.qT St.Pd St.Km St.T0 St.T1 St.T2 St.T3 St.T4 St.Pc St.ok1 St.YR St.ok3 St.ok4 St.ok5 St.ok8 St.okM St.af0 St.af1 St.afX St.af3 St.agI St.agJ St.af2 St.afZ St.afY St.af4 akp or_true true_or ajk akO Ex.agF Ex.agG Ex.agH XE XF XG YL YM agO agS Ex.VF eqt agC aix beq_self_eq_true ah0 aib ajf ajT akb akG ai7 ajJ akl aip ahg ahj agZ
def St.abE (s:St):s.vn=s.CV:=by
 have nm:s.b.RA=true->s.b.cN=true->s.b.none=false:=fun _=>Ex.YB
 by_cases o1:s.op=1
 ·simp only[go_sem,Int.reduceEq,Int.reduceLT,o1]
  (rw[ahu];simp only[ag2];constructor<;>(intro h;simp only[h,ahk,ahf,aiU]))
 by_cases o2:s.op=2
 ·by_cases w:s.ab=1\/s.ab=32
  ·have e:(s.ab !=1&&s.ab !=32)=false:=by rcases w with w|w<;>simp[w]
   have e2:(s.b.RA&&s.b.none)=s.b.none:=by unfold Ex.RA;cases s.b.none<;>simp
   simp only[go_sem,Int.reduceEq,Int.reduceLT,o2,w,e]
   rw[<-e2]
   (rw[ahu];simp only[ag2];constructor<;>(intro h;simp only[h,ahk,ahf,aiU]))
  ·have e:(s.ab !=1&&s.ab !=32)=true:=by simp;omega
   simp only[go_sem,Int.reduceEq,Int.reduceLT,o2,w,e]
   (rw[ahu];simp only[ag2];constructor<;>(intro h;simp only[h,ahk,ahf,aiU]))
 by_cases o3:s.op=3
 ·by_cases w1:s.wh=1
  ·simp only[go_sem,Int.reduceEq,Int.reduceLT,o3,w1]
   (rw[ahu];simp only[ag2];constructor<;>(intro h;simp only[h,ahk,ahf,aiU]))
  by_cases w2:s.wh=2\/s.wh=3\/s.wh=4\/s.wh=8
  ·have w14:¬s.wh=14:=by omega
   have w15:¬(s.wh=15\/s.wh=16):=by omega
   have w5:¬(s.wh=5\/s.wh=10):=by omega
   have w12:¬s.wh=12:=by omega
   simp only[go_sem,Int.reduceEq,Int.reduceLT,o3,w1,w2,w14,w15,w5,w12]
   (rw[ahu];simp only[ag2];constructor<;>(intro h;simp only[h,ahk,ahf,aiU]))
  by_cases w14:s.wh=14
  ·simp only[go_sem,Int.reduceEq,Int.reduceLT,o3,w14]
   (rw[ahu];simp only[ag2];constructor<;>(intro h;simp only[h,ahk,ahf,aiU]))
  by_cases w15:s.wh=15\/s.wh=16
  ·simp only[go_sem,Int.reduceEq,Int.reduceLT,o3,w1,w2,w14,w15]
   (rw[ahu];simp only[ag2];constructor<;>(intro h;simp only[h,ahk,ahf,aiU]))
  by_cases w5:s.wh=5\/s.wh=10
  ·simp only[go_sem,Int.reduceEq,Int.reduceLT,o3,w1,w2,w14,w15,w5]
   (rw[ahu];simp only[ag2];constructor<;>(intro h;simp only[h,ahk,ahf,aiU]))
  by_cases w12:s.wh=12
  ·simp only[go_sem,Int.reduceEq,Int.reduceLT,o3,w12,FH]
   (rw[ahu];simp only[ag2];constructor<;>(intro h;simp only[h,ahk,ahf,aiU]))
  ·simp only[go_sem,Int.reduceEq,Int.reduceLT,o3,w1,w2,w14,w15,w5,w12]
 by_cases o4:s.op=4
 ·simp only[go_sem,Int.reduceEq,Int.reduceLT,o4]
  (rw[ahu];simp only[ag2];constructor<;>(intro h;simp only[h,ahk,ahf,aiU]))
 by_cases o5:s.op=5
 ·simp only[go_sem,Int.reduceEq,Int.reduceLT,o5]
  (rw[ahu];simp only[ag2];constructor<;>(intro h;simp only[h,ahk,ahf,aiU]))
 by_cases o6:s.op=6
 ·simp only[go_sem,Int.reduceEq,Int.reduceLT,o6]
  (rw[ahu];simp only[ag2];constructor<;>(intro h;simp only[h,ahk,ahf,aiU]))
 by_cases o7:s.op=7
 ·simp only[go_sem,Int.reduceEq,Int.reduceLT,o7]
  (rw[ahu];simp only[ag2];constructor<;>(intro h;simp only[h,ahk,ahf,aiU]))
 by_cases o8:s.op=8
 ·simp only[go_sem,Int.reduceEq,Int.reduceLT,o8]
  (rw[ahu];simp only[ag2];constructor<;>(intro h;simp only[h,ahk,ahf,aiU]))
 by_cases o9:s.op=9
 ·simp only[go_sem,Int.reduceEq,Int.reduceLT,o9]
  (rw[ahu];simp only[ag2];constructor<;>(intro h;simp only[h,ahk,ahf,aiU]))
 ·simp only[go_sem,Int.reduceEq,Int.reduceLT,o1,o2,o3,o4,o5,o6,o7,o8,o9]
end
end Go.Proofs
end
