import Derived.ChangeArms
import Derived.WideShapes
import Derived.Deep.Strs
import Derived.Below
import Derived.ChangeSame
import Derived.WalkKit
import Derived.ProofKit
import Derived.OpenShut
import Derived.WideKeyArgs
import Derived.Handed
import Derived.ChangeCalls
import Derived.Test.YtdoajjnobfjkcaaGreatM14
import Derived.Test.YtdoajjnobfjkcaaGreatM24
set_option linter.all false
noncomputable section
namespace Go.Proofs
open Go Go.PB
section
def Wl.YQ (x:Wl)(r q:Int):Prop:=∃y,x.an.get r=some y/\(q∈aE.bD y.aJ\/q∈y.eM)
inductive Wl.LC (x:Wl)(l:List Int):Int->Prop where
 |az {q:Int} (h:q∈l):Wl.LC x l q
 |step {p q:Int} (h:Wl.LC x l p) (hn:x.YQ p q):Wl.LC x l q
def Wl.is (x:Wl)(r:Int):Prop:=(x.an.get r).isSome=true
def Wl.Clo (x:Wl):Prop:=∀r q,x.YQ r q->x.is q
def Wl.KL {x:Wl}{r:Int}(h:x.is r):r∈x.th.map En.r:=by
 obtain⟨y,hy⟩:=ahw.1 h
 have:=aV.np hy
 simp only[Wl.an,ahp]at this
 obtain⟨e,he,h1⟩:=this
 cases h1;exact ahp.2 ⟨e,he,rfl⟩
def Wl.CS {x:Wl}{o:List Int}(hn:o.Nodup)(h:∀q∈o,x.is q):o.length<=x.th.length:=by
 have:=hG hn (ks:=x.th.map En.r) fun q hq=>Wl.KL (h q hq)
 simpa using this
def Wh.MO (y:Wh):y.eM.length<=2:=by
 unfold Wh.eM
 split
 ·simp
 ·split<;>simp
def Wl.D4 {x:Wl}{r q:Int}{y:Wh}(h:x.an.get r=some y):x.YQ r q↔q∈aE.bD y.aJ\/q∈y.eM:=
 ⟨fun ⟨z,h1,h2⟩=>by rw[h]at h1;cases h1;exact h2,fun h2=>⟨y,h,h2⟩⟩
def Ng:aE.zero.dt=[]:=by decide
def Wh.yI (l:List ga):Wh:=⟨0,0,.zero,[],0,0,0,0,0,false,[],l⟩
set_option maxRecDepth 4000 in
def Wx (s:Su)(hs:s.vx)(hm:dk s.ns=true):fk pg uH [br] [s.ax] [aW] (fun d=>∃r,d= .r (aw r)/\xc (mF s.ns) r):=by
 have hok:=hs.ok
 have hvals:(Wh.yI s.ns).aJ=aE.zero::s.ns.map ga.v:=by simp[Wh.aJ,Wh.yI]
 have hrf:aE.bD (Wh.yI s.ns).aJ=mF s.ns:=by rw[hvals,aE.bD,Ng];rfl
 have hwok:(Wh.yI s.ns).ok:=by
  obtain⟨a1,a2,a3,a4,a5,a6,a7,a8,a9,a10,a11,a12,a13,a14,a15,a16,a17,a18,a19,_,_⟩:=Wh.p6
  exact⟨a1,a2,a3,a4,a5,a6,a7,a8,a9,a10,a11,a12,a13,a14,a15,a16,a17,a18,a19,hok.2.2.2.2.1,hok.2.2.2.2.2.1⟩
 have hnz:=hs.nz
 have hwsz:(Wh.yI s.ns).sz<2^30:=by
  have h0:aE.zero.size=1:=by decide
  have h1:(Wh.yI s.ns).co=[]:=rfl
  have h2:aE.bB (Wh.yI s.ns).aJ=1+aE.bB (s.ns.map ga.v):=by rw[hvals,aE.bB,h0]
  have h3:St.eu ([]:List St)=0:=rfl
  have h4:St.lv ([]:List St)=0:=rfl
  simp only[Wh.sz,h1,h2,h3,h4];omega
 have hrl:(mF s.ns).length<2^30:=by have:=aE.gj (s.ns.map ga.v);simp only[mF];omega
 refine Ql ?_
 have e0:(D.r [(D.z 0),(D.z 0),(D.r [(D.z 0),(D.z 0),(D.s []),(D.r []),(D.z 0)]),(D.r []),(D.z 0),(D.z 0),(D.z 0),(D.z 0),(D.z 0),(D.b false),(D.r []),(D.r (D.ae (D.aa s.ax 2)))])=(Wh.yI s.ns).ax:=by rw[Su.fv];rfl
 simp only[rk,e0]
 refine⟨_,_,rfl,JZ _ hwok hwsz ?_,?_⟩
 ·intro v hv
  rw[hvals]at hv
  rcases ag9.1 hv with rfl|hv
  ·exact aE.aaj
  ·obtain⟨n,hn,rfl⟩:=ahp.1 hv;exact Bm hm n hn
 intro d hd
 rw[hd,hrf]
 simp only[D.bE,ahg,ag3,ag0,ag1,ahf]
 refine⟨_,_,rfl,Bs (mF s.ns) hrl,?_⟩
 rintro d ⟨r,h1,h2⟩
 exact⟨r,by rw[h1],h2⟩
section
variable {R:RS} {x:Wl} (hi:x.OU) (hR:Fe R x.ro)
include hi hR
theorem ZE (r:Int)(h:x.is r):PH xq (J6 R r) (Rm R) 1 Fc (fun d=>∃l,(d.aa 0).ae=aw l/\xc (aE.bD (x.an.at r).aJ) l):=by
 obtain⟨y,hy,w1,w2,w3⟩:=hi.at h
 have hya:x.an.at r=y:=by simp[aV.at,hy]
 have hthl:x.an.length<2^62:=by have:=hi.th;simp[Wl.an];omega
 have hrl:(aE.bD y.aJ).length<2^30:=by have:=aE.gj y.aJ;simp only[Wh.sz]at w2;omega
 refine SY ?_
 simp only[rk]
 refine⟨_,_,rfl,FZ hR hthl r,?_⟩
 rintro d ⟨hd1,hd2⟩
 have hd2:(d.aa 1).bool=true:=hd2.trans h
 rw[hd1,hd2]
 refine⟨fun h=>(by cases h),fun _=>?_⟩
 have e:((x.ro).th.at r)=y:=hya
 rw[e]
 try rw[hya]
 refine⟨_,_,rfl,JZ y w1 w2 w3,?_⟩
 intro d2 hd2
 rw[hd2]
 simp only[D.bE,ahg,ag3,ag0,ag1,ahf]
 refine⟨_,_,rfl,Bs _ hrl,?_⟩
 rintro d3 ⟨l,h1,h2⟩
 rw[h1]
 exact⟨rfl,.r [.r (aw l),.z 0],.ret,l,rfl,h2⟩
theorem Wy (r:Int)(h:x.is r):PH uJ (Ce R r) (Rm R) 1 xW (fun d=>(d.aa 0).ae=aw (x.an.at r).eM):=by
 obtain⟨y,hy,w1,w2,w3⟩:=hi.at h
 have hya:x.an.at r=y:=by simp[aV.at,hy]
 have hthl:x.an.length<2^62:=by have:=hi.th;simp[Wl.an];omega
 refine Qm ?_
 simp only[rk]
 refine⟨_,_,rfl,FZ hR hthl r,?_⟩
 rintro d ⟨hd1,hd2⟩
 have hd2:(d.aa 1).bool=true:=hd2.trans h
 have e:((x.ro).th.at r)=y:=hya
 rw[hd1,hd2,e]
 try rw[hya]
 simp only[Wh.cU,Wh.di,Wh.gg,w1.wk,aip,agZ,ag1,ag3,ahk,aht,ahe,aic]
 have bj:∀l:List Int,l=y.eM->ua.bx=some 1/\∃d,T.dy (BV.tuple [.bw aA (D.ae (.r (aw l))),.int .i64 0],Rm R) (xW (Ce R r) (Rm R) d)/\(d.aa 0).ae=aw y.eM:=by
  rintro l rfl
  exact⟨rfl,.r [.r (aw y.eM),.z 0],.ret,rfl⟩
 refine⟨fun h1=>bj [_] ?_,fun h1=>⟨fun h2=>bj [_] ?_,fun h2=>⟨fun h3=>bj [_,_] ?_,fun h3=>⟨fun h4=>bj [_,_] ?_,fun h4=>bj [] ?_⟩⟩⟩⟩<;>simp[Wh.eM, *]
theorem WA (r:Int)(h:x.is r):PH uL (IJ R r) (Rm R) 1 Ck (fun d=>∃l,D.ae d=aw l/\(∀q,q∈l↔x.YQ r q)/\l.length<2^31):=by
 obtain⟨y,hy,w1,w2,w3⟩:=hi.at h
 have hya:x.an.at r=y:=by simp[aV.at,hy]
 refine Qo ?_
 simp only[rk]
 refine⟨_,_,rfl,ZE hi hR r h,?_⟩
 rintro d1 ⟨l,h1,h2⟩
 refine⟨_,_,rfl,Wy hi hR r h,?_⟩
 intro d2 hd2
 rw[hya]at h2 hd2
 have hll:l.length<2^30:=by
  have:=hG h2.1.lJ fun q hq=>(h2.2 q).1 hq
  have:=aE.gj y.aJ;simp only[Wh.sz]at w2;omega
 have hkl:=y.MO
 have r1:aO 8 l.length=true:=by simp[aO];omega
 have r2:aO 8 (l.length+y.eM.length)=true:=by simp[aO];omega
 rw[h1,hd2]
 simp only[agV,r1,r2,ahc,ahg,ahI,ag3,ag0,ag1,ahf,D.bE]
 refine⟨rfl,.r (aw (l++y.eM)),?_,l++y.eM,rfl,fun q=>?_,by simp;omega⟩
 ·have e:aw (l++y.eM)=aw l++aw y.eM:=ahr
  rw[e];exact .ret
 ·rw[ahd,h2.2,Wl.D4 hy]
structure Cg (x:Wl)(l o:List Int)(k:Nat):Prop where
 nd:o.Nodup
 is:∀q∈o,x.is q
 sub:∀q∈l,q∈o
 rch:∀q∈o,x.LC l q
 Mz:∀p∈o.take k,∀q,x.YQ p q->q∈o
omit hi hR in
theorem Cg.all {l o:List Int}{k:Nat}(h:Cg x l o k)(hk:o.length<=k)(q:Int):q∈o↔x.LC l q:=by
 refine⟨h.rch q,fun hq=>?_⟩
 induction hq with
 |az hq=>exact h.sub _ hq
 |step _ hn ih=>exact h.Mz _ (by rw[ag5 hk];exact ih) _ hn
omit hi hR in
theorem Cg.push {l o:List Int}{k:Nat}{p q:Int}(h:Cg x l o k)(hc:x.Clo)(hp:p∈o)(hq:x.YQ p q)(hn:q∉o)(hk:k<=o.length):Cg x l (o++[q]) k where
 nd:=ah5.2 ⟨h.nd,by simp,fun a ha b hb=>by rw[ahb]at hb;subst hb;rintro rfl;exact hn ha⟩
 is:=fun a ha=>by rcases ahd.1 ha with ha|ha;exact h.is a ha;rw[ahb]at ha;subst ha;exact hc _ _ hq
 sub:=fun a ha=>ahP _ (h.sub a ha)
 rch:=fun a ha=>by rcases ahd.1 ha with ha|ha;exact h.rch a ha;rw[ahb]at ha;subst ha;exact .step (h.rch p hp) hq
 Mz:=fun a ha b hb=>by rw[aie hk]at ha;exact ahP _ (h.Mz a ha b hb)
noncomputable abbrev aau (x:Wl)(R:RS)(l:List Int):mR:= .bx 1 (qb (sd R (aw l)) (Rm R)) (fun d=>∃r,(d.aa 0).ae=aw r/\(d.aa 1).int=0/\ch r/\∀q,q∈r↔x.LC l q)
theorem ZD (hc:x.Clo)(l:List Int)(hl:l.length<2^30)(hls:∀q∈l,x.is q):PH dz (sd R (aw l)) (Rm R) 1 qb (fun d=>∃r,(d.aa 0).ae=aw r/\(d.aa 1).int=0/\ch r/\∀q,q∈r↔x.LC l q):=by
 have hth:=hi.th
 have hthl:x.an.length<2^62:=by simp[Wl.an];omega
 have lp3:∀(s:List Int) (p:Int) (k:Nat),(∀q,q∈s↔x.YQ p q)->s.length<2^31->
  (∀o,Cg x l o (k+1)->ay pg dz [aW,aM] (aau x R l) (nr R (aw l) o.length (aw o) ((k+1:Nat):Int)))->
  ∀(ah:List Int) (j:Nat) (o:List Int),s.drop j=ah->Cg x l o k->o[k]?=some p->(∀q∈s.take j,q∈o)->ay pg dz [aW,aM] (aau x R l) (jY R (aw l) o.length (aw s) (aw o) j k):=by
  intro s p k hs hsl done ah
  induction ah with
  |nil=>
   intro j o hd hf hp hall
   have hjl:=drop_nil hd
   rw[ag5 hjl]at hall
   have hkl:=(aha.1 hp).1
   have hol:=Wl.CS hf.nd hf.is
   refine An ?_
   have hn:¬(j:Int)<(s.length:Int):=by omega
   simp only[rk,agV,hn,ahj,agZ,ag1,ag3,ahk,bo hkl (by omega)]
   refine done o ⟨hf.nd,hf.is,hf.sub,hf.rch,fun a ha b hb=>?_⟩
   rw[aQ hp]at ha
   rcases ahd.1 ha with ha|ha
   ·exact hf.Mz a ha b hb
   ·rw[ahb]at ha;subst ha;exact hall b ((hs b).2 hb)
  |cons a ah ih=>
   intro j o hd hf hp hall
   obtain⟨g1,g2,g3⟩:=aB hd
   have hkl:=(aha.1 hp).1
   have hol:=Wl.CS hf.nd hf.is
   refine An ?_
   have hcl:(j:Int)<(s.length:Int):=by omega
   have hat:D.at (aw s) j= .z a:=bn g1
   have r1:aO 8 (o.length+1)=true:=by simp[aO];omega
   simp only[rk,agV,hcl,hat,aU g3,D.bV,ag6,ahg,ag3,ag0,ag1,ahf,r1,ahI,bo g3 (by omega)]
   refine⟨_,_,_,rfl,Te o a (by omega),?_⟩
   intro d hd
   subst hd
   simp only[D.bz,ahl,agX,ahq,agW]
   have hna:x.YQ p a:=(hs a).1 (agY g1)
   refine⟨fun hn=>?_,fun hn=>ih (j+1) o g2 hf hp fun q hq=>?_⟩
   ·have:=ih (j+1) (o++[a]) g2 (hf.push hc (agY hp) hna hn (by omega)) (by rw[aiH hkl];exact hp) fun q hq=>by
     rw[aQ g1]at hq
     rcases ahd.1 hq with hq|hq
     ·exact ahP _ (hall q hq)
     ·exact aih _ hq
    simpa using this
   ·rw[aQ g1]at hq
    rcases ahd.1 hq with hq|hq
    ·exact hall q hq
    ·rw[ahb]at hq;subst hq;exact hn
 have lp2:∀(n k:Nat) (o:List Int),x.th.length-k=n->Cg x l o k->ay pg dz [aW,aM] (aau x R l) (nr R (aw l) o.length (aw o) k):=by
  intro n
  induction n with
  |zero=>
   intro k o hk hf
   have hol:=Wl.CS hf.nd hf.is
   refine C9 ?_
   have hn:¬(k:Int)<(o.length:Int):=by omega
   simp only[rk,agV,hn,ahj,ahg,agZ,ag0,ag1,ag3,ahk,ahf,D.bE]
   refine⟨_,_,rfl,Bs o (by omega),?_⟩
   rintro d ⟨r,h1,h2⟩
   rw[h1]
   refine⟨rfl,.r [.r (aw r),.z 0],?_,r,rfl,rfl,h2.1,fun q=>(h2.2 q).trans (hf.all (by omega) q)⟩
   rw[agV]
   exact(by rw[<-agV (f:=D.z)];exact .ret)
  |succ n ih=>
   intro k o hk hf
   have hol:=Wl.CS hf.nd hf.is
   refine C9 ?_
   by_cases hko:k<o.length
   ·obtain⟨p,hp⟩:∃p,o[k]?=some p:=⟨_,ag7 hko⟩
    have hcl:(k:Int)<(o.length:Int):=by omega
    have hat:D.at (aw o) k= .z p:=bn hp
    simp only[rk,agV,hcl,hat,aU hko,hko,D.bV,ag6,ahg,ag3,ag0,ag1,ahf]
    refine⟨_,_,rfl,WA hi hR p (hf.is p (agY hp)),?_⟩
    rintro d ⟨s,h1,h2,h3⟩
    rw[h1]
    exact lp3 s p k h2 h3 (fun o' hf'=>ih (k+1) o' (by omega) hf') s 0 o rfl hf hp (by simp)
   ·have hn:¬(k:Int)<(o.length:Int):=by omega
    simp only[rk,agV,hn,ahj,ahg,agZ,ag0,ag1,ag3,ahk,ahf,D.bE]
    refine⟨_,_,rfl,Bs o (by omega),?_⟩
    rintro d ⟨r,h1,h2⟩
    rw[h1]
    refine⟨rfl,.r [.r (aw r),.z 0],?_,r,rfl,rfl,h2.1,fun q=>(h2.2 q).trans (hf.all (by omega) q)⟩
    rw[agV]
    exact(by rw[<-agV (f:=D.z)];exact .ret)
 have lp1:∀(ah:List Int) (i:Nat) (o:List Int),l.drop i=ah->o.Nodup->(∀q,q∈o↔q∈l.take i)->ay pg dz [aW,aM] (aau x R l) (pB R (aw l) o.length i (aw o)):=by
  intro ah
  induction ah with
  |nil=>
   intro i o hd hnd hm
   have hil:=drop_nil hd
   rw[ag5 hil]at hm
   refine ER ?_
   have hn:¬(i:Int)<(l.length:Int):=by omega
   simp only[rk,agV,hn,ahj,agZ,ag1,ag3,ahk]
   exact lp2 _ 0 o rfl ⟨hnd,fun q hq=>hls q ((hm q).1 hq),fun q hq=>(hm q).2 hq,fun q hq=> .az ((hm q).1 hq),by simp⟩
  |cons a ah ih=>
   intro i o hd hnd hm
   obtain⟨g1,g2,g3⟩:=aB hd
   have hma:=agY g1
   have hol:=hG hnd (ks:=l) fun q hq=>akn ((hm q).1 hq)
   refine ER ?_
   have hcl:(i:Int)<(l.length:Int):=by omega
   have hat:D.at (aw l) i= .z a:=bn g1
   have r1:aO 8 (o.length+1)=true:=by simp[aO];omega
   simp only[rk,agV,hcl,hat,aU g3,D.bV,ag6,ahg,ag3,ag0,ag1,ahf,r1,ahI,bo g3 (by omega)]
   refine⟨_,_,rfl,FZ hR hthl a,?_⟩
   rintro d ⟨_,hd2⟩
   have hd2:(d.aa 1).bool=true:=hd2.trans (hls a hma)
   rw[hd2]
   refine⟨fun h=>(by cases h),fun _=>⟨_,_,_,rfl,Te o a (by omega),?_⟩⟩
   intro d2 hd2
   subst hd2
   simp only[D.bz,ahl,agX,ahq,agW]
   have mem:∀z,z∈l.take (i+1)↔z∈l.take i\/z=a:=fun z=>by rw[aQ g1];simp
   refine⟨fun hn=>?_,fun hn=>ih (i+1) o g2 hnd fun q=>?_⟩
   ·have:=ih (i+1) (o++[a]) g2 (ah5.2 ⟨hnd,by simp,fun p hp b hb=>by rw[ahb]at hb;subst hb;rintro rfl;exact hn hp⟩) fun q=>by rw[mem,ahd,hm,ahb]
    simpa using this
   ·rw[mem,hm]
    exact⟨.inl,fun h=>by rcases h with h|rfl;exact h;exact(hm q).1 hn⟩
 refine SX ?_
 exact lp1 l 0 [] rfl .nil (by simp)
end
end
section
def gi (l:List Su):List Int:=l.flatMap fun s=>mF s.ns
def Bg (l:List Su)(s:Su):gi (l++[s])=gi l++mF s.ns:=by simp[gi]
structure SuS (l:List Su):Prop where
 len:l.length<2^20
 one:∀s∈l,s.vx/\s.se.length<=524288
 all:(gi l).length<2^30
def KH (l:List Su)(i:Nat):(gi (l.take i)).length<=(gi l).length:=by
 have:gi (l.take i++l.drop i)=gi (l.take i)++gi (l.drop i):=List.flatMap_append
 rw[aii]at this
 rw[this,ahc];omega
section
variable {R:RS} {x:Wl} (hi:x.OU) (hR:Fe R x.ro)
include hi hR
noncomputable abbrev agz (x:Wl)(R:RS)(l:List Su):mR:= .bx 1 (tT (xQ R (l.map Su.ax)) (Rm R)) (fun d=>∃r,(d.aa 0).ae=aw r/\if l.all x.cN then (d.aa 1).int=0/\ch r/\(∀q,q∈r↔x.LC (gi l) q)else (d.aa 1).int=190/\r=[])
theorem Wz (hc:x.Clo)(l:List Su)(hs:SuS l):PH kv (xQ R (l.map Su.ax)) (Rm R) 1 tT (fun d=>∃r,(d.aa 0).ae=aw r/\if l.all x.cN then (d.aa 1).int=0/\ch r/\(∀q,q∈r↔x.LC (gi l) q)else (d.aa 1).int=190/\r=[]):=by
 have hll:=hs.len
 have hal:=hs.all
 have loop:l.all x.cN=true->∀(ah:List Su) (i:Nat) (o:List Int),l.drop i=ah->(∀q,q∈o↔q∈gi (l.take i))->o.length<=(gi (l.take i)).length->ay pg kv [aW,aM] (agz x R l) (pQ R (l.map Su.ax) o.length i (aw o)):=by
  intro hall ah
  have hmay:∀s∈l,x.cN s=true:=ahG.1 hall
  induction ah with
  |nil=>
   intro i o hd hm hol
   have hil:=drop_nil hd
   rw[ag5 hil]at hm hol
   refine BM ?_
   have hn:¬(i:Int)<(l.length:Int):=by omega
   simp only[rk,agV,hn,ahj,ahg,agZ,ag0,ag1,ag3,ahk,ahf,D.bE]
   refine⟨_,_,rfl,ZD hi hR hc o (by omega) fun q hq=>?_,?_⟩
   ·obtain⟨s,hsm,hq⟩:=aiq.1 ((hm q).1 hq)
    have:=((x.cW s).1 (hmay s hsm)).2.2.2.2
    simp only[mF,aE.xG,aiq,ahp]at hq
    obtain⟨v,⟨n,hn,rfl⟩,hq⟩:=hq
    have:=this n hn q hq
    simp only[Wl.xw,ag2]at this
    exact this.1
   ·rintro d ⟨r,h1,h2,h3,h4⟩
    rw[h1,h2]
    refine⟨rfl,.r [.r (aw r),.z 0],?_,r,rfl,?_⟩
    ·exact .ret
    ·rw[ag8 hall]
     refine⟨rfl,h3,fun q=>(h4 q).trans ?_⟩
     constructor
     ·intro h
      induction h with
      |az h=>exact .az ((hm _).1 h)
      |step _ hn ih=>exact .step ih hn
     ·intro h
      induction h with
      |az h=>exact .az ((hm _).2 h)
      |step _ hn ih=>exact .step ih hn
  |cons s ah ih=>
   intro i o hd hm hol
   obtain⟨g1,g2,g3⟩:=aB hd
   have hmem:=agY g1
   refine BM ?_
   have hcl:(i:Int)<(l.length:Int):=by omega
   have hat:D.at (l.map Su.ax) i=s.ax:=bn g1
   have hnm:dk s.ns=true:=((x.cW s).1 (hmay s hmem)).2.2.1
   have htk:=KH l (i+1)
   rw[aQ g1,Bg,ahc]at htk
   simp only[rk,agV,hcl,hat,Su.re,aU g3,ag6,ahg,ag3,ag0,ag1,ahf,bo g3 (by omega),ah0]
   refine⟨_,_,_,rfl,Wx s (hs.one s hmem).1 hnm,?_⟩
   rintro d ⟨r,h1,h2⟩
   subst h1
   have hrl:r.length<=(mF s.ns).length:=hG h2.1.lJ fun q hq=>(h2.2 q).1 hq
   have r1:aO 8 (o.length+r.length)=true:=by simp[aO];omega
   simp only[D.bE,agV,r1,ag3,ag0,ag1,ahf]
   have:=ih (i+1) (o++r) g2 (fun q=>by rw[ahd,hm,h2.2,aQ g1,Bg,ahd]) (by rw[aQ g1,Bg,ahc,ahc];omega)
   rw[ahc,show aw (o++r)=aw o++aw r from ahr]at this
   exact this
 refine Qn ?_
 simp only[rk]
 refine⟨_,_,rfl,OC hi hR l (by omega) hs.one,?_⟩
 intro d hd
 rw[hd]
 refine⟨fun h=>⟨rfl,.r [.r [],.z 190],?_,[],rfl,?_⟩,fun h=>?_⟩
 ·exact .ret
 ·rw[ag4 (by simpa using h)];exact⟨rfl,rfl⟩
 ·exact loop (by simpa using h) l 0 [] rfl (by simp[gi]) (by simp)
end
end
end Go.Proofs
namespace Go.PB
open Go
mutual
def D.iA:D->Nat
 |D.z _=>1
 |D.b _=>1
 |D.s l=>l.length+1
 |D.r l=>D.kj l+1
def D.kj:List D->Nat
 | []=>0
 |d::q=>D.iA d+D.kj q
end
def da (P:Program):Nat->TypeId->D->Prop
 |0,_,_=>False
 |n+1,t,d=>match P.underlying t with
  |some (.int k)=>∃a,d= .z a/\k.min<=a/\a<=k.max
  |some .bool=>∃a,d= .b a
  |some .string=>∃a,d= .s a/\a.length<2^63
  |some (.slice e)=>∃l,d= .r l/\l.length<2^63/\∀x∈l,da P n e x
  |some (.struct fs)=>∃l,d= .r l/\l.length=fs.toList.length/\∀(i:Nat) (f:Field) (x:D),fs.toList[i]?=some f->l[i]?=some x->da P n f.type x
  |_=>False
def Uu (P:Program):List Field->Nat->Nat->Bool
 | [],n,m=>Nat.beq n m
 |f::r,n,m=>Nat.beq f.offset n&&Uu P r (n+P.cellsOf f.type) m
def Zs (P:Program)(S:List TypeId):Bool:=S.all fun t=>match P.underlying t with
 |some (.int _)=>true
 |some .bool=>true
 |some .string=>true
 |some (.slice e)=>S.contains e&&decide (0<P.cellsOf e)
 |some (.struct fs)=>fs.toList.all (fun f=>S.contains f.type)&&Uu P fs.toList 0 (P.cellsOf t)
 |_=>false
structure Xi {H:Type}(ub:DataW H->Nat)(uba:List (DataW H)->Nat):Prop where
 b8:∀b,ub (.lit (.string b))=b.length+1
 int:∀k n,ub (.lit (.int k n))=1
 bool:∀b,ub (.lit (.bool b))=1
 nil:ub .nil=1
 slice:∀e s,ub (.slice e s)=uba e+uba s+1
 agg:∀p,ub (.agg p)=uba p+1
 cX:uba []=0
 cons:∀d r,uba (d::r)=ub d+uba r
def Kn {H:Type}{ub:DataW H->Nat}{uba:List (DataW H)->Nat}(hb:Xi ub uba):∀(l:List D) (m:List (DataW H)),l.length=m.length->(∀(i:Nat) d x,l[i]?=some d->m[i]?=some x->D.iA d<=ub x)->D.kj l<=uba m
 | [],[],_,_=>by simp[D.kj]
 | [],_::_,h,_=>by simp at h
 |_::_,[],h,_=>by simp at h
 |d::l,x::m,h,hi=>by
  rw[hb.cons,D.kj]
  have h1:=hi 0 d x rfl rfl
  have h2:=Kn hb l m (by simpa using h) fun i d x e1 e2=>hi (i+1) d x (by simpa using e1) (by simpa using e2)
  omega
def Yv (P:Program)(cs:List Value):∀(fs:List Field) (n:Nat),Uu P fs n cs.length=true->(fs.map fun f:Field=>(cs.drop f.offset).take (P.cellsOf f.type)).flatten=cs.drop n:=by
 intro fs
 induction fs with
 |nil=>
  intro n h
  have:=ahh h
  simp[this]
 |cons f r ih=>
  intro n h
  simp only[Uu,ag2]at h
  have h1:=ahh h.1
  rw[ahJ,ajA,ih _ h.2,h1,<-aiO,aii]
def UF {H:Type}{ax:TypeId×Value->H}{P:Program}{w:World}{Q5:Nat->Bool}{xw:Bool}{S:List TypeId}(hS:Zs P S=true){ub:DataW H->Nat}{uba:List (DataW H)->Nat}(hb:Xi ub uba):
 ∀(fuel:Nat) (t:TypeId) (cs:List Value) (x:DataW H×List MemPlace),t∈S->DataW.trod ax P w 0 Q5 xw fuel t cs=some x->
  ∃d:D,nG P (fun c=>c<w.heap.size) w t d cs/\da P fuel t d/\D.iA d<=ub x.1:=by
 intro fuel
 induction fuel with
 |zero=>intro t cs x _ h;simp[DataW.trod]at h
 |succ n ih=>
  intro t cs x ht h
  have hp:=ahG.1 hS t ht
  cases hu:P.underlying t with
  |none=>rw[hu]at hp;cases hp
  |some td=>
   rw[hu]at hp
   cases td<;>try (cases hp;done)
   case int k=>
    obtain⟨a,rfl,rfl,hw⟩:=DataW.trod_int hu h
    simp only[Lit.wf,ag2,agW]at hw
    refine⟨.z a,.int (d:= .z a) hu,?_,by rw[hb.int];simp[D.iA]⟩
    unfold da;rw[hu];exact⟨a,rfl,hw⟩
   case bool=>
    obtain⟨a,rfl,rfl⟩:=DataW.trod_bool hu h
    refine⟨.b a,.bool (d:= .b a) hu,?_,by rw[hb.bool];simp[D.iA]⟩
    unfold da;rw[hu];exact⟨a,rfl⟩
   case string=>
    obtain⟨a,rfl,rfl,hl⟩:=DataW.trod_string hu h
    obtain⟨⟨a⟩⟩:=a
    refine⟨.s a,.b8 (d:= .s a) hu,?_,by rw[hb.b8];simp[D.iA]⟩
    unfold da;rw[hu]
    refine⟨a,rfl,?_⟩
    have:a.length<=maxLen:=hl
    unfold maxLen at this;omega
   case slice e=>
    simp only[ag2,ajF,agW]at hp
    obtain⟨he,hc0⟩:=hp
    rcases DataW.trod_slice hu h with ⟨rfl,rfl⟩| ⟨a,len,cap,elems,ah,m,hfm,rfl,rfl,_,hlc,hcap,hel,hat,_,_⟩
    ·refine⟨.r [],.cX hu rfl,?_,by rw[hb.nil];simp[D.iA,D.kj]⟩
     unfold da;rw[hu]
     exact⟨[],rfl,by simp,by simp⟩
    ·injection hfm with hfm;subst hfm
     have key:∀i:Fin len,∃d:D,∃cs',∃x',w.cells? 0 (a.add (i.1*P.cellsOf e)) (P.cellsOf e)=some cs'/\elems[i.1]?=some x'/\nG P (fun c=>c<w.heap.size) w e d cs'/\da P n e d/\D.iA d<=ub x'.1:=fun i=>by
      have hi1:=hat i.1 i.2
      have he2:elems[i.1]?=some (elems[i.1]'(by have:=i.2;omega)):=ag7 (by have:=i.2;omega)
      rw[he2]at hi1
      obtain⟨cs',hc,ht'⟩:=ajy.1 hi1
      obtain⟨d,h1,h2,h3⟩:=ih e cs' _ he ht'
      exact⟨d,cs',_,hc,he2,h1,h2,h3⟩
     let f:=fun i=>(key i).choose
     have hf:=fun i=>(key i).choose_spec
     change ∀i:Fin len,∃cs' x',w.cells? 0 (a.add (i.1*P.cellsOf e)) (P.cellsOf e)=some cs'/\elems[i.1]?=some x'/\nG P (fun c=>c<w.heap.size) w e (f i) cs'/\da P n e (f i)/\D.iA (f i)<=ub x'.1 at hf
     have hfl:(List.ofFn f).length=len:=List.length_ofFn
     have hget:∀(i:Nat) (y:D),(List.ofFn f)[i]?=some y->∃hi:i<len,y=f ⟨i,hi⟩:=fun i y e1=>by
      rw[aha]at e1
      obtain⟨h1,h2⟩:=e1
      rw[List.getElem_ofFn]at h2
      exact⟨by simpa using h1,h2.symm⟩
     have hcan:da P (n+1) t (.r (List.ofFn f)):=by
      unfold da;rw[hu]
      refine⟨_,rfl,by rw[hfl];unfold maxLen at hcap;omega,fun y hy=>?_⟩
      obtain⟨i,hi⟩:=akj.1 hy
      obtain⟨h1,rfl⟩:=hget i y hi
      obtain⟨_,_,_,_,_,h2,_⟩:=hf ⟨i,h1⟩
      exact h2
     have hblk:D.iA (.r (List.ofFn f))<=ub (.slice (elems.map (·.1)) (ah.map (·.1))):=by
      rw[hb.slice,D.iA]
      have:=Kn hb (List.ofFn f) (elems.map (·.1)) (by simp[hel]) fun i y z e1 e2=>by
       obtain⟨h1,rfl⟩:=hget i y e1
       obtain⟨_,x',_,g2,_,_,g3⟩:=hf ⟨i,h1⟩
       rw[ahQ,g2]at e2
       cases e2;exact g3
      omega
     refine⟨.r (List.ofFn f),?_,hcan,hblk⟩
     by_cases hl0:len=0
     ·subst hl0
      exact .empty hu (by simp[D.ae]) a cap
     ·obtain⟨b,off,spot⟩:=a
      obtain⟨cs0,x0,hc0',_⟩:=hf ⟨0,by omega⟩
      obtain⟨_,hl0',hcell0⟩:=World.cells?_some hc0'
      have hz:=hcell0 0 hc0
      have hspot:spot=none:=by
       cases spot with
       |none=>rfl
       |some y=>
        exfalso
        rw[ag7 (by omega)]at hz
        simp only[Addr.add,ajR,ahz,World.cell?]at hz
        split at hz<;>simp at hz
      subst hspot
      have hb':b<w.heap.size:=by
       rcases Nat.lt_or_ge b w.heap.size with hlt|hge
       ·exact hlt
       ·exfalso
        rw[ag7 (by omega)]at hz
        simp[Addr.add,World.cell?,aka hge]at hz
      have hcellk:∀(i:Fin len) (j:Nat),j<P.cellsOf e->∃cs' x',(w.cells? 0 (Addr.add ⟨b,off,none⟩ (i.1*P.cellsOf e)) (P.cellsOf e)=some cs'/\elems[i.1]?=some x'/\nG P (fun c=>c<w.heap.size) w e (f i) cs'/\da P n e (f i)/\D.iA (f i)<=ub x'.1)/\cs'.length=P.cellsOf e/\w.cell? ⟨b,off+(i.1*P.cellsOf e+j),none⟩=cs'[j]?:=fun i j hj=>by
       obtain⟨cs',x',g⟩:=hf i
       obtain⟨_,hl1,hc1⟩:=World.cells?_some g.1
       have:=hc1 j hj
       rw[Go.Deep.add_add,Go.WideShapes.add_plain]at this
       exact⟨cs',x',g,hl1,this⟩
      have hDl:(D.ae (.r (List.ofFn f))).length=len:=hfl
      rw[show (Value.slice (some ⟨b,off,none⟩) len cap)=Value.slice (some ⟨b,off,none⟩) (D.ae (.r (List.ofFn f))).length cap by rw[hDl]]
      have hsome:∀k,k<len*P.cellsOf e->∃v,w.cell? ⟨b,off+k,none⟩=some v:=fun k hk=>by
       have hi:k/P.cellsOf e<len:=Nat.div_lt_of_lt_mul (by rw[Nat.mul_comm];exact hk)
       obtain⟨cs',_,_,g2,g3⟩:=hcellk ⟨k/P.cellsOf e,hi⟩ (k % P.cellsOf e) (akF _ hc0)
       have e1:k/P.cellsOf e*P.cellsOf e+k % P.cellsOf e=k:=by rw[Nat.mul_comm];exact Nat.div_add_mod k _
       dsimp only at g3
       rw[e1,ag7 (by rw[g2];exact akF _ hc0)]at g3
       exact⟨_,g3⟩
      refine .slice hu b off cap ((List.range (len*P.cellsOf e)).map fun k=>(w.cell? ⟨b,off+k,none⟩).getD (.tuple #[])) hb' (by rw[hDl];exact hlc) (by simp[hDl]) (fun i y hy=>?_) (fun k v hv=>?_)
      ·obtain⟨h1,rfl⟩:=hget i y hy
       obtain⟨cs',_,g1,g2,_⟩:=hcellk ⟨i,h1⟩ 0 hc0
       have:(List.drop (i*P.cellsOf e) ((List.range (len*P.cellsOf e)).map fun k=>(w.cell? ⟨b,off+k,none⟩).getD (.tuple #[]))).take (P.cellsOf e)=cs':=by
        apply ajc
        intro j
        by_cases hj:j<P.cellsOf e
        ·obtain⟨cs2,_,k1,k2,k3⟩:=hcellk ⟨i,h1⟩ j hj
         have e2:cs2=cs':=by have:=k1.1;rw[g1.1]at this;cases this;rfl
         subst e2
         have hlt:i*P.cellsOf e+j<len*P.cellsOf e:=by
          have h5:(i+1)*P.cellsOf e<=len*P.cellsOf e:=ah6 _ h1
          rw[aiu,aiT]at h5;omega
         rw[ahL,ag8 hj,ah7,ahQ,akq hlt]
         dsimp only at k3
         simp only[ahm,k3]
         rw[ag7 (by omega)];rfl
        ·rw[ahL,ag4 hj,ahS (by omega)]
       rw[this];exact g1.2.2.1
      ·rw[ahQ,ahY]at hv
       obtain⟨k',hk',rfl⟩:=hv
       obtain⟨hk1,hk2⟩:=aha.1 hk'
       rw[List.getElem_range]at hk2
       rw[List.length_range]at hk1
       subst hk2
       obtain⟨v,hv⟩:=hsome k hk1
       rw[hv];rfl
   case struct fs=>
    simp only[ag2,ahG,ajF]at hp
    obtain⟨hfs,hlay⟩:=hp
    obtain⟨xs,m,hfm,rfl,hlen,hxl,hxi⟩:=DataW.trod_struct hu h
    injection hfm with hfm;subst hfm
    have key:∀i:Fin fs.toList.length,∃d:D,∃x',xs[i.1]?=some x'/\nG P (fun c=>c<w.heap.size) w (fs.toList[i.1]).type d ((cs.drop (fs.toList[i.1]).offset).take (P.cellsOf (fs.toList[i.1]).type))/\da P n (fs.toList[i.1]).type d/\D.iA d<=ub x'.1:=fun i=>by
     have hfi:fs[i.1]?=some (fs.toList[i.1]):=by rw[<-ahW];exact ag7 i.2
     have h1:=hxi i.1 _ hfi
     have h2:xs[i.1]?=some (xs[i.1]'(by rw[hxl,<-aiX];exact i.2)):=ag7 (by rw[hxl,<-aiX];exact i.2)
     rw[h2]at h1
     obtain⟨d,g1,g2,g3⟩:=ih _ _ _ (hfs _ (ajo _)) h1
     exact⟨d,_,h2,g1,g2,g3⟩
    let f:=fun i=>(key i).choose
    have hf:=fun i=>(key i).choose_spec
    change ∀i:Fin fs.toList.length,∃x',xs[i.1]?=some x'/\nG P (fun c=>c<w.heap.size) w (fs.toList[i.1]).type (f i) ((cs.drop (fs.toList[i.1]).offset).take (P.cellsOf (fs.toList[i.1]).type))/\da P n (fs.toList[i.1]).type (f i)/\D.iA (f i)<=ub x'.1 at hf
    have hfl:(List.ofFn f).length=fs.toList.length:=List.length_ofFn
    have hget:∀(i:Nat) (y:D),(List.ofFn f)[i]?=some y->∃hi:i<fs.toList.length,y=f ⟨i,hi⟩:=fun i y e1=>by
     rw[aha]at e1
     obtain⟨h1,h2⟩:=e1
     rw[List.getElem_ofFn]at h2
     exact⟨by simpa using h1,h2.symm⟩
    refine⟨.r (List.ofFn f),?_,?_,?_⟩
    ·have e1:cs=(fs.toList.map fun f=>(cs.drop f.offset).take (P.cellsOf f.type)).flatten:=by
      rw[Yv P cs fs.toList 0 (by rw[hlen];exact hlay)];rfl
     have:nG P (fun c=>c<w.heap.size) w t (.r (List.ofFn f)) (fs.toList.map fun f=>(cs.drop f.offset).take (P.cellsOf f.type)).flatten:=
      .struct hu _ (by simp) fun i fd cs' h1 h2=>by
       rw[ahQ,h1]at h2
       cases h2
       obtain⟨hi,h3⟩:=aha.1 h1
       obtain⟨x',g1,g2,_⟩:=hf ⟨i,hi⟩
       have e2:D.aa (.r (List.ofFn f)) i=f ⟨i,hi⟩:=by
        simp only[D.aa,D.ae,D.at,List.getD,List.getElem?_ofFn,hi,dif_pos,ah4]
       rw[e2]
       dsimp only at g2
       rw[h3]at g2
       exact g2
     rw[<-e1]at this;exact this
    ·unfold da;rw[hu]
     refine⟨_,rfl,hfl,fun i fd y h1 h2=>?_⟩
     obtain⟨hi,rfl⟩:=hget i y h2
     obtain⟨_,_,_,g3,_⟩:=hf ⟨i,hi⟩
     obtain⟨_,h3⟩:=aha.1 h1
     dsimp only at g3
     rw[h3]at g3;exact g3
    ·rw[hb.agg,D.iA]
     have:=Kn hb (List.ofFn f) (xs.map (·.1)) (by simp[hxl]) fun i y z e1 e2=>by
      obtain⟨hi,rfl⟩:=hget i y e1
      obtain⟨x',g1,_,_,g3⟩:=hf ⟨i,hi⟩
      rw[ahQ,g1]at e2
      cases e2;exact g3
     omega
end Go.PB
namespace Go.Proofs
open Go Go.PB
section
def KG (P:Program)(t:TypeId):List TypeId:=match P.underlying t with|some (.struct fs)=>fs.toList.map (·.type)|_=>[]
section
variable {P:Program} {n:Nat} {t:TypeId} {d:D}
def UT (P:Program)(n:Nat):List TypeId->List D->Prop
 | [],l=>l=[]
 |t::ts,l=>∃x r,l=x::r/\da P n t x/\UT P n ts r
def UT.of {m:Nat}:∀{fs:List Field} {l:List D},l.length=fs.length->(∀(i:Nat) (f:Field) (x:D),fs[i]?=some f->l[i]?=some x->da P m f.type x)->UT P m (fs.map (·.type)) l
 | [],[],_,_=>rfl
 | [],_::_,h,_=>by simp at h
 |_::_,[],h,_=>by simp at h
 |f::fs,x::l,h,hi=>⟨x,l,rfl,hi 0 f x rfl rfl,UT.of (by simpa using h) fun i f x a b=>hi (i+1) f x (by simpa using a) (by simpa using b)⟩
def Cx {u:TypeId}{us:List TypeId}(hu:KG P t=u::us)(h:da P n t d):∃m l,n=m+1/\d= .r l/\UT P m (u::us) l:=by
 cases n with
 |zero=>exact h.elim
 |succ m=>
  unfold da at h
  unfold KG at hu
  cases hp:P.underlying t with
  |none=>rw[hp]at h;exact h.elim
  |some td=>
   rw[hp]at h hu
   cases td<;>try (cases hu;done)
   obtain⟨l,h1,h2,h3⟩:=h
   exact⟨m,l,rfl,h1,hu▸UT.of h2 h3⟩
def Ua {k:IntKind}(hu:P.underlying t=some (.int k))(h:da P n t d):∃a,d= .z a/\k.min<=a/\a<=k.max:=by
 cases n with
 |zero=>exact h.elim
 |succ m=>unfold da at h;rw[hu]at h;exact h
def kO (hu:P.underlying t=some (.int .i64))(h:da P n t d):∃a,d= .z a/\-2^63<=a/\a<2^63:=by
 obtain⟨a,h1,h2,h3⟩:=Ua hu h
 have e1:IntKind.min .i64=-2^63:=by decide
 have e2:IntKind.max .i64=2^63-1:=by decide
 exact⟨a,h1,by omega,by omega⟩
def Fg (hu:P.underlying t=some (.int .u8))(h:da P n t d):∃a,d= .z a/\0<=a/\a<256:=by
 obtain⟨a,h1,h2,h3⟩:=Ua hu h
 have e1:IntKind.min .u8=0:=by decide
 have e2:IntKind.max .u8=255:=by decide
 exact⟨a,h1,by omega,by omega⟩
def XP (hu:P.underlying t=some .bool)(h:da P n t d):∃a,d= .b a:=by
 cases n with
 |zero=>exact h.elim
 |succ m=>unfold da at h;rw[hu]at h;exact h
def DS (hu:P.underlying t=some .string)(h:da P n t d):∃a,d= .s a/\a.length<2^63:=by
 cases n with
 |zero=>exact h.elim
 |succ m=>unfold da at h;rw[hu]at h;exact h
def fP {e:TypeId}{α:Type}{f:α->D}{Q:α->Prop}(hu:P.underlying t=some (.slice e))(h:da P n t d)(hf:∀m,m<n->∀x,da P m e x->∃v,x=f v/\Q v):∃l:List α,d= .r (l.map f)/\l.length<2^63/\∀v∈l,Q v:=by
 cases n with
 |zero=>exact h.elim
 |succ m=>
  unfold da at h;rw[hu]at h
  obtain⟨l,rfl,h1,h2⟩:=h
  have key:∀l:List D,(∀x∈l,da P m e x)->∃k:List α,l=k.map f/\∀v∈k,Q v:=by
   intro l
   induction l with
   |nil=>intro _;exact⟨[],rfl,fun _ h=>(by cases h)⟩
   |cons a r ih=>
    intro h
    obtain⟨v,e1,e2⟩:=hf m (by omega) a (h a (by simp))
    obtain⟨k,e3,e4⟩:=ih fun x hx=>h x (by simp[hx])
    refine⟨v::k,by simp[e1,e3],fun y hy=>?_⟩
    rcases ag9.1 hy with rfl|hy
    ·exact e2
    ·exact e4 y hy
  obtain⟨k,rfl,hk⟩:=key l h2
  exact⟨k,rfl,by simpa using h1,hk⟩
end
def f1:KG pg av=[FE,W0,bX,dE,aA]:=by kernel_rfl
def f2:KG pg iF=[bX,av]:=by kernel_rfl
def f3:KG pg aG=[ID,W0,bX,IF]:=by kernel_rfl
def f4:KG pg ba=[tOp,bX,bX,lM,lO,aG,aG,bK,bK,bK,gD]:=by kernel_rfl
def f5:KG pg aH=[lO,cC,av,dE,W0,W0,aA,aA,lM,ai,bK,ke]:=by kernel_rfl
def f6:KG pg bF=[aA,aH]:=by kernel_rfl
def f7:KG pg bu=[Bz,Dn,OL,aA,Dn]:=by kernel_rfl
def f8:KG pg br=[cC,bK,ke,aW]:=by kernel_rfl
def uS:pg.underlying cC=some (.int .i64):=by kernel_rfl
def uR:pg.underlying aA=some (.int .i64):=by kernel_rfl
def uI:pg.underlying W0=some (.int .i64):=by kernel_rfl
def uI1:pg.underlying af=some (.int .i64):=by kernel_rfl
def uK:pg.underlying lO=some (.int .u8):=by kernel_rfl
def uA:pg.underlying lM=some (.int .u8):=by kernel_rfl
def uO:pg.underlying tOp=some (.int .u8):=by kernel_rfl
def uV:pg.underlying FE=some (.int .u8):=by kernel_rfl
def uE:pg.underlying ID=some (.int .u8):=by kernel_rfl
def uB:pg.underlying ai=some .bool:=by kernel_rfl
def uT:pg.underlying bX=some .string:=by kernel_rfl
def lV:pg.underlying dE=some (.slice av):=by kernel_rfl
def lE:pg.underlying IF=some (.slice aG):=by kernel_rfl
def lS:pg.underlying bK=some (.slice ba):=by kernel_rfl
def lT:pg.underlying gD=some (.slice bX):=by kernel_rfl
def lN:pg.underlying ke=some (.slice iF):=by kernel_rfl
def lY:pg.underlying OL=some (.slice bF):=by kernel_rfl
def lR:pg.underlying aW=some (.slice aA):=by kernel_rfl
def lD:pg.underlying Bz=some (.slice cC):=by kernel_rfl
def lI:pg.underlying Dn=some (.slice af):=by kernel_rfl
def lU:pg.underlying eg=some (.slice br):=by kernel_rfl
def TK:∀n d,da pg n av d->∃v:aE,d=v.ax/\v.ok:=by
 intro n
 induction n using Nat.strongRecOn with|ind n ih=>
 intro d h
 obtain⟨m,_,rfl,rfl,a0,_,rfl,H0,a1,_,rfl,H1,a2,_,rfl,H2,a3,_,rfl,H3,a4,_,rfl,H4,rfl⟩:=Cx f1 h
 obtain⟨k,rfl,k1,k2⟩:=Fg uV H0
 obtain⟨b,rfl,b1,b2⟩:=kO uI H1
 obtain⟨s,rfl,s1⟩:=DS uT H2
 obtain⟨l,rfl,l1,l2⟩:=fP (f:=aE.ax) (Q:=aE.ok) lV H3 fun j hj x hx=>ih j (by omega) x hx
 obtain⟨r,rfl,r1,r2⟩:=kO uR H4
 exact⟨.mk k b s l r,by rw[aE.aD];rfl,(aE.gL _).2 ⟨k1,k2,b1,b2,s1,l1,r1,r2,l2⟩⟩
def ac4:∀n d,da pg n aG d->∃v:Ex,d=v.ax/\v.ok:=by
 intro n
 induction n using Nat.strongRecOn with|ind n ih=>
 intro d h
 obtain⟨m,_,rfl,rfl,a0,_,rfl,H0,a1,_,rfl,H1,a2,_,rfl,H2,a3,_,rfl,H3,rfl⟩:=Cx f3 h
 obtain⟨k,rfl,k1,k2⟩:=Fg uE H0
 obtain⟨b,rfl,b1,b2⟩:=kO uI H1
 obtain⟨s,rfl,s1⟩:=DS uT H2
 obtain⟨l,rfl,l1,l2⟩:=fP (f:=Ex.ax) (Q:=Ex.ok) lE H3 fun j hj x hx=>ih j (by omega) x hx
 exact⟨.mk k b s l,by rw[Ex.aD];rfl,(Ex.gL _).2 ⟨k1,k2,b1,b2,s1,l1,l2⟩⟩
def ada:∀n d,da pg n ba d->∃v:St,d=v.ax/\v.ok:=by
 intro n
 induction n using Nat.strongRecOn with|ind n ih=>
 intro d h
 obtain⟨m,_,rfl,rfl,a0,_,rfl,H0,a1,_,rfl,H1,a2,_,rfl,H2,a3,_,rfl,H3,a4,_,rfl,H4,a5,_,rfl,H5,a6,_,rfl,H6,a7,_,rfl,H7,a8,_,rfl,H8,a9,_,rfl,H9,a10,_,rfl,H10,rfl⟩:=Cx f4 h
 obtain⟨k,rfl,k1,k2⟩:=Fg uO H0
 obtain⟨s,rfl,s1⟩:=DS uT H1
 obtain⟨c,rfl,c1⟩:=DS uT H2
 obtain⟨p,rfl,p1,p2⟩:=Fg uA H3
 obtain⟨q,rfl,q1,q2⟩:=Fg uK H4
 obtain⟨a,rfl,a1⟩:=ac4 _ _ H5
 obtain⟨b,rfl,b1⟩:=ac4 _ _ H6
 obtain⟨l,rfl,l1,l2⟩:=fP (f:=St.ax) (Q:=St.ok) lS H7 fun j hj x hx=>ih j (by omega) x hx
 obtain⟨e,rfl,e1,e2⟩:=fP (f:=St.ax) (Q:=St.ok) lS H8 fun j hj x hx=>ih j (by omega) x hx
 obtain⟨o,rfl,o1,o2⟩:=fP (f:=St.ax) (Q:=St.ok) lS H9 fun j hj x hx=>ih j (by omega) x hx
 obtain⟨w,rfl,w1,w2⟩:=fP (f:=D.s) (Q:=fun x=>x.length<2^63) lT H10 fun j hj x hx=>DS uT hx
 exact⟨.mk k s c p q a b l e o w,by rw[St.aD];rfl,(St.gL _).2 ⟨k1,k2,s1,c1,p1,p2,q1,q2,a1,b1,l1,l2,e1,e2,o1,o2,w1,w2⟩⟩
def YK (n:Nat)(d:D)(h:da pg n iF d):∃v:ga,d=v.ax/\v.ok:=by
 obtain⟨m,_,rfl,rfl,a0,_,rfl,H0,a1,_,rfl,H1,rfl⟩:=Cx f2 h
 obtain⟨s,rfl,s1⟩:=DS uT H0
 obtain⟨v,rfl,v1⟩:=TK _ _ H1
 exact⟨⟨s,v⟩,rfl,s1,v1⟩
set_option maxRecDepth 4000 in
def agt (n:Nat)(d:D)(h:da pg n aH d):∃v:Wh,d=v.ax/\v.ok:=by
 obtain⟨m,_,rfl,rfl,a0,_,rfl,H0,a1,_,rfl,H1,a2,_,rfl,H2,a3,_,rfl,H3,a4,_,rfl,H4,a5,_,rfl,H5,a6,_,rfl,H6,a7,_,rfl,H7,a8,_,rfl,H8,a9,_,rfl,H9,a10,_,rfl,H10,a11,_,rfl,H11,rfl⟩:=Cx f5 h
 obtain⟨k,rfl,k1,k2⟩:=Fg uK H0
 obtain⟨i,rfl,h1,h2⟩:=kO uS H1
 obtain⟨v,rfl,v1⟩:=TK _ _ H2
 obtain⟨l,rfl,l1,l2⟩:=fP (f:=aE.ax) (Q:=aE.ok) lV H3 fun j hj x hx=>TK _ _ hx
 obtain⟨b,rfl,b1,b2⟩:=kO uI H4
 obtain⟨c,rfl,c1,c2⟩:=kO uI H5
 obtain⟨e,rfl,e1,e2⟩:=kO uR H6
 obtain⟨f,rfl,f1,f2⟩:=kO uR H7
 obtain⟨g,rfl,g1,g2⟩:=Fg uA H8
 obtain⟨y,rfl⟩:=XP uB H9
 obtain⟨o,rfl,o1,o2⟩:=fP (f:=St.ax) (Q:=St.ok) lS H10 fun j hj x hx=>ada _ _ hx
 obtain⟨p,rfl,p1,p2⟩:=fP (f:=ga.ax) (Q:=ga.ok) lN H11 fun j hj x hx=>YK _ _ hx
 exact⟨⟨k,i,v,l,b,c,e,f,g,y,o,p⟩,rfl,k1,k2,h1,h2,v1,l1,l2,b1,b2,c1,c2,e1,e2,f1,f2,g1,g2,o1,o2,p1,p2⟩
def afD (n:Nat)(d:D)(h:da pg n bF d):∃v:En,d=v.ax/\v.ok:=by
 obtain⟨m,_,rfl,rfl,a0,_,rfl,H0,a1,_,rfl,H1,rfl⟩:=Cx f6 h
 obtain⟨r,rfl,r1,r2⟩:=kO uR H0
 obtain⟨w,rfl,w1⟩:=agt _ _ H1
 exact⟨⟨r,w⟩,rfl,r1,r2,w1⟩
def agu (n:Nat)(d:D)(h:da pg n bu d):∃v:Wl,d=v.ax/\v.ok:=by
 obtain⟨m,_,rfl,rfl,a0,_,rfl,H0,a1,_,rfl,H1,a2,_,rfl,H2,a3,_,rfl,H3,a4,_,rfl,H4,rfl⟩:=Cx f7 h
 obtain⟨p,rfl,p1,p2⟩:=fP (f:=D.z) (Q:=fun x=>-2^63<=x/\x<2^63) lD H0 fun j hj x hx=>kO uS hx
 obtain⟨c,rfl,c1,c2⟩:=fP (f:=D.z) (Q:=fun x=>-2^63<=x/\x<2^63) lI H1 fun j hj x hx=>kO uI1 hx
 obtain⟨t,rfl,t1,t2⟩:=fP (f:=En.ax) (Q:=En.ok) lY H2 fun j hj x hx=>afD _ _ hx
 obtain⟨r,rfl,r1,r2⟩:=kO uR H3
 obtain⟨o,rfl,o1,o2⟩:=fP (f:=D.z) (Q:=fun x=>-2^63<=x/\x<2^63) lI H4 fun j hj x hx=>kO uI1 hx
 exact⟨⟨p,c,t,r,o⟩,rfl,p1,p2,c1,c2,t1,t2,r1,r2,o1,o2⟩
def ago (n:Nat)(d:D)(h:da pg n br d):∃v:Su,d=v.ax/\v.ok:=by
 obtain⟨m,_,rfl,rfl,a0,_,rfl,H0,a1,_,rfl,H1,a2,_,rfl,H2,a3,_,rfl,H3,rfl⟩:=Cx f8 h
 obtain⟨s,rfl,s1,s2⟩:=kO uS H0
 obtain⟨o,rfl,o1,o2⟩:=fP (f:=St.ax) (Q:=St.ok) lS H1 fun j hj x hx=>ada _ _ hx
 obtain⟨p,rfl,p1,p2⟩:=fP (f:=ga.ax) (Q:=ga.ok) lN H2 fun j hj x hx=>YK _ _ hx
 obtain⟨r,rfl,r1,r2⟩:=fP (f:=D.z) (Q:=fun x=>-2^63<=x/\x<2^63) lR H3 fun j hj x hx=>kO uR hx
 exact⟨⟨s,o,p,r⟩,rfl,s1,s2,o1,o2,p1,p2,r1,r2⟩
def nJ {α:Type}(f:α->D)(g:α->Nat)(gs:List α->Nat)(h0:gs []=0)(h1:∀v r,gs (v::r)=g v+gs r):∀l:List α,(∀x∈l,g x<=D.iA (f x))->gs l<=D.kj (l.map f)
 | [],_=>by rw[h0];exact ai3 _
 |v::r,h=>by
  rw[h1,ahJ,D.kj]
  have:=h v (by simp)
  have:=nJ f g gs h0 h1 r fun x hx=>h x (by simp[hx])
  omega
def XN (d:D):1<=D.iA d:=by cases d<;>simp[D.iA]
def qn:∀l:List D,l.length<=D.kj l
 | []=>by simp
 |d::r=>by have:=XN d;have:=qn r;simp only[ahv,D.kj];omega
def Mv:∀{l:List D} {x:D},x∈l->D.iA x<=D.kj l
 |d::r,x,h=>by
  rw[D.kj]
  rcases ag9.1 h with rfl|h
  ·omega
  ·have:=Mv h;omega
def aE.iA:∀v:aE,v.size<=D.iA v.ax:=by
 refine aE.GM fun v ih=>?_
 have:=nJ aE.ax aE.size aE.bB rfl (fun _ _=>rfl) v.l ih
 have e:v.size=1+aE.bB v.l:=by cases v;rfl
 rw[e,aE.aD];simp only[D.iA,D.kj];omega
def Ex.iA:∀v:Ex,v.size<=D.iA v.ax:=by
 refine Ex.GM fun v ih=>?_
 have:=nJ Ex.ax Ex.size Ex.bB rfl (fun _ _=>rfl) v.l ih
 have e:v.size=1+Ex.bB v.l:=by cases v;rfl
 rw[e,Ex.aD];simp only[D.iA,D.kj];omega
def St.iA:∀v:St,v.cnt+v.esz<=D.iA v.ax:=by
 refine St.GM fun v i1 i2 i3=>?_
 have ha:=v.a.iA
 have hb:=v.b.iA
 have h1:=nJ St.ax (fun v=>v.cnt+v.esz) (fun l=>St.eu l+St.lv l) rfl (fun v r=>by simp only[St.eu,St.lv];omega) v.th i1
 have h2:=nJ St.ax (fun v=>v.cnt+v.esz) (fun l=>St.eu l+St.lv l) rfl (fun v r=>by simp only[St.eu,St.lv];omega) v.el i2
 have h3:=nJ St.ax (fun v=>v.cnt+v.esz) (fun l=>St.eu l+St.lv l) rfl (fun v r=>by simp only[St.eu,St.lv];omega) v.co i3
 have h4:=qn (Dm v.wi)
 rw[agV]at h4
 rw[St.HT,St.xk,St.aD];simp only[D.iA,D.kj];omega
def Q6 (l:List St):St.eu l+St.lv l<=D.kj (l.map St.ax):=
 nJ St.ax (fun v=>v.cnt+v.esz) (fun l=>St.eu l+St.lv l) rfl (fun v r=>by simp only[St.eu,St.lv];omega) l fun x _=>x.iA
def W2 (l:List aE):aE.bB l<=D.kj (l.map aE.ax):=nJ aE.ax aE.size aE.bB rfl (fun _ _=>rfl) l fun x _=>x.iA
def MS (l:List ga):aE.bB (l.map ga.v)+l.length<=D.kj (l.map ga.ax):=
 nJ ga.ax (fun n=>n.v.size+1) (fun l=>aE.bB (l.map ga.v)+l.length) rfl (fun v r=>by simp only[ahJ,aE.bB,ahv];omega) l fun x _=>by
  have:=x.v.iA
  rw[ga.aD];simp only[D.iA,D.kj];omega
def WW (l r:List aE):aE.bB (l++r)=aE.bB l+aE.bB r:=by
 induction l with
 |nil=>simp[aE.bB]
 |cons a l ih=>simp only[aia,aE.bB,ih];omega
def Wh.iA (v:Wh):v.sz<=D.iA v.ax:=by
 have h1:=v.v.iA
 have h2:=W2 v.vs
 have h3:=MS v.ns
 have h4:=Q6 v.co
 rw[Wh.aD];simp only[Wh.sz,Wh.aJ,aE.bB,WW,D.iA,D.kj];omega
def Wl.Z0 {x:Wl}(ho:x.ok)(h:D.iA x.ax<2^30):x.vx:=by
 rw[Wl.aD]at h
 simp only[D.iA,D.kj]at h
 have h1:=qn (aw x.pa)
 have h2:=qn (aw x.cu)
 have h3:=qn (x.th.map En.ax)
 have h4:=qn (aw x.ma)
 simp only[agV]at h1 h2 h3 h4
 refine⟨ho,by omega,by omega,by omega,by omega,fun e he=>?_⟩
 have h5:=Mv (List.mem_map_of_mem (f:=En.ax) he)
 have h6:=e.w.iA
 rw[En.aD]at h5;simp only[D.iA,D.kj]at h5
 omega
def Su.Z0 {s:Su}(ho:s.ok)(h:D.iA s.ax<2^30):s.vx/\(mF s.ns).length<=D.iA s.ax:=by
 rw[Su.aD]at h ⊢
 simp only[D.iA,D.kj]at h ⊢
 have h1:=Q6 s.co
 have h2:=MS s.ns
 have h3:=qn (aw s.se)
 have h4:=aE.gj (s.ns.map ga.v)
 simp only[agV]at h3
 refine⟨⟨ho,by omega,by omega,by omega,fun n hn=>?_,by omega⟩,by unfold mF;omega⟩
 have:∀(l:List ga),n∈l->n.v.size<=aE.bB (l.map ga.v):=fun l hl=>by
  induction l with
  |nil=>cases hl
  |cons a r ih=>
   simp only[ahJ,aE.bB]
   rcases ag9.1 hl with rfl|hl
   ·omega
   ·have:=ih hl;omega
 have:=this s.ns hn
 omega
def Vj (l:List Su)(ho:∀s∈l,s.ok)(h:D.kj (l.map Su.ax)<2^30):(∀s∈l,s.vx)/\(gi l).length<=D.kj (l.map Su.ax):=by
 induction l with
 |nil=>exact⟨fun _ h=>(by cases h),by simp[gi]⟩
 |cons a r ih=>
  rw[ahJ,D.kj]at h ⊢
  obtain⟨h1,h2⟩:=ih (fun s hs=>ho s (by simp[hs])) (by omega)
  obtain⟨h3,h4⟩:=Su.Z0 (ho a (by simp)) (by omega)
  refine⟨fun s hs=>?_,by simp only[gi,List.flatMap_cons,ahc]at h2 ⊢;omega⟩
  rcases ag9.1 hs with rfl|hs
  ·exact h3
  ·exact h1 s hs
end
end Go.Proofs
namespace Go.PB
open Go Go.ChangeShapes Go.WideShapes Go.RowKit
section
section post
open Go.RowKit Go.WideShapes Go.ChangeShapes
variable {H:Type} {ax:TypeId×Value->H} {P:Program}
def Ot {f:Func}{s:ChangeSpec}{apart fresh handsOn O9:Bool}{W W':World}{args:Array Value}{v:Value}{ds gs:List (DataW H)}{before pa pv:List MemPlace}
 (hW:DataW.Whole ax P f.params.toList s.vars apart W args.toList ds gs before)
 (hres:∀(b:Nat) (sp:Nat->Bool) (hd:Bool),DataW.TrodAll ax P W' b sp hd f.resultTypes.toList (v.resultList f.resultTypes.size) (s.fn H (ds++gs)).results [])
 (hargs:∀sp:Nat->Bool,(∀p∈before,sp p.block=true)->DataW.TrodAll ax P W' 0 sp true f.params.toList args.toList (s.fn H (ds++gs)).args pa)
 (hvars:∀sp:Nat->Bool,(∀p∈before,sp p.block=true)->DataW.TrodVars ax P W' sp s.vars (s.fn H (ds++gs)).vars pv)
 (hps:before=pa++pv)(hk:Eh W W')
 (hok:∀(j:Nat) (t:TypeId) (r:Value),f.resultTypes[j]?=some t->(v.resultList f.resultTypes.size)[j]?=some r->Value.okWide P W' .any 0 t r):
 s.post ax P f apart fresh handsOn O9 W args v W':=by
 have hb:=hk.below
 have hlt:∀p∈before,p.block<W.heap.size:=fun p hp=>hW.lt p hp
 have hold:∀p∈before,(fun b=>decide (b<W.heap.size)) p.block=true:=fun p hp=>by simpa using hlt p hp
 refine⟨ds,gs,before,[],pa,pv,hW,hres _ _ _,hargs _ hold,hvars _ hold,World.keptBut_mono (fun p hp=>⟨hp,?_⟩) (hb.frame (·∈before)),fun _=>?_⟩
 ·rw[hps,ahd]at hp
  exact Or.inr hp
 ·obtain⟨_,_,_,_,_,hz,hn⟩:=hW
  refine⟨hok,_,_,([]++pa)++pv,⟨[]++pa,pv,trodAll_append (hargs _ (fun _ _=>rfl)) (hres _ _ _),hvars _ (fun _ _=>rfl),rfl,?_,?_⟩,?_⟩
  ·intro b off hp
   have hin:MemPlace.cell b off∈before:=by rw[hps];simpa using hp
   rw[hb.frozen (hlt _ hin)]
   exact hz b off hin
  ·intro ha
   have:=hn ha
   rw[hps]at this
   simpa using this
  ·intro p hp _
   rw[hps]
   simpa using hp
end post
section
variable {H:Type} {ax:TypeId×Value->H} {P:Program} {W W':World}
def Fa (hl:laidOutB P=true)(hb:Below W.heap.size W W'):∀{ts:List TypeId} {vs:List Value} {ds:List (DataW H)} {ps:List MemPlace},(∀t∈ts,P.readableRec t=true/\t<P.types.size)->
 DataW.TrodAll ax P W 0 (fun _=>true) true ts vs ds ps->(∀x∈ps,x.block<W.heap.size)->∀sp:Nat->Bool,(∀x∈ps,sp x.block=true)->DataW.TrodAll ax P W' 0 sp true ts vs ds ps
 | [],_,_,_,_,h,_,_,_=>by
   obtain⟨rfl,rfl,rfl⟩:=trodAll_nil h
   exact trodAll_mk0
 |t::ts,vs,ds,ps,AA,h,hlt,sp,hsp=>by
  obtain⟨v,vr,d,dr,p,q,rfl,rfl,rfl,h1,h2⟩:=trodAll_cons h
  obtain⟨hr,hrow⟩:=AA t ahT
  refine trodAll_cons_mk (Go.WideElems.Trod_stays hl hr hrow h1 (fun x hx=>hb.same (hlt x (ahP _ hx))) (fun x hx=>hsp x (ahP _ hx))) ?_
  exact Fa hl hb (fun t ht=>AA t (ahB _ ht)) h2 (fun x hx=>hlt x (aih _ hx)) sp (fun x hx=>hsp x (aih _ hx))
def Zq (P:Program)(ts:List TypeId):Bool:=ts.all fun t=>P.readableRec t&&decide (t<P.types.size)
end
section
variable {H:Type} {ax:TypeId×Value->H}
def adu {C:Checked}{f:FuncId}{fn:Func}{s:ChangeSpec}{tb:TypeId}{W:World}{args:Array Value}{ds gs:List (DataW H)}{before:List MemPlace}
 (hl:laidOutB C.prog=true)(hps:Zq C.prog fn.params.toList=true)(hvars:s.vars=[])
 (hspec:∀ds:List (DataW H),ds.length=fn.params.toList.length->s.fn H ds={results:=[.lit (.bool true)],args:=ds})
 (hres:fn.resultTypes=#[tb])(htb:C.prog.underlying tb=some .bool)
 (hW:DataW.Whole ax C.prog fn.params.toList s.vars false W args.toList ds gs before)
 (hc:Calls C.prog f args W fun e W'=>e= .returned (.bool true)/\Eh W W'):
 Calls C.prog f args W fun e W'=>∃v,e= .returned v/\s.post ax C.prog fn false true false false W args v W':=by
 have hW':=hW
 obtain⟨p,q,hA,hV,hpq,hfz,hnd⟩:=hW
 rw[hvars]at hV
 obtain⟨hgs,hq⟩:=trodVars_none hV
 have hlen:=trodAll_length hA
 refine hc.mono fun e W' ⟨he,hk⟩=>?_
 subst he
 have hds:s.fn H (ds++gs)={results:=[.lit (.bool true)],args:=ds}:=by rw[hgs,ahM];exact hspec ds hlen.2
 have hbp:before=p:=by rw[hpq,hq,ahM]
 have hlt:∀x∈p,x.block<W.heap.size:=fun x hx=>hW'.lt x (by rw[hbp];exact hx)
 have hparams:∀t∈fn.params.toList,C.prog.readableRec t=true/\t<C.prog.types.size:=fun t ht=>by
  have:=ahG.1 hps t ht
  simpa using this
 refine⟨_,rfl,Ot (pa:=p) (pv:=[]) hW' (fun _ _ _=>?_) (fun sp hsp=>?_) (fun sp hsp=>?_) (by rw[hbp,ahM]) hk ?_⟩
 ·rw[hds,hres]
  exact trodAll_cons_mk (shut_bool htb _) trodAll_mk0
 ·rw[hds]
  exact Fa hl hk.below hparams hA hlt sp (fun x hx=>hsp x (by rw[hbp];exact hx))
 ·rw[hds,hvars];rfl
 ·exact ok_one hres rfl (okWide_bool_mk htb _)
end
def GJ (b:Nat):(hL []).get b=none:=by
 unfold hL aj.get LL
 cases b<;>rfl
def gE (w:World):Gh:=⟨fun _=>none,fun c=>c<w.heap.size,fun _ _=>none⟩
def afM (P:Program)(w:World):bc P (gE w) (hL []) w where
 Jt:=fun b o h=>by rw[GJ]at h;cases h
 lt:=fun b x h=>by cases h
 FJ:=fun f k x h=>by cases h
 BF:=fun b o f h=>by rw[GJ]at h;cases h
 fu:=fun b b' o o' f h=>by rw[GJ]at h;cases h
 sk:=fun b o f k x h=>by rw[GJ]at h;cases h
 al:=fun b b' f k h=>by rw[GJ]at h;cases h
 nv:=fun l aL az h=>by cases l<;>cases h
 nw:=fun l l' aL az base' o o' _ _ h=>by cases l<;>cases h
 qJ:=fun l o aL az _ h=>by cases l<;>cases h
 mE:=fun c h=>h
def Wr {P:Program}{f:FuncId}{aq9:List BV}{R:D->T (BV×List (Nat×aI))}(h:BZ P f aq9 [] 0 R (fun d=>D.bool d=true))(hR:∀x d,T.dy x (R d)->x=(.bool (D.bool d),[])){w:World}{aq9':Array Value}(ha:aq P (gE w) w aq9 aq9'.toList):
 Calls P f aq9' w fun e w'=>e= .returned (.bool true)/\Eh w w':=by
 refine(h (gE w) w aq9' (afM P w) ha).mono ?_
 rintro e w' ⟨v',g',d,x,rfl,h1,h2,_,_,h3,h4⟩
 have:=hR x d h1
 subst this
 simp only[ao]at h3
 subst h3
 rw[h4]
 refine⟨rfl,h2.size,fun c hc=>h2.oR c hc ?_,h2.os.1,h2.os.2.1,h2.os.2.2⟩
 rintro⟨l,o,az,_,hb⟩
 cases l<;>cases hb
end
end Go.PB
end
