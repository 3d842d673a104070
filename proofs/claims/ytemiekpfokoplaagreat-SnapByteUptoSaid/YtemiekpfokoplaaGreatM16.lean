import Derived.Test.YtemiekpfokoplaaGreatM11
import Derived.Test.YtemiekpfokoplaaGreatM15
set_option linter.all false
noncomputable section
open Go.IntKind renaming wrap→wp
namespace Go.PB
open Go
def aC.BL {P:Program}{f:FuncId}{rs:List TypeId}{p:Nat}{R:D->T (BV×List (Nat×ax))}{Q Q':D->Prop}{s:av}(h:∀d,Q d->Q' d)(e:aC P f rs (.bu p R Q) s):aC P f rs (.bu p R Q') s:=by
 intro c0 g w lb fr cs hs
 obtain⟨w',fr',v',g',h',m1,m2,m3,m4,m5,d,x,m6,m7,m8,m9,m10⟩:=e c0 g w lb fr cs hs
 exact⟨w',fr',v',g',h',m1,m2,m3,m4,m5,d,x,m6,m7,m8,m9,h d m10⟩
end Go.PB
namespace Go.PB
open Go
def aC.ad1 {P:Program}{f:FuncId}{rs:List TypeId}{Q Q':D->Prop}{s:av}(h:∀d,Q d->Q' d)(e:aC P f rs (.kE Q) s):aC P f rs (.kE Q') s:=by
 intro c0 g w lb fr cs hs
 obtain⟨w',fr',v',g',h',m1,m2,m3,m4,m5,d,m6,m7⟩:=e c0 g w lb fr cs hs
 exact⟨w',fr',v',g',h',m1,m2,m3,m4,m5,d,m6,h d m7⟩
end Go.PB
namespace Go.Proofs
open Go Go.PB
def Lt (v:Ex):v.ok->v.size<2^30->iq pg fN [aE] [v.az] [aE] (·=v.az):=by
 induction v using Ex.ind with|h v ih=>
 intro hv hs
 have hse:=v.gj
 have hsl:v.l.length<=Ex.bI v.l:=by
  generalize v.l=l
  induction l with
  |nil=>simp
  |cons a r ih=>have:=a.gj;simp only[Ex.bI,ae9];omega
 have loop:∀(rest:List Ex) (i:Nat) (l:List D),v.l.drop i=rest->l.length=v.l.length->l.take i=(v.l.take i).map Ex.az->l.drop i=(v.l.drop i).map Ex.az->aC pg fN [aE] (.kE (·=v.az)) (qS v.az v.l.length v.l.length v.l.length l i):=by
  intro rest
  induction rest with
  |nil=>
   intro i l hd hl ht hdr
   have:=drop_nil hd
   refine B2 ?_
   rw[ae7 (by omega),ae7 (by omega)]at ht
   simp[this,hl,ht]
   exact(v.ay).symm
  |cons x rest ihr=>
   intro i l hd hl ht hdr
   obtain⟨g1,g2,g3⟩:=aI hd
   have hx:=aeU g1
   have hsx:x.size<2^30:=by have:=Ex.fh hx;omega
   have hat:D.at l i=x.az:=by
    have:l[i]?=some x.az:=by
     have:=afg (·[0]?) hdr
     simpa [g1]using this
    simp[D.at,List.getD,this]
   refine B2 ?_
   simp[-exists_and_left,g3,aY,hat,bO g3 hv.len,hl]
   refine⟨_,_,_,rfl,ih x hx (hv.mem hx) hsx,?_⟩
   rintro _ rfl
   rw[Ex.re]
   exact ihr _ _ g2 (by simpa using hl) (by rw[tT (by omega),bn g1,ht];simp) (by rw[agw (show i<i+1 by omega),<-agk,hdr];simp)
 refine OJ ?_
 simp only[rk,D.bP,Ex.Bq]
 refine⟨_,_,rfl,Jb (v.l.map Ex.az) (by simp;omega),?_⟩
 intro d hd
 rw[hd]
 have e:=loop v.l 0 (v.l.map Ex.az) rfl (by simp) (by simp) (by simp)
 simpa using e
def UP (l:List St):St.AW l->St.cS l<2^30->St.mF l<2^30->iq pg eY [bB] [.r (l.map St.az)] [bB] (·= .r (l.map St.az)):=by
 induction l using St.Qs with|h l ih=>
 intro hl hc he
 have hlc:=St.xq l
 have loop:∀(rest:List St) (i:Nat) (m:List D),l.drop i=rest->m.length=l.length->m.take i=(l.take i).map St.az->m.drop i=(l.drop i).map St.az->
  aC pg eY [bB] (.kE (·= .r (l.map St.az))) (qR (.r (l.map St.az)) l.length l.length l.length m i):=by
  intro rest
  induction rest with
  |nil=>
   intro i m hd hm ht hdr
   have:=drop_nil hd
   refine B1 ?_
   rw[ae7 (by omega),ae7 (by omega)]at ht
   simp[this,hm,ht]
  |cons x rest ihr=>
   intro i m hd hm ht hdr
   obtain⟨g1,g2,g3⟩:=aI hd
   have hx:=aeU g1
   obtain⟨o1,o2,o3,oa,ob,ow⟩:=hl.th hx
   obtain⟨i1,i2,i3⟩:=ih x hx
   have e1:=x.DP
   have e2:=St.EZ hx
   have e3:=x.zU
   have e4:=St.zV hx
   have hat:D.at m i=x.az:=by
    have:m[i]?=some x.az:=by
     have:=afg (·[0]?) hdr
     simpa [g1]using this
    simp[D.at,List.getD,this]
   refine B1 ?_
   simp[-exists_and_left,-List.map_append,g3,aY,hat,bO g3 hl.1,hm]
   refine⟨_,_,_,rfl,Lt _ oa (by omega),?_⟩
   rintro _ rfl
   refine⟨_,_,_,rfl,Lt _ ob (by omega),?_⟩
   rintro _ rfl
   refine⟨_,_,_,rfl,i1 o1 (by omega) (by omega),?_⟩
   rintro _ rfl
   refine⟨_,_,_,rfl,i2 o2 (by omega) (by omega),?_⟩
   rintro _ rfl
   refine⟨_,_,_,rfl,i3 o3 (by omega) (by omega),?_⟩
   rintro _ rfl
   refine⟨_,_,rfl,EY (Im x.wi) (by simp;omega),?_⟩
   intro d6 hd6
   simp only[Ex.re,D.bP,hd6]
   rw[<-x.ay]
   exact ihr _ _ g2 (by simpa using hm) (by rw[tT (by omega),bn g1,ht];simp) (by rw[agw (show i<i+1 by omega),<-agk,hdr];simp)
 refine OI ?_
 simp only[rk,D.bP]
 refine⟨_,_,rfl,Jc (l.map St.az) (by simp;omega),?_⟩
 intro d hd
 rw[hd]
 have e:=loop l 0 (l.map St.az) rfl (by simp) (by simp) (by simp)
 simpa using e
def Mq (v:aJ)(h:v.fG=true):D.ae (if v.fG then (.r [v.az,.z 0]:D)else .r [.r [.z 0,.z 0,.s [],.r [],.z 0],.z 2]) 0=v.az:=by rw[aeZ h];rfl
def G3 (x:Wh)(hx:x.ok)(hs:x.sz<2^30)(hm:∀v∈x.aF,v.fG=true):iq pg di [aO] [x.az] [aO] (·=x.az):=by
 have hls:=x.JA
 simp only[Wh.sz]at hs
 have hok:=hx.aF
 have hvm:∀v∈x.vs,v.fG=true/\v.ok:=fun v hv=>⟨hm v (by simp[Wh.aF,hv]),hok v (by simp[Wh.aF,hv])⟩
 have hnm:∀n∈x.ns,n.v.fG=true/\n.v.ok:=fun n hn=>by
  have h:n.v∈x.aF:=by simp[Wh.aF];exact .inr (.inr ⟨n,hn,rfl⟩)
  exact⟨hm _ h,hok _ h⟩
 have hv0:x.v.fG=true/\x.v.ok:=⟨hm _ (by simp[Wh.aF]),hok _ (by simp[Wh.aF])⟩
 have loop2:∀(rest:List jV) (i:Nat) (m:List D),x.ns.drop i=rest->m.length=x.ns.length->m.take i=(x.ns.take i).map jV.az->m.drop i=(x.ns.drop i).map jV.az->
  aC pg di [aO] (.kE (·=x.az)) (oY x.az x.ns.length x.ns.length x.v.k x.v.n x.v.s (x.v.l.map aJ.az) x.v.r x.vs.length x.ns.length m (x.vs.map aJ.az) i):=by
  intro rest
  induction rest with
  |nil=>
   intro i m hd hm ht hdr
   have:=drop_nil hd
   refine AQ ?_
   rw[ae7 (by omega),ae7 (by omega)]at ht
   simp[-exists_and_left,this,hm,ht]
   refine⟨_,_,_,rfl,UP x.co hx.co (by omega) (by omega),?_⟩
   rintro _ rfl
   simp only[D.bP]
   rw[<-x.v.ay,<-x.ay]
  |cons n rest ihr=>
   intro i m hd hm ht hdr
   obtain⟨g1,g2,g3⟩:=aI hd
   have hn:=aeU g1
   have hat:D.at m i=n.az:=by
    have:m[i]?=some n.az:=by
     have:=afg (·[0]?) hdr
     simpa [g1]using this
    simp[D.at,List.getD,this]
   refine AQ ?_
   simp[-exists_and_left,-List.map_append,g3,aY,hat,bO g3 (n:=x.ns.length) (by omega),hm]
   refine⟨_,_,_,rfl,SJ n.v (hnm n hn).2,?_⟩
   rintro _ rfl
   rw[Mq _ (hnm n hn).1,ml,<-n.ay]
   exact ihr _ _ g2 (by simpa using hm) (by rw[tT (by omega),bn g1,ht];simp) (by rw[agw (show i<i+1 by omega),<-agk,hdr];simp)
 have loop1:∀(rest:List aJ) (i:Nat) (m:List D),x.vs.drop i=rest->m.length=x.vs.length->m.take i=(x.vs.take i).map aJ.az->m.drop i=(x.vs.drop i).map aJ.az->
  aC pg di [aO] (.kE (·=x.az)) (oX x.az x.vs.length x.vs.length x.v.k x.v.n x.v.s (x.v.l.map aJ.az) x.v.r x.vs.length m i):=by
  intro rest
  induction rest with
  |nil=>
   intro i m hd hm ht hdr
   have:=drop_nil hd
   refine AP ?_
   rw[ae7 (by omega),ae7 (by omega)]at ht
   simp[-exists_and_left,this,ht]
   refine⟨_,_,rfl,P8 (x.ns.map jV.az) (by simp;omega),?_⟩
   intro d hd
   rw[hd]
   have e:=loop2 x.ns 0 (x.ns.map jV.az) rfl (by simp) (by simp) (by simp)
   simpa using e
  |cons n rest ihr=>
   intro i m hd hm ht hdr
   obtain⟨g1,g2,g3⟩:=aI hd
   have hn:=aeU g1
   have hat:D.at m i=n.az:=by
    have:m[i]?=some n.az:=by
     have:=afg (·[0]?) hdr
     simpa [g1]using this
    simp[D.at,List.getD,this]
   refine AP ?_
   simp[-exists_and_left,-List.map_append,g3,aY,hat,bO g3 (n:=x.vs.length) (by omega),hm]
   refine⟨_,_,_,rfl,SJ n (hvm n hn).2,?_⟩
   rintro _ rfl
   rw[Mq _ (hvm n hn).1,ml]
   exact ihr _ _ g2 (by simpa using hm) (by rw[tT (by omega),bn g1,ht];simp) (by rw[agw (show i<i+1 by omega),<-agk,hdr];simp)
 refine OK ?_
 simp only[rk,Wh.rq,ml]
 refine⟨_,_,_,rfl,SJ x.v hv0.2,?_⟩
 rintro _ rfl
 rw[Mq _ hv0.1]
 simp only[Wh.Bs,D.bP]
 refine⟨_,_,rfl,Nr (x.vs.map aJ.az) (by simp;omega),?_⟩
 intro d hd
 rw[hd]
 have e:=loop1 x.vs 0 (x.vs.map aJ.az) rfl (by simp) (by simp) (by simp)
 simpa using e
def acE (x:Wh)(hx:x.ok)(hs:x.sz<2^30)(hm:∀v∈x.aF,v.fG=true):PH mL (yu x.az) [] 0 wt (fun d=>D.aa d=ba (aJ.cU x.aF)):=by
 have hls:=x.JA
 have hrl:=aJ.wc x.aF
 simp only[Wh.sz]at hs
 have hok:=hx.aF
 have hap:∀a b:List aJ,aJ.cU (a++b)=aJ.cU a++aJ.cU b:=fun a b=>by simp[aJ.XE]
 have hvm:∀v∈x.vs,v.fG=true/\v.ok:=fun v hv=>⟨hm v (by simp[Wh.aF,hv]),hok v (by simp[Wh.aF,hv])⟩
 have hnm:∀n∈x.ns,n.v.fG=true/\n.v.ok:=fun n hn=>by
  have h:n.v∈x.aF:=by simp[Wh.aF];exact .inr (.inr ⟨n,hn,rfl⟩)
  exact⟨hm _ h,hok _ h⟩
 have hv0:x.v.fG=true/\x.v.ok:=⟨hm _ (by simp[Wh.aF]),hok _ (by simp[Wh.aF])⟩
 have loop2:∀(rest:List jV) (i:Nat) (o:List Int),x.ns.drop i=rest->o++aJ.cU (rest.map jV.v)=aJ.cU x.aF->
  aC pg mL [dS] (.bu 0 (wt (yu x.az) []) (fun d=>D.aa d=ba (aJ.cU x.aF))) (vx x.az o.length (ba o) i):=by
  intro rest
  induction rest with
  |nil=>
   intro i o hd ho
   have:=drop_nil hd
   refine FV ?_
   simp only[aiB,aJ.cU,afU]at ho
   subst ho
   simp only[rk,Wh.lC,aeW]
   exact⟨fun h=>by simp at h;omega,fun _=>⟨rfl,jR (by simp) rfl⟩⟩
  |cons n rest ihr=>
   intro i o hd ho
   obtain⟨g1,g2,g3⟩:=aI hd
   have hn:=aeU g1
   have hol:=afg List.length ho
   simp only[afP,aJ.cU,ae4]at hol
   refine FV ?_
   simp[-exists_and_left,-List.map_append,g3,aY,bS g1,bO g3 (n:=x.ns.length) (by omega)]
   refine⟨_,_,rfl,Ka n.v (hnm n hn).2,?_⟩
   rintro d hd2
   rw[aeZ (hnm n hn).1]at hd2
   simp only[hd2,aeW,ae7 (Nat.le_of_eq (aeW D.z))]
   refine⟨fun _=>?_,by simp[bg];omega⟩
   have e:=ihr (i+1) (o++n.v.mq) g2 (by simpa [aJ.cU]using ho)
   simpa using e
 have loop1:∀(rest:List aJ) (i:Nat) (o:List Int),x.vs.drop i=rest->o++aJ.cU (rest++x.ns.map jV.v)=aJ.cU x.aF->
  aC pg mL [dS] (.bu 0 (wt (yu x.az) []) (fun d=>D.aa d=ba (aJ.cU x.aF))) (xD x.az o.length (ba o) i):=by
  intro rest
  induction rest with
  |nil=>
   intro i o hd ho
   have:=drop_nil hd
   refine HC ?_
   simp only[rk,Wh.Bs,aeW]
   exact⟨fun h=>by simp at h;omega,fun _=>loop2 x.ns 0 o rfl (by simpa using ho)⟩
  |cons n rest ihr=>
   intro i o hd ho
   obtain⟨g1,g2,g3⟩:=aI hd
   have hn:=aeU g1
   have hol:=afg List.length ho
   simp only[af8,aJ.cU,ae4]at hol
   refine HC ?_
   simp[-exists_and_left,-List.map_append,g3,aY,bS g1,bO g3 (n:=x.vs.length) (by omega)]
   refine⟨_,_,rfl,Ka n (hvm n hn).2,?_⟩
   rintro d hd2
   rw[aeZ (hvm n hn).1]at hd2
   simp only[hd2,aeW,ae7 (Nat.le_of_eq (aeW D.z))]
   refine⟨fun _=>?_,by simp[bg];omega⟩
   have e:=ihr (i+1) (o++n.mq) g2 (by simpa [aJ.cU]using ho)
   simpa using e
 refine Xq ?_
 simp only[rk,Wh.rq]
 refine⟨_,_,rfl,Ka x.v hv0.2,?_⟩
 intro d hd
 rw[aeZ hv0.1]at hd
 rw[hd]
 have e:=loop1 x.vs 0 x.v.mq rfl (by simp[Wh.aF,aJ.cU])
 simpa using e
end Go.Proofs
namespace Go.Proofs
open Go Go.PB
def sM {α:Type}{f:α->D}{l:List α}{i:Nat}{x:α}(h:l[i]?=some x):(l.take i).map f++[f x]=(l.take (i+1)).map f:=by rw[bn h];simp
def JX (v:aJ):v.ok->v.size<2^30->iq pg gq [ao] [v.az] [ao] (·=v.az):=by
 induction v using aJ.ind with|h v ih=>
 intro hv hs
 have hse:=v.gj
 have hsl:=aJ.dx v.l
 have loop:∀(rest:List aJ) (i:Nat) (o:List aJ),v.l.drop i=rest->o++rest=v.l->aC pg gq [ao] (.kE (·=v.az)) (sK v.az o.length i (o.map aJ.az)):=by
  intro rest
  induction rest with
  |nil=>
   intro i o hd ho
   have:=drop_nil hd
   refine DA ?_
   simp only[afU]at ho
   rw[ho]
   simp[this]
   exact⟨by omega,(v.ay).symm⟩
  |cons x rest ihr=>
   intro i o hd ho
   obtain⟨g1,g2,g3⟩:=aI hd
   have hx:=aeU g1
   have hsx:=aJ.fh hx
   refine DA ?_
   simp[-exists_and_left,-List.map_append,g3,aY,bS g1,bO g3 hv.len]
   refine⟨_,_,_,rfl,ih x hx (hv.mem hx) (by omega),?_⟩
   rintro _ rfl
   rw[ml]
   exact⟨fun _=>by simpa using ihr (i+1) (o++[x]) g2 (by simpa using ho),by have:=afg List.length ho;simp at this;simp[bg];omega⟩
 refine QS ?_
 exact loop v.l 0 [] rfl rfl
def Ex.dx:∀l:List Ex,l.length<=bI l:=fun l=>by
 induction l with
 |nil=>simp
 |cons a r ih=>have:=a.gj;simp only[Ex.bI,ae9];omega
def Sw (v:Ex):v.ok->v.size<2^30->iq pg jN [aE] [v.az] [aE] (·=v.az):=by
 induction v using Ex.ind with|h v ih=>
 intro hv hs
 have hse:=v.gj
 have hsl:=Ex.dx v.l
 have loop:∀(rest:List Ex) (i:Nat) (o:List Ex),v.l.drop i=rest->o++rest=v.l->aC pg jN [aE] (.kE (·=v.az)) (vq v.az o.length i (o.map Ex.az)):=by
  intro rest
  induction rest with
  |nil=>
   intro i o hd ho
   have:=drop_nil hd
   refine FR ?_
   simp only[afU]at ho
   rw[ho]
   simp[this]
   exact⟨by omega,(v.ay).symm⟩
  |cons x rest ihr=>
   intro i o hd ho
   obtain⟨g1,g2,g3⟩:=aI hd
   have hx:=aeU g1
   have hsx:=Ex.fh hx
   refine FR ?_
   simp[-exists_and_left,-List.map_append,g3,aY,bS g1,bO g3 hv.len]
   refine⟨_,_,_,rfl,ih x hx (hv.mem hx) (by omega),?_⟩
   rintro _ rfl
   rw[Ex.re]
   exact⟨fun _=>by simpa using ihr (i+1) (o++[x]) g2 (by simpa using ho),by have:=afg List.length ho;simp at this;simp[bg];omega⟩
 refine T6 ?_
 exact loop v.l 0 [] rfl rfl
def aal (l:List St):St.AW l->St.cS l<2^30->St.mF l<2^30->iq pg iG [bB] [.r (l.map St.az)] [bB] (·= .r (l.map St.az)):=by
 induction l using St.Qs with|h l ih=>
 intro hl hc he
 have hlc:=St.xq l
 have loop:∀(rest:List St) (i:Nat) (o:List St),l.drop i=rest->o++rest=l->aC pg iG [bB] (.kE (·= .r (l.map St.az))) (vp (.r (l.map St.az)) o.length i (o.map St.az)):=by
  intro rest
  induction rest with
  |nil=>
   intro i o hd ho
   have:=drop_nil hd
   refine FQ ?_
   simp only[afU]at ho
   rw[ho]
   simp[this]
   omega
  |cons x rest ihr=>
   intro i o hd ho
   obtain⟨g1,g2,g3⟩:=aI hd
   have hx:=aeU g1
   obtain⟨o1,o2,o3,oa,ob,ow⟩:=hl.th hx
   obtain⟨i1,i2,i3⟩:=ih x hx
   have e1:=x.DP
   have e2:=St.EZ hx
   have e3:=x.zU
   have e4:=St.zV hx
   refine FQ ?_
   simp[-exists_and_left,-List.map_append,g3,aY,bS g1,bO g3 hl.1]
   refine⟨_,_,_,rfl,Sw _ oa (by omega),?_⟩
   rintro _ rfl
   refine⟨_,_,_,rfl,Sw _ ob (by omega),?_⟩
   rintro _ rfl
   refine⟨_,_,_,rfl,i1 o1 (by omega) (by omega),?_⟩
   rintro _ rfl
   refine⟨_,_,_,rfl,i2 o2 (by omega) (by omega),?_⟩
   rintro _ rfl
   refine⟨_,_,_,rfl,i3 o3 (by omega) (by omega),?_⟩
   rintro _ rfl
   simp only[Ex.re,D.bP]
   rw[<-x.ay]
   exact⟨fun _=>⟨fun _=>by simpa using ihr (i+1) (o++[x]) g2 (by simpa using ho),by have:=afg List.length ho;simp at this;simp[bg];omega⟩,by simp[bg];omega⟩
 refine T5 ?_
 exact loop l 0 [] rfl rfl
end Go.Proofs
namespace Go.Proofs
open Go Go.PB
def XA (x:Wh)(hx:x.ok)(hs:x.sz<2^30):iq pg iW [aO] [x.az] [aO] (·=x.az):=by
 have hvl:x.aF.length=1+x.vs.length+x.ns.length:=by simp[Wh.aF];omega
 have hsl:=aJ.dx x.aF
 simp only[Wh.sz]at hs
 have hok:=hx.aF
 have hvm:∀v∈x.vs,v.size<2^30/\v.ok:=fun v hv=>⟨by have:=aJ.fh (l:=x.aF) (x:=v) (by simp[Wh.aF,hv]);omega,hok v (by simp[Wh.aF,hv])⟩
 have hnm:∀n∈x.ns,n.v.size<2^30/\n.v.ok:=fun n hn=>by
  have hm:n.v∈x.aF:=by simp[Wh.aF];exact .inr (.inr ⟨n,hn,rfl⟩)
  exact⟨by have:=aJ.fh hm;omega,hok _ hm⟩
 have hv0:x.v.size<2^30/\x.v.ok:=⟨by have:=aJ.fh (l:=x.aF) (x:=x.v) (by simp[Wh.aF]);omega,hok x.v (by simp[Wh.aF])⟩
 have loop2:∀(rest:List jV) (i:Nat) (o:List jV),x.ns.drop i=rest->o++rest=x.ns->aC pg iW [aO] (.kE (·=x.az)) (sH x.az x.v.k x.v.n x.v.s (x.v.l.map aJ.az) x.v.r (x.co.map St.az) x.vs.length (x.vs.map aJ.az) o.length i (o.map jV.az)):=by
  intro rest
  induction rest with
  |nil=>
   intro i o hd ho
   have:=drop_nil hd
   refine Dx ?_
   simp only[afU]at ho
   rw[ho]
   simp[this]
   refine⟨by omega,?_⟩
   rw[<-x.v.ay,<-x.ay]
  |cons n rest ihr=>
   intro i o hd ho
   obtain⟨g1,g2,g3⟩:=aI hd
   have hn:=aeU g1
   refine Dx ?_
   simp[-exists_and_left,-List.map_append,g3,aY,bS g1,bO g3 (n:=x.ns.length) (by omega)]
   refine⟨_,_,_,rfl,JX n.v (hnm n hn).2 (hnm n hn).1,?_⟩
   rintro _ rfl
   rw[ml,<-n.ay]
   exact⟨fun _=>by simpa using ihr (i+1) (o++[n]) g2 (by simpa using ho),by have:=afg List.length ho;simp at this;simp[bg];omega⟩
 have loop1:∀(rest:List aJ) (i:Nat) (o:List aJ),x.vs.drop i=rest->o++rest=x.vs->aC pg iW [aO] (.kE (·=x.az)) (vo x.az x.v.k x.v.n x.v.s (x.v.l.map aJ.az) x.v.r o.length i (o.map aJ.az)):=by
  intro rest
  induction rest with
  |nil=>
   intro i o hd ho
   have:=drop_nil hd
   refine FO ?_
   simp only[afU]at ho
   rw[ho]
   simp[-exists_and_left,this]
   refine⟨by omega,_,_,_,rfl,aal x.co hx.co (by omega) (by omega),?_⟩
   rintro _ rfl
   exact loop2 x.ns 0 [] rfl rfl
  |cons n rest ihr=>
   intro i o hd ho
   obtain⟨g1,g2,g3⟩:=aI hd
   have hn:=aeU g1
   refine FO ?_
   simp[-exists_and_left,-List.map_append,g3,aY,bS g1,bO g3 (n:=x.vs.length) (by omega)]
   refine⟨_,_,_,rfl,JX n (hvm n hn).2 (hvm n hn).1,?_⟩
   rintro _ rfl
   rw[ml]
   exact⟨fun _=>by simpa using ihr (i+1) (o++[n]) g2 (by simpa using ho),by have:=afg List.length ho;simp at this;simp[bg];omega⟩
 refine Xi ?_
 simp only[rk,Wh.rq,ml]
 refine⟨_,_,_,rfl,JX x.v hv0.2 hv0.1,?_⟩
 rintro _ rfl
 have e:=loop1 x.vs 0 [] rfl rfl
 simpa using e
end Go.Proofs
namespace Go.Proofs
open Go Go.PB
def mj (s dp:Nat)(m k:Int):Prop:=m+s<=512/\(dp:Int)<=k
def ac6 (s dp:Nat)(m k:Int)(d:D):Prop:=((d.ae 0).bool=true↔mj s dp m k)/\(mj s dp m k->(d.ae 1).int=m+s)
def Ty {s dp:Nat}{m k:Int}{b:Bool}{n:Int}(h1:b=true↔mj s dp m k)(h2:mj s dp m k->n=m+s):
 ∃d,T.dm (BV.bool b,[(0,ax.cells [.int .i64 n] ah false)]) (T.ret (BV.bool (d.ae 0).bool,[(0,ax.cells [.int .i64 (d.ae 1).int] ah false)]))/\ac6 s dp m k d:=⟨.r [.b b,.z n],.ret,h1,h2⟩
def EE (s dp:Nat)(m k:Int)(b:Bool)(n:Int):Prop:=(b=false↔mj s dp m (k-1))/\(mj s dp m (k-1)->n=m+s)
def Pq (x:Ex):∀m k:Int,x.ok->x.size<2^30->0<=m->m<=600->0<=k->k<=16->
 PH mM (IP x.az m k) (IQ x.az m k) 1 zF (ac6 x.size x.CW m k):=by
 induction x using Ex.ind with|h x ih=>
 intro m k hx hs h0 h1 h2 h3
 have hse:=x.gj
 have hde:=x.R5
 have hsl:=Ex.dx x.l
 have loop:∀(m0:Int) (rest:List Ex) (i:Nat) (n:Int),0<k->0<=n->n<=512->x.l.drop i=rest->
  aC pg cW [ah] (.bu 3 (gO (rE (x.l.map Ex.az) m0 k) (rH (x.l.map Ex.az) m0 k)) (fun d=>EE (Ex.bI rest) (Ex.nN rest) n k (decide (0<=(d.ae 0).int)) (d.ae 1).int)) (jw (x.l.map Ex.az) m0 k i n):=by
  intro m0 rest
  induction rest with
  |nil=>
   intro i n hk hn0 hn hd
   have:=drop_nil hd
   refine uF ?_
   simp only[rk,aeW]
   refine⟨fun h=>by simp at h;omega,fun _=>⟨rfl,.r [.z (-1),.z n],.ret,?_⟩⟩
   simp[EE,mj,Ex.bI,Ex.nN,D.ae,D.at]
   omega
  |cons y rest ihr=>
   intro i n hk hn0 hn hd
   obtain⟨g1,g2,g3⟩:=aI hd
   have hy:=aeU g1
   have hsy:=Ex.fh hy
   have hpy:0<y.size:=by have:=y.gj;omega
   refine uF ?_
   simp[-exists_and_left,g3,aY,bS g1,bO g3 hx.len]
   rw[bL (x:=k-1) (by omega) (by omega)]
   refine⟨_,_,rfl,ih y hy n (k-1) (hx.mem hy) (by omega) hn0 (by omega) (by omega) (by omega),?_⟩
   rintro d ⟨q1,q2⟩
   have hrw:∀a b,EE (Ex.bI (y::rest)) (Ex.nN (y::rest)) n k a b↔EE (y.size+Ex.bI rest) (max y.CW (Ex.nN rest)) n k a b:=fun a b=>Iff.rfl
   refine⟨fun hb=>⟨rfl,.r [.z i,.z (d.ae 1).int],.ret,?_⟩,fun hb=>?_⟩
   ·have hno:¬mj y.size y.CW n (k-1):=fun h=>by rw[q1.2 h]at hb;cases hb
    rw[hrw]
    simp only[EE,mj]at hno ⊢
    have e0:decide (0<=D.int (D.ae (.r [.z (i:Int),.z (d.ae 1).int]) 0))=true:=by show decide (0<=(i:Int))=true;simp
    rw[e0]
    exact⟨⟨fun a=>by simp at a,fun a=>(hno ⟨by omega,by omega⟩).elim⟩,fun a=>(hno ⟨by omega,by omega⟩).elim⟩
   ·have hyes:=q1.1 hb
    have e:=q2 hyes
    simp only[mj]at hyes
    have:=ihr (i+1) (d.ae 1).int hk (by omega) (by omega) g2
    refine aC.BL ?_ this
    intro d2 hq
    rw[hrw]
    simp only[EE,mj]at hq ⊢
    rw[e]at hq
    refine⟨hq.1.trans ⟨fun a=>⟨by omega,by omega⟩,fun a=>⟨by omega,by omega⟩⟩,fun a=>by have:=hq.2 ⟨by omega,by omega⟩;omega⟩
 have cont:∀m0:Int,0<k->0<=m0->m0<=512->PH aW (um (x.l.map Ex.az) m0 k) (uw (x.l.map Ex.az) m0 k) 3 eS
  (fun d=>EE (Ex.bI x.l) (Ex.nN x.l) m0 k (d.ae 0).bool (d.ae 1).int):=by
  intro m0 hk a b
  refine CZ ?_
  simp only[rk]
  refine⟨_,_,rfl,GN (loop m0 x.l 0 m0 hk a b rfl),?_⟩
  intro d hd
  exact⟨rfl,.r [.b _,.z _],.ret,hd⟩
 refine QV ?_
 rw[bL (x:=m+1) (by omega) (by omega)]
 have rest:(x.k≠3/\x.l.length=0->False)->0<k->m+1<=512->∀d:D,EE (Ex.bI x.l) (Ex.nN x.l) (m+1) k (d.ae 0).bool (d.ae 1).int->(((! (d.ae 0).bool)=true↔mj x.size x.CW m k)/\(mj x.size x.CW m k->(d.ae 1).int=m+x.size)):=fun hne hk hm d hq=>by
  rw[aeX hne]at hde
  simp only[EE,mj]at hq ⊢
  rw[afu,hq.1]
  exact⟨⟨fun a=>⟨by omega,by omega⟩,fun a=>⟨by omega,by omega⟩⟩,fun a=>by have:=hq.2 ⟨by omega,by omega⟩;omega⟩
 simp only[rk,Ex.fA,Ex.Bq,aeW]
 refine⟨fun h=>⟨rfl,Ty ?_ ?_⟩,fun h=>⟨fun hk3=>⟨fun hl=>⟨rfl,Ty ?_ ?_⟩,fun hl=>⟨fun hk=>⟨rfl,Ty ?_ ?_⟩,fun hk=>?_⟩⟩,fun hk3=>⟨fun hk=>⟨rfl,Ty ?_ ?_⟩,fun hk=>?_⟩⟩⟩
 ·have h:m+1>512:=by simpa using h
  simp[mj];omega
 ·have h:m+1>512:=by simpa using h
  simp[mj];omega
 ·have hk3:x.k≠3:=by simpa using hk3
  have hl:x.l.length=0:=by simpa using hl
  have h:m+1<=512:=by simpa using h
  rw[aeZ ⟨hk3,hl⟩]at hde
  have:Ex.bI x.l=0:=by rw[afr.1 hl];rfl
  simp[mj];omega
 ·have hl:x.l.length=0:=by simpa using hl
  have:Ex.bI x.l=0:=by rw[afr.1 hl];rfl
  simp[mj];omega
 ·have hl:¬x.l.length=0:=by simpa using hl
  have hk:k=0:=by simpa using hk
  rw[aeX (by omega)]at hde
  simp[mj];omega
 ·have hl:¬x.l.length=0:=by simpa using hl
  have hk:k=0:=by simpa using hk
  rw[aeX (by omega)]at hde
  simp[mj];omega
 ·have hl:¬x.l.length=0:=by simpa using hl
  have hk:¬k=0:=by simpa using hk
  have h:m+1<=512:=by simpa using h
  refine⟨_,_,rfl,cont (m+1) (by omega) (by omega) h,?_⟩
  intro d hd
  obtain⟨r1,r2⟩:=rest (by omega) (by omega) h d hd
  exact⟨rfl,Ty r1 r2⟩
 ·have hk3:x.k=3:=by simpa using hk3
  have hk:k=0:=by simpa using hk
  rw[aeX (by omega)]at hde
  simp[mj];omega
 ·have hk3:x.k=3:=by simpa using hk3
  have hk:k=0:=by simpa using hk
  rw[aeX (by omega)]at hde
  simp[mj];omega
 ·have hk3:x.k=3:=by simpa using hk3
  have hk:¬k=0:=by simpa using hk
  have h:m+1<=512:=by simpa using h
  refine⟨_,_,rfl,cont (m+1) (by omega) (by omega) h,?_⟩
  intro d hd
  obtain⟨r1,r2⟩:=rest (by omega) (by omega) h d hd
  exact⟨rfl,Ty r1 r2⟩
def GZ (l:List St)(m:Int):Prop:=St.kO l=true/\m+St.cS l<=512
def Qsm (l:List St)(m:Int)(d:D):Prop:=((d.ae 0).bool=true↔GZ l m)/\(GZ l m->(d.ae 1).int=m+St.cS l)
def smI {l:List St}{m:Int}{b:Bool}{n:Int}(h1:b=true↔GZ l m)(h2:GZ l m->n=m+St.cS l):
 ∃d,T.dm (BV.bool b,[(0,ax.cells [.int .i64 n] ah false)]) (T.ret (BV.bool (d.ae 0).bool,[(0,ax.cells [.int .i64 (d.ae 1).int] ah false)]))/\Qsm l m d:=⟨.r [.b b,.z n],.ret,h1,h2⟩
def Ri {l:List St}{m n:Int}(h:¬GZ l m):
 ∃d,T.dm (BV.bool false,[(0,ax.cells [.int .i64 n] ah false)]) (T.ret (BV.bool (d.ae 0).bool,[(0,ax.cells [.int .i64 (d.ae 1).int] ah false)]))/\Qsm l m d:=smI ⟨fun a=>(by cases a),fun a=>(h a).elim⟩ fun a=>(h a).elim
def aaF (l:List St):∀m:Int,St.AW l->St.mF l<2^30->0<=m->m<=512->PH iI (Ca (l.map St.az) m) (Cc (l.map St.az) m) 1 vK (Qsm l m):=by
 induction l using St.Qs with|h l ih=>
 intro m hl he hm0 hm
 have loop:∀(rest:List St) (i:Nat) (n:Int),l.drop i=rest->0<=n->n<=512->(GZ l m↔GZ rest n)->(GZ l m->n+St.cS rest=m+St.cS l)->
  aC pg iI [aj] (.bu 1 (vK (Ca (l.map St.az) m) (Cc (l.map St.az) m)) (Qsm l m)) (vy (l.map St.az) m i n):=by
  intro rest
  induction rest with
  |nil=>
   intro i n hd h0 h1 h2 h3
   have:=drop_nil hd
   refine FW ?_
   simp only[rk,aeW]
   have hy:GZ l m:=h2.2 (by simp[GZ,St.kO,St.cS];omega)
   refine⟨fun h=>by simp at h;omega,fun _=>⟨rfl,smI (by simp[hy]) fun a=>by have:=h3 a;simp[St.cS]at this;omega⟩⟩
  |cons x rest ihr=>
   intro i n hd h0 h1 h2 h3
   obtain⟨g1,g2,g3⟩:=aI hd
   have hx:=aeU g1
   obtain⟨o1,o2,o3,oa,ob,ow⟩:=hl.th hx
   obtain⟨i1,i2,i3⟩:=ih x hx
   have e3:=x.zU
   have e4:=St.zV hx
   have ec:=x.DP
   have ef:=x.R7
   have hcs:GZ (x::rest) n↔(x.wi.length<=64/\x.a.tB=true/\x.b.tB=true/\St.kO x.th=true/\St.kO x.el=true/\St.kO x.co=true)/\St.kO rest=true/\n+(1+St.cS x.th+St.cS x.el+St.cS x.co+St.cS rest)<=512:=by
    simp only[GZ,St.kO,St.cS,ef,ec,aeV,aeT]
    constructor
    ·rintro⟨⟨⟨⟨⟨⟨⟨a,b⟩,c⟩,d⟩,e⟩,f⟩,g⟩,hh⟩;exact⟨⟨a,b,c,d,e,f⟩,g,by omega⟩
    ·rintro⟨⟨a,b,c,d,e,f⟩,g,hh⟩;exact⟨⟨⟨⟨⟨⟨⟨a,b⟩,c⟩,d⟩,e⟩,f⟩,g⟩,by omega⟩
   rw[hcs]at h2
   refine FW ?_
   simp[-exists_and_left,g3,aY,bS g1,bO g3 hl.1]
   rw[bL (x:=n+1) (by omega) (by omega)]
   refine⟨fun h=>⟨rfl,Ri fun a=>by have:=(h2.1 a).2.2;omega⟩,fun hn1=>⟨fun h=>⟨rfl,Ri fun a=>by have:=(h2.1 a).1.1;omega⟩,fun hw=>?_⟩⟩
   refine⟨_,_,rfl,Pq x.a 0 16 oa (by omega) (by omega) (by omega) (by omega) (by omega),?_⟩
   rintro d1 ⟨q1,_⟩
   have ha:(d1.ae 0).bool=x.a.tB:=by
    rw[afo,q1];simp[mj,Ex.tB];omega
   rw[ha]
   refine⟨fun h=>⟨rfl,Ri fun a=>by have:=(h2.1 a).1.2.1;rw[h]at this;cases this⟩,fun fa=>?_⟩
   refine⟨_,_,rfl,Pq x.b 0 16 ob (by omega) (by omega) (by omega) (by omega) (by omega),?_⟩
   rintro d2 ⟨q2,_⟩
   have hb:(d2.ae 0).bool=x.b.tB:=by
    rw[afo,q2];simp[mj,Ex.tB];omega
   rw[hb]
   refine⟨fun h=>⟨rfl,Ri fun a=>by have:=(h2.1 a).1.2.2.1;rw[h]at this;cases this⟩,fun fb=>?_⟩
   refine⟨_,_,rfl,i1 (n+1) o1 (by omega) (by omega) (by omega),?_⟩
   rintro d3 ⟨q3,r3⟩
   refine⟨fun h=>⟨rfl,Ri fun a=>by have b:=(h2.1 a);rw[q3.2 ⟨b.1.2.2.2.1,by have:=b.2.2;omega⟩]at h;cases h⟩,fun h=>?_⟩
   have s3:=q3.1 h
   have t3:=r3 s3
   rw[t3]
   obtain⟨u3,v3⟩:=s3
   refine⟨_,_,rfl,i2 (n+1+St.cS x.th) o2 (by omega) (by omega) (by omega),?_⟩
   rintro d4 ⟨q4,r4⟩
   refine⟨fun h=>⟨rfl,Ri fun a=>by have b:=(h2.1 a);rw[q4.2 ⟨b.1.2.2.2.2.1,by have:=b.2.2;omega⟩]at h;cases h⟩,fun h=>?_⟩
   have s4:=q4.1 h
   have t4:=r4 s4
   rw[t4]
   obtain⟨u4,v4⟩:=s4
   refine⟨_,_,rfl,i3 (n+1+St.cS x.th+St.cS x.el) o3 (by omega) (by omega) (by omega),?_⟩
   rintro d5 ⟨q5,r5⟩
   refine⟨fun h=>⟨rfl,Ri fun a=>by have b:=(h2.1 a);rw[q5.2 ⟨b.1.2.2.2.2.2,by have:=b.2.2;omega⟩]at h;cases h⟩,fun h=>?_⟩
   have s5:=q5.1 h
   have t5:=r5 s5
   rw[t5]
   obtain⟨u5,v5⟩:=s5
   refine ihr (i+1) _ g2 (by omega) (by omega) ?_ ?_
   ·rw[h2]
    exact⟨fun a=>⟨a.2.1,by have:=a.2.2;omega⟩,fun a=>⟨⟨by omega,fa,fb,u3,u4,u5⟩,a.1,by have:=a.2;omega⟩⟩
   ·intro a;have:=h3 a;simp only[St.cS]at this;omega
 refine Ue ?_
 exact loop l 0 m rfl hm0 hm Iff.rfl (fun _=>rfl)
section
abbrev aQ:=List (Int×Wh)
def aQ.get (t:aQ)(r:Int):Option Wh:=match t with| []=>none|p::q=>if p.1=r then some p.2 else aQ.get q r
def aQ.az (t:aQ):List (D×D):=t.map fun p=>(.z p.1,p.2.az)
def D.aaW (a b:Int):D.AA (.z a) (.z b)=decide (a=b):=by
 unfold D.AA
 by_cases h:a=b
 ·subst h;simp
 ·simp[h]
def aQ.eu (t:aQ)(r:Int):D.eu t.az (.z r)=(t.get r).map Wh.az:=by
 induction t with
 |nil=>rfl
 |cons p q ih=>
  simp only[aQ.az,afP,D.eu,D.aaW,aQ.get]
  by_cases h:p.1=r
  ·simp[h]
  ·simp only[h,age,afS];exact ih
@[simp] def aQ.fv (t:aQ)(r:Int):D.fv t.az (.z r)=(t.get r).isSome:=by simp[D.fv,aQ.eu]
def aQ.val {t:aQ}{r:Int}{x:Wh}(h:t.get r=some x):D.val t.az (.z r)=x.az:=by simp[D.val,aQ.eu,h]
def aQ.cX (t:aQ):D.cX t.az=ba (t.map (·.1)):=by
 induction t with
 |nil=>rfl
 |cons p q ih=>simp only[aQ.az,afP,D.cX]at ih ⊢;rw[ih]
abbrev kb:=List ((Int×Int)×Int)
def kb.az (t:kb):List (D×D):=t.map fun p=>(.r [.z p.1.1,.z p.1.2],.z p.2)
structure Wo where
 pa:List Int
 cu:List Bool
 th:aQ
 fa:kb
 la:Int
 ma:List Int
structure Gl (W:WS)(w:Wo):Prop where
 pa:W.pa=ba w.pa
 cu:W.cu=w.cu.map D.b
 th:W.th=w.th.az
 fa:W.fa=w.fa.az
 la:W.la=w.la
 ma:W.ma=ba w.ma
def BF {M:List (Nat×ax)}{b X:Bool}(h:b=X):∃d,T.dm (BV.bool b,M) (T.ret (BV.bool (D.bool d),M))/\D.bool d=X:=⟨.b b,.ret,h⟩
def CY {M:List (Nat×ax)}{k:IntKind}{b X:Int}(h:b=X):∃d,T.dm (BV.int k b,M) (T.ret (BV.int k (D.int d),M))/\D.int d=X:=⟨.z b,.ret,h⟩
section
variable {W:WS} {w:Wo} (hW:Gl W w)
include hW
theorem Gm (r:Int):PH dz (U3 W r) (Wm W) 3 Bb (fun d=>D.bool d=(w.th.get r).isSome):=by
 refine acm ?_
 simp only[rk,hW.th,aQ.fv]
 exact⟨fun h=>⟨rfl,BF h.symm⟩,fun h=>⟨rfl,BF h.symm⟩⟩
def aQ.kind (t:aQ)(r:Int):Int:=match t.get r with|some x=>x.k|none=>0
theorem zG (r:Int):PH jK (M9 W r) (Wm W) 3 IT (fun d=>D.int d=w.th.kind r):=by
 refine W7 ?_
 simp only[rk,hW.th,aQ.fv]
 refine⟨_,_,rfl,Gm hW r,?_⟩
 intro d hd
 rw[hd]
 cases h:w.th.get r with
 |none=>simp;exact⟨rfl,CY (by simp[aQ.kind,h])⟩
 |some x=>simp[aQ.val h];exact⟨rfl,CY (by simp[aQ.kind,h])⟩
end
end
section
def pY (a b:Int):Int:=IntKind.u8.wrap ((BitVec.ofInt 8 a &&& BitVec.ofInt 8 b).toNat:Int)
def Ws (a b:Int):IntKind.u8.wrap ((BitVec.ofInt 8 a &&& BitVec.ofInt 8 b).toNat:Int)=pY a b:=rfl
def CV (k:Int):Int:=
 if k=1 then 3 else if k=2 then 9 else if k=3 then 9 else if k=4 then 12 else if k=5 then 16 else if k=6 then 16 else if k=8 then 16 else if k=12 then 16
 else if k=9 then 13 else if k=10 then 1 else if k=11 then 8 else if k=13 then 33 else 0
def aen (k:Int):iq pg Ff [q8] [.z k] [nP] (·= .z (CV k)):=by
 refine aae ?_
 simp only[rk,D.df,afv,afd,agq]
 unfold CV
 refine⟨fun h=>by rw[aeZ h],fun h1=>?_⟩
 rw[aeX h1]
 refine⟨fun h=>by rw[aeZ h],fun h2=>?_⟩
 rw[aeX h2]
 refine⟨fun h=>by rw[aeZ h],fun h3=>?_⟩
 rw[aeX h3]
 refine⟨fun h=>by rw[aeZ h],fun h4=>?_⟩
 rw[aeX h4]
 refine⟨fun h=>by rw[aeZ h],fun h5=>?_⟩
 rw[aeX h5]
 refine⟨fun h=>by rw[aeZ h],fun h6=>?_⟩
 rw[aeX h6]
 refine⟨fun h=>by rw[aeZ h],fun h7=>?_⟩
 rw[aeX h7]
 refine⟨fun h=>by rw[aeZ h],fun h8=>?_⟩
 rw[aeX h8]
 refine⟨fun h=>by rw[aeZ h],fun h9=>?_⟩
 rw[aeX h9]
 refine⟨fun h=>by rw[aeZ h],fun h10=>?_⟩
 rw[aeX h10]
 refine⟨fun h=>by rw[aeZ h],fun h11=>?_⟩
 rw[aeX h11]
 exact⟨fun h=>by rw[aeZ h],fun h=>by rw[aeX h]⟩
def aQ.x7 (t:aQ):Nat->Int->Int->Option Int
 |0,_,_=>none
 |n+1,r,s=>
  match t.get r with
  |none=>some 0
  |some x=>if x.k=14 then aQ.x7 t n x.of (pY (pY 63 s) x.set)else if x.k=15\/x.k=16 then aQ.x7 t n x.of s else some (pY (pY 63 s) (CV x.k))
section
variable {W:WS} {w:Wo} (hW:Gl W w)
include hW
theorem Vh (r a:Int)(n:Nat)(ha:w.th.x7 n r 63=some a):PH oe (Em W r) (Wm W) 3 yy (fun d=>D.int d=a):=by
 have loop:∀(n:Nat) (r' s:Int),w.th.x7 n r' s=some a->aC pg oe [nP] (.bu 3 (yy (Em W r) (Wm W)) (fun d=>D.int d=a)) (tC W r r' s):=by
  intro n
  induction n with
  |zero=>intro r' s h;simp[aQ.x7]at h
  |succ n ih=>
   intro r' s h
   refine OO ?_
   simp only[rk,hW.th,aQ.fv]
   refine⟨_,_,rfl,Gm hW r',?_⟩
   intro d hd
   rw[hd]
   simp only[aQ.x7]at h
   cases hg:w.th.get r' with
   |none=>simp[hg]at h;simp;exact⟨rfl,CY h⟩
   |some x=>
    simp only[hg]at h
    simp[-exists_and_left,aQ.val hg,Ws]
    refine⟨fun hk=>?_,fun hk=>⟨fun h15=>?_,fun h15=>⟨fun h16=>?_,fun h16=>?_⟩⟩⟩
    ·rw[aeZ hk]at h;exact ih _ _ h
    ·rw[aeX hk,aeZ (.inl h15)]at h;exact ih _ _ h
    ·rw[aeX hk,aeZ (.inr h16)]at h;exact ih _ _ h
    ·rw[aeX hk,aeX (by simp[-exists_and_left,h15,h16])]at h
     refine⟨_,_,_,rfl,aen x.k,?_⟩
     rintro _ rfl
     exact⟨rfl,CY (agT h)⟩
 exact W5 (loop n r 63 ha)
omit hW in
theorem Q5 (W:WS):tR W.th W.st W.ck (D.cX W.th) W.st W.ck=true:=by simp[tR]
def aQ.zh (t:aQ)(r k o:Int):Bool:=t.any fun p=>decide (p.1≠r/\p.2.k=k/\p.2.of=o)
def aQ.one (t:aQ):Prop:=(t.map (·.1)).Nodup
omit hW in
theorem aQ.sA {t:aQ}(h1:t.one){r:Int}{x:Wh}:t.get r=some x↔(r,x)∈t:=by
 induction t with
 |nil=>simp[aQ.get]
 |cons p q ih=>
  have h2:aQ.one q:=(afD.1 h1).2
  have h3:p.1∉q.map (·.1):=(afD.1 h1).1
  simp only[aQ.get,ae5]
  split
  ·rename_i h
   subst h
   constructor
   ·intro e;cases e;exact .inl rfl
   ·rintro(e|e)
    ·rw[<-e]
    ·exact absurd (afy.2 ⟨_,e,rfl⟩) h3
  ·rename_i h
   rw[ih h2]
   exact⟨.inr,fun e=>by rcases e with e|e;exact absurd (by rw[<-e]) h;exact e⟩
omit hW in
theorem aQ.mO {t:aQ}{r:Int}:(t.get r).isSome=true↔r∈t.map (·.1):=by
 induction t with
 |nil=>simp[aQ.get]
 |cons p q ih=>
  simp only[aQ.get,afP,ae5]
  split
  ·rename_i h;simp[h]
  ·rename_i h;rw[ih];exact⟨.inr,fun e=>by rcases e with e|e;exact absurd e.symm h;exact e⟩
omit hW in
theorem sd {M:List Int->Prop}(ks:List Int)(h:∀l,(∀q∈l,q∈ks)->l.Nodup->(∀d∈ks,d∉l->M (d::l))->M l):M []:=by
 have key:∀(n:Nat) (l:List Int),(∀q∈l,q∈ks)->l.Nodup->(ks.filter (·∉l)).length<=n->M l:=by
  intro n
  induction n with
  |zero=>
   intro l h1 h2 h3
   refine h l h1 h2 fun d hd hn=>?_
   have:d∈ks.filter (·∉l):=by simp[hd,hn]
   have:=aho this;omega
  |succ n ih=>
   intro l h1 h2 h3
   refine h l h1 h2 fun d hd hn=>ih _ (fun q hq=>by rcases ae5.1 hq with rfl|hq;exact hd;exact h1 q hq) (afD.2 ⟨hn,h2⟩) ?_
   have hlt:(ks.filter (·∉d::l)).length<(ks.filter (·∉l)).length:=by
    have e:ks.filter (·∉d::l)=(ks.filter (·∉l)).filter (·≠d):=by
     rw[List.filter_filter];congr 1;funext x;simp[and_comm]
    rw[e]
    exact List.length_filter_lt_length_iff_exists.2 ⟨d,by simp[hd,hn],by simp⟩
   omega
 exact key _ [] (by simp) (by simp) (afa _)
omit hW in
theorem Wt {d:D}{l:List Int}:d∈ba l↔∃n,d= .z n/\n∈l:=by simp[eq_comm,and_comm]
omit hW in
@[simp] def Ef {n:Int}{l:List Int}:D.z n∈ba l↔n∈l:=by simp
theorem Am {C:cw}{G:sS}{l:List Int}{e:RT}{k:D->RT}(h0:(∀p∈w.th,p.1∈l)->rk pg C G e)(hk:∀n∈w.th.map (·.1),n∉l->rk pg C G (k (.z n))):
 rk pg C G (.ite (tR W.th W.st W.ck (D.cX W.th) W.st W.ck) (.pick (D.cX W.th) (ba l) e k) .bq):=by
 refine⟨fun _=>⟨fun h=>h0 fun p hp=>?_,fun d hd hn=>?_⟩,fun h=>by rw[Q5]at h;cases h⟩
 ·have:=h (.z p.1) (by rw[hW.th,aQ.cX,Ef];exact afy.2 ⟨p,hp,rfl⟩)
  rwa [Ef]at this
 ·rw[hW.th,aQ.cX]at hd
  obtain⟨n,rfl,hm⟩:=Wt.1 hd
  exact hk n hm fun h=>hn (Ef.2 h)
theorem RJ (h1:w.th.one)(r k o:Int):PH jL (vG W r k o) (Wm W) 3 rL (fun d=>D.bool d=w.th.zh r k o):=by
 have loop:(∀p∈w.th,p.1∈([]:List Int)->¬(p.1≠r/\p.2.k=k/\p.2.of=o))->
  aC pg jL [aj] (.bu 3 (rL (vG W r k o) (Wm W)) (fun d=>D.bool d=w.th.zh r k o)) (ny W r k o (ba [])):=by
  refine sd (M:=fun l=>(∀p∈w.th,p.1∈l->¬(p.1≠r/\p.2.k=k/\p.2.of=o))->aC pg jL [aj] (.bu 3 (rL (vG W r k o) (Wm W)) (fun d=>D.bool d=w.th.zh r k o)) (ny W r k o (ba l))) (w.th.map (·.1)) fun l hl hn ih hno=>?_
  refine ML (Am hW (fun hall=>?_) fun n hn1 hn2=>?_)
  ·refine⟨rfl,BF ?_⟩
   have:¬w.th.zh r k o=true:=fun h=>by
    simp only[aQ.zh,ag7,aeT]at h
    obtain⟨p,hp,h2⟩:=h
    exact hno p hp (hall p hp) h2
   simpa using this
  ·obtain⟨x,hx⟩:=afl.1 (aQ.mO.2 hn1)
   have hmem:=(aQ.sA h1).1 hx
   have hnext:¬(n≠r/\x.k=k/\x.of=o)->aC pg jL [aj] (.bu 3 (rL (vG W r k o) (Wm W)) (fun d=>D.bool d=w.th.zh r k o)) (ny W r k o (.z n::ba l)):=fun hc=>by
    have:=ih n hn1 hn2 fun p hp hpl=>by
     rcases ae5.1 hpl with e|hpl
     ·have hp2:w.th.get p.1=some p.2:=(aQ.sA h1).2 hp
      rw[e,hx]at hp2;cases hp2
      rw[e];exact hc
     ·exact hno p hp hpl
    simpa using this
   simp only[rk,hW.th,aQ.fv,hx,afY,aQ.val hx,D.df,Wh.fA,Wh.kr,agB,agq,afF,afv,afd,ae6,afc,afe,afm]
   refine⟨fun a=>⟨fun b=>⟨fun c=>?_,fun c=>hnext (by simp[c])⟩,fun b=>hnext (by simp[b])⟩,fun a=>hnext (by simp[a])⟩
   refine⟨rfl,BF ?_⟩
   symm
   simp only[aQ.zh,ag7,aeT]
   exact⟨_,hmem,a,b,c⟩
 exact TO (loop (by simp))
end
end
section
section
variable {W:WS} {w:Wo} (hW:Gl W w)
include hW
theorem w7:PH dH (KO W) (Wm W) 3 nc (fun d=>D.int d=w.ma.length):=by
 refine TL ?_
 simp only[rk]
 exact⟨rfl,CY (by rw[hW.ma];simp)⟩
theorem Vi (s:Int):PH yT (Na W s) (Wm W) 3 IU (fun d=>D.bool d=decide (0<=s/\s<w.ma.length)):=by
 refine Xc ?_
 simp only[rk]
 refine⟨fun h=>⟨_,_,rfl,w7 hW,?_⟩,fun h=>⟨rfl,BF ?_⟩⟩
 ·intro d hd
  rw[hd]
  refine⟨rfl,BF ?_⟩
  have h:0<=s:=by simpa using h
  simp[h]
 ·have h:¬0<=s:=by simpa using h
  simp[h]
theorem NP (l:List Int)(hl:l.length<2^63):PH cv (oA W (ba l)) (Vj W) 4 eX
 (fun d=>decide (0<=D.int d)=!l.all fun r=>(w.th.get r).isSome):=by
 have loop:∀(rest:List Int) (i:Nat),l.drop i=rest->
  aC pg cv [ah] (.bu 4 (eX (oA W (ba l)) (Vj W)) (fun d=>decide (0<=D.int d)=!rest.all fun r=>(w.th.get r).isSome)) (kA W (ba l) i):=by
  intro rest
  induction rest with
  |nil=>
   intro i hd
   have:=drop_nil hd
   refine wM ?_
   simp only[rk,aeW]
   refine⟨fun h=>by simp at h;omega,fun _=>⟨rfl,.z (-1),.ret,by simp⟩⟩
  |cons x rest ih=>
   intro i hd
   obtain⟨g1,g2,g3⟩:=aI hd
   refine wM ?_
   simp[-exists_and_left,g3,aY,bS (f:=D.z) g1,bO g3 hl]
   refine⟨_,_,rfl,Gm hW x,?_⟩
   intro d hd2
   rw[hd2]
   cases hx:w.th.get x with
   |none=>simp;exact⟨rfl,.z i,.ret,by simp[hx]⟩
   |some y=>
    have e:=ih (i+1) g2
    simpa [hx]using e
 exact Ib (loop l 0 rfl)
theorem Jf (l:List Int)(hl:l.length<2^63):PH cz (wg W (ba l)) (Vj W) 4 fi
 (fun d=>D.bool d=!l.all fun r=>(w.th.get r).isSome):=by
 refine DZ ?_
 simp only[rk,D.bP]
 refine⟨_,_,rfl,NP hW l hl,?_⟩
 intro d hd
 exact⟨rfl,BF hd⟩
def aQ.Fp (t:aQ)(x:Wh):Bool:=(aJ.cU x.aF).all fun r=>(t.get r).isSome
theorem YC (x:Wh)(hx:x.ok)(hs:x.sz<2^30)(hm:∀v∈x.aF,v.fG=true):PH yS (KP W x.az) (Wm W) 3 Gk (fun d=>D.bool d=w.th.Fp x):=by
 have hrl:=aJ.wc x.aF
 have hs2:=hs
 simp only[Wh.sz]at hs2
 refine TN ?_
 simp only[rk,D.bP]
 refine⟨_,_,rfl,acE x hx hs hm,?_⟩
 intro d hd
 rw[hd]
 refine⟨fun _=>⟨_,_,rfl,Jf hW (aJ.cU x.aF) (by omega),?_⟩,fun h=>by simp at h⟩
 intro d2 hd2
 rw[hd2]
 exact⟨rfl,BF (by simp[aQ.Fp])⟩
end
end
section
def nO (l:List Int):Bool:=decide (l.length<16)&&(List.range l.length).all fun i=>decide (0<=l.getD i 0/\l.getD i 0<=i)
def pU (l:List Int):nO l=true↔l.length<16/\∀(i:Nat) (x:Int),l[i]?=some x->0<=x/\x<=i:=by
 simp only[nO,aeV,aeT,afK,ahK]
 constructor
 ·rintro⟨h1,h2⟩
  refine⟨h1,fun i x hx=>?_⟩
  obtain⟨hi,rfl⟩:=ae1.1 hx
  have:=h2 i hi
  simpa [List.getD,hi]using this
 ·rintro⟨h1,h2⟩
  refine⟨h1,fun i hi=>?_⟩
  have:=h2 i l[i] (aeY hi)
  simpa [List.getD,hi]using this
def aa9 (l:List Int)(hl:l.length<2^30):PH qD (Et (ba l)) [] 0 zE (fun d=>D.bool d=nO l):=by
 have no:¬nO l=true->∃d,T.dm (BV.tuple [.gT,.int .i64 71],([]:List (Nat×ax))) (zE (Et (ba l)) [] d)/\D.bool d=nO l:=fun h=>⟨.b false,.ff rfl .ret,by simpa using h⟩
 have loop:∀(rest:List Int) (i:Nat),l.length<16->l.drop i=rest->(∀(j:Nat) (x:Int),j<i->l[j]?=some x->0<=x/\x<=j)->
  aC pg qD [cq,aX] (.bu 0 (zE (Et (ba l)) []) (fun d=>D.bool d=nO l)) (Ac (ba l) i):=by
  intro rest
  induction rest with
  |nil=>
   intro i h16 hd hp
   have hi:=drop_nil hd
   have hok:nO l=true:=(pU l).2 ⟨h16,fun j x hj=>hp j x (by have:=(ae1.1 hj).1;omega) hj⟩
   refine JV ?_
   rw[bL (x:=((ba l).length:Int)+1) (by simp;omega) (by simp;omega)]
   simp only[rk,aeW,D.bP]
   refine⟨fun h=>by simp at h;omega,fun _=>⟨fun _=>⟨fun _=>?_,fun h=>by simp[rv]at h;omega⟩,fun h=>by simp[rv]at h;omega⟩⟩
   refine⟨_,_,rfl,DN (ba l) (by simp;omega),?_⟩
   intro d hd2
   rw[hd2]
   refine⟨fun _=>⟨rfl,.b true,.tt rfl ?_,hok.symm⟩,fun h=>by simp at h⟩
   have e:((l.length:Int)+1).toNat=(ba l).length+1:=by simp
   rw[e]
   exact .ret
  |cons x rest ih=>
   intro i h16 hd hp
   obtain⟨g1,g2,g3⟩:=aI hd
   refine JV ?_
   simp[g3,aY,bS (f:=D.z) g1,bO g3 (n:=l.length) (by omega)]
   refine⟨fun h=>⟨rfl,no fun a=>by have:=((pU l).1 a).2 i x g1;omega⟩,fun h=>⟨fun h2=>⟨rfl,no fun a=>by have:=((pU l).1 a).2 i x g1;omega⟩,fun h2=>?_⟩⟩
   refine ih (i+1) h16 g2 fun j y hj hy=>?_
   by_cases e:j=i
   ·subst e;rw[g1]at hy;cases hy;omega
   ·exact hp j y (by omega) hy
 refine aad ?_
 simp only[rk,aeW]
 refine⟨fun h=>⟨rfl,no fun a=>by have:=((pU l).1 a).1;simp at h;omega⟩,fun h=>loop l 0 (by simp at h;omega) rfl (by intros;omega)⟩
section
variable {W:WS} {w:Wo} (hW:Gl W w)
include hW
theorem SO (n:Int)(hc:w.cu.length=w.ma.length):PH pM (A6 W n) (Wm W) 3 w6
 (fun d=>(d.ae 0).int=(if 0<n/\n<w.ma.length then 0 else 2)/\(d.ae 1).aa=(if 0<n/\n<w.ma.length then w.cu.set n.toNat true else w.cu).map D.b):=by
 have Wg:¬(0<n/\n<w.ma.length)->∃d,T.dm (BV.int .i64 2,Wm W) (w6 (A6 W n) (Wm W) d)/\((d.ae 0).int=(if 0<n/\n<w.ma.length then 0 else 2)/\(d.ae 1).aa=(if 0<n/\n<w.ma.length then w.cu.set n.toNat true else w.cu).map D.b):=fun h=>by
  refine⟨.r [.z 2,.r W.cu],.ret,?_⟩
  rw[aeX h,aeX h]
  exact⟨rfl,hW.cu⟩
 refine Oo ?_
 simp only[rk]
 refine⟨fun h=>⟨_,_,rfl,w7 hW,?_⟩,fun h=>⟨rfl,Wg fun a=>by simp at h;omega⟩⟩
 intro d hd
 rw[hd]
 have h:0<n:=by simpa using h
 refine⟨fun h2=>⟨rfl,Wg fun a=>by simp at h2;omega⟩,fun h2=>?_⟩
 have h2:n<w.ma.length:=by simpa using h2
 have hcl:W.cu.length=w.ma.length:=by rw[hW.cu];simp[hc]
 refine⟨fun _=>⟨fun _=>⟨rfl,.r [.z 0,.r (W.cu.set n.toNat (.b true))],?_,?_⟩,fun h3=>by simp[hcl]at h3;omega⟩,fun h3=>by simp[dy,hcl]at h3;omega⟩
 ·exact .ret
 ·rw[aeZ ⟨h,h2⟩,aeZ ⟨h,h2⟩]
  refine⟨rfl,?_⟩
  show W.cu.set n.toNat (.b true)=_
  rw[hW.cu]
  simp[aiC]
end
end
section
def JR (n:Nat):Nat:=n % 2+n/2 % 2+n/4 % 2+n/8 % 2+n/16 % 2+n/32 % 2
noncomputable def Vv:cw:=({f:=gg,rs:=[ah],bu:=none,cK:=[],bD:=[],bK:=[]}:cw)
def acj (n:Nat)(h:n<64):iq pg gg [q9] [.z n] [ah] (·= .z (JR n)):=by
 rcases n with _|n
 ·exact iq.kS (C:=Vv) Hq 600 (.lit (.lit (.lit (.lit (.lit (.lit .all)))))) (t:= .ret (.z (JR 0))) (by kernel_rfl) (by kernel_rfl) (by kernel_rfl) rfl
 iterate 63 (rcases n with _|n;· exact iq.kS (C:=Vv) Hq 600 (.lit (.lit (.lit (.lit (.lit (.lit .all)))))) (t:= .ret (.z (JR _))) (by kernel_rfl) (by kernel_rfl) (by kernel_rfl) rfl)
 omega
def aQ.ov (t:aQ)(ab:Int->Int)(r:Int):Int:=match t.get r with|some x=>if x.k=14 then-1 else 2^JR (ab r).toNat-1|none=>0
def q7 (f:Int->Int)(l:List Int):Int:=l.foldr (fun r a=>f r+a) 0
def UI {f:Int->Int}{l l':List Int}(h:l.Perm l'):q7 f l=q7 f l':=by
 unfold q7
 induction h with
 |nil=>rfl
 |cons x _ ih=>simp[ih]
 |swap x y l=>simp;omega
 |trans _ _ ih1 ih2=>rw[ih1,ih2]
def CI:∀{l ks:List Int},l.Nodup->(∀q∈l,q∈ks)->l.length<=ks.length:=by
 intro l
 induction l with
 |nil=>intros;simp
 |cons a r ih=>
  intro ks h1 h2
  have ha:=h2 a (by simp)
  have h3:=afD.1 h1
  have:=ih (ks:=ks.erase a) h3.2 fun q hq=>(List.mem_erase_of_ne (fun e:q=a=>h3.1 (by rw[<-e];exact hq))).2 (h2 q (by simp[hq]))
  rw[List.length_erase_of_mem ha]at this
  have:=aho ha
  simp only[ae9];omega
def QY (n:Nat):JR n<=6:=by unfold JR;omega
def QI (t:aQ)(ab:Int->Int)(r:Int):-1<=t.ov ab r/\t.ov ab r<=63:=by
 unfold aQ.ov
 split
 ·split
  ·omega
  ·have:=QY (ab r).toNat
   generalize JR (ab r).toNat=p at this
   have:p=0\/p=1\/p=2\/p=3\/p=4\/p=5\/p=6:=by omega
   rcases this with rfl|rfl|rfl|rfl|rfl|rfl|rfl<;>decide
 ·omega
def Ro {t:aQ}{ab:Int->Int}(l:List Int):-(l.length:Int)<=q7 (t.ov ab) l/\q7 (t.ov ab) l<=63*l.length:=by
 induction l with
 |nil=>simp[q7]
 |cons a r ih=>
  have:=QI t ab a
  simp only[q7,ah3,ae9]at ih ⊢
  omega
section
variable {W:WS} {w:Wo} (hW:Gl W w)
include hW
theorem YE (h1:w.th.one)(hn:w.th.length<2^40)(ab:Int->Int)(hab:∀r∈w.th.map (·.1),(∃n,w.th.x7 n r 63=some (ab r))/\0<=ab r/\ab r<64):
 PH kY (vH W) (Wm W) 3 rM (fun d=>D.int d=q7 (w.th.ov ab) (w.th.map (·.1))):=by
 have loop:aC pg kY [ah] (.bu 3 (rM (vH W) (Wm W)) (fun d=>D.int d=q7 (w.th.ov ab) (w.th.map (·.1)))) (nC W (q7 (w.th.ov ab) []) (ba [])):=by
  refine sd (M:=fun l=>aC pg kY [ah] (.bu 3 (rM (vH W) (Wm W)) (fun d=>D.int d=q7 (w.th.ov ab) (w.th.map (·.1)))) (nC W (q7 (w.th.ov ab) l) (ba l))) (w.th.map (·.1)) fun l hl hnd ih=>?_
  have hlen:l.length<=w.th.length:=by
   have:=CI hnd hl
   simpa using this
  have hb:=Ro (t:=w.th) (ab:=ab) l
  refine MO (Am hW (fun hall=>?_) fun n hn1 hn2=>?_)
  ·refine⟨rfl,CY (UI ?_)⟩
   exact(ag4 hnd h1).2 fun a=>⟨hl a,fun ha=>by obtain⟨p,hp,rfl⟩:=afy.1 ha;exact hall p hp⟩
  ·obtain⟨x,hx⟩:=afl.1 (aQ.mO.2 hn1)
   have hm:q7 (w.th.ov ab) (n::l)=w.th.ov ab n+q7 (w.th.ov ab) l:=rfl
   have hv:w.th.ov ab n=if x.k=14 then-1 else 2^JR (ab n).toNat-1:=by simp only[aQ.ov,hx]
   have hmb:=QI w.th ab n
   have e:=ih n hn1 hn2
   rw[hm,hv]at e
   rw[hv]at hmb
   simp only[rk,hW.th,aQ.fv,hx,afY,aQ.val hx,Wh.fA,D.df,afv,afd,agq,ae6,afc,afe,afm]
   refine⟨fun hk=>?_,fun hk=>?_⟩
   ·rw[aeZ hk]at e
    rw[bL (by omega) (by omega),show q7 (w.th.ov ab) l-1=-1+q7 (w.th.ov ab) l by omega]
    simpa using e
   ·rw[aeX hk]at e hmb
    obtain⟨⟨m,hm2⟩,a0,a1⟩:=hab n hn1
    refine⟨_,_,rfl,Vh hW n (ab n) m hm2,?_⟩
    intro d hd
    rw[hd]
    have hwu:IntKind.u64.wrap (ab n)=((ab n).toNat:Int):=by
     have e1:(IntKind.u64).bits=64:=rfl
     have e2:(IntKind.u64).signed=false:=rfl
     simp only[wp,e1,e2,ahk,ae0,afS];omega
    rw[hwu]
    refine⟨_,_,_,rfl,acj (ab n).toNat (by omega),?_⟩
    rintro _ rfl
    have hp:=QY (ab n).toNat
    generalize JR (ab n).toNat=p at hp e hmb ⊢
    refine⟨fun _=>?_,fun h=>by simp at h⟩
    simp only[D.df,ae2,Int.one_mul]
    rw[show min p 64=p by omega]
    have hpw:(2:Int)^p<=64/\1<=(2:Int)^p:=by
     have:p=0\/p=1\/p=2\/p=3\/p=4\/p=5\/p=6:=by omega
     rcases this with rfl|rfl|rfl|rfl|rfl|rfl|rfl<;>decide
    rw[bL (x:=2^p) (by omega) (by omega),bL (x:=2^p-1) (by omega) (by omega),bL (by omega) (by omega),Int.add_comm (q7 (w.th.ov ab) l)]
    simpa using e
 exact TQ loop
end
end
end Go.Proofs
end
