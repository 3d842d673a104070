import Derived.Test.YtdoajjnobfjkcaaGreatM11
import Derived.Test.YtdoajjnobfjkcaaGreatM16
set_option linter.all false
noncomputable section
namespace Go.Proofs
open Go Go.PB
def M8 (v:Ex):v.ok->v.size<2^30->fk pg fU [aG] [v.ax] [aG] (·=v.ax):=by
 induction v using Ex.GM with|h v ih=>
 intro hv hs
 have hse:=v.eo
 have hsl:v.l.length<=Ex.bB v.l:=by
  generalize v.l=l
  induction l with
  |nil=>simp
  |cons a r ih=>have:=a.eo;simp only[Ex.bB,ahv];omega
 have loop:∀(ah:List Ex) (i:Nat) (l:List D),v.l.drop i=ah->l.length=v.l.length->l.take i=(v.l.take i).map Ex.ax->l.drop i=(v.l.drop i).map Ex.ax->ay pg fU [aG] (.dQ (·=v.ax)) (rI v.ax v.l.length v.l.length v.l.length l i):=by
  intro ah
  induction ah with
  |nil=>
   intro i l hd hl ht hdr
   have:=drop_nil hd
   refine Dh ?_
   rw[ag5 (by omega),ag5 (by omega)]at ht
   simp[this,hl,ht]
   exact(v.aD).symm
  |cons x ah ihr=>
   intro i l hd hl ht hdr
   obtain⟨g1,g2,g3⟩:=aB hd
   have hx:=agY g1
   have hsx:x.size<2^30:=by have:=Ex.eb hx;omega
   have hat:D.at l i=x.ax:=by
    have:l[i]?=some x.ax:=by
     have:=ahE (·[0]?) hdr
     simpa [g1]using this
    simp[D.at,List.getD,this]
   refine Dh ?_
   simp[-exists_and_left,g3,aU,hat,bo g3 hv.len,hl]
   refine⟨_,_,_,rfl,ih x hx (hv.mem hx) hsx,?_⟩
   rintro _ rfl
   rw[Ex.re]
   exact ihr _ _ g2 (by simpa using hl) (by rw[Az (by omega),aQ g1,ht];simp) (by rw[ajr (show i<i+1 by omega),<-aiO,hdr];simp)
 refine Qw ?_
 simp only[rk,D.bE,Ex.vA]
 refine⟨_,_,rfl,R4 (v.l.map Ex.ax) (by simp;omega),?_⟩
 intro d hd
 rw[hd]
 have e:=loop v.l 0 (v.l.map Ex.ax) rfl (by simp) (by simp) (by simp)
 simpa using e
def W6 (l:List St):St.Ag l->St.eu l<2^30->St.lv l<2^30->fk pg eX [bK] [.r (l.map St.ax)] [bK] (·= .r (l.map St.ax)):=by
 induction l using St.N1 with|h l ih=>
 intro hl hc he
 have hlc:=St.Cy l
 have loop:∀(ah:List St) (i:Nat) (m:List D),l.drop i=ah->m.length=l.length->m.take i=(l.take i).map St.ax->m.drop i=(l.drop i).map St.ax->
  ay pg eX [bK] (.dQ (·= .r (l.map St.ax))) (rH (.r (l.map St.ax)) l.length l.length l.length m i):=by
  intro ah
  induction ah with
  |nil=>
   intro i m hd hm ht hdr
   have:=drop_nil hd
   refine Dg ?_
   rw[ag5 (by omega),ag5 (by omega)]at ht
   simp[this,hm,ht]
  |cons x ah ihr=>
   intro i m hd hm ht hdr
   obtain⟨g1,g2,g3⟩:=aB hd
   have hx:=agY g1
   obtain⟨o1,o2,o3,oa,ob,ow⟩:=hl.th hx
   obtain⟨i1,i2,i3⟩:=ih x hx
   have e1:=x.HT
   have e2:=St.JP hx
   have e3:=x.xk
   have e4:=St.DX hx
   have hat:D.at m i=x.ax:=by
    have:m[i]?=some x.ax:=by
     have:=ahE (·[0]?) hdr
     simpa [g1]using this
    simp[D.at,List.getD,this]
   refine Dg ?_
   simp[-exists_and_left,-List.map_append,g3,aU,hat,bo g3 hl.1,hm]
   refine⟨_,_,_,rfl,M8 _ oa (by omega),?_⟩
   rintro _ rfl
   refine⟨_,_,_,rfl,M8 _ ob (by omega),?_⟩
   rintro _ rfl
   refine⟨_,_,_,rfl,i1 o1 (by omega) (by omega),?_⟩
   rintro _ rfl
   refine⟨_,_,_,rfl,i2 o2 (by omega) (by omega),?_⟩
   rintro _ rfl
   refine⟨_,_,_,rfl,i3 o3 (by omega) (by omega),?_⟩
   rintro _ rfl
   refine⟨_,_,rfl,NO (Dm x.wi) (by simp;omega),?_⟩
   intro d6 hd6
   simp only[Ex.re,D.bE,hd6]
   rw[<-x.aD]
   exact ihr _ _ g2 (by simpa using hm) (by rw[Az (by omega),aQ g1,ht];simp) (by rw[ajr (show i<i+1 by omega),<-aiO,hdr];simp)
 refine Qv ?_
 simp only[rk,D.bE]
 refine⟨_,_,rfl,R6 (l.map St.ax) (by simp;omega),?_⟩
 intro d hd
 rw[hd]
 have e:=loop l 0 (l.map St.ax) rfl (by simp) (by simp) (by simp)
 simpa using e
def Od (v:aE)(h:v.cN=true):D.aa (if v.cN then (.r [v.ax,.z 0]:D)else .r [.r [.z 0,.z 0,.s [],.r [],.z 0],.z 2]) 0=v.ax:=by rw[ag8 h];rfl
def Ef (x:Wh)(hx:x.ok)(hs:x.sz<2^30)(hm:∀v∈x.aJ,v.cN=true):fk pg cE [aH] [x.ax] [aH] (·=x.ax):=by
 have hls:=x.Ft
 simp only[Wh.sz]at hs
 have hok:=hx.aJ
 have hvm:∀v∈x.vs,v.cN=true/\v.ok:=fun v hv=>⟨hm v (by simp[Wh.aJ,hv]),hok v (by simp[Wh.aJ,hv])⟩
 have hnm:∀n∈x.ns,n.v.cN=true/\n.v.ok:=fun n hn=>by
  have h:n.v∈x.aJ:=by simp[Wh.aJ];exact .inr (.inr ⟨n,hn,rfl⟩)
  exact⟨hm _ h,hok _ h⟩
 have hv0:x.v.cN=true/\x.v.ok:=⟨hm _ (by simp[Wh.aJ]),hok _ (by simp[Wh.aJ])⟩
 have loop2:∀(ah:List ga) (i:Nat) (m:List D),x.ns.drop i=ah->m.length=x.ns.length->m.take i=(x.ns.take i).map ga.ax->m.drop i=(x.ns.drop i).map ga.ax->
  ay pg cE [aH] (.dQ (·=x.ax)) (pW x.ax x.ns.length x.ns.length x.v.k x.v.n x.v.s (x.v.l.map aE.ax) x.v.r x.vs.length x.ns.length m (x.vs.map aE.ax) i):=by
  intro ah
  induction ah with
  |nil=>
   intro i m hd hm ht hdr
   have:=drop_nil hd
   refine BU ?_
   rw[ag5 (by omega),ag5 (by omega)]at ht
   simp[-exists_and_left,this,hm,ht]
   refine⟨_,_,_,rfl,W6 x.co hx.co (by omega) (by omega),?_⟩
   rintro _ rfl
   simp only[D.bE]
   rw[<-x.v.aD,<-x.aD]
  |cons n ah ihr=>
   intro i m hd hm ht hdr
   obtain⟨g1,g2,g3⟩:=aB hd
   have hn:=agY g1
   have hat:D.at m i=n.ax:=by
    have:m[i]?=some n.ax:=by
     have:=ahE (·[0]?) hdr
     simpa [g1]using this
    simp[D.at,List.getD,this]
   refine BU ?_
   simp[-exists_and_left,-List.map_append,g3,aU,hat,bo g3 (n:=x.ns.length) (by omega),hm]
   refine⟨_,_,_,rfl,aab n.v (hnm n hn).2,?_⟩
   rintro _ rfl
   rw[Od _ (hnm n hn).1,lK,<-n.aD]
   exact ihr _ _ g2 (by simpa using hm) (by rw[Az (by omega),aQ g1,ht];simp) (by rw[ajr (show i<i+1 by omega),<-aiO,hdr];simp)
 have loop1:∀(ah:List aE) (i:Nat) (m:List D),x.vs.drop i=ah->m.length=x.vs.length->m.take i=(x.vs.take i).map aE.ax->m.drop i=(x.vs.drop i).map aE.ax->
  ay pg cE [aH] (.dQ (·=x.ax)) (pU x.ax x.vs.length x.vs.length x.v.k x.v.n x.v.s (x.v.l.map aE.ax) x.v.r x.vs.length m i):=by
  intro ah
  induction ah with
  |nil=>
   intro i m hd hm ht hdr
   have:=drop_nil hd
   refine BT ?_
   rw[ag5 (by omega),ag5 (by omega)]at ht
   simp[-exists_and_left,this,ht]
   refine⟨_,_,rfl,R5 (x.ns.map ga.ax) (by simp;omega),?_⟩
   intro d hd
   rw[hd]
   have e:=loop2 x.ns 0 (x.ns.map ga.ax) rfl (by simp) (by simp) (by simp)
   simpa using e
  |cons n ah ihr=>
   intro i m hd hm ht hdr
   obtain⟨g1,g2,g3⟩:=aB hd
   have hn:=agY g1
   have hat:D.at m i=n.ax:=by
    have:m[i]?=some n.ax:=by
     have:=ahE (·[0]?) hdr
     simpa [g1]using this
    simp[D.at,List.getD,this]
   refine BT ?_
   simp[-exists_and_left,-List.map_append,g3,aU,hat,bo g3 (n:=x.vs.length) (by omega),hm]
   refine⟨_,_,_,rfl,aab n (hvm n hn).2,?_⟩
   rintro _ rfl
   rw[Od _ (hvm n hn).1,lK]
   exact ihr _ _ g2 (by simpa using hm) (by rw[Az (by omega),aQ g1,ht];simp) (by rw[ajr (show i<i+1 by omega),<-aiO,hdr];simp)
 refine Qx ?_
 simp only[rk,Wh.mI,lK]
 refine⟨_,_,_,rfl,aab x.v hv0.2,?_⟩
 rintro _ rfl
 rw[Od _ hv0.1]
 simp only[Wh.sP,D.bE]
 refine⟨_,_,rfl,Pm (x.vs.map aE.ax) (by simp;omega),?_⟩
 intro d hd
 rw[hd]
 have e:=loop1 x.vs 0 (x.vs.map aE.ax) rfl (by simp) (by simp) (by simp)
 simpa using e
def TL (x:Wh)(hx:x.ok)(hs:x.sz<2^30)(hm:∀v∈x.aJ,v.cN=true):PH fj (zt x.ax) [] 0 tV (fun d=>D.ae d=aw (aE.bD x.aJ)):=by
 have hls:=x.Ft
 have hrl:=aE.gj x.aJ
 simp only[Wh.sz]at hs
 have hok:=hx.aJ
 have hap:∀a b:List aE,aE.bD (a++b)=aE.bD a++aE.bD b:=fun a b=>by simp[aE.xG]
 have hvm:∀v∈x.vs,v.cN=true/\v.ok:=fun v hv=>⟨hm v (by simp[Wh.aJ,hv]),hok v (by simp[Wh.aJ,hv])⟩
 have hnm:∀n∈x.ns,n.v.cN=true/\n.v.ok:=fun n hn=>by
  have h:n.v∈x.aJ:=by simp[Wh.aJ];exact .inr (.inr ⟨n,hn,rfl⟩)
  exact⟨hm _ h,hok _ h⟩
 have hv0:x.v.cN=true/\x.v.ok:=⟨hm _ (by simp[Wh.aJ]),hok _ (by simp[Wh.aJ])⟩
 have loop2:∀(ah:List ga) (i:Nat) (o:List Int),x.ns.drop i=ah->o++aE.bD (ah.map ga.v)=aE.bD x.aJ->
  ay pg fj [aW] (.bx 0 (tV (zt x.ax) []) (fun d=>D.ae d=aw (aE.bD x.aJ))) (v8 x.ax o.length (aw o) i):=by
  intro ah
  induction ah with
  |nil=>
   intro i o hd ho
   have:=drop_nil hd
   refine Hl ?_
   simp only[ajp,aE.bD,ahM]at ho
   subst ho
   simp only[rk,Wh.fv,agV]
   exact⟨fun h=>by simp at h;omega,fun _=>⟨rfl,ka (by simp) rfl⟩⟩
  |cons n ah ihr=>
   intro i o hd ho
   obtain⟨g1,g2,g3⟩:=aB hd
   have hn:=agY g1
   have hol:=ahE List.length ho
   simp only[ahJ,aE.bD,ahc]at hol
   refine Hl ?_
   simp[-exists_and_left,-List.map_append,g3,aU,bn g1,bo g3 (n:=x.ns.length) (by omega)]
   refine⟨_,_,rfl,FG n.v (hnm n hn).2,?_⟩
   rintro d hd2
   rw[ag8 (hnm n hn).1]at hd2
   simp only[hd2,agV,ag5 (Nat.le_of_eq (agV D.z))]
   refine⟨fun _=>?_,by simp[aO];omega⟩
   have e:=ihr (i+1) (o++n.v.dt) g2 (by simpa [aE.bD]using ho)
   simpa using e
 have loop1:∀(ah:List aE) (i:Nat) (o:List Int),x.vs.drop i=ah->o++aE.bD (ah++x.ns.map ga.v)=aE.bD x.aJ->
  ay pg fj [aW] (.bx 0 (tV (zt x.ax) []) (fun d=>D.ae d=aw (aE.bD x.aJ))) (yD x.ax o.length (aw o) i):=by
  intro ah
  induction ah with
  |nil=>
   intro i o hd ho
   have:=drop_nil hd
   refine Jb ?_
   simp only[rk,Wh.sP,agV]
   exact⟨fun h=>by simp at h;omega,fun _=>loop2 x.ns 0 o rfl (by simpa using ho)⟩
  |cons n ah ihr=>
   intro i o hd ho
   obtain⟨g1,g2,g3⟩:=aB hd
   have hn:=agY g1
   have hol:=ahE List.length ho
   simp only[aia,aE.bD,ahc]at hol
   refine Jb ?_
   simp[-exists_and_left,-List.map_append,g3,aU,bn g1,bo g3 (n:=x.vs.length) (by omega)]
   refine⟨_,_,rfl,FG n (hvm n hn).2,?_⟩
   rintro d hd2
   rw[ag8 (hvm n hn).1]at hd2
   simp only[hd2,agV,ag5 (Nat.le_of_eq (agV D.z))]
   refine⟨fun _=>?_,by simp[aO];omega⟩
   have e:=ihr (i+1) (o++n.dt) g2 (by simpa [aE.bD]using ho)
   simpa using e
 refine Zp ?_
 simp only[rk,Wh.mI]
 refine⟨_,_,rfl,FG x.v hv0.2,?_⟩
 intro d hd
 rw[ag8 hv0.1]at hd
 rw[hd]
 have e:=loop1 x.vs 0 x.v.dt rfl (by simp[Wh.aJ,aE.bD])
 simpa using e
end Go.Proofs
namespace Go.Proofs
open Go Go.PB
def zo {α:Type}{f:α->D}{l:List α}{i:Nat}{x:α}(h:l[i]?=some x):(l.take i).map f++[f x]=(l.take (i+1)).map f:=by rw[aQ h];simp
def Lf (v:aE):v.ok->v.size<2^30->fk pg gv [av] [v.ax] [av] (·=v.ax):=by
 induction v using aE.GM with|h v ih=>
 intro hv hs
 have hse:=v.eo
 have hsl:=aE.dx v.l
 have loop:∀(ah:List aE) (i:Nat) (o:List aE),v.l.drop i=ah->o++ah=v.l->ay pg gv [av] (.dQ (·=v.ax)) (tG v.ax o.length i (o.map aE.ax)):=by
  intro ah
  induction ah with
  |nil=>
   intro i o hd ho
   have:=drop_nil hd
   refine E2 ?_
   simp only[ahM]at ho
   rw[ho]
   simp[this]
   exact⟨by omega,(v.aD).symm⟩
  |cons x ah ihr=>
   intro i o hd ho
   obtain⟨g1,g2,g3⟩:=aB hd
   have hx:=agY g1
   have hsx:=aE.eb hx
   refine E2 ?_
   simp[-exists_and_left,-List.map_append,g3,aU,bn g1,bo g3 hv.len]
   refine⟨_,_,_,rfl,ih x hx (hv.mem hx) (by omega),?_⟩
   rintro _ rfl
   rw[lK]
   exact⟨fun _=>by simpa using ihr (i+1) (o++[x]) g2 (by simpa using ho),by have:=ahE List.length ho;simp at this;simp[aO];omega⟩
 refine S5 ?_
 exact loop v.l 0 [] rfl rfl
def Ex.dx:∀l:List Ex,l.length<=bB l:=fun l=>by
 induction l with
 |nil=>simp
 |cons a r ih=>have:=a.eo;simp only[Ex.bB,ahv];omega
def UE (v:Ex):v.ok->v.size<2^30->fk pg jV [aG] [v.ax] [aG] (·=v.ax):=by
 induction v using Ex.GM with|h v ih=>
 intro hv hs
 have hse:=v.eo
 have hsl:=Ex.dx v.l
 have loop:∀(ah:List Ex) (i:Nat) (o:List Ex),v.l.drop i=ah->o++ah=v.l->ay pg jV [aG] (.dQ (·=v.ax)) (v7 v.ax o.length i (o.map Ex.ax)):=by
  intro ah
  induction ah with
  |nil=>
   intro i o hd ho
   have:=drop_nil hd
   refine Hj ?_
   simp only[ahM]at ho
   rw[ho]
   simp[this]
   exact⟨by omega,(v.aD).symm⟩
  |cons x ah ihr=>
   intro i o hd ho
   obtain⟨g1,g2,g3⟩:=aB hd
   have hx:=agY g1
   have hsx:=Ex.eb hx
   refine Hj ?_
   simp[-exists_and_left,-List.map_append,g3,aU,bn g1,bo g3 hv.len]
   refine⟨_,_,_,rfl,ih x hx (hv.mem hx) (by omega),?_⟩
   rintro _ rfl
   rw[Ex.re]
   exact⟨fun _=>by simpa using ihr (i+1) (o++[x]) g2 (by simpa using ho),by have:=ahE List.length ho;simp at this;simp[aO];omega⟩
 refine Wc ?_
 exact loop v.l 0 [] rfl rfl
def acb (l:List St):St.Ag l->St.eu l<2^30->St.lv l<2^30->fk pg iO [bK] [.r (l.map St.ax)] [bK] (·= .r (l.map St.ax)):=by
 induction l using St.N1 with|h l ih=>
 intro hl hc he
 have hlc:=St.Cy l
 have loop:∀(ah:List St) (i:Nat) (o:List St),l.drop i=ah->o++ah=l->ay pg iO [bK] (.dQ (·= .r (l.map St.ax))) (vZ (.r (l.map St.ax)) o.length i (o.map St.ax)):=by
  intro ah
  induction ah with
  |nil=>
   intro i o hd ho
   have:=drop_nil hd
   refine Hi ?_
   simp only[ahM]at ho
   rw[ho]
   simp[this]
   omega
  |cons x ah ihr=>
   intro i o hd ho
   obtain⟨g1,g2,g3⟩:=aB hd
   have hx:=agY g1
   obtain⟨o1,o2,o3,oa,ob,ow⟩:=hl.th hx
   obtain⟨i1,i2,i3⟩:=ih x hx
   have e1:=x.HT
   have e2:=St.JP hx
   have e3:=x.xk
   have e4:=St.DX hx
   refine Hi ?_
   simp[-exists_and_left,-List.map_append,g3,aU,bn g1,bo g3 hl.1]
   refine⟨_,_,_,rfl,UE _ oa (by omega),?_⟩
   rintro _ rfl
   refine⟨_,_,_,rfl,UE _ ob (by omega),?_⟩
   rintro _ rfl
   refine⟨_,_,_,rfl,i1 o1 (by omega) (by omega),?_⟩
   rintro _ rfl
   refine⟨_,_,_,rfl,i2 o2 (by omega) (by omega),?_⟩
   rintro _ rfl
   refine⟨_,_,_,rfl,i3 o3 (by omega) (by omega),?_⟩
   rintro _ rfl
   simp only[Ex.re,D.bE]
   rw[<-x.aD]
   exact⟨fun _=>⟨fun _=>by simpa using ihr (i+1) (o++[x]) g2 (by simpa using ho),by have:=ahE List.length ho;simp at this;simp[aO];omega⟩,by simp[aO];omega⟩
 refine Wb ?_
 exact loop l 0 [] rfl rfl
end Go.Proofs
namespace Go.Proofs
open Go Go.PB
def Tf (x:Wh)(hx:x.ok)(hs:x.sz<2^30):fk pg gA [aH] [x.ax] [aH] (·=x.ax):=by
 have hvl:x.aJ.length=1+x.vs.length+x.ns.length:=by simp[Wh.aJ];omega
 have hsl:=aE.dx x.aJ
 simp only[Wh.sz]at hs
 have hok:=hx.aJ
 have hvm:∀v∈x.vs,v.size<2^30/\v.ok:=fun v hv=>⟨by have:=aE.eb (l:=x.aJ) (x:=v) (by simp[Wh.aJ,hv]);omega,hok v (by simp[Wh.aJ,hv])⟩
 have hnm:∀n∈x.ns,n.v.size<2^30/\n.v.ok:=fun n hn=>by
  have hm:n.v∈x.aJ:=by simp[Wh.aJ];exact .inr (.inr ⟨n,hn,rfl⟩)
  exact⟨by have:=aE.eb hm;omega,hok _ hm⟩
 have hv0:x.v.size<2^30/\x.v.ok:=⟨by have:=aE.eb (l:=x.aJ) (x:=x.v) (by simp[Wh.aJ]);omega,hok x.v (by simp[Wh.aJ])⟩
 have loop2:∀(ah:List ga) (i:Nat) (o:List ga),x.ns.drop i=ah->o++ah=x.ns->ay pg gA [aH] (.dQ (·=x.ax)) (tA x.ax x.v.k x.v.n x.v.s (x.v.l.map aE.ax) x.v.r (x.co.map St.ax) x.vs.length (x.vs.map aE.ax) o.length i (o.map ga.ax)):=by
  intro ah
  induction ah with
  |nil=>
   intro i o hd ho
   have:=drop_nil hd
   refine EW ?_
   simp only[ahM]at ho
   rw[ho]
   simp[this]
   refine⟨by omega,?_⟩
   rw[<-x.v.aD,<-x.aD]
  |cons n ah ihr=>
   intro i o hd ho
   obtain⟨g1,g2,g3⟩:=aB hd
   have hn:=agY g1
   refine EW ?_
   simp[-exists_and_left,-List.map_append,g3,aU,bn g1,bo g3 (n:=x.ns.length) (by omega)]
   refine⟨_,_,_,rfl,Lf n.v (hnm n hn).2 (hnm n hn).1,?_⟩
   rintro _ rfl
   rw[lK,<-n.aD]
   exact⟨fun _=>by simpa using ihr (i+1) (o++[n]) g2 (by simpa using ho),by have:=ahE List.length ho;simp at this;simp[aO];omega⟩
 have loop1:∀(ah:List aE) (i:Nat) (o:List aE),x.vs.drop i=ah->o++ah=x.vs->ay pg gA [aH] (.dQ (·=x.ax)) (vX x.ax x.v.k x.v.n x.v.s (x.v.l.map aE.ax) x.v.r o.length i (o.map aE.ax)):=by
  intro ah
  induction ah with
  |nil=>
   intro i o hd ho
   have:=drop_nil hd
   refine Hf ?_
   simp only[ahM]at ho
   rw[ho]
   simp[-exists_and_left,this]
   refine⟨by omega,_,_,_,rfl,acb x.co hx.co (by omega) (by omega),?_⟩
   rintro _ rfl
   exact loop2 x.ns 0 [] rfl rfl
  |cons n ah ihr=>
   intro i o hd ho
   obtain⟨g1,g2,g3⟩:=aB hd
   have hn:=agY g1
   refine Hf ?_
   simp[-exists_and_left,-List.map_append,g3,aU,bn g1,bo g3 (n:=x.vs.length) (by omega)]
   refine⟨_,_,_,rfl,Lf n (hvm n hn).2 (hvm n hn).1,?_⟩
   rintro _ rfl
   rw[lK]
   exact⟨fun _=>by simpa using ihr (i+1) (o++[n]) g2 (by simpa using ho),by have:=ahE List.length ho;simp at this;simp[aO];omega⟩
 refine Zg ?_
 simp only[rk,Wh.mI,lK]
 refine⟨_,_,_,rfl,Lf x.v hv0.2 hv0.1,?_⟩
 rintro _ rfl
 have e:=loop1 x.vs 0 [] rfl rfl
 simpa using e
def Le (l:List Int)(r:Int)(hl:l.length<2^63):fk pg mJ [aW,aA] [.r (aw l),.z r] [ai] (·= .b (decide (r∈l))):=by
 have loop:∀(ah:List Int) (i:Nat),l.drop i=ah->ay pg mJ [ai] (.dQ (·= .b (decide (r∈ah)))) (Be (.r (aw l)) (.z r) i):=by
  intro ah
  induction ah with
  |nil=>
   intro i hd
   have:=drop_nil hd
   refine Lb ?_
   simp[this];omega
  |cons x ah ihr=>
   intro i hd
   obtain⟨g1,g2,g3⟩:=aB hd
   refine Lb ?_
   simp[g3,aU,bn (f:=D.z) g1,bo g3 hl]
   refine⟨fun h=>by simp[h],fun h=>?_⟩
   have e:¬r=x:=fun h2=>h h2.symm
   have e2:=ihr (i+1) g2
   simpa [e]using e2
 exact abY (loop l 0 rfl)
def Te (l:List Int)(r:Int)(hl:l.length<2^63):fk pg ni [aW,aA] [.r (aw l),.z r] [ai] (·= .b (decide (r∈l))):=by
 have loop:∀(ah:List Int) (i:Nat),l.drop i=ah->ay pg ni [ai] (.dQ (·= .b (decide (r∈ah)))) (yA (.r (aw l)) (.z r) i):=by
  intro ah
  induction ah with
  |nil=>
   intro i hd
   have:=drop_nil hd
   refine I7 ?_
   simp[this];omega
  |cons x ah ihr=>
   intro i hd
   obtain⟨g1,g2,g3⟩:=aB hd
   refine I7 ?_
   simp[g3,aU,bn (f:=D.z) g1,bo g3 hl]
   refine⟨fun h=>by simp[h],fun h=>?_⟩
   have e:¬r=x:=fun h2=>h h2.symm
   have e2:=ihr (i+1) g2
   simpa [e]using e2
 exact Zc (loop l 0 rfl)
def Iu (l:List Int)(r:Int)(hl:l.length<2^63):fk pg gz [aW,aA] [.r (aw l),.z r] [ai] (·= .b (decide (r∈l))):=by
 have loop:∀(ah:List Int) (i:Nat),l.drop i=ah->ay pg gz [ai] (.dQ (·= .b (decide (r∈ah)))) (yB (.r (aw l)) (.z r) i):=by
  intro ah
  induction ah with
  |nil=>
   intro i hd
   have:=drop_nil hd
   refine I8 ?_
   simp[this];omega
  |cons x ah ihr=>
   intro i hd
   obtain⟨g1,g2,g3⟩:=aB hd
   refine I8 ?_
   simp[g3,aU,bn (f:=D.z) g1,bo g3 hl]
   refine⟨fun h=>by simp[h],fun h=>?_⟩
   have e:¬r=x:=fun h2=>h h2.symm
   have e2:=ihr (i+1) g2
   simpa [e]using e2
 exact Zd (loop l 0 rfl)
end Go.Proofs
namespace Go.PB
open Go
def ay.xA {P:Program}{f:FuncId}{rs:List TypeId}{p:Nat}{R:D->T (BV×List (Nat×aI))}{Q Q':D->Prop}{s:au}(h:∀d,Q d->Q' d)(e:ay P f rs (.bx p R Q) s):ay P f rs (.bx p R Q') s:=by
 intro c0 g w lb fr cs hs
 obtain⟨w',fr',v',g',h',m1,m2,m3,m4,m5,d,x,m6,m7,m8,m9,m10⟩:=e c0 g w lb fr cs hs
 exact⟨w',fr',v',g',h',m1,m2,m3,m4,m5,d,x,m6,m7,m8,m9,h d m10⟩
def ay.GQ {P:Program}{f:FuncId}{rs:List TypeId}{Q Q':D->Prop}{s:au}(h:∀d,Q d->Q' d)(e:ay P f rs (.dQ Q) s):ay P f rs (.dQ Q') s:=by
 intro c0 g w lb fr cs hs
 obtain⟨w',fr',v',g',h',m1,m2,m3,m4,m5,d,m6,m7⟩:=e c0 g w lb fr cs hs
 exact⟨w',fr',v',g',h',m1,m2,m3,m4,m5,d,m6,h d m7⟩
end Go.PB
namespace Go.Proofs
open Go Go.PB
def mM (s dp:Nat)(m k:Int):Prop:=m+s<=512/\(dp:Int)<=k
def afh (s dp:Nat)(m k:Int)(d:D):Prop:=((d.aa 0).bool=true↔mM s dp m k)/\(mM s dp m k->(d.aa 1).int=m+s)
def Vx {s dp:Nat}{m k:Int}{b:Bool}{n:Int}(h1:b=true↔mM s dp m k)(h2:mM s dp m k->n=m+s):
 ∃d,T.dy (BV.bool b,[(0,aI.cells [.int .i64 n] af false)]) (T.ret (BV.bool (d.aa 0).bool,[(0,aI.cells [.int .i64 (d.aa 1).int] af false)]))/\afh s dp m k d:=⟨.r [.b b,.z n],.ret,h1,h2⟩
def FY (s dp:Nat)(m k:Int)(b:Bool)(n:Int):Prop:=(b=false↔mM s dp m (k-1))/\(mM s dp m (k-1)->n=m+s)
def Ro (x:Ex):∀m k:Int,x.ok->x.size<2^30->0<=m->m<=600->0<=k->k<=16->
 PH nj (J7 x.ax m k) (J8 x.ax m k) 1 AO (afh x.size x.Ej m k):=by
 induction x using Ex.GM with|h x ih=>
 intro m k hx hs h0 h1 h2 h3
 have hse:=x.eo
 have hde:=x.Uf
 have hsl:=Ex.dx x.l
 have loop:∀(m0:Int) (ah:List Ex) (i:Nat) (n:Int),0<k->0<=n->n<=512->x.l.drop i=ah->
  ay pg de [af] (.bx 3 (gY (r9 (x.l.map Ex.ax) m0 k) (sj (x.l.map Ex.ax) m0 k)) (fun d=>FY (Ex.bB ah) (Ex.oG ah) n k (decide (0<=(d.aa 0).int)) (d.aa 1).int)) (jG (x.l.map Ex.ax) m0 k i n):=by
  intro m0 ah
  induction ah with
  |nil=>
   intro i n hk hn0 hn hd
   have:=drop_nil hd
   refine vD ?_
   simp only[rk,agV]
   refine⟨fun h=>by simp at h;omega,fun _=>⟨rfl,.r [.z (-1),.z n],.ret,?_⟩⟩
   simp[FY,mM,Ex.bB,Ex.oG,D.aa,D.at]
   omega
  |cons y ah ihr=>
   intro i n hk hn0 hn hd
   obtain⟨g1,g2,g3⟩:=aB hd
   have hy:=agY g1
   have hsy:=Ex.eb hy
   have hpy:0<y.size:=by have:=y.eo;omega
   refine vD ?_
   simp[-exists_and_left,g3,aU,bn g1,bo g3 hx.len]
   rw[bO (x:=k-1) (by omega) (by omega)]
   refine⟨_,_,rfl,ih y hy n (k-1) (hx.mem hy) (by omega) hn0 (by omega) (by omega) (by omega),?_⟩
   rintro d ⟨q1,q2⟩
   have hrw:∀a b,FY (Ex.bB (y::ah)) (Ex.oG (y::ah)) n k a b↔FY (y.size+Ex.bB ah) (max y.Ej (Ex.oG ah)) n k a b:=fun a b=>Iff.rfl
   refine⟨fun hb=>⟨rfl,.r [.z i,.z (d.aa 1).int],.ret,?_⟩,fun hb=>?_⟩
   ·have hno:¬mM y.size y.Ej n (k-1):=fun h=>by rw[q1.2 h]at hb;cases hb
    rw[hrw]
    simp only[FY,mM]at hno ⊢
    have e0:decide (0<=D.int (D.aa (.r [.z (i:Int),.z (d.aa 1).int]) 0))=true:=by show decide (0<=(i:Int))=true;simp
    rw[e0]
    exact⟨⟨fun a=>by simp at a,fun a=>(hno ⟨by omega,by omega⟩).elim⟩,fun a=>(hno ⟨by omega,by omega⟩).elim⟩
   ·have hyes:=q1.1 hb
    have e:=q2 hyes
    simp only[mM]at hyes
    have:=ihr (i+1) (d.aa 1).int hk (by omega) (by omega) g2
    refine ay.xA ?_ this
    intro d2 hq
    rw[hrw]
    simp only[FY,mM]at hq ⊢
    rw[e]at hq
    refine⟨hq.1.trans ⟨fun a=>⟨by omega,by omega⟩,fun a=>⟨by omega,by omega⟩⟩,fun a=>by have:=hq.2 ⟨by omega,by omega⟩;omega⟩
 have cont:∀m0:Int,0<k->0<=m0->m0<=512->PH bp (vp (x.l.map Ex.ax) m0 k) (vw (x.l.map Ex.ax) m0 k) 3 eP
  (fun d=>FY (Ex.bB x.l) (Ex.oG x.l) m0 k (d.aa 0).bool (d.aa 1).int):=by
  intro m0 hk a b
  refine El ?_
  simp only[rk]
  refine⟨_,_,rfl,Ir (loop m0 x.l 0 m0 hk a b rfl),?_⟩
  intro d hd
  exact⟨rfl,.r [.b _,.z _],.ret,hd⟩
 refine S8 ?_
 rw[bO (x:=m+1) (by omega) (by omega)]
 have ah:(x.k≠3/\x.l.length=0->False)->0<k->m+1<=512->∀d:D,FY (Ex.bB x.l) (Ex.oG x.l) (m+1) k (d.aa 0).bool (d.aa 1).int->(((! (d.aa 0).bool)=true↔mM x.size x.Ej m k)/\(mM x.size x.Ej m k->(d.aa 1).int=m+x.size)):=fun hne hk hm d hq=>by
  rw[ag4 hne]at hde
  simp only[FY,mM]at hq ⊢
  rw[ahl,hq.1]
  exact⟨⟨fun a=>⟨by omega,by omega⟩,fun a=>⟨by omega,by omega⟩⟩,fun a=>by have:=hq.2 ⟨by omega,by omega⟩;omega⟩
 simp only[rk,Ex.cU,Ex.vA,agV]
 refine⟨fun h=>⟨rfl,Vx ?_ ?_⟩,fun h=>⟨fun hk3=>⟨fun hl=>⟨rfl,Vx ?_ ?_⟩,fun hl=>⟨fun hk=>⟨rfl,Vx ?_ ?_⟩,fun hk=>?_⟩⟩,fun hk3=>⟨fun hk=>⟨rfl,Vx ?_ ?_⟩,fun hk=>?_⟩⟩⟩
 ·have h:m+1>512:=by simpa using h
  simp[mM];omega
 ·have h:m+1>512:=by simpa using h
  simp[mM];omega
 ·have hk3:x.k≠3:=by simpa using hk3
  have hl:x.l.length=0:=by simpa using hl
  have h:m+1<=512:=by simpa using h
  rw[ag8 ⟨hk3,hl⟩]at hde
  have:Ex.bB x.l=0:=by rw[ahy.1 hl];rfl
  simp[mM];omega
 ·have hl:x.l.length=0:=by simpa using hl
  have:Ex.bB x.l=0:=by rw[ahy.1 hl];rfl
  simp[mM];omega
 ·have hl:¬x.l.length=0:=by simpa using hl
  have hk:k=0:=by simpa using hk
  rw[ag4 (by omega)]at hde
  simp[mM];omega
 ·have hl:¬x.l.length=0:=by simpa using hl
  have hk:k=0:=by simpa using hk
  rw[ag4 (by omega)]at hde
  simp[mM];omega
 ·have hl:¬x.l.length=0:=by simpa using hl
  have hk:¬k=0:=by simpa using hk
  have h:m+1<=512:=by simpa using h
  refine⟨_,_,rfl,cont (m+1) (by omega) (by omega) h,?_⟩
  intro d hd
  obtain⟨r1,r2⟩:=ah (by omega) (by omega) h d hd
  exact⟨rfl,Vx r1 r2⟩
 ·have hk3:x.k=3:=by simpa using hk3
  have hk:k=0:=by simpa using hk
  rw[ag4 (by omega)]at hde
  simp[mM];omega
 ·have hk3:x.k=3:=by simpa using hk3
  have hk:k=0:=by simpa using hk
  rw[ag4 (by omega)]at hde
  simp[mM];omega
 ·have hk3:x.k=3:=by simpa using hk3
  have hk:¬k=0:=by simpa using hk
  have h:m+1<=512:=by simpa using h
  refine⟨_,_,rfl,cont (m+1) (by omega) (by omega) h,?_⟩
  intro d hd
  obtain⟨r1,r2⟩:=ah (by omega) (by omega) h d hd
  exact⟨rfl,Vx r1 r2⟩
def IB (l:List St)(m:Int):Prop:=St.lC l=true/\m+St.eu l<=512
def Qsm (l:List St)(m:Int)(d:D):Prop:=((d.aa 0).bool=true↔IB l m)/\(IB l m->(d.aa 1).int=m+St.eu l)
def smI {l:List St}{m:Int}{b:Bool}{n:Int}(h1:b=true↔IB l m)(h2:IB l m->n=m+St.eu l):
 ∃d,T.dy (BV.bool b,[(0,aI.cells [.int .i64 n] af false)]) (T.ret (BV.bool (d.aa 0).bool,[(0,aI.cells [.int .i64 (d.aa 1).int] af false)]))/\Qsm l m d:=⟨.r [.b b,.z n],.ret,h1,h2⟩
def TB {l:List St}{m n:Int}(h:¬IB l m):
 ∃d,T.dy (BV.bool false,[(0,aI.cells [.int .i64 n] af false)]) (T.ret (BV.bool (d.aa 0).bool,[(0,aI.cells [.int .i64 (d.aa 1).int] af false)]))/\Qsm l m d:=smI ⟨fun a=>(by cases a),fun a=>(h a).elim⟩ fun a=>(h a).elim
def acs (l:List St):∀m:Int,St.Ag l->St.lv l<2^30->0<=m->m<=512->PH iQ (Ds (l.map St.ax) m) (Dt (l.map St.ax) m) 1 wz (Qsm l m):=by
 induction l using St.N1 with|h l ih=>
 intro m hl he hm0 hm
 have loop:∀(ah:List St) (i:Nat) (n:Int),l.drop i=ah->0<=n->n<=512->(IB l m↔IB ah n)->(IB l m->n+St.eu ah=m+St.eu l)->
  ay pg iQ [ai] (.bx 1 (wz (Ds (l.map St.ax) m) (Dt (l.map St.ax) m)) (Qsm l m)) (wa (l.map St.ax) m i n):=by
  intro ah
  induction ah with
  |nil=>
   intro i n hd h0 h1 h2 h3
   have:=drop_nil hd
   refine Hm ?_
   simp only[rk,agV]
   have hy:IB l m:=h2.2 (by simp[IB,St.lC,St.eu];omega)
   refine⟨fun h=>by simp at h;omega,fun _=>⟨rfl,smI (by simp[hy]) fun a=>by have:=h3 a;simp[St.eu]at this;omega⟩⟩
  |cons x ah ihr=>
   intro i n hd h0 h1 h2 h3
   obtain⟨g1,g2,g3⟩:=aB hd
   have hx:=agY g1
   obtain⟨o1,o2,o3,oa,ob,ow⟩:=hl.th hx
   obtain⟨i1,i2,i3⟩:=ih x hx
   have e3:=x.xk
   have e4:=St.DX hx
   have ec:=x.HT
   have ef:=x.Uk
   have hcs:IB (x::ah) n↔(x.wi.length<=64/\x.a.vl=true/\x.b.vl=true/\St.lC x.th=true/\St.lC x.el=true/\St.lC x.co=true)/\St.lC ah=true/\n+(1+St.eu x.th+St.eu x.el+St.eu x.co+St.eu ah)<=512:=by
    simp only[IB,St.lC,St.eu,ef,ec,ag2,agW]
    constructor
    ·rintro⟨⟨⟨⟨⟨⟨⟨a,b⟩,c⟩,d⟩,e⟩,f⟩,g⟩,hh⟩;exact⟨⟨a,b,c,d,e,f⟩,g,by omega⟩
    ·rintro⟨⟨a,b,c,d,e,f⟩,g,hh⟩;exact⟨⟨⟨⟨⟨⟨⟨a,b⟩,c⟩,d⟩,e⟩,f⟩,g⟩,by omega⟩
   rw[hcs]at h2
   refine Hm ?_
   simp[-exists_and_left,g3,aU,bn g1,bo g3 hl.1]
   rw[bO (x:=n+1) (by omega) (by omega)]
   refine⟨fun h=>⟨rfl,TB fun a=>by have:=(h2.1 a).2.2;omega⟩,fun hn1=>⟨fun h=>⟨rfl,TB fun a=>by have:=(h2.1 a).1.1;omega⟩,fun hw=>?_⟩⟩
   refine⟨_,_,rfl,Ro x.a 0 16 oa (by omega) (by omega) (by omega) (by omega) (by omega),?_⟩
   rintro d1 ⟨q1,_⟩
   have ha:(d1.aa 0).bool=x.a.vl:=by
    rw[ahu,q1];simp[mM,Ex.vl];omega
   rw[ha]
   refine⟨fun h=>⟨rfl,TB fun a=>by have:=(h2.1 a).1.2.1;rw[h]at this;cases this⟩,fun fa=>?_⟩
   refine⟨_,_,rfl,Ro x.b 0 16 ob (by omega) (by omega) (by omega) (by omega) (by omega),?_⟩
   rintro d2 ⟨q2,_⟩
   have hb:(d2.aa 0).bool=x.b.vl:=by
    rw[ahu,q2];simp[mM,Ex.vl];omega
   rw[hb]
   refine⟨fun h=>⟨rfl,TB fun a=>by have:=(h2.1 a).1.2.2.1;rw[h]at this;cases this⟩,fun fb=>?_⟩
   refine⟨_,_,rfl,i1 (n+1) o1 (by omega) (by omega) (by omega),?_⟩
   rintro d3 ⟨q3,r3⟩
   refine⟨fun h=>⟨rfl,TB fun a=>by have b:=(h2.1 a);rw[q3.2 ⟨b.1.2.2.2.1,by have:=b.2.2;omega⟩]at h;cases h⟩,fun h=>?_⟩
   have s3:=q3.1 h
   have t3:=r3 s3
   rw[t3]
   obtain⟨u3,v3⟩:=s3
   refine⟨_,_,rfl,i2 (n+1+St.eu x.th) o2 (by omega) (by omega) (by omega),?_⟩
   rintro d4 ⟨q4,r4⟩
   refine⟨fun h=>⟨rfl,TB fun a=>by have b:=(h2.1 a);rw[q4.2 ⟨b.1.2.2.2.2.1,by have:=b.2.2;omega⟩]at h;cases h⟩,fun h=>?_⟩
   have s4:=q4.1 h
   have t4:=r4 s4
   rw[t4]
   obtain⟨u4,v4⟩:=s4
   refine⟨_,_,rfl,i3 (n+1+St.eu x.th+St.eu x.el) o3 (by omega) (by omega) (by omega),?_⟩
   rintro d5 ⟨q5,r5⟩
   refine⟨fun h=>⟨rfl,TB fun a=>by have b:=(h2.1 a);rw[q5.2 ⟨b.1.2.2.2.2.2,by have:=b.2.2;omega⟩]at h;cases h⟩,fun h=>?_⟩
   have s5:=q5.1 h
   have t5:=r5 s5
   rw[t5]
   obtain⟨u5,v5⟩:=s5
   refine ihr (i+1) _ g2 (by omega) (by omega) ?_ ?_
   ·rw[h2]
    exact⟨fun a=>⟨a.2.1,by have:=a.2.2;omega⟩,fun a=>⟨⟨by omega,fa,fb,u3,u4,u5⟩,a.1,by have:=a.2;omega⟩⟩
   ·intro a;have:=h3 a;simp only[St.eu]at this;omega
 refine Wp ?_
 exact loop l 0 m rfl hm0 hm Iff.rfl (fun _=>rfl)
section
abbrev aV:=List (Int×Wh)
def aV.get (t:aV)(r:Int):Option Wh:=match t with| []=>none|p::q=>if p.1=r then some p.2 else aV.get q r
def aV.ax (t:aV):List (D×D):=t.map fun p=>(.z p.1,p.2.ax)
def D.Ui (a b:Int):D.A5 (.z a) (.z b)=decide (a=b):=by
 unfold D.A5
 by_cases h:a=b
 ·subst h;simp
 ·simp[h]
def aV.ep (t:aV)(r:Int):D.ep t.ax (.z r)=(t.get r).map Wh.ax:=by
 induction t with
 |nil=>rfl
 |cons p q ih=>
  simp only[aV.ax,ahJ,D.ep,D.Ui,aV.get]
  by_cases h:p.1=r
  ·simp[h]
  ·simp only[h,ahj,ahN];exact ih
@[simp] def aV.cS (t:aV)(r:Int):D.cS t.ax (.z r)=(t.get r).isSome:=by simp[D.cS,aV.ep]
def aV.val {t:aV}{r:Int}{x:Wh}(h:t.get r=some x):D.val t.ax (.z r)=x.ax:=by simp[D.val,aV.ep,h]
def aV.ct (t:aV):D.ct t.ax=aw (t.map (·.1)):=by
 induction t with
 |nil=>rfl
 |cons p q ih=>simp only[aV.ax,ahJ,D.ct]at ih ⊢;rw[ih]
abbrev gX:=List ((Int×Int)×Int)
def gX.ax (t:gX):List (D×D):=t.map fun p=>(.r [.z p.1.1,.z p.1.2],.z p.2)
structure Wo where
 pa:List Int
 cu:List Bool
 th:aV
 fa:gX
 la:Int
 ma:List Int
structure zC (W:WS)(w:Wo):Prop where
 pa:W.pa=aw w.pa
 cu:W.cu=w.cu.map D.b
 th:W.th=w.th.ax
 fa:W.fa=w.fa.ax
 la:W.la=w.la
 ma:W.ma=aw w.ma
def vP {M:List (Nat×aI)}{b X:Bool}(h:b=X):∃d,T.dy (BV.bool b,M) (T.ret (BV.bool (D.bool d),M))/\D.bool d=X:=⟨.b b,.ret,h⟩
def B3 {M:List (Nat×aI)}{k:IntKind}{b X:Int}(h:b=X):∃d,T.dy (BV.int k b,M) (T.ret (BV.int k (D.int d),M))/\D.int d=X:=⟨.z b,.ret,h⟩
section
variable {W:WS} {w:Wo} (hW:zC W w)
include hW
def Co (r:Int):PH cH (Xh W r) (Wm W) 3 sw (fun d=>D.bool d=(w.th.get r).isSome):=by
 refine aer ?_
 simp only[rk,hW.th,aV.cS]
 exact⟨fun h=>⟨rfl,vP h.symm⟩,fun h=>⟨rfl,vP h.symm⟩⟩
def aV.kind (t:aV)(r:Int):Int:=match t.get r with|some x=>x.k|none=>0
def zd (r:Int):PH ib (OW W r) (Wm W) 3 F0 (fun d=>D.int d=w.th.kind r):=by
 refine YZ ?_
 simp only[rk,hW.th,aV.cS]
 refine⟨_,_,rfl,Co hW r,?_⟩
 intro d hd
 rw[hd]
 cases h:w.th.get r with
 |none=>simp;exact⟨rfl,B3 (by simp[aV.kind,h])⟩
 |some x=>simp[aV.val h];exact⟨rfl,B3 (by simp[aV.kind,h])⟩
end
end
section
def mP (a b:Int):Int:=IntKind.u8.wrap ((BitVec.ofInt 8 a &&& BitVec.ofInt 8 b).toNat:Int)
def YD (a b:Int):IntKind.u8.wrap ((BitVec.ofInt 8 a &&& BitVec.ofInt 8 b).toNat:Int)=mP a b:=rfl
def B9 (k:Int):Int:=
 if k=1 then 3 else if k=2 then 9 else if k=3 then 9 else if k=4 then 12 else if k=5 then 16 else if k=6 then 16 else if k=8 then 16 else if k=12 then 16
 else if k=9 then 13 else if k=10 then 1 else if k=11 then 8 else if k=13 then 33 else 0
def agr (k:Int):fk pg GG [lO] [.z k] [lM] (·= .z (B9 k)):=by
 refine ab4 ?_
 simp only[rk,D.bV,aht,ahe,aic]
 unfold B9
 refine⟨fun h=>by rw[ag8 h],fun h1=>?_⟩
 rw[ag4 h1]
 refine⟨fun h=>by rw[ag8 h],fun h2=>?_⟩
 rw[ag4 h2]
 refine⟨fun h=>by rw[ag8 h],fun h3=>?_⟩
 rw[ag4 h3]
 refine⟨fun h=>by rw[ag8 h],fun h4=>?_⟩
 rw[ag4 h4]
 refine⟨fun h=>by rw[ag8 h],fun h5=>?_⟩
 rw[ag4 h5]
 refine⟨fun h=>by rw[ag8 h],fun h6=>?_⟩
 rw[ag4 h6]
 refine⟨fun h=>by rw[ag8 h],fun h7=>?_⟩
 rw[ag4 h7]
 refine⟨fun h=>by rw[ag8 h],fun h8=>?_⟩
 rw[ag4 h8]
 refine⟨fun h=>by rw[ag8 h],fun h9=>?_⟩
 rw[ag4 h9]
 refine⟨fun h=>by rw[ag8 h],fun h10=>?_⟩
 rw[ag4 h10]
 refine⟨fun h=>by rw[ag8 h],fun h11=>?_⟩
 rw[ag4 h11]
 exact⟨fun h=>by rw[ag8 h],fun h=>by rw[ag4 h]⟩
def aV.xd (t:aV):Nat->Int->Int->Option Int
 |0,_,_=>none
 |n+1,r,s=>
  match t.get r with
  |none=>some 0
  |some x=>if x.k=14 then aV.xd t n x.of (mP (mP 63 s) x.set)else if x.k=15\/x.k=16 then aV.xd t n x.of s else some (mP (mP 63 s) (B9 x.k))
section
variable {W:WS} {w:Wo} (hW:zC W w)
include hW
def RE (r a:Int)(n:Nat)(ha:w.th.xd n r 63=some a):PH lx (FO W r) (Wm W) 3 xb (fun d=>D.int d=a):=by
 have loop:∀(n:Nat) (r' s:Int),w.th.xd n r' s=some a->ay pg lx [lM] (.bx 3 (xb (FO W r) (Wm W)) (fun d=>D.int d=a)) (uU W r r' s):=by
  intro n
  induction n with
  |zero=>intro r' s h;simp[aV.xd]at h
  |succ n ih=>
   intro r' s h
   refine QC ?_
   simp only[rk,hW.th,aV.cS]
   refine⟨_,_,rfl,Co hW r',?_⟩
   intro d hd
   rw[hd]
   simp only[aV.xd]at h
   cases hg:w.th.get r' with
   |none=>simp[hg]at h;simp;exact⟨rfl,B3 h⟩
   |some x=>
    simp only[hg]at h
    simp[-exists_and_left,aV.val hg,YD]
    refine⟨fun hk=>?_,fun hk=>⟨fun h15=>?_,fun h15=>⟨fun h16=>?_,fun h16=>?_⟩⟩⟩
    ·rw[ag8 hk]at h;exact ih _ _ h
    ·rw[ag4 hk,ag8 (.inl h15)]at h;exact ih _ _ h
    ·rw[ag4 hk,ag8 (.inr h16)]at h;exact ih _ _ h
    ·rw[ag4 hk,ag4 (by simp[-exists_and_left,h15,h16])]at h
     refine⟨_,_,_,rfl,agr x.k,?_⟩
     rintro _ rfl
     exact⟨rfl,B3 (aju h)⟩
 exact YX (loop n r 63 ha)
omit hW in
def Tn (W:WS):oK W.th W.st W.ck (D.ct W.th) W.st W.ck=true:=by simp[oK]
def aV.Ah (t:aV)(r k o:Int):Bool:=t.any fun p=>decide (p.1≠r/\p.2.k=k/\p.2.of=o)
def aV.one (t:aV):Prop:=(t.map (·.1)).Nodup
omit hW in
def aV.jF {t:aV}(h1:t.one){r:Int}{x:Wh}:t.get r=some x↔(r,x)∈t:=by
 induction t with
 |nil=>simp[aV.get]
 |cons p q ih=>
  have h2:aV.one q:=(ahO.1 h1).2
  have h3:p.1∉q.map (·.1):=(ahO.1 h1).1
  simp only[aV.get,ag9]
  split
  ·rename_i h
   subst h
   constructor
   ·intro e;cases e;exact .inl rfl
   ·rintro(e|e)
    ·rw[<-e]
    ·exact absurd (ahp.2 ⟨_,e,rfl⟩) h3
  ·rename_i h
   rw[ih h2]
   exact⟨.inr,fun e=>by rcases e with e|e;exact absurd (by rw[<-e]) h;exact e⟩
omit hW in
def aV.ri {t:aV}{r:Int}:(t.get r).isSome=true↔r∈t.map (·.1):=by
 induction t with
 |nil=>simp[aV.get]
 |cons p q ih=>
  simp only[aV.get,ahJ,ag9]
  split
  ·rename_i h;simp[h]
  ·rename_i h;rw[ih];exact⟨.inr,fun e=>by rcases e with e|e;exact absurd e.symm h;exact e⟩
omit hW in
def mB {M:List Int->Prop}(ks:List Int)(h:∀l,(∀q∈l,q∈ks)->l.Nodup->(∀d∈ks,d∉l->M (d::l))->M l):M []:=by
 have key:∀(n:Nat) (l:List Int),(∀q∈l,q∈ks)->l.Nodup->(ks.filter (·∉l)).length<=n->M l:=by
  intro n
  induction n with
  |zero=>
   intro l h1 h2 h3
   refine h l h1 h2 fun d hd hn=>?_
   have:d∈ks.filter (·∉l):=by simp[hd,hn]
   have:=ajB this;omega
  |succ n ih=>
   intro l h1 h2 h3
   refine h l h1 h2 fun d hd hn=>ih _ (fun q hq=>by rcases ag9.1 hq with rfl|hq;exact hd;exact h1 q hq) (ahO.2 ⟨hn,h2⟩) ?_
   have hlt:(ks.filter (·∉d::l)).length<(ks.filter (·∉l)).length:=by
    have e:ks.filter (·∉d::l)=(ks.filter (·∉l)).filter (·≠d):=by
     rw[akA];congr 1;funext x;simp[and_comm]
    rw[e]
    exact List.length_filter_lt_length_iff_exists.2 ⟨d,by simp[hd,hn],by simp⟩
   omega
 exact key _ [] (by simp) (by simp) (aho _)
omit hW in
def PQ {d:D}{l:List Int}:d∈aw l↔∃n,d= .z n/\n∈l:=by simp[eq_comm,and_comm]
omit hW in
@[simp] def s6 {n:Int}{l:List Int}:D.z n∈aw l↔n∈l:=by simp
def yL {C:cm}{G:mR}{l:List Int}{e:RT}{k:D->RT}(h0:(∀p∈w.th,p.1∈l)->rk pg C G e)(hk:∀n∈w.th.map (·.1),n∉l->rk pg C G (k (.z n))):
 rk pg C G (.ite (oK W.th W.st W.ck (D.ct W.th) W.st W.ck) (.pick (D.ct W.th) (aw l) e k) .bG):=by
 refine⟨fun _=>⟨fun h=>h0 fun p hp=>?_,fun d hd hn=>?_⟩,fun h=>by rw[Tn]at h;cases h⟩
 ·have:=h (.z p.1) (by rw[hW.th,aV.ct,s6];exact ahp.2 ⟨p,hp,rfl⟩)
  rwa [s6]at this
 ·rw[hW.th,aV.ct]at hd
  obtain⟨n,rfl,hm⟩:=PQ.1 hd
  exact hk n hm fun h=>hn (s6.2 h)
def TY (h1:w.th.one)(r k o:Int):PH jU (wu W r k o) (Wm W) 3 sx (fun d=>D.bool d=w.th.Ah r k o):=by
 have loop:(∀p∈w.th,p.1∈([]:List Int)->¬(p.1≠r/\p.2.k=k/\p.2.of=o))->
  ay pg jU [ai] (.bx 3 (sx (wu W r k o) (Wm W)) (fun d=>D.bool d=w.th.Ah r k o)) (nW W r k o (aw [])):=by
  refine mB (M:=fun l=>(∀p∈w.th,p.1∈l->¬(p.1≠r/\p.2.k=k/\p.2.of=o))->ay pg jU [ai] (.bx 3 (sx (wu W r k o) (Wm W)) (fun d=>D.bool d=w.th.Ah r k o)) (nW W r k o (aw l))) (w.th.map (·.1)) fun l hl hn ih hno=>?_
  refine Ox (yL hW (fun hall=>?_) fun n hn1 hn2=>?_)
  ·refine⟨rfl,vP ?_⟩
   have:¬w.th.Ah r k o=true:=fun h=>by
    simp only[aV.Ah,ajm,agW]at h
    obtain⟨p,hp,h2⟩:=h
    exact hno p hp (hall p hp) h2
   simpa using this
  ·obtain⟨x,hx⟩:=ahw.1 (aV.ri.2 hn1)
   have hmem:=(aV.jF h1).1 hx
   have hnext:¬(n≠r/\x.k=k/\x.of=o)->ay pg jU [ai] (.bx 3 (sx (wu W r k o) (Wm W)) (fun d=>D.bool d=w.th.Ah r k o)) (nW W r k o (.z n::aw l)):=fun hc=>by
    have:=ih n hn1 hn2 fun p hp hpl=>by
     rcases ag9.1 hpl with e|hpl
     ·have hp2:w.th.get p.1=some p.2:=(aV.jF h1).2 hp
      rw[e,hx]at hp2;cases hp2
      rw[e];exact hc
     ·exact hno p hp hpl
    simpa using this
   simp only[rk,hW.th,aV.cS,hx,ahU,aV.val hx,D.bV,Wh.cU,Wh.di,aiI,aic,ahV,aht,ahe,ag0,ag1,ag3,ahf]
   refine⟨fun a=>⟨fun b=>⟨fun c=>?_,fun c=>hnext (by simp[c])⟩,fun b=>hnext (by simp[b])⟩,fun a=>hnext (by simp[a])⟩
   refine⟨rfl,vP ?_⟩
   symm
   simp only[aV.Ah,ajm,agW]
   exact⟨_,hmem,a,b,c⟩
 exact VR (loop (by simp))
end
end
section
section
variable {W:WS} {w:Wo} (hW:zC W w)
include hW
def xY:PH dG (Mn W) (Wm W) 3 nI (fun d=>D.int d=w.ma.length):=by
 refine VO ?_
 simp only[rk]
 exact⟨rfl,B3 (by rw[hW.ma];simp)⟩
def Xz (s:Int):PH zU (OZ W s) (Wm W) 3 Kb (fun d=>D.bool d=decide (0<=s/\s<w.ma.length)):=by
 refine Y6 ?_
 simp only[rk]
 refine⟨fun h=>⟨_,_,rfl,xY hW,?_⟩,fun h=>⟨rfl,vP ?_⟩⟩
 ·intro d hd
  rw[hd]
  refine⟨rfl,vP ?_⟩
  have h:0<=s:=by simpa using h
  simp[h]
 ·have h:¬0<=s:=by simpa using h
  simp[h]
def PC (l:List Int)(hl:l.length<2^63):PH cy (pG W (aw l)) (XA W) 4 eW
 (fun d=>decide (0<=D.int d)=!l.all fun r=>(w.th.get r).isSome):=by
 have loop:∀(ah:List Int) (i:Nat),l.drop i=ah->
  ay pg cy [af] (.bx 4 (eW (pG W (aw l)) (XA W)) (fun d=>decide (0<=D.int d)=!ah.all fun r=>(w.th.get r).isSome)) (kV W (aw l) i):=by
  intro ah
  induction ah with
  |nil=>
   intro i hd
   have:=drop_nil hd
   refine xC ?_
   simp only[rk,agV]
   refine⟨fun h=>by simp at h;omega,fun _=>⟨rfl,.z (-1),.ret,by simp⟩⟩
  |cons x ah ih=>
   intro i hd
   obtain⟨g1,g2,g3⟩:=aB hd
   refine xC ?_
   simp[-exists_and_left,g3,aU,bn (f:=D.z) g1,bo g3 hl]
   refine⟨_,_,rfl,Co hW x,?_⟩
   intro d hd2
   rw[hd2]
   cases hx:w.th.get x with
   |none=>simp;exact⟨rfl,.z i,.ret,by simp[hx]⟩
   |some y=>
    have e:=ih (i+1) g2
    simpa [hx]using e
 exact Jx (loop l 0 rfl)
def Kt (l:List Int)(hl:l.length<2^63):PH bM (wU W (aw l)) (XA W) 4 fl
 (fun d=>D.bool d=!l.all fun r=>(w.th.get r).isSome):=by
 refine Fx ?_
 simp only[rk,D.bE]
 refine⟨_,_,rfl,PC hW l hl,?_⟩
 intro d hd
 exact⟨rfl,vP hd⟩
def aV.CW (t:aV)(x:Wh):Bool:=(aE.bD x.aJ).all fun r=>(t.get r).isSome
def TX (x:Wh)(hx:x.ok)(hs:x.sz<2^30)(hm:∀v∈x.aJ,v.cN=true):PH sR (Mo W x.ax) (Wm W) 3 Dw (fun d=>D.bool d=w.th.CW x):=by
 have hrl:=aE.gj x.aJ
 have hs2:=hs
 simp only[Wh.sz]at hs2
 refine VQ ?_
 simp only[rk,D.bE]
 refine⟨_,_,rfl,TL x hx hs hm,?_⟩
 intro d hd
 rw[hd]
 refine⟨fun _=>⟨_,_,rfl,Kt hW (aE.bD x.aJ) (by omega),?_⟩,fun h=>by simp at h⟩
 intro d2 hd2
 rw[hd2]
 exact⟨rfl,vP (by simp[aV.CW])⟩
end
end
section
def oJ (l:List Int):Bool:=decide (l.length<16)&&(List.range l.length).all fun i=>decide (0<=l.getD i 0/\l.getD i 0<=i)
def qF (l:List Int):oJ l=true↔l.length<16/\∀(i:Nat) (x:Int),l[i]?=some x->0<=x/\x<=i:=by
 simp only[oJ,ag2,agW,ahG,ai2]
 constructor
 ·rintro⟨h1,h2⟩
  refine⟨h1,fun i x hx=>?_⟩
  obtain⟨hi,rfl⟩:=aha.1 hx
  have:=h2 i hi
  simpa [List.getD,hi]using this
 ·rintro⟨h1,h2⟩
  refine⟨h1,fun i hi=>?_⟩
  have:=h2 i l[i] (ag7 hi)
  simpa [List.getD,hi]using this
def adf (l:List Int)(hl:l.length<2^30):PH q7 (FR (aw l)) [] 0 AN (fun d=>D.bool d=oJ l):=by
 have no:¬oJ l=true->∃d,T.dy (BV.tuple [.nA,.int .i64 71],([]:List (Nat×aI))) (AN (FR (aw l)) [] d)/\D.bool d=oJ l:=fun h=>⟨.b false,.ff rfl .ret,by simpa using h⟩
 have loop:∀(ah:List Int) (i:Nat),l.length<16->l.drop i=ah->(∀(j:Nat) (x:Int),j<i->l[j]?=some x->0<=x/\x<=j)->
  ay pg q7 [b6,aM] (.bx 0 (AN (FR (aw l)) []) (fun d=>D.bool d=oJ l)) (Bf (aw l) i):=by
  intro ah
  induction ah with
  |nil=>
   intro i h16 hd hp
   have hi:=drop_nil hd
   have hok:oJ l=true:=(qF l).2 ⟨h16,fun j x hj=>hp j x (by have:=(aha.1 hj).1;omega) hj⟩
   refine Lc ?_
   rw[bO (x:=((aw l).length:Int)+1) (by simp;omega) (by simp;omega)]
   simp only[rk,agV,D.bE]
   refine⟨fun h=>by simp at h;omega,fun _=>⟨fun _=>⟨fun _=>?_,fun h=>by simp[rZ]at h;omega⟩,fun h=>by simp[rZ]at h;omega⟩⟩
   refine⟨_,_,rfl,Kq (aw l) (by simp;omega),?_⟩
   intro d hd2
   rw[hd2]
   refine⟨fun _=>⟨rfl,.b true,.tt rfl ?_,hok.symm⟩,fun h=>by simp at h⟩
   have e:((l.length:Int)+1).toNat=(aw l).length+1:=by simp
   rw[e]
   exact .ret
  |cons x ah ih=>
   intro i h16 hd hp
   obtain⟨g1,g2,g3⟩:=aB hd
   refine Lc ?_
   simp[g3,aU,bn (f:=D.z) g1,bo g3 (n:=l.length) (by omega)]
   refine⟨fun h=>⟨rfl,no fun a=>by have:=((qF l).1 a).2 i x g1;omega⟩,fun h=>⟨fun h2=>⟨rfl,no fun a=>by have:=((qF l).1 a).2 i x g1;omega⟩,fun h2=>?_⟩⟩
   refine ih (i+1) h16 g2 fun j y hj hy=>?_
   by_cases e:j=i
   ·subst e;rw[g1]at hy;cases hy;omega
   ·exact hp j y (by omega) hy
 refine ab3 ?_
 simp only[rk,agV]
 refine⟨fun h=>⟨rfl,no fun a=>by have:=((qF l).1 a).1;simp at h;omega⟩,fun h=>loop l 0 (by simp at h;omega) rfl (by intros;omega)⟩
section
variable {W:WS} {w:Wo} (hW:zC W w)
include hW
def UW (n:Int)(hc:w.cu.length=w.ma.length):PH qz (Cc W n) (Wm W) 3 xV
 (fun d=>(d.aa 0).int=(if 0<n/\n<w.ma.length then 0 else 2)/\(d.aa 1).ae=(if 0<n/\n<w.ma.length then w.cu.set n.toNat true else w.cu).map D.b):=by
 have Fs:¬(0<n/\n<w.ma.length)->∃d,T.dy (BV.int .i64 2,Wm W) (xV (Cc W n) (Wm W) d)/\((d.aa 0).int=(if 0<n/\n<w.ma.length then 0 else 2)/\(d.aa 1).ae=(if 0<n/\n<w.ma.length then w.cu.set n.toNat true else w.cu).map D.b):=fun h=>by
  refine⟨.r [.z 2,.r W.cu],.ret,?_⟩
  rw[ag4 h,ag4 h]
  exact⟨rfl,hW.cu⟩
 refine P6 ?_
 simp only[rk]
 refine⟨fun h=>⟨_,_,rfl,xY hW,?_⟩,fun h=>⟨rfl,Fs fun a=>by simp at h;omega⟩⟩
 intro d hd
 rw[hd]
 have h:0<n:=by simpa using h
 refine⟨fun h2=>⟨rfl,Fs fun a=>by simp at h2;omega⟩,fun h2=>?_⟩
 have h2:n<w.ma.length:=by simpa using h2
 have hcl:W.cu.length=w.ma.length:=by rw[hW.cu];simp[hc]
 refine⟨fun _=>⟨fun _=>⟨rfl,.r [.z 0,.r (W.cu.set n.toNat (.b true))],?_,?_⟩,fun h3=>by simp[hcl]at h3;omega⟩,fun h3=>by simp[cP,hcl]at h3;omega⟩
 ·exact .ret
 ·rw[ag8 ⟨h,h2⟩,ag8 ⟨h,h2⟩]
  refine⟨rfl,?_⟩
  show W.cu.set n.toNat (.b true)=_
  rw[hW.cu]
  simp[akH]
end
end
end Go.Proofs
end
