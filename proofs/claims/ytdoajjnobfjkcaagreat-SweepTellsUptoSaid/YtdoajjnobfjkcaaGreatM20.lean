import Derived.Test.YtdoajjnobfjkcaaGreatM19
set_option linter.all false
noncomputable section
open Go.IntKind renaming wrap→wp
namespace Go.Proofs
open Go Go.PB
section
def Wh.Na (x:Wh):Bool:=sC x.k||decide (x.k=13/\x.of≠0)
def aV.yH (t:aV)(r:Int)(x:Wh):Bool:=t.all fun p=>decide (p.1=r\/p.2.k≠14\/p.2.of≠x.of\/p.2.set≠x.set)
def aV.vC (t:aV)(r:Int)(x:Wh)(a:Int):Bool:=
 if x.k=6 then decide (t.kind x.of=5/\(t.at x.of).h=x.h)&&!t.qe r 6 x.of false
 else if x.k=7 then decide (t.kind x.of=5/\(t.at x.of).h=x.h)
 else if x.k=9 then decide (t.kind x.of=8/\(t.at x.of).h=x.h)
 else if x.k=11 then decide (t.kind x.of=10/\(t.at x.of).h=x.h)&&!t.qe r 11 x.of false
 else if x.k=13 then decide (x.of=0\/t.kind x.of=15/\(t.at x.of).km=r)
 else if x.k=15 then decide (t.kind x.km=13/\(t.at x.km).h=x.h)&&(!t.qe r 15 x.km true&&decide (r=0\/(t.at x.km).of=r))
 else if x.k=16 then decide (t.kind x.km=3/\(t.at x.km).h=x.h)
 else if x.k=14 then decide (t.kind x.of≠14/\js x.set a=0/\x.set≠a)&&t.yH r x
 else true
def aV.kL (t:aV)(r:Int)(x:Wh)(a:Int):Int:=
 if (aE.bD x.aJ).any (fun q=>decide (t.kind q=0))then 5
 else if (x.Na&&(t.get x.of).isNone)||(qS x.k&&(t.get x.km).isNone)then 5
 else if t.vC r x a then 0 else 70
section
variable {R:RS} {w:Wo} (hR:Fe R w) (hn:w.th.length<2^62)
include hR hn
def Xr (ht:w.th.ok)(r:Int)(x:Wh)(a:Int)(hx:x.ok)(hs:x.sz<2^30)(hm:∀v∈x.aJ,v.cN=true)(hk:1<=x.k/\x.k<=16)(ha:x.k=14->∃n,w.th.oD n x.of=some a):
 PH eI (jt R r x.ax) (Rm R) 1 hU (fun d=>D.int d=w.th.kL r x a):=by
 have hrl:=aE.gj x.aJ
 have hs2:=hs
 simp only[Wh.sz]at hs2
 have res:∀v,v=w.th.kL r x a->gn.bx=some 1/\∃d,T.dy (BV.int .i64 v,Rm R) (hU (jt R r x.ax) (Rm R) d)/\D.int d=w.th.kL r x a:=fun v hv=>⟨rfl,B3 hv⟩
 have loop2:x.k=14->((aE.bD x.aJ).any (fun q=>decide (w.th.kind q=0))=false)->(w.th.get x.of).isSome=true->∀(ah:aV) (i:Nat) (b:Bool),w.th.drop i=ah->(b&&ah.yH r x)=w.th.vC r x a->
  ay pg eI [aM] (.bx 1 (hU (jt R r x.ax) (Rm R)) (fun d=>D.int d=w.th.kL r x a)) (dw R r x.ax b i):=by
  intro Ez hrefs hof ah
  have hE:w.th.kL r x a=if w.th.vC r x a then 0 else 70:=by
   have e1:(w.th.get x.of).isNone=false:=by simpa [Option.isNone_eq_false_iff]using hof
   simp[aV.kL,hrefs,e1,qS,Ez]
  induction ah with
  |nil=>
   intro i b hd hb
   have:=drop_nil hd
   refine rO ?_
   simp only[rk,hR.th,aV.va]
   refine⟨fun h=>by simp at h;omega,fun _=>⟨fun h=>res _ ?_,fun h=>res _ ?_⟩⟩
   ·rw[hE,<-hb];simp at h;simp[h]
   ·rw[hE,<-hb];simp at h;simp[h,aV.yH]
  |cons p ah ih=>
   intro i b hd hb
   obtain⟨g1,g2,g3⟩:=aB hd
   have hp:=ht p (agY g1)
   have e1:D.aa (.r [.z p.1,p.2.ax]) 0= .z p.1:=rfl
   have e2:D.aa (.r [.z p.1,p.2.ax]) 1=p.2.ax:=rfl
   refine rO ?_
   simp only[rk,hR.th,aV.va,ag6,yS g1,aU g3,bo g3 (n:=w.th.length) (by omega),e1,e2,D.bV,Wh.cU,Wh.di,Wh.i7,hp.wk,aiI,ahV,aht,ahe,aic]
   have hnf:aV.yH (p::ah) r x=(decide (p.1=r\/p.2.k≠14\/p.2.of≠x.of\/p.2.set≠x.set)&&aV.yH ah r x):=rfl
   rw[hnf]at hb
   refine⟨fun _=>⟨fun hb1=>⟨fun _=>⟨fun _=>⟨fun c1=>ih (i+1) true g2 ?_,fun c1=>⟨fun c2=>ih (i+1) true g2 ?_,fun c2=>⟨fun c3=>ih (i+1) true g2 ?_,fun c3=>ih (i+1) _ g2 ?_⟩⟩⟩,fun h=>by simp at h;omega⟩,fun h=>by simp at h⟩,fun hb1=>res _ ?_⟩,fun h=>by simp at h;omega⟩
   ·rw[<-hb,hb1];simp[c1]
   ·rw[<-hb,hb1];simp[c2]
   ·rw[<-hb,hb1];simp[c3]
   ·rw[<-hb,hb1];by_cases c4:p.2.set=x.set<;>simp[c1,c2,c3,c4]
   ·rw[hE,<-hb];simp[hb1]
 have hkk:(x.k=1\/x.k=2\/x.k=3\/x.k=4\/x.k=5\/x.k=8\/x.k=10\/x.k=12)\/x.k=6\/x.k=7\/x.k=9\/x.k=11\/x.k=13\/x.k=14\/x.k=15\/x.k=16:=by omega
 have tail:((aE.bD x.aJ).any (fun q=>decide (w.th.kind q=0))=false)->((x.Na&&(w.th.get x.of).isNone)||(qS x.k&&(w.th.get x.km).isNone))=false->
  ay pg eI [aM] (.bx 1 (hU (jt R r x.ax) (Rm R)) (fun d=>D.int d=w.th.kL r x a)) (vm R r x.ax (w.th.at x.of).ax (w.th.at x.km).ax):=by
  intro hrefs hw
  have hE:w.th.kL r x a=if w.th.vC r x a then 0 else 70:=by simp only[aV.kL,hrefs,hw];simp
  have wkk:∀q,IntKind.i64.wrap (w.th.kind q)=w.th.kind q:=fun q=>by rw[aV.N3];exact(ht.at q).wk
  refine Jz ?_
  simp only[rk,wkk,Wh.cU,Wh.mH,Wh.di,Wh.gg,Wh.i7,hx.wk,(ht.at x.of).wk,(ht.at x.km).wk,Jn,<-aV.N3]
  rcases hkk with hk|hk|hk|hk|hk|hk|hk|hk|hk
  ·have n6:¬x.k=6:=by omega
   have n7:¬x.k=7:=by omega
   have n9:¬x.k=9:=by omega
   have n11:¬x.k=11:=by omega
   have n13:¬x.k=13:=by omega
   have n14:¬x.k=14:=by omega
   have n15:¬x.k=15:=by omega
   have n16:¬x.k=16:=by omega
   simp[n6,n7,n9,n11,n13,n14,n15,n16]
   exact res _ (by rw[hE];simp[aV.vC,n6,n7,n9,n11,n13,n14,n15,n16])
  ·simp[-exists_and_left,hk]
   refine⟨fun h5=>⟨fun h6=>⟨_,_,rfl,Ka hR hn ht r 6 x.of false,?_⟩,fun h6=>res _ ?_⟩,fun h5=>res _ ?_⟩
   ·intro d hd
    rw[hd]
    exact⟨fun h7=>res _ (by rw[hE];simp[aV.vC,hk,h5,h6,h7]),fun h7=>res _ (by rw[hE];simp[aV.vC,hk,h5,h6,h7])⟩
   ·rw[hE];simp[aV.vC,hk,h5,h6]
   ·rw[hE];simp[aV.vC,hk,h5]
  ·simp[hk]
   exact⟨fun h5=>⟨fun h6=>res _ (by rw[hE];simp[aV.vC,hk,h5,h6]),fun h6=>res _ (by rw[hE];simp[aV.vC,hk,h5,h6])⟩,fun h5=>res _ (by rw[hE];simp[aV.vC,hk,h5])⟩
  ·simp[hk]
   exact⟨fun h5=>⟨fun h6=>res _ (by rw[hE];simp[aV.vC,hk,h5,h6]),fun h6=>res _ (by rw[hE];simp[aV.vC,hk,h5,h6])⟩,fun h5=>res _ (by rw[hE];simp[aV.vC,hk,h5])⟩
  ·simp[-exists_and_left,hk]
   refine⟨fun h5=>⟨fun h6=>⟨_,_,rfl,Ka hR hn ht r 11 x.of false,?_⟩,fun h6=>res _ ?_⟩,fun h5=>res _ ?_⟩
   ·intro d hd
    rw[hd]
    exact⟨fun h7=>res _ (by rw[hE];simp[aV.vC,hk,h5,h6,h7]),fun h7=>res _ (by rw[hE];simp[aV.vC,hk,h5,h6,h7])⟩
   ·rw[hE];simp[aV.vC,hk,h5,h6]
   ·rw[hE];simp[aV.vC,hk,h5]
  ·simp[hk]
   exact⟨fun h0=>res _ (by rw[hE];simp[aV.vC,hk,h0]),fun h0=>⟨fun h5=>⟨fun h6=>res _ (by rw[hE];simp[aV.vC,hk,h0,h5,h6]),fun h6=>res _ (by rw[hE];simp[aV.vC,hk,h0,h5,h6])⟩,fun h5=>res _ (by rw[hE];simp[aV.vC,hk,h0,h5])⟩⟩
  ·obtain⟨m,hm2⟩:=ha hk
   have hof:(w.th.get x.of).isSome=true:=by
    simp only[Wh.Na,sC,dR,hk]at hw
    cases h:w.th.get x.of with
    |none=>rw[h]at hw;simp at hw
    |some y=>rfl
   have l2:=loop2 hk hrefs hof
   simp[-exists_and_left,hk]
   refine⟨_,_,rfl,TU hR hn ht m x.of a hm2,?_⟩
   intro d hd
   rw[hd]
   refine⟨fun h5=>⟨fun h6=>l2 _ 0 _ rfl ?_,fun h6=>l2 _ 0 _ rfl ?_⟩,fun h5=>l2 _ 0 _ rfl ?_⟩
   ·by_cases e:x.set=a<;>simp[aV.vC,hk,h5,h6,e]
   ·simp[aV.vC,hk,h5,h6]
   ·simp[aV.vC,hk,h5]
  ·simp[-exists_and_left,hk]
   refine⟨fun h5=>⟨fun h6=>⟨_,_,rfl,Ka hR hn ht r 15 x.km true,?_⟩,fun h6=>res _ ?_⟩,fun h5=>res _ ?_⟩
   ·intro d hd
    rw[hd]
    exact⟨fun h7=>⟨fun h0=>res _ (by rw[hE];subst h0;simp[aV.vC,hk,h5,h6,h7]),fun h0=>⟨fun h8=>res _ (by rw[hE];simp[aV.vC,hk,h5,h6,h7,h0,h8]),fun h8=>res _ (by rw[hE];simp[aV.vC,hk,h5,h6,h7,h0,h8])⟩⟩,fun h7=>res _ (by rw[hE];simp[aV.vC,hk,h5,h6,h7])⟩
   ·rw[hE];simp[aV.vC,hk,h5,h6]
   ·rw[hE];simp[aV.vC,hk,h5]
  ·simp[hk]
   exact⟨fun h5=>⟨fun h6=>res _ (by rw[hE];simp[aV.vC,hk,h5,h6]),fun h6=>res _ (by rw[hE];simp[aV.vC,hk,h5,h6])⟩,fun h5=>res _ (by rw[hE];simp[aV.vC,hk,h5])⟩
 have loop:∀(ah:List Int) (i:Nat),(aE.bD x.aJ).drop i=ah->((aE.bD x.aJ).any (fun q=>decide (w.th.kind q=0))=ah.any (fun q=>decide (w.th.kind q=0)))->
  ay pg eI [aM] (.bx 1 (hU (jt R r x.ax) (Rm R)) (fun d=>D.int d=w.th.kL r x a)) (tm R r x.ax (aE.bD x.aJ).length (aw (aE.bD x.aJ)) i):=by
  intro ah
  induction ah with
  |nil=>
   intro i hd hrefs
   have hi:=drop_nil hd
   refine EH ?_
   simp only[List.any_nil]at hrefs
   simp only[rk,agV]
   refine⟨fun h=>by simp at h;omega,fun _=>?_⟩
   simp only[Wh.cU,Wh.di,Wh.gg,hx.wk]
   refine⟨_,_,rfl,FZ hR hn x.of,?_⟩
   rintro d1 ⟨h1,h2⟩
   refine⟨_,_,rfl,FZ hR hn x.km,?_⟩
   rintro d2 ⟨h3,h4⟩
   rw[h1,h2,h3,h4]
   have r5:((x.Na&&(w.th.get x.of).isNone)||(qS x.k&&(w.th.get x.km).isNone))=true->gn.bx=some 1/\∃d,T.dy (BV.int .i64 5,Rm R) (hU (jt R r x.ax) (Rm R) d)/\D.int d=w.th.kL r x a:=fun h=>res _ (by simp only[aV.kL,hrefs,h];simp)
   have tl:=tail hrefs
   have iso:∀o:Option Wh,o.isNone=!o.isSome:=fun o=>by cases o<;>rfl
   simp only[iso,Wh.Na,sC,qS]at r5 tl
   rcases hkk with hk|hk|hk|hk|hk|hk|hk|hk|hk
   ·have n6:¬x.k=6:=by omega
    have n7:¬x.k=7:=by omega
    have n9:¬x.k=9:=by omega
    have n11:¬x.k=11:=by omega
    have n13:¬x.k=13:=by omega
    have n14:¬x.k=14:=by omega
    have n15:¬x.k=15:=by omega
    have n16:¬x.k=16:=by omega
    simp[-exists_and_left,dR,n6,n7,n9,n11,n13,n14,n15,n16]at r5 tl ⊢
    refine⟨_,_,_,rfl,qf x.k,?_⟩
    rintro _ rfl
    have e1:dR x.k=false:=by simp[dR,n14,n15,n16]
    simp[e1]
    exact tl
   ·simp[hk]at r5 tl ⊢
    exact⟨r5,tl⟩
   ·simp[hk]at r5 tl ⊢
    exact⟨r5,tl⟩
   ·simp[hk]at r5 tl ⊢
    exact⟨r5,tl⟩
   ·simp[hk]at r5 tl ⊢
    exact⟨r5,tl⟩
   ·simp[-exists_and_left,dR,hk]at r5 tl ⊢
    refine⟨_,_,_,rfl,qf 13,?_⟩
    rintro _ rfl
    simp[dR]
    refine⟨fun h0=>⟨fun h=>r5 h0 h,fun h=>tl fun _=>h⟩,fun h0=>tl fun h=>absurd h0 h⟩
   ·simp[-exists_and_left,dR,hk]at r5 tl ⊢
    refine⟨_,_,_,rfl,qf 14,?_⟩
    rintro _ rfl
    simp[dR]
    exact⟨r5,tl⟩
   ·simp[-exists_and_left,dR,hk]at r5 tl ⊢
    refine⟨_,_,_,rfl,qf 15,?_⟩
    rintro _ rfl
    simp[dR]
    exact⟨fun h=>r5 (.inl h),fun h=>⟨fun h2=>r5 (.inr h2),fun h2=>tl h h2⟩⟩
   ·simp[-exists_and_left,dR,hk]at r5 tl ⊢
    refine⟨_,_,_,rfl,qf 16,?_⟩
    rintro _ rfl
    simp[dR]
    exact⟨fun h=>r5 (.inl h),fun h=>⟨fun h2=>r5 (.inr h2),fun h2=>tl h h2⟩⟩
  |cons q ah ih=>
   intro i hd hrefs
   obtain⟨g1,g2,g3⟩:=aB hd
   refine EH ?_
   simp only[rk,agV,ag6,bn (f:=D.z) g1,aU g3,bo g3 (n:=(aE.bD x.aJ).length) (by omega),D.bV]
   refine⟨fun _=>⟨fun _=>⟨fun _=>⟨_,_,rfl,Nj hR hn ht q,?_⟩,fun h=>by simp at h;omega⟩,fun h=>by simp at h⟩,fun h=>by simp at h;omega⟩
   intro d hd2
   rw[hd2]
   refine⟨fun h=>res _ ?_,fun h=>ih (i+1) g2 ?_⟩
   ·have h:w.th.kind q=0:=by simpa using h
    simp[aV.kL,hrefs,h]
   ·have h:¬w.th.kind q=0:=by simpa using h
    rw[hrefs];simp[h]
 refine SG ?_
 simp only[rk,Wh.re]
 refine⟨_,_,rfl,JZ x hx hs hm,?_⟩
 intro d hd
 rw[hd,agV]
 exact loop _ 0 rfl rfl
end
end
section
def aV.iB (t:aV):Nat->Int->List Int
 |0,_=>[]
 |n+1,r=>match t.get r with|none=>[]|some x=>r::(if dR x.k then aV.iB t n x.of else [])
def aV.Rp (t:aV):∀(n:Nat) (r:Int),(t.iB n r).length<=n:=by
 intro n
 induction n with
 |zero=>intro r;simp[aV.iB]
 |succ n ih=>
  intro r
  simp only[aV.iB]
  cases t.get r with
  |none=>simp
  |some x=>
   simp only[ahv]
   split
   ·have:=ih x.of;omega
   ·simp
def abC:∀a:Nat,a<64->0<a->(IntKind.u8.wrap ((BitVec.ofInt 8 (a:Int) &&& BitVec.ofInt 8 (IntKind.u8.wrap ((a:Int)-1))).toNat:Int)).toNat<a/\0<=IntKind.u8.wrap ((BitVec.ofInt 8 (a:Int) &&& BitVec.ofInt 8 (IntKind.u8.wrap ((a:Int)-1))).toNat:Int)/\
 K5 (IntKind.u8.wrap ((BitVec.ofInt 8 (a:Int) &&& BitVec.ofInt 8 (IntKind.u8.wrap ((a:Int)-1))).toNat:Int)).toNat+1=K5 a:=by decide+kernel
section
variable {R:RS} {w:Wo} (hR:Fe R w)
include hR
def adi (ht:w.th.ok)(hn:w.th.length<2^40)(r:Int):PH uf (Cb R r) (Rm R) 1 zv (fun d=>D.ae d=aw (w.th.iB (w.th.length+1) r)):=by
 have hlen:=aV.Rp w.th (w.th.length+1) r
 have leaf:∀l:List Int,l=w.th.iB (w.th.length+1) r->xe.bx=some 1/\∃d,T.dy (BV.aZ 1 l.length true,[(0,aI.cells [.aZ 2 R.pa.length true,.aZ 3 R.cu.length true,.aZ 4 R.th.length true,.int .i64 R.la,.aZ 5 R.ma.length true] bd false),(1,.ak aA (aw l) true),(2,.ak af R.pa true),(3,.ak ai R.cu true),(4,.ak bF R.th true),(5,.ak af R.ma true)]) (zv (Cb R r) (Rm R) d)/\D.ae d=aw (w.th.iB (w.th.length+1) r):=by
  rintro l rfl
  refine⟨rfl,.r (aw _),?_,rfl⟩
  rw[show ∀l:List Int,l.length=(aw l).length from fun l=>by simp]
  exact .ret
 have hL:R.th.length=w.th.length:=by rw[hR.th];simp
 have loop:∀(m k:Nat) (q:Int) (pre:List Int),m+k=w.th.length+1->pre++w.th.iB m q=w.th.iB (w.th.length+1) r->
  ay pg uf [aW] (.bx 1 (zv (Cb R r) (Rm R)) (fun d=>D.ae d=aw (w.th.iB (w.th.length+1) r))) (yy R r q pre.length k (aw pre)):=by
  intro m
  induction m with
  |zero=>
   intro k q pre hk hp
   refine I5 ?_
   simp only[rk,agW,agX]
   exact⟨fun h=>by omega,fun _=>leaf pre (by simpa [aV.iB]using hp)⟩
  |succ m ih=>
   intro k q pre hk hp
   have hpl:=ahE List.length hp
   simp only[ahc]at hpl
   refine I5 ?_
   simp only[rk,agW,agX]
   refine⟨fun _=>⟨_,_,rfl,FZ hR (by omega) q,?_⟩,fun h=>by omega⟩
   rintro d ⟨h1,h2⟩
   rw[h1,h2]
   cases hg:w.th.get q with
   |none=>exact⟨fun _=>leaf pre (by simpa [aV.iB,hg]using hp),fun h=>by simp at h⟩
   |some x=>
    have hat:w.th.at q=x:=by simp[aV.at,hg]
    have hx:x.ok:=by have:=ht.at q;rwa [hat]at this
    rw[hat]
    simp only[Wh.cU,Wh.di,hx.wk,ahU,aip,agZ,ag1,ag3,ahk]
    have hw1:w.th.iB (m+1) q=q::(if dR x.k then w.th.iB m x.of else []):=by simp only[aV.iB,hg]
    rw[hw1]at hp hpl
    simp only[ahv]at hpl
    refine⟨fun _=>⟨_,_,_,rfl,qf x.k,?_⟩,fun h=>by simp[aO]at h;omega⟩
    rintro _ rfl
    simp only[D.bz,ahl,ahq]
    refine⟨fun hw=>?_,fun hw=>?_⟩
    ·rw[hw]at hp
     have:=leaf (pre++[q]) (by simpa using hp)
     simpa using this
    ·rw[ag8 hw]at hp
     have e:=ih (k+1) x.of (pre++[q]) (by omega) (by simpa using hp)
     rw[bO (by omega) (by omega)]
     simpa using e
 exact YW (loop (w.th.length+1) 0 r [] rfl rfl)
def Xs (ht:w.th.ok)(h1:w.th.one)(hn:w.th.length<2^40)(ab:Int->Int)(hab:∀r x,w.th.get r=some x->x.k≠14->(∃n,w.th.oD n r=some (ab r))/\0<=ab r/\ab r<64):
 PH gr (p8 R) (Rm R) 1 mT (fun d=>D.int d=eT (w.th.pE ab) (w.th.map (·.1))):=by
 have hL:R.th.length=w.th.length:=by rw[hR.th];simp
 have loop:∀(ah:aV) (i:Nat) (s:Int),w.th.drop i=ah->s+eT (w.th.pE ab) (ah.map (·.1))=eT (w.th.pE ab) (w.th.map (·.1))->-(i:Int)<=s->s<=63*i->
  ay pg gr [af] (.bx 1 (mT (p8 R) (Rm R)) (fun d=>D.int d=eT (w.th.pE ab) (w.th.map (·.1)))) (pt R s i):=by
  intro ah
  induction ah with
  |nil=>
   intro i s hd hs b1 b2
   have:=drop_nil hd
   refine EJ ?_
   simp only[rk,hL]
   exact⟨fun h=>by simp at h;omega,fun _=>⟨rfl,B3 (by simpa [eT]using hs)⟩⟩
  |cons p ah ih=>
   intro i s hd hs b1 b2
   obtain⟨g1,g2,g3⟩:=aB hd
   have hmem:=agY g1
   have hp:=ht p hmem
   have hget:w.th.get p.1=some p.2:=(aV.jF h1).2 hmem
   have hs2:eT (w.th.pE ab) ((p::ah).map (·.1))=w.th.pE ab p.1+eT (w.th.pE ab) (ah.map (·.1)):=rfl
   rw[hs2]at hs
   have hmb:=SE w.th ab p.1
   have hv:w.th.pE ab p.1=if p.2.k=14 then-1 else 2^K5 (ab p.1).toNat-1:=by simp only[aV.pE,hget]
   have e1:D.aa (.r [.z p.1,p.2.ax]) 0= .z p.1:=rfl
   have e2:D.aa (.r [.z p.1,p.2.ax]) 1=p.2.ax:=rfl
   refine EJ ?_
   have hat:D.at R.th i= .r [.z p.1,p.2.ax]:=by rw[hR.th];exact yS g1
   simp only[rk,hL,ag6,hat,aU g3,e1,e2,D.bV,Wh.cU,hp.wk,aht,ahe,aic]
   refine⟨fun _=>⟨fun _=>⟨fun _=>⟨fun hk=>?_,fun hk=>?_⟩,fun h=>by simp at h;omega⟩,fun h=>by simp at h⟩,fun h=>by simp at h;omega⟩
   ·rw[ag8 hk]at hv
    rw[bO (x:=s-1) (by omega) (by omega),bo g3 (n:=w.th.length) (by omega)]
    exact ih (i+1) (s-1) g2 (by omega) (by omega) (by omega)
   ·rw[ag4 hk]at hv
    obtain⟨⟨m,hm⟩,a0,a1⟩:=hab p.1 p.2 hget hk
    refine⟨_,_,rfl,TU hR (by omega) ht m p.1 (ab p.1) hm,?_⟩
    ·intro d hd2
     rw[hd2]
     have inner:∀(a:Nat),a<64->∀(j:Nat),2^j*2^K5 a=2^K5 (ab p.1).toNat->j+K5 a<=6->ay pg gr [af] (.bx 1 (mT (p8 R) (Rm R)) (fun d=>D.int d=eT (w.th.pE ab) (w.th.map (·.1)))) (nU R a s i ((2^j:Nat):Int)):=by
      intro a
      induction a using Nat.strongRecOn with
      |_ a iha=>
       intro ha j hj hj6
       have hpw:∀j,j<=6->(2^j:Nat)<=64:=fun j hj=>by
        have:j=0\/j=1\/j=2\/j=3\/j=4\/j=5\/j=6:=by omega
        rcases this with rfl|rfl|rfl|rfl|rfl|rfl|rfl<;>decide
       have hj64:=hpw j (by omega)
       have hjI:((2^j:Nat):Int)<=64:=by exact_mod_cast hj64
       have hj0:0<=((2^j:Nat):Int):=Int.natCast_nonneg _
       refine It ?_
       simp only[rk,agW,agX]
       refine⟨fun h=>?_,fun h=>?_⟩
       ·obtain⟨l1,l2,l3⟩:=abC a ha (by omega)
        generalize IntKind.u8.wrap ((BitVec.ofInt 8 (a:Int) &&& BitVec.ofInt 8 (IntKind.u8.wrap ((a:Int)-1))).toNat:Int)=b at l1 l2 l3 ⊢
        have hb:b=(b.toNat:Int):=by omega
        have e:=iha b.toNat l1 (by omega) (j+1) (by rw[<-hj,<-l3,akK,akK];grind) (by omega)
        rw[bO (x:=2*((2^j:Nat):Int)) (by omega) (by omega)]
        have e5:(2*((2^j:Nat):Int))=((2^(j+1):Nat):Int):=by rw[akK];omega
        rw[e5,hb]
        exact e
       ·have h0:a=0:=by omega
        subst h0
        have e6:2^j=2^K5 (ab p.1).toNat:=by simpa [K5]using hj
        rw[e6]at hj64 ⊢
        have e7:(((2^K5 (ab p.1).toNat:Nat):Int))=2^K5 (ab p.1).toNat:=by simp
        rw[bO (x:=s+_) (by omega) (by omega),bO (by omega) (by omega),bo g3 (n:=w.th.length) (by omega)]
        exact ih (i+1) _ g2 (by omega) (by omega) (by omega)
     have e:=inner (ab p.1).toNat (by omega) 0 (by simp) (by have:=Tb (ab p.1).toNat;omega)
     have e8:((ab p.1).toNat:Int)=ab p.1:=by omega
     rw[e8]at e
     exact e
 exact SI (loop w.th 0 0 rfl (by simp) (by omega) (by omega))
end
end
section
inductive aV.iU (t:aV):Nat->Int->Prop where
 |az {r:Int} {x:Wh} (h:t.get r=some x) (hw:dR x.k=false):aV.iU t 0 r
 |step {n:Nat} {r:Int} {x:Wh} (h:t.get r=some x) (hw:dR x.k=true) (he:aV.iU t n x.of):aV.iU t (n+1) r
def aV.iU.agP {t:aV}:∀{n m:Nat} {r:Int},t.iU n r->t.iU m r->n=m:=by
 intro n
 induction n with
 |zero=>
  intro m r h1 h2
  cases h1 with
  |az e w1=>
   cases h2 with
   |az=>rfl
   |step e2 w2=>rw[e]at e2;cases e2;rw[w1]at w2;cases w2
 |succ n ih=>
  intro m r h1 h2
  cases h1 with
  |step e w1 he=>
   cases h2 with
   |az e2 w2=>rw[e]at e2;cases e2;rw[w1]at w2;cases w2
   |step e2 w2 he2=>rw[e]at e2;cases e2;rw[ih he he2]
def aV.iU.chain {t:aV}{n:Nat}{r:Int}(h:t.iU n r):t.chain n r=true:=by
 induction h with
 |az e w=>simp[aV.chain,e,w]
 |step e w _ ih=>simp[aV.chain,e,w,ih]
def aV.Kp {t:aV}:∀{n:Nat} {r:Int},t.chain n r=true->∃m,m<=n/\t.iU m r:=by
 intro n
 induction n with
 |zero=>
  intro r h
  simp only[aV.chain]at h
  cases hg:t.get r with
  |none=>rw[hg]at h;cases h
  |some x=>simp only[hg]at h;exact⟨0,by omega,.az hg (by simpa using h)⟩
 |succ n ih=>
  intro r h
  simp only[aV.chain]at h
  cases hg:t.get r with
  |none=>rw[hg]at h;cases h
  |some x=>
   simp only[hg]at h
   by_cases hw:dR x.k=true
   ·rw[ag8 hw]at h
    obtain⟨m,h1,h2⟩:=ih h
    exact⟨m+1,by omega,.step hg hw h2⟩
   ·exact⟨0,by omega,.az hg (by simpa using hw)⟩
def aV.Nb (t:aV)(r:Int):Prop:=(t.iB (t.length+1) r).length<=t.length/\∃q x,(t.iB (t.length+1) r).getLast?=some q/\t.get q=some x/\dR x.k=false
def aV.iU.way {t:aV}:∀{n:Nat} {r:Int},t.iU n r->∀k,n<k->(t.iB k r).length=n+1/\(t.iB k r).Nodup/\(∀q∈t.iB k r,q∈t.map (·.1)/\∃j,j<=n/\t.iU j q)/\∃q x,(t.iB k r).getLast?=some q/\t.get q=some x/\dR x.k=false:=by
 intro n
 induction n with
 |zero=>
  intro r h k hk
  cases h with
  |az e w=>
   cases k with
   |zero=>omega
   |succ k=>
    have e1:t.iB (k+1) r=[r]:=by simp[aV.iB,e,w]
    rw[e1]
    exact⟨rfl,by simp,fun q hq=>by simp at hq;subst hq;exact⟨aV.ri.1 (by simp[e]),0,aho _,.az e w⟩,r,_,rfl,e,w⟩
 |succ n ih=>
  intro r h k hk
  have h0:=h
  cases h with
  |step e w he=>
   rename_i x
   cases k with
   |zero=>omega
   |succ k=>
    have e1:t.iB (k+1) r=r::t.iB k x.of:=by simp[aV.iB,e,w]
    obtain⟨a1,a2,a3,q,y,a4,a5,a6⟩:=ih he k (by omega)
    rw[e1]
    refine⟨by simp[a1],ahO.2 ⟨fun hm=>?_,a2⟩,fun p hp=>?_,q,y,?_,a5,a6⟩
    ·obtain⟨_,j,hj,hj2⟩:=a3 r hm
     have:=hj2.agP h0;omega
    ·rcases ag9.1 hp with rfl|hp
     ·exact⟨aV.ri.1 (by simp[e]),_,aho _,h0⟩
     ·obtain⟨b1,j,b2,b3⟩:=a3 p hp
      exact⟨b1,j,by omega,b3⟩
    ·rw[akB,a4];rfl
def aV.aad {t:aV}:∀(k:Nat) (r:Int),(t.iB k r).length<k->(∃q x,(t.iB k r).getLast?=some q/\t.get q=some x/\dR x.k=false)->∃n,n<k/\t.iU n r:=by
 intro k
 induction k with
 |zero=>intro r h;omega
 |succ k ih=>
  intro r h hl
  obtain⟨q,y,h1,h2,h3⟩:=hl
  cases hg:t.get r with
  |none=>simp[aV.iB,hg]at h1
  |some x=>
   by_cases hw:dR x.k=true
   ·have e1:t.iB (k+1) r=r::t.iB k x.of:=by simp[aV.iB,hg,hw]
    rw[e1]at h h1
    rw[akB]at h1
    cases hl2:(t.iB k x.of).getLast? with
    |none=>
     rw[hl2]at h1
     simp at h1
     subst h1
     rw[hg]at h2;cases h2
     rw[hw]at h3;cases h3
    |some p=>
     rw[hl2]at h1
     simp at h1
     subst h1
     obtain⟨n,hn,he⟩:=ih x.of (by simpa using h) ⟨p,y,hl2,h2,h3⟩
     exact⟨n+1,by omega,.step hg hw he⟩
   ·exact⟨0,by omega,.az hg (by simpa using hw)⟩
def aV.HS {t:aV}(h1:t.one)(r:Int):t.chain t.length r=true↔t.Nb r:=by
 constructor
 ·intro h
  obtain⟨n,hn,he⟩:=aV.Kp h
  obtain⟨a1,a2,a3,a4⟩:=he.way (t.length+1) (by omega)
  refine⟨?_,a4⟩
  have:=hG a2 fun q hq=>(a3 q hq).1
  simpa using this
 ·rintro⟨a1,a2⟩
  obtain⟨n,hn,he⟩:=aV.aad (t.length+1) r (by omega) a2
  exact aV.Pk (by omega) he.chain
def adg (v:BitVec 8):IntKind.u8.wrap ((v.toNat:Nat):Int)=(v.toNat:Int):=by
 have e1:(IntKind.u8).bits=8:=rfl
 have e2:(IntKind.u8).signed=false:=rfl
 simp only[wp,e1,e2,ajf,agZ,ahN]
 have:=v.isLt;omega
def of8 (v:BitVec 8):BitVec.ofInt 8 (v.toNat:Int)=v:=by simp
def Uw (a b:Int):mP a b=((BitVec.ofInt 8 a &&& BitVec.ofInt 8 b).toNat:Int):=adg _
def Jo (a b:Int):js a b=0↔BitVec.ofInt 8 a &&& BitVec.ofInt 8 b=BitVec.ofInt 8 a:=by
 rw[js,adg]
 generalize BitVec.ofInt 8 a=u
 generalize BitVec.ofInt 8 b=v
 constructor
 ·intro h
  have h0:u &&& ~~~v=0#8:=BitVec.eq_of_toNat_eq (by simpa using h)
  ext i hi
  have:=ahE (·[i]) h0
  simp at this ⊢
  exact this
 ·intro h
  have h0:u &&& ~~~v=0#8:=by
   ext i hi
   have:=ahE (·[i]) h
   simp at this ⊢
   exact this
  rw[h0];rfl
def SA {s set a:Int}(h:js set a=0):mP (mP 63 (mP (mP 63 s) set)) a=mP (mP 63 s) set:=by
 rw[Jo]at h
 simp only[Uw,of8]
 congr 1
 congr 1
 generalize BitVec.ofInt 8 s=u at*
 generalize BitVec.ofInt 8 set=v at*
 generalize BitVec.ofInt 8 a=w at*
 generalize BitVec.ofInt 8 63=x at*
 ext i hi
 have:=ahE (·[i]) h
 simp at this ⊢
 revert this
 cases x[i]<;>cases u[i]<;>cases v[i]<;>cases w[i]<;>simp
def abF {a:Int}(h0:0<=a)(h1:a<64):mP (mP 63 63) a=a:=by
 obtain⟨m,rfl⟩:=ai1 h0
 have h:m<64:=by omega
 have key:∀m:Nat,m<64->mP (mP 63 63) (m:Int)=m:=by decide+kernel
 exact key m h
def agy (a b:Int)(h0:0<=b)(h1:b<64):0<=mP a b/\mP a b<64:=by
 rw[Uw]
 have:(BitVec.ofInt 8 a &&& BitVec.ofInt 8 b).toNat<=(BitVec.ofInt 8 b).toNat:=by rw[BitVec.toNat_and];exact Nat.and_le_right
 have:(BitVec.ofInt 8 b).toNat=b.toNat:=by rw[ajS];congr 1;omega
 omega
def Lv {a b:Int}(h:js a b=0)(a0:0<=a)(a1:a<256)(h0:0<=b)(h1:b<64):a<64:=by
 rw[Jo]at h
 have e:(BitVec.ofInt 8 a).toNat<=(BitVec.ofInt 8 b).toNat:=by rw[<-h,BitVec.toNat_and];exact Nat.and_le_right
 have e1:(BitVec.ofInt 8 b).toNat=b.toNat:=by rw[ajS];congr 1;omega
 have e2:(BitVec.ofInt 8 a).toNat=a.toNat:=by rw[ajS];congr 1;omega
 omega
def adv (k:Int):0<=B9 k/\B9 k<64:=by unfold B9;repeat' split;all_goals omega
def aV.zE (t:aV)(r:Int):Int:=(t.oD (t.length+1) r).getD 0
def aV.iU.oD {t:aV}:∀{n:Nat} {r:Int},t.iU n r->∃a,∀k,n<k->t.oD k r=some a:=by
 intro n
 induction n with
 |zero=>
  intro r h
  cases h with
  |az e w=>
   rename_i x
   refine⟨B9 x.k,fun k hk=>?_⟩
   cases k with
   |zero=>omega
   |succ k=>
    simp only[dR,agX]at w
    simp only[aV.oD,e]
    rw[ag4 (by omega),ag4 (by omega)]
 |succ n ih=>
  intro r h
  cases h with
  |step e w he=>
   rename_i x
   obtain⟨a,ha⟩:=ih he
   simp only[dR,agW]at w
   by_cases h14:x.k=14
   ·refine⟨x.set,fun k hk=>?_⟩
    cases k with
    |zero=>omega
    |succ k=>simp only[aV.oD,e];rw[ag8 h14]
   ·refine⟨a,fun k hk=>?_⟩
    cases k with
    |zero=>omega
    |succ k=>simp only[aV.oD,e];rw[ag4 h14,ag8 (by omega)];exact ha k (by omega)
section
variable {t:aV}
def aV.JR (h1:t.one)(hch:∀r x,t.get r=some x->t.chain t.length r=true){r:Int}{x:Wh}(hx:t.get r=some x):∃n,n<t.length/\t.iU n r:=by
 obtain⟨n,hn,he⟩:=aV.Kp (hch r x hx)
 obtain⟨a1,a2,a3,_⟩:=he.way (t.length+1) (by omega)
 have:=hG a2 fun q hq=>(a3 q hq).1
 exact⟨n,by simp at this;omega,he⟩
def aV.iU.zE {n:Nat}{r:Int}(hn:n<=t.length)(h:t.iU n r)(k:Nat)(hk:n<k):t.oD k r=some (t.zE r):=by
 obtain⟨a,ha⟩:=h.oD
 rw[ha k hk]
 simp[aV.zE,ha (t.length+1) (by omega)]
def aV.Nq (hset:∀r x,t.get r=some x->0<=x.set/\x.set<256)(hf:(∀r x,t.get r=some x->x.k=14->js x.set (t.ab x.of)=0)\/(∀r x,t.get r=some x->x.k=14->js x.set (t.zE x.of)=0)):
 ∀(n:Nat) (r:Int),n<=t.length->t.iU n r->(∀k,n<k->∀s,t.xd k r s=some (mP (mP 63 s) (t.zE r)))/\t.ab r=t.zE r/\0<=t.zE r/\t.zE r<64:=by
 have bj:∀(n:Nat) (r:Int),n<=t.length->(∀k,n<k->∀s,t.xd k r s=some (mP (mP 63 s) (t.zE r)))->0<=t.zE r->t.zE r<64->t.ab r=t.zE r:=fun n r hn h a0 a1=>by
  simp only[aV.ab,h (t.length+1) (by omega) 63,ah4,abF a0 a1]
 intro n
 induction n with
 |zero=>
  intro r hn h
  have hA:=h.zE hn 1 (by omega)
  cases h with
  |az e w=>
   rename_i x
   simp only[dR,agX]at w
   have hc:t.zE r=B9 x.k:=by
    simp only[aV.oD,e]at hA
    rw[ag4 (by omega),ag4 (by omega)]at hA
    exact(aju hA).symm
   have hlt:=adv x.k
   rw[<-hc]at hlt
   have hab:∀k,0<k->∀s,t.xd k r s=some (mP (mP 63 s) (t.zE r)):=fun k hk s=>by
    cases k with
    |zero=>omega
    |succ k=>
     simp only[aV.xd,e]
     rw[ag4 (by omega),ag4 (by omega),hc]
   exact⟨hab,bj 0 r hn hab hlt.1 hlt.2,hlt⟩
 |succ n ih=>
  intro r hn h
  have hA:=h.zE hn (n+2) (by omega)
  cases h with
  |step e w he=>
   rename_i x
   obtain⟨i1,i2,i3,i4⟩:=ih x.of (by omega) he
   have hO:=he.zE (by omega) (n+1) (by omega)
   simp only[dR,agW]at w
   by_cases h14:x.k=14
   ·have hc:t.zE r=x.set:=by
     simp only[aV.oD,e]at hA
     rw[ag8 h14]at hA
     exact(aju hA).symm
    have hw:js x.set (t.zE x.of)=0:=by
     rcases hf with hf|hf
     ·rw[<-i2];exact hf r x e h14
     ·exact hf r x e h14
    have hs:=hset r x e
    have hlt:=Lv hw hs.1 hs.2 i3 i4
    rw[<-hc]at hlt
    have hab:∀k,n+1<k->∀s,t.xd k r s=some (mP (mP 63 s) (t.zE r)):=fun k hk s=>by
     cases k with
     |zero=>omega
     |succ k=>
      simp only[aV.xd,e]
      rw[ag8 h14,i1 k (by omega),SA hw,hc]
    exact⟨hab,bj (n+1) r hn hab (by rw[hc];exact hs.1) hlt,by rw[hc];exact hs.1,hlt⟩
   ·have hc:t.zE r=t.zE x.of:=by
     have hA2:t.oD (n+2) r=t.oD (n+1) x.of:=by rw[aV.oD];simp only[e];rw[ag4 h14,ag8 (by omega)]
     rw[hA2,hO]at hA;exact(aju hA).symm
    have hab:∀k,n+1<k->∀s,t.xd k r s=some (mP (mP 63 s) (t.zE r)):=fun k hk s=>by
     cases k with
     |zero=>omega
     |succ k=>
      simp only[aV.xd,e]
      rw[ag4 h14,ag8 (by omega),i1 k (by omega),hc]
    exact⟨hab,bj (n+1) r hn hab (by rw[hc];exact i3) (by rw[hc];exact i4),by rw[hc];exact i3,by rw[hc];exact i4⟩
end
structure aV.TT (t:aV):Prop where
 one:t.one
 pos:∀r x,t.get r=some x->1<=r
 kind:∀r x,t.get r=some x->1<=x.k/\x.k<=16
 set:∀r x,t.get r=some x->0<=x.set/\x.set<256
def aV.wb {t:aV}(h:t.TT)(q:Int):t.kind q=0↔t.get q=none:=by
 unfold aV.kind
 cases e:t.get q with
 |none=>simp
 |some x=>have:=h.kind q x e;simp;omega
def aV.P0 (t:aV)(r k o:Int):t.qe r k o false=t.Ah r k o:=by
 unfold aV.qe aV.Ah;congr 1
def aV.Ff {t:aV}(h:t.TT)(r:Int)(x:Wh)(a:Int):t.kL r x a=0↔t.S1 x=true/\t.vC r x a=true:=by
 have e1:(aE.bD x.aJ).any (fun q=>decide (t.kind q=0))=!t.CW x:=by
  rw[aV.CW,List.all_eq_not_any_not,Bool.not_not]
  congr 1
  funext q
  cases e:t.get q with
  |none=>simp[aV.wb h,e]
  |some y=>
   have:¬t.kind q=0:=fun a=>by rw[(aV.wb h q).1 a]at e;cases e
   simp[this]
 have iso:∀o:Option Wh,o.isNone=!o.isSome:=fun o=>by cases o<;>rfl
 rw[aV.kL,e1]
 simp only[aV.S1,Wh.Na,iso]
 by_cases c1:t.CW x=true
 ·by_cases c2:(t.get x.of).isSome=true
  ·by_cases c3:(t.get x.km).isSome=true
   ·cases c4:t.vC r x a<;>simp[c1,c2,c3]
   ·cases c4:t.vC r x a<;>cases c5:qS x.k<;>simp[c1,c2,c3]
  ·cases c4:t.vC r x a<;>cases c5:qS x.k<;>cases c6:sC x.k<;>cases c3:(t.get x.km).isSome<;>by_cases c7:(x.k=13/\x.of≠0)<;>simp[c1,c2,c7]
 ·simp[c1]
def aV.M5 {t:aV}(h:t.TT):((∀r x,t.get r=some x->x.k=14->x.set<64)/\t.Kf)↔(∀r x,t.get r=some x->t.Nb r)/\(∀r x,t.get r=some x->t.kL r x (t.zE x.of)=0):=by
 have mem:∀r x,t.get r=some x↔(r,x)∈t:=fun r x=>aV.jF h.one
 have isof:∀x:Wh,t.S1 x=true->sC x.k=true->(t.get x.of).isSome=true:=fun x hs hk=>by
  simp only[aV.S1,ag2,hk]at hs;simpa using hs.1.1.2
 have wr:∀k:Int,k=14\/k=15\/k=16->sC k=true:=fun k hk=>by simp[sC,dR];omega
 have endsOf:(∀r x,t.get r=some x->t.chain t.length r=true)->∀o,(t.get o).isSome=true->∃n,n<=t.length/\t.iU n o:=fun hch o ho=>by
  obtain⟨y,hy⟩:=ahw.1 ho
  obtain⟨n,hn,he⟩:=aV.JR h.one hch hy
  exact⟨n,by omega,he⟩
 constructor
 ·rintro⟨h64,hS,hS3,hP⟩
  have hch:∀r x,t.get r=some x->t.chain t.length r=true:=fun r x hx=>(hS r x hx).2
  have hf:∀r x,t.get r=some x->x.k=14->js x.set (t.ab x.of)=0:=fun r x hx hk=>by
   have:=hP r x hx
   simp[aV.JW,hk]at this
   exact this.2.2.2
  refine⟨fun r x hx=>(aV.HS h.one r).1 (hch r x hx),fun r x hx=>(aV.Ff h r x _).2 ⟨(hS r x hx).1,?_⟩⟩
  have hs:=(hS r x hx).1
  have hp:=hP r x hx
  have hr:=h.pos r x hx
  have hab:x.k=14->t.zE x.of=t.ab x.of:=fun hk=>by
   obtain⟨n,hn,he⟩:=endsOf hch x.of (isof x hs (wr _ (.inl hk)))
   exact(aV.Nq h.set (.inl hf) n x.of hn he).2.1.symm
  have hkk:=h.kind r x hx
  by_cases Ss:x.k=15
  ·simp[aV.JW,Ss]at hp
   have ho:t.qe r 15 x.km true=false:=by
    rw[<-Bool.not_eq_true]
    intro hh
    simp only[aV.qe,ajm,agW,ahz]at hh
    obtain⟨p,hp1,p2,p3,p4⟩:=hh
    have:=hP p.1 p.2 ((mem _ _).2 hp1)
    simp[aV.JW,p3]at this
    rw[p4]at this
    exact p2 (by rw[<-this.2.2.2,hp.2.2.2])
   simp[aV.vC,Ss,hp,ho]
  ·by_cases Ez:x.k=14
   ·simp[aV.JW,Ez]at hp
    have hn:t.yH r x=true:=by
     simp only[aV.yH,ahG,agW]
     intro p hp1
     by_cases c1:p.2.k=14
     ·by_cases c2:p.2.of=x.of
      ·by_cases c3:p.2.set=x.set
       ·exact .inl (hS3 p.1 r p.2 x ((mem _ _).2 hp1) hx c1 Ez c2 c3)
       ·exact .inr (.inr (.inr c3))
      ·exact .inr (.inr (.inl c2))
     ·exact .inr (.inl c1)
    simp[aV.vC,Ez,hab Ez,hp,hn]
   ·by_cases Xe:x.k=16
    ·simp[aV.JW,Xe]at hp;simp[aV.vC,Xe,hp]
    ·simp only[aV.JW,Ez,Ss,Xe,ahN]at hp
     simp only[aV.vC,Ez,Ss,Xe,ahN,aV.P0]
     exact hp
 ·rintro⟨hway,hask⟩
  have hch:∀r x,t.get r=some x->t.chain t.length r=true:=fun r x hx=>(aV.HS h.one r).2 (hway r x hx)
  have hS:∀r x,t.get r=some x->t.S1 x=true:=fun r x hx=>((aV.Ff h r x _).1 (hask r x hx)).1
  have hR:∀r x,t.get r=some x->t.vC r x (t.zE x.of)=true:=fun r x hx=>((aV.Ff h r x _).1 (hask r x hx)).2
  have hf:∀r x,t.get r=some x->x.k=14->js x.set (t.zE x.of)=0:=fun r x hx hk=>by
   have:=hR r x hx
   simp[aV.vC,hk]at this
   exact this.1.2.1
  have hab:∀r x,t.get r=some x->x.k=14->t.ab x.of=t.zE x.of/\0<=t.zE x.of/\t.zE x.of<64:=fun r x hx hk=>by
   obtain⟨n,hn,he⟩:=endsOf hch x.of (isof x (hS r x hx) (wr _ (.inl hk)))
   exact(aV.Nq h.set (.inr hf) n x.of hn he).2
  refine⟨fun r x hx hk=>?_,fun r x hx=>⟨hS r x hx,hch r x hx⟩,fun r q x y hx hy x14 y14 e1 e2=>?_,fun r x hx=>?_⟩
  ·have:=h.set r x hx
   exact Lv (hf r x hx hk) this.1 this.2 (hab r x hx hk).2.1 (hab r x hx hk).2.2
  ·have:=hR r x hx
   simp[aV.vC,x14]at this
   have hn:=this.2
   simp only[aV.yH,ahG,agW]at hn
   rcases hn (q,y) ((mem _ _).1 hy)with c|c|c|c
   ·exact c.symm
   ·exact absurd y14 c
   ·exact absurd e1.symm c
   ·exact absurd e2.symm c
  ·have hp:=hR r x hx
   have hs:=hS r x hx
   have hr:=h.pos r x hx
   by_cases Ss:x.k=15
   ·have ho:=isof x hs (wr _ (.inr (.inl Ss)))
    simp[aV.vC,Ss]at hp
    have hr0:¬r=0:=by omega
    simp[hr0]at hp
    simp[aV.JW,Ss,hp,ho]
   ·by_cases Ez:x.k=14
    ·have ho:=isof x hs (wr _ (.inl Ez))
     simp[aV.vC,Ez]at hp
     simp[aV.JW,Ez,(hab r x hx Ez).1,hp,ho]
    ·by_cases Xe:x.k=16
     ·have ho:=isof x hs (wr _ (.inr (.inr Xe)))
      simp[aV.vC,Xe]at hp;simp[aV.JW,Xe,hp,ho]
     ·simp only[aV.vC,Ez,Ss,Xe,ahN,aV.P0]at hp
      simp only[aV.JW,Ez,Ss,Xe,ahN]
      exact hp
end
end Go.Proofs
end
