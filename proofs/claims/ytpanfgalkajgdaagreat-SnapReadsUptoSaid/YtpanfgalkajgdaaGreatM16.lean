import Derived.Test.YtpanfgalkajgdaaGreatM15
set_option linter.all false
noncomputable section
open Go.IntKind renaming wrap→wp
namespace Go.PB
open Go
def aC.Ah {P:Program}{f:FuncId}{rs:List TypeId}{p:Nat}{R:D->T (BV×List (Nat×aE))}{Q J:D->Prop}{s:av}(h:∀d,Q d->J d)(e:aC P f rs (.bK p R Q) s):aC P f rs (.bK p R J) s:=by
 intro c0 g w lb fr cs hs;obtain⟨w',I,V,g',h',m1,Y,Z,m4,m5,d,x,O,U,m8,m9,A⟩:=e c0 g w lb fr cs hs;exact⟨w',I,V,g',h',m1,Y,Z,m4,m5,d,x,O,U,m8,m9,h d A⟩
end Go.PB
namespace Go.PB
open Go
def aC.Ka {P:Program}{f:FuncId}{rs:List TypeId}{Q I:D->Prop}{s:av}(h:∀d,Q d->I d)(e:aC P f rs (.cY Q) s):aC P f rs (.cY I) s:=by
 intro c0 g w lb fr cs hs;obtain⟨w',A,U,g',h',m1,V,Y,m4,Z,d,v,J,O,m8⟩:=e c0 g w lb fr cs hs;exact⟨w',A,U,g',h',m1,V,Y,m4,Z,d,v,J,O,h d m8⟩
end Go.PB
namespace Go.Proofs
open Go Go.PB
def S4 (v:Ex):v.ok->v.size<2^30->dZ pg i5 [aI] [v.ar] [aI] (·=v.ar):=by
 induction v using Ex.ind with|h v Y=>
 intro V hs;have a6:=v.fN;have a7:v.l.length<=Ex.bA v.l:=by
  generalize v.l=l
  induction l with
  |nil=>simp
  |cons a r Y=>have:=a.fN;simp only[Ex.bA,amB];omega
 have loop:∀(rest:List Ex) (i:Nat) (l:List D),v.l.drop i=rest->l.length=v.l.length->l.take i=(v.l.take i).map Ex.ar->l.drop i=(v.l.drop i).map Ex.ar->aC pg i5 [aI] (.cY (·=v.ar)) (vc v.ar v.l.length v.l.length v.l.length l i):=by
  intro rest
  induction rest with
  |nil=>intro i l hd hl ht A;have:=drop_nil hd;refine Gj ?_;rw[amv (by omega),amv (by omega)]at ht;simp[this,hl,ht];exact(v.az).symm
  |cons x rest U=>
   intro i l hd hl ht A;obtain⟨I,g2,Z⟩:=aF hd;have J:=amn I;have O:x.size<2^30:=(by have:=Ex.fW J;omega);have hat:D.at l i=x.ar:=by have:l[i]?=some x.ar:=(by have:=amZ (·[0]?) A;simpa [I]using this);simp[D.at,List.getD,this]
   refine Gj ?_;simp[-exists_and_left,Z,aR,hat,bL Z V.len,hl];refine⟨_,_,_,rfl,Y x J (V.mem J) O,?_⟩;rintro _ rfl;rw[Ex.re];exact U _ _ g2 (by simpa using hl) (by rw[xT (by omega),bH I,ht];simp) (by rw[aoe (show i<i+1 by omega),<-an4,A];simp)
 refine W2 ?_;simp only[rk,D.aK,Ex.hI];refine⟨_,_,rfl,Pt (v.l.map Ex.ar) (by simp;omega),?_⟩;intro d hd;rw[hd];have e:=loop v.l 0 (v.l.map Ex.ar) rfl (by simp) (by simp) (by simp);simpa using e
def adO (l:List St):St.vl l->St.dq l<2^30->St.ml l<2^30->dZ pg hU [aQ] [.r (l.map St.ar)] [aQ] (·= .r (l.map St.ar)):=by
 induction l using St.NS with|h l ih=>
 intro hl hc he;have a6:=St.AT l;have loop:∀(rest:List St) (i:Nat) (m:List D),l.drop i=rest->m.length=l.length->m.take i=(l.take i).map St.ar->m.drop i=(l.drop i).map St.ar->
  aC pg hU [aQ] (.cY (·= .r (l.map St.ar))) (va (.r (l.map St.ar)) l.length l.length l.length m i):=by
  intro rest
  induction rest with
  |nil=>intro i m hd J ht A;have:=drop_nil hd;refine Gi ?_;rw[amv (by omega),amv (by omega)]at ht;simp[this,J,ht]
  |cons x rest V=>
   intro i m hd J ht A;obtain⟨U,g2,Y⟩:=aF hd;have I:=amn U;obtain⟨o1,o2,o3,oa,ob,ow⟩:=hl.th I;obtain⟨i1,Z,i3⟩:=ih x I;have e1:=x.Fl;have e2:=St.GA I;have e3:=x.x7;have e4:=St.Du I;have hat:D.at m i=x.ar:=by have:m[i]?=some x.ar:=(by have:=amZ (·[0]?) A;simpa [U]using this);simp[D.at,List.getD,this]
   refine Gi ?_;simp[-exists_and_left,-List.map_append,Y,aR,hat,bL Y hl.1,J];refine⟨_,_,_,rfl,S4 _ oa (by omega),?_⟩;rintro _ rfl;refine⟨_,_,_,rfl,S4 _ ob (by omega),?_⟩;rintro _ rfl;refine⟨_,_,_,rfl,i1 o1 (by omega) (by omega),?_⟩;rintro _ rfl;refine⟨_,_,_,rfl,Z o2 (by omega) (by omega),?_⟩;rintro _ rfl;refine⟨_,_,_,rfl,i3 o3 (by omega) (by omega),?_⟩;rintro _ rfl;refine⟨_,_,rfl,JN (zi x.wi) (by simp;omega),?_⟩;intro d6 O;simp only[Ex.re,D.aK,O];rw[<-x.az];exact V _ _ g2 (by simpa using J) (by rw[xT (by omega),bH U,ht];simp) (by rw[aoe (show i<i+1 by omega),<-an4,A];simp)
 refine W1 ?_;simp only[rk,D.aK];refine⟨_,_,rfl,Pu (l.map St.ar) (by simp;omega),?_⟩;intro d hd;rw[hd];have e:=loop l 0 (l.map St.ar) rfl (by simp) (by simp) (by simp);simpa using e
def T2 (v:aA)(h:v.fE=true):D.af (if v.fE then (.r [v.ar,.z 0]:D)else .r [.r [.z 0,.z 0,.s [],.r [],.z 0],.z 2]) 0=v.ar:=by rw[amu h];rfl
def MD (x:Wh)(hx:x.ok)(hs:x.sz<2^30)(I:∀v∈x.aN,v.fE=true):dZ pg eM [aU] [x.ar] [aU] (·=x.ar):=by
 have b1:=x.L3;simp only[Wh.sz]at hs;have Y:=hx.aN;have a7:∀v∈x.vs,v.fE=true/\v.ok:=fun v hv=>⟨I v (by simp[Wh.aN,hv]),Y v (by simp[Wh.aN,hv])⟩;have a8:∀n∈x.ns,n.v.fE=true/\n.v.ok:=fun n V=>by
  have h:n.v∈x.aN:=by simp[Wh.aN];exact .inr (.inr ⟨n,V,rfl⟩)
  exact⟨I _ h,Y _ h⟩
 have a6:x.v.fE=true/\x.v.ok:=⟨I _ (by simp[Wh.aN]),Y _ (by simp[Wh.aN])⟩;have U:∀(rest:List fx) (i:Nat) (m:List D),x.ns.drop i=rest->m.length=x.ns.length->m.take i=(x.ns.take i).map fx.ar->m.drop i=(x.ns.drop i).map fx.ar->
  aC pg eM [aU] (.cY (·=x.ar)) (sG x.ar x.ns.length x.ns.length x.v.k x.v.n x.v.s (x.v.l.map aA.ar) x.v.r x.vs.length x.ns.length m (x.vs.map aA.ar) i):=by
  intro rest
  induction rest with
  |nil=>intro i m hd I ht A;have:=drop_nil hd;refine ED ?_;rw[amv (by omega),amv (by omega)]at ht;simp[-exists_and_left,this,I,ht];refine⟨_,_,_,rfl,adO x.co hx.co (by omega) (by omega),?_⟩;rintro _ rfl;simp only[D.aK];rw[<-x.v.az,<-x.az]
  |cons n rest Z=>
   intro i m hd I ht A;obtain⟨O,g2,g3⟩:=aF hd;have V:=amn O;have hat:D.at m i=n.ar:=by have:m[i]?=some n.ar:=(by have:=amZ (·[0]?) A;simpa [O]using this);simp[D.at,List.getD,this]
   refine ED ?_;simp[-exists_and_left,-List.map_append,g3,aR,hat,bL g3 (n:=x.ns.length),I];refine⟨_,_,_,rfl,abv n.v (a8 n V).2,?_⟩;rintro _ rfl;rw[T2 _ (a8 n V).1,eN,<-n.az];exact Z _ _ g2 (by simpa using I) (by rw[xT (by omega),bH O,ht];simp) (by rw[aoe (show i<i+1 by omega),<-an4,A];simp)
 have J:∀(rest:List aA) (i:Nat) (m:List D),x.vs.drop i=rest->m.length=x.vs.length->m.take i=(x.vs.take i).map aA.ar->m.drop i=(x.vs.drop i).map aA.ar->
  aC pg eM [aU] (.cY (·=x.ar)) (sF x.ar x.vs.length x.vs.length x.v.k x.v.n x.v.s (x.v.l.map aA.ar) x.v.r x.vs.length m i):=by
  intro rest
  induction rest with
  |nil=>intro i m hd I ht A;have:=drop_nil hd;refine EC ?_;rw[amv (by omega),amv (by omega)]at ht;simp[-exists_and_left,this,ht];refine⟨_,_,rfl,Yl (x.ns.map fx.ar) (by simp;omega),?_⟩;intro d hd;rw[hd];have e:=U x.ns 0 (x.ns.map fx.ar) rfl (by simp) (by simp) (by simp);simpa using e
  |cons n rest Z=>
   intro i m hd I ht A;obtain⟨O,g2,g3⟩:=aF hd;have V:=amn O;have hat:D.at m i=n.ar:=by have:m[i]?=some n.ar:=(by have:=amZ (·[0]?) A;simpa [O]using this);simp[D.at,List.getD,this]
   refine EC ?_;simp[-exists_and_left,-List.map_append,g3,aR,hat,bL g3 (n:=x.vs.length),I];refine⟨_,_,_,rfl,abv n (a7 n V).2,?_⟩;rintro _ rfl;rw[T2 _ (a7 n V).1,eN];exact Z _ _ g2 (by simpa using I) (by rw[xT (by omega),bH O,ht];simp) (by rw[aoe (show i<i+1 by omega),<-an4,A];simp)
 refine W3 ?_;simp only[rk,Wh.pS,eN];refine⟨_,_,_,rfl,abv x.v a6.2,?_⟩;rintro _ rfl;rw[T2 _ a6.1];simp only[Wh.BP,D.aK];refine⟨_,_,rfl,Vu (x.vs.map aA.ar) (by simp;omega),?_⟩;intro d hd;rw[hd];have e:=J x.vs 0 (x.vs.map aA.ar) rfl (by simp) (by simp) (by simp);simpa using e
def akj (x:Wh)(hx:x.ok)(hs:x.sz<2^30)(hm:∀v∈x.aN,v.fE=true):PH od (rq x.ar) [] 0 dx (fun d=>D.ae d=aY (aA.dF x.aN)):=by
 have b4:=x.L3;have a8:=aA.zG x.aN;simp only[Wh.sz]at hs;have V:=hx.aN;have b1:∀a b:List aA,aA.dF (a++b)=aA.dF a++aA.dF b:=fun a b=>by simp[aA.agm]
 have a6:∀v∈x.vs,v.fE=true/\v.ok:=fun v hv=>⟨hm v (by simp[Wh.aN,hv]),V v (by simp[Wh.aN,hv])⟩;have a7:∀n∈x.ns,n.v.fE=true/\n.v.ok:=fun n U=>by
  have h:n.v∈x.aN:=by simp[Wh.aN];exact .inr (.inr ⟨n,U,rfl⟩)
  exact⟨hm _ h,V _ h⟩
 have Z:x.v.fE=true/\x.v.ok:=⟨hm _ (by simp[Wh.aN]),V _ (by simp[Wh.aN])⟩;have O:∀(rest:List fx) (i:Nat) (o:List Int),x.ns.drop i=rest->o++aA.dF (rest.map fx.v)=aA.dF x.aN->
  aC pg od [dH] (.bK 0 (dx (rq x.ar) []) fun d=>D.ae d=aY (aA.dF x.aN)) (yY x.ar o.length (aY o) i):=by
  intro rest
  induction rest with
  |nil=>intro i o hd ho;have:=drop_nil hd;refine KQ ?_;simp only[ank,aA.dF,ana]at ho;subst ho;simp only[rk,Wh.hZ,amm];exact⟨fun h=>by simp at h;omega,fun _=>⟨rfl,na (by simp) rfl⟩⟩
  |cons n rest Y=>intro i o hd ho;obtain⟨g1,g2,g3⟩:=aF hd;have U:=amn g1;have J:=amZ List.length ho;simp only[anb,aA.dF,ams]at J;refine KQ ?_;simp[-exists_and_left,-List.map_append,g3,aR,bC g1,bL g3 (n:=x.ns.length)];refine⟨_,_,rfl,US n.v (a7 n U).2,?_⟩;rintro d A;rw[amu (a7 n U).1]at A;simp only[A,amm,amv (Nat.le_of_eq (amm D.z))];refine⟨fun _=>?_,by simp[bh];omega⟩;have e:=Y (i+1) (o++n.v.jA) g2 (by simpa [aA.dF]using ho);simpa using e
 have I:∀(rest:List aA) (i:Nat) (o:List Int),x.vs.drop i=rest->o++aA.dF (rest++x.ns.map fx.v)=aA.dF x.aN->
  aC pg od [dH] (.bK 0 (dx (rq x.ar) []) fun d=>D.ae d=aY (aA.dF x.aN)) (Bi x.ar o.length (aY o) i):=by
  intro rest
  induction rest with
  |nil=>intro i o hd ho;have:=drop_nil hd;refine Nm ?_;simp only[rk,Wh.BP,amm];exact⟨fun h=>by simp at h;omega,fun _=>O x.ns 0 o rfl (by simpa using ho)⟩
  |cons n rest Y=>intro i o hd ho;obtain⟨g1,g2,g3⟩:=aF hd;have U:=amn g1;have J:=amZ List.length ho;simp only[anM,aA.dF,ams]at J;refine Nm ?_;simp[-exists_and_left,-List.map_append,g3,aR,bC g1,bL g3 (n:=x.vs.length)];refine⟨_,_,rfl,US n (a6 n U).2,?_⟩;rintro d A;rw[amu (a6 n U).1]at A;simp only[A,amm,amv (Nat.le_of_eq (amm D.z))];refine⟨fun _=>?_,by simp[bh];omega⟩;have e:=Y (i+1) (o++n.jA) g2 (by simpa [aA.dF]using ho);simpa using e
 refine afZ ?_;simp only[rk,Wh.pS];refine⟨_,_,rfl,US x.v Z.2,?_⟩;intro d hd;rw[amu Z.1]at hd;rw[hd];have e:=I x.vs 0 x.v.jA rfl (by simp[Wh.aN,aA.dF]);simpa using e
end Go.Proofs
namespace Go.Proofs
open Go Go.PB
def rZ {α:Type}{f:α->D}{l:List α}{i:Nat}{x:α}(h:l[i]?=some x):(l.take i).map f++[f x]=(l.take (i+1)).map f:=by rw[bH h];simp
def Qz (v:aA):v.ok->v.size<2^30->dZ pg jn [ak] [v.ar] [ak] (·=v.ar):=by
 induction v using aA.ind with|h v ih=>
 intro O hs;have V:=v.fN;have Z:=aA.fv v.l;have loop:∀(rest:List aA) (i:Nat) (o:List aA),v.l.drop i=rest->o++rest=v.l->aC pg jn [ak] (.cY (·=v.ar)) (xh v.ar o.length i (o.map aA.ar)):=by
  intro rest
  induction rest with
  |nil=>intro i o hd ho;have:=drop_nil hd;refine Ie ?_;simp only[ana]at ho;rw[ho];simp[this];exact⟨by omega,(v.az).symm⟩
  |cons x rest I=>intro i o hd ho;obtain⟨J,Y,U⟩:=aF hd;have A:=amn J;have a6:=aA.fW A;refine Ie ?_;simp[-exists_and_left,-List.map_append,U,aR,bC J,bL U O.len];refine⟨_,_,_,rfl,ih x A (O.mem A) (by omega),?_⟩;rintro _ rfl;rw[eN];exact⟨fun _=>by simpa using I (i+1) (o++[x]) Y (by simpa using ho),by have:=amZ List.length ho;simp at this;simp[bh];omega⟩
 refine Zw ?_;exact loop v.l 0 [] rfl rfl
def Ex.fv:∀l:List Ex,l.length<=bA l:=fun l=>by
 induction l with
 |nil=>simp
 |cons a r A=>have:=a.fN;simp only[Ex.bA,amB];omega
def abg (v:Ex):v.ok->v.size<2^30->dZ pg mU [aI] [v.ar] [aI] (·=v.ar):=by
 induction v using Ex.ind with|h v ih=>
 intro O hs;have V:=v.fN;have Z:=Ex.fv v.l;have loop:∀(rest:List Ex) (i:Nat) (o:List Ex),v.l.drop i=rest->o++rest=v.l->aC pg mU [aI] (.cY (·=v.ar)) (yW v.ar o.length i (o.map Ex.ar)):=by
  intro rest
  induction rest with
  |nil=>intro i o hd ho;have:=drop_nil hd;refine KN ?_;simp only[ana]at ho;rw[ho];simp[this];exact⟨by omega,(v.az).symm⟩
  |cons x rest I=>intro i o hd ho;obtain⟨J,Y,U⟩:=aF hd;have A:=amn J;have a6:=Ex.fW A;refine KN ?_;simp[-exists_and_left,-List.map_append,U,aR,bC J,bL U O.len];refine⟨_,_,_,rfl,ih x A (O.mem A) (by omega),?_⟩;rintro _ rfl;rw[Ex.re];exact⟨fun _=>by simpa using I (i+1) (o++[x]) Y (by simpa using ho),by have:=amZ List.length ho;simp at this;simp[bh];omega⟩
 refine ac3 ?_;exact loop v.l 0 [] rfl rfl
def ain (l:List St):St.vl l->St.dq l<2^30->St.ml l<2^30->dZ pg kV [aQ] [.r (l.map St.ar)] [aQ] (·= .r (l.map St.ar)):=by
 induction l using St.NS with|h l ih=>
 intro hl hc he;have a6:=St.AT l;have loop:∀(rest:List St) (i:Nat) (o:List St),l.drop i=rest->o++rest=l->aC pg kV [aQ] (.cY (·= .r (l.map St.ar))) (yV (.r (l.map St.ar)) o.length i (o.map St.ar)):=by
  intro rest
  induction rest with
  |nil=>intro i o hd ho;have:=drop_nil hd;refine KM ?_;simp only[ana]at ho;rw[ho];simp[this];omega
  |cons x rest I=>intro i o hd ho;obtain⟨J,g2,O⟩:=aF hd;have A:=amn J;obtain⟨o1,o2,U,oa,ob,ow⟩:=hl.th A;obtain⟨Z,Y,V⟩:=ih x A;have e1:=x.Fl;have e2:=St.GA A;have e3:=x.x7;have e4:=St.Du A;refine KM ?_;simp[-exists_and_left,-List.map_append,O,aR,bC J,bL O hl.1];refine⟨_,_,_,rfl,abg _ oa (by omega),?_⟩;rintro _ rfl;refine⟨_,_,_,rfl,abg _ ob (by omega),?_⟩;rintro _ rfl;refine⟨_,_,_,rfl,Z o1 (by omega) (by omega),?_⟩;rintro _ rfl;refine⟨_,_,_,rfl,Y o2 (by omega) (by omega),?_⟩;rintro _ rfl;refine⟨_,_,_,rfl,V U (by omega) (by omega),?_⟩;rintro _ rfl;simp only[Ex.re,D.aK];rw[<-x.az];exact⟨fun _=>⟨fun _=>by simpa using I (i+1) (o++[x]) g2 (by simpa using ho),by have:=amZ List.length ho;simp at this;simp[bh];omega⟩,by simp[bh];omega⟩
 refine ac2 ?_;exact loop l 0 [] rfl rfl
end Go.Proofs
namespace Go.Proofs
open Go Go.PB
def ZG (x:Wh)(hx:x.ok)(hs:x.sz<2^30):dZ pg ky [aU] [x.ar] [aU] (·=x.ar):=by
 have a7:x.aN.length=1+x.vs.length+x.ns.length:=by simp[Wh.aN];omega
 have a8:=aA.fv x.aN;simp only[Wh.sz]at hs;have O:=hx.aN;have Z:∀v∈x.vs,v.size<2^30/\v.ok:=fun v hv=>⟨by have:=aA.fW (l:=x.aN) (x:=v) (by simp[Wh.aN,hv]);omega,O v (by simp[Wh.aN,hv])⟩;have a6:∀n∈x.ns,n.v.size<2^30/\n.v.ok:=fun n J=>by
  have hm:n.v∈x.aN:=by simp[Wh.aN];exact .inr (.inr ⟨n,J,rfl⟩)
  exact⟨by have:=aA.fW hm;omega,O _ hm⟩
 have V:x.v.size<2^30/\x.v.ok:=⟨by have:=aA.fW (l:=x.aN) (x:=x.v) (by simp[Wh.aN]);omega,O x.v (by simp[Wh.aN])⟩;have I:∀(rest:List fx) (i:Nat) (o:List fx),x.ns.drop i=rest->o++rest=x.ns->aC pg ky [aU] (.cY (·=x.ar)) (w9 x.ar x.v.k x.v.n x.v.s (x.v.l.map aA.ar) x.v.r (x.co.map St.ar) x.vs.length (x.vs.map aA.ar) o.length i (o.map fx.ar)):=by
  intro rest
  induction rest with
  |nil=>intro i o hd ho;have:=drop_nil hd;refine HX ?_;simp only[ana]at ho;rw[ho];simp[this];refine⟨by omega,?_⟩;rw[<-x.v.az,<-x.az]
  |cons n rest U=>intro i o hd ho;obtain⟨Y,g2,g3⟩:=aF hd;have J:=amn Y;refine HX ?_;simp[-exists_and_left,-List.map_append,g3,aR,bC Y,bL g3 (n:=x.ns.length)];refine⟨_,_,_,rfl,Qz n.v (a6 n J).2 (a6 n J).1,?_⟩;rintro _ rfl;rw[eN,<-n.az];exact⟨fun _=>by simpa using U (i+1) (o++[n]) g2 (by simpa using ho),by have:=amZ List.length ho;simp at this;simp[bh];omega⟩
 have A:∀(rest:List aA) (i:Nat) (o:List aA),x.vs.drop i=rest->o++rest=x.vs->aC pg ky [aU] (.cY (·=x.ar)) (yT x.ar x.v.k x.v.n x.v.s (x.v.l.map aA.ar) x.v.r o.length i (o.map aA.ar)):=by
  intro rest
  induction rest with
  |nil=>intro i o hd ho;have:=drop_nil hd;refine KJ ?_;simp only[ana]at ho;rw[ho];simp[-exists_and_left,this];refine⟨by omega,_,_,_,rfl,ain x.co hx.co (by omega) (by omega),?_⟩;rintro _ rfl;exact I x.ns 0 [] rfl rfl
  |cons n rest U=>intro i o hd ho;obtain⟨Y,g2,g3⟩:=aF hd;have J:=amn Y;refine KJ ?_;simp[-exists_and_left,-List.map_append,g3,aR,bC Y,bL g3 (n:=x.vs.length)];refine⟨_,_,_,rfl,Qz n (Z n J).2 (Z n J).1,?_⟩;rintro _ rfl;rw[eN];exact⟨fun _=>by simpa using U (i+1) (o++[n]) g2 (by simpa using ho),by have:=amZ List.length ho;simp at this;simp[bh];omega⟩
 refine afS ?_;simp only[rk,Wh.pS,eN];refine⟨_,_,_,rfl,Qz x.v V.2 V.1,?_⟩;rintro _ rfl;have e:=A x.vs 0 [] rfl rfl;simpa using e
end Go.Proofs
namespace Go.Proofs
open Go Go.PB
def pt (s A:Nat)(m k:Int):Prop:=m+s<=512/\(A:Int)<=k
def akv (s A:Nat)(m k:Int)(d:D):Prop:=((d.af 0).bool=true↔pt s A m k)/\(pt s A m k->(d.af 1).int=m+s)
def acp {s A:Nat}{m k:Int}{b:Bool}{n:Int}(h1:b=true↔pt s A m k)(h2:pt s A m k->n=m+s):
 ∃d,T.dV (BV.bool b,[(0,aE.cells [.int .i64 n] ah false)]) (T.ret (BV.bool (d.af 0).bool,[(0,aE.cells [.int .i64 (d.af 1).int] ah false)]))/\akv s A m k d:=⟨.r [.b b,.z n],.ret,h1,h2⟩
def Jt (s A:Nat)(m k:Int)(b:Bool)(n:Int):Prop:=(b=false↔pt s A m (k-1))/\(pt s A m (k-1)->n=m+s)
def XQ (x:Ex):∀m k:Int,x.ok->x.size<2^30->0<=m->m<=600->0<=k->k<=16->
 PH sV (sM x.ar m k) (sQ x.ar m k) 1 gr (akv x.size x.G5 m k):=by
 induction x using Ex.ind with|h x ih=>
 intro m k hx hs h0 h1 h2 h3;have b4:=x.fN;have J:=x.aaP;have d0:=Ex.fv x.l;have loop:∀(O:Int) (rest:List Ex) (i:Nat) (n:Int),0<k->0<=n->n<=512->x.l.drop i=rest->
  aC pg eG [ah] (.bK 3 (jY (mJ (x.l.map Ex.ar) O k) (eC (x.l.map Ex.ar) O k)) fun d=>Jt (Ex.bA rest) (Ex.q0 rest) n k (decide (0<=(d.af 0).int)) (d.af 1).int) (mF (x.l.map Ex.ar) O k i n):=by
  intro O rest
  induction rest with
  |nil=>intro i n A a6 hn hd;have:=drop_nil hd;refine yp ?_;simp only[rk,amm];refine⟨fun h=>by simp at h;omega,fun _=>⟨rfl,.r [.z (-1),.z n],.ret,?_⟩⟩;simp[Jt,pt,Ex.bA,Ex.q0,D.af,D.at];omega
  |cons y rest a8=>
   intro i n A a6 hn hd;obtain⟨g1,g2,g3⟩:=aF hd;have hy:=amn g1;have b6:=Ex.fW hy;have b1:0<y.size:=(by have:=y.fN;omega);refine yp ?_;simp[-exists_and_left,g3,aR,bC g1,bL g3 hx.len];rw[bM (x:=k-1)];refine⟨_,_,rfl,ih y hy n (k-1) (hx.mem hy) (by omega) a6 (by omega) (by omega) (by omega),?_⟩;rintro d ⟨q1,q2⟩;have Z:∀a b,Jt (Ex.bA (y::rest)) (Ex.q0 (y::rest)) n k a b↔Jt (y.size+Ex.bA rest) (max y.G5 (Ex.q0 rest)) n k a b:=fun a b=>Iff.rfl;refine⟨fun hb=>⟨rfl,.r [.z i,.z (d.af 1).int],.ret,?_⟩,fun hb=>?_⟩
   ·have hno:¬pt y.size y.G5 n (k-1):=fun h=>by rw[q1.2 h]at hb;cases hb
    rw[Z];simp only[Jt,pt]at hno ⊢;have e0:decide (0<=D.int (D.af (.r [.z (i:Int),.z (d.af 1).int]) 0))=true:=(by show decide (0<=(i:Int))=true;simp);rw[e0];exact⟨⟨fun a=>by simp at a,fun a=>(hno ⟨by omega,by omega⟩).elim⟩,fun a=>(hno ⟨by omega,by omega⟩).elim⟩
   have Y:=q1.1 hb;have e:=q2 Y;simp only[pt]at Y;have:=a8 (i+1) (d.af 1).int A (by omega) (by omega) g2;refine aC.Ah ?_ this;intro d2 U;rw[Z];simp only[Jt,pt]at U ⊢;rw[e]at U;refine⟨U.1.trans ⟨fun a=>⟨by omega,by omega⟩,fun a=>⟨by omega,by omega⟩⟩,fun a=>by have:=U.2 ⟨by omega,by omega⟩;omega⟩
 have V:∀O:Int,0<k->0<=O->O<=512->PH eK (mJ (x.l.map Ex.ar) O k) (eC (x.l.map Ex.ar) O k) 3 hC
  (fun d=>Jt (Ex.bA x.l) (Ex.q0 x.l) O k (d.af 0).bool (d.af 1).int):=by
  intro O A a b;refine G8 ?_;simp only[rk];refine⟨_,_,rfl,L7 (loop O x.l 0 O A a b rfl),?_⟩;intro d hd;exact⟨rfl,.r [.b _,.z _],.ret,hd⟩
 refine ZA ?_;rw[bM (x:=m+1)];have rest:(x.k≠3/\x.l.length=0->False)->0<k->m+1<=512->∀d:D,Jt (Ex.bA x.l) (Ex.q0 x.l) (m+1) k (d.af 0).bool (d.af 1).int->(((! (d.af 0).bool)=true↔pt x.size x.G5 m k)/\(pt x.size x.G5 m k->(d.af 1).int=m+x.size)):=fun a7 A hm d U=>by rw[amt a7]at J;simp only[Jt,pt]at U ⊢;rw[amJ,U.1];exact⟨⟨fun a=>⟨by omega,by omega⟩,fun a=>⟨by omega,by omega⟩⟩,fun a=>by have:=U.2 ⟨by omega,by omega⟩;omega⟩
 simp only[rk,Ex.ek,Ex.hI,amm];refine⟨fun h=>⟨rfl,acp ?_ ?_⟩,fun h=>⟨fun I=>⟨fun hl=>⟨rfl,acp ?_ ?_⟩,fun hl=>⟨fun A=>⟨rfl,acp ?_ ?_⟩,fun A=>?_⟩⟩,fun I=>⟨fun A=>⟨rfl,acp ?_ ?_⟩,fun A=>?_⟩⟩⟩
 ·have h:m+1>512:=by simpa using h
  simp[pt];omega
 ·have h:m+1>512:=by simpa using h
  simp[pt];omega
 ·have I:x.k≠3:=by simpa using I
  have hl:x.l.length=0:=by simpa using hl
  have h:m+1<=512:=by simpa using h
  rw[amu ⟨I,hl⟩]at J;have:Ex.bA x.l=0:=by rw[am3.1 hl];rfl
  simp[pt];omega
 ·have hl:x.l.length=0:=by simpa using hl
  have:Ex.bA x.l=0:=by rw[am3.1 hl];rfl
  simp[pt];omega
 ·have hl:¬x.l.length=0:=by simpa using hl
  have A:k=0:=by simpa using A
  rw[ifN]at J;simp[pt];omega
 ·have hl:¬x.l.length=0:=by simpa using hl
  have A:k=0:=by simpa using A
  rw[ifN]at J;simp[pt];omega
 ·have hl:¬x.l.length=0:=by simpa using hl
  have A:¬k=0:=by simpa using A
  have h:m+1<=512:=by simpa using h
  refine⟨_,_,rfl,V (m+1) (by omega) (by omega) h,?_⟩;intro d hd;obtain⟨r1,r2⟩:=rest (by omega) (by omega) h d hd;exact⟨rfl,acp r1 r2⟩
 ·have I:x.k=3:=by simpa using I
  have A:k=0:=by simpa using A
  rw[ifN]at J;simp[pt];omega
 ·have I:x.k=3:=by simpa using I
  have A:k=0:=by simpa using A
  rw[ifN]at J;simp[pt];omega
 have I:x.k=3:=by simpa using I
 have A:¬k=0:=by simpa using A
 have h:m+1<=512:=by simpa using h
 refine⟨_,_,rfl,V (m+1) (by omega) (by omega) h,?_⟩;intro d hd;obtain⟨r1,r2⟩:=rest (by omega) (by omega) h d hd;exact⟨rfl,acp r1 r2⟩
def Mx (l:List St)(m:Int):Prop:=St.oe l=true/\m+St.dq l<=512
def Qsm (l:List St)(m:Int)(d:D):Prop:=((d.af 0).bool=true↔Mx l m)/\(Mx l m->(d.af 1).int=m+St.dq l)
def smI {l:List St}{m:Int}{b:Bool}{n:Int}(h1:b=true↔Mx l m)(h2:Mx l m->n=m+St.dq l):
 ∃d,T.dV (BV.bool b,[(0,aE.cells [.int .i64 n] ah false)]) (T.ret (BV.bool (d.af 0).bool,[(0,aE.cells [.int .i64 (d.af 1).int] ah false)]))/\Qsm l m d:=⟨.r [.b b,.z n],.ret,h1,h2⟩
def Z3 {l:List St}{m n:Int}(h:¬Mx l m):
 ∃d,T.dV (BV.bool false,[(0,aE.cells [.int .i64 n] ah false)]) (T.ret (BV.bool (d.af 0).bool,[(0,aE.cells [.int .i64 (d.af 1).int] ah false)]))/\Qsm l m d:=smI ⟨fun a=>(by cases a),fun a=>(h a).elim⟩ fun a=>(h a).elim
def aiJ (l:List St):∀m:Int,St.vl l->St.ml l<2^30->0<=m->m<=512->PH kW (Gs (l.map St.ar) m) (Gt (l.map St.ar) m) 1 gr (Qsm l m):=by
 induction l using St.NS with|h l ih=>
 intro m hl he J hm;have loop:∀(rest:List St) (i:Nat) (n:Int),l.drop i=rest->0<=n->n<=512->(Mx l m↔Mx rest n)->(Mx l m->n+St.dq rest=m+St.dq l)->
  aC pg kW [aj] (.bK 1 (gr (Gs (l.map St.ar) m) (Gt (l.map St.ar) m)) (Qsm l m)) (yZ (l.map St.ar) m i n):=by
  intro rest
  induction rest with
  |nil=>intro i n hd h0 h1 h2 A;have:=drop_nil hd;refine KR ?_;simp only[rk,amm];have hy:Mx l m:=h2.2 (by simp[Mx,St.oe,St.dq];omega);refine⟨fun h=>by simp at h;omega,fun _=>⟨rfl,smI (by simp[hy]) fun a=>by have:=A a;simp[St.dq]at this;omega⟩⟩
  |cons x rest U=>
   intro i n hd h0 h1 h2 A;obtain⟨g1,g2,g3⟩:=aF hd;have I:=amn g1;obtain⟨o1,o2,o3,oa,ob,ow⟩:=hl.th I;obtain⟨i1,i2,i3⟩:=ih x I;have e3:=x.x7;have e4:=St.Du I;have ec:=x.Fl;have ef:=x.aaX;have O:Mx (x::rest) n↔(x.wi.length<=64/\x.a.xB=true/\x.b.xB=true/\St.oe x.th=true/\St.oe x.el=true/\St.oe x.co=true)/\St.oe rest=true/\n+(1+St.dq x.th+St.dq x.el+St.dq x.co+St.dq rest)<=512:=by
    simp only[Mx,St.oe,St.dq,ef,ec,amo,aml];constructor
    ·rintro⟨⟨⟨⟨⟨⟨⟨a,b⟩,c⟩,d⟩,e⟩,f⟩,g⟩,hh⟩;exact⟨⟨a,b,c,d,e,f⟩,g,by omega⟩
    rintro⟨⟨a,b,c,d,e,f⟩,g,hh⟩;exact⟨⟨⟨⟨⟨⟨⟨a,b⟩,c⟩,d⟩,e⟩,f⟩,g⟩,by omega⟩
   rw[O]at h2;refine KR ?_;simp[-exists_and_left,g3,aR,bC g1,bL g3 hl.1];rw[bM (x:=n+1)];refine⟨fun h=>⟨rfl,Z3 fun a=>by have:=(h2.1 a).2.2;omega⟩,fun a6=>⟨fun h=>⟨rfl,Z3 fun a=>by have:=(h2.1 a).1.1;omega⟩,fun hw=>?_⟩⟩;refine⟨_,_,rfl,XQ x.a 0 16 oa (by omega) (by omega) (by omega) (by omega) (by omega),?_⟩;rintro d1 ⟨q1,_⟩;have ha:(d1.af 0).bool=x.a.xB:=by rw[amW,q1];simp[pt,Ex.xB];omega
   rw[ha];refine⟨fun h=>⟨rfl,Z3 fun a=>by have:=(h2.1 a).1.2.1;rw[h]at this;cases this⟩,fun fa=>?_⟩;refine⟨_,_,rfl,XQ x.b 0 16 ob (by omega) (by omega) (by omega) (by omega) (by omega),?_⟩;rintro d2 ⟨q2,_⟩;have hb:(d2.af 0).bool=x.b.xB:=by rw[amW,q2];simp[pt,Ex.xB];omega
   rw[hb];refine⟨fun h=>⟨rfl,Z3 fun a=>by have:=(h2.1 a).1.2.2.1;rw[h]at this;cases this⟩,fun fb=>?_⟩;refine⟨_,_,rfl,i1 (n+1) o1 (by omega) (by omega) (by omega),?_⟩;rintro d3 ⟨Y,r3⟩;refine⟨fun h=>⟨rfl,Z3 fun a=>by have b:=(h2.1 a);rw[Y.2 ⟨b.1.2.2.2.1,by have:=b.2.2;omega⟩]at h;cases h⟩,fun h=>?_⟩;have s3:=Y.1 h;have t3:=r3 s3;rw[t3];obtain⟨u3,v3⟩:=s3;refine⟨_,_,rfl,i2 (n+1+St.dq x.th) o2 (by omega) (by omega) (by omega),?_⟩;rintro d4 ⟨q4,r4⟩;refine⟨fun h=>⟨rfl,Z3 fun a=>by have b:=(h2.1 a);rw[q4.2 ⟨b.1.2.2.2.2.1,by have:=b.2.2;omega⟩]at h;cases h⟩,fun h=>?_⟩;have V:=q4.1 h;have t4:=r4 V;rw[t4];obtain⟨u4,v4⟩:=V;refine⟨_,_,rfl,i3 (n+1+St.dq x.th+St.dq x.el) o3 (by omega) (by omega) (by omega),?_⟩;rintro d5 ⟨Z,r5⟩;refine⟨fun h=>⟨rfl,Z3 fun a=>by have b:=(h2.1 a);rw[Z.2 ⟨b.1.2.2.2.2.2,by have:=b.2.2;omega⟩]at h;cases h⟩,fun h=>?_⟩;have s5:=Z.1 h;have t5:=r5 s5;rw[t5];obtain⟨u5,v5⟩:=s5;refine U (i+1) _ g2 (by omega) (by omega) ?_ ?_
   ·rw[h2];exact⟨fun a=>⟨a.2.1,by have:=a.2.2;omega⟩,fun a=>⟨⟨by omega,fa,fb,u3,u4,u5⟩,a.1,by have:=a.2;omega⟩⟩
   intro a;have:=A a;simp only[St.dq]at this;omega
 refine ade ?_;exact loop l 0 m rfl J hm Iff.rfl (fun _=>rfl)
section
abbrev bm:=List (Int×Wh)
def bm.get (t:bm)(r:Int):Option Wh:=match t with| []=>none|p::q=>if p.1=r then some p.2 else bm.get q r
def bm.ar (t:bm):List (D×D):=t.map fun p=>(.z p.1,p.2.ar)
def D.aiY (a b:Int):D.Ht (.z a) (.z b)=decide (a=b):=by
 unfold D.Ht
 by_cases h:a=b
 ·subst h;simp
 simp[h]
def bm.ia (t:bm)(r:Int):D.ia t.ar (.z r)=(t.get r).map Wh.ar:=by
 induction t with
 |nil=>rfl
 |cons p q A=>
  simp only[bm.ar,anb,D.ia,D.aiY,bm.get]
  by_cases h:p.1=r
  ·simp[h]
  simp only[h,ani,ann];exact A
@[simp] def bm.i7 (t:bm)(r:Int):D.i7 t.ar (.z r)=(t.get r).isSome:=by simp[D.i7,bm.ia]
def bm.val {t:bm}{r:Int}{x:Wh}(h:t.get r=some x):D.val t.ar (.z r)=x.ar:=by simp[D.val,bm.ia,h]
def bm.fh (t:bm):D.fh t.ar=aY (t.map (·.1)):=by
 induction t with
 |nil=>rfl
 |cons p q A=>simp only[bm.ar,anb,D.fh]at A ⊢;rw[A]
abbrev nT:=List ((Int×Int)×Int)
def nT.ar (t:nT):List (D×D):=t.map fun p=>(.r [.z p.1.1,.z p.1.2],.z p.2)
structure Wo where
 pa:List Int
 cu:List Bool
 th:bm
 fa:nT
 la:Int
 ma:List Int
structure Lj (W:WS)(w:Wo):Prop where
 pa:W.pa=aY w.pa
 cu:W.cu=w.cu.map D.b
 th:W.th=w.th.ar
 fa:W.fa=w.fa.ar
 la:W.la=w.la
 ma:W.ma=aY w.ma
def BT {M:List (Nat×aE)}{b X:Bool}(h:b=X):∃d,T.dV (BV.bool b,M) (T.ret (BV.bool (D.bool d),M))/\D.bool d=X:=⟨.b b,.ret,h⟩
def G7 {M:List (Nat×aE)}{k:IntKind}{b X:Int}(h:b=X):∃d,T.dV (BV.int k b,M) (T.ret (BV.int k (D.int d),M))/\D.int d=X:=⟨.z b,.ret,h⟩
section
variable {W:WS} {w:Wo} (hW:Lj W w)
include hW
theorem Lw (r:Int):PH ki (oQ W r) (Wm W) 3 cA (fun d=>D.bool d=(w.th.get r).isSome):=by
 refine ajW ?_;simp only[rk,hW.th,bm.i7];exact⟨fun h=>⟨rfl,BT h.symm⟩,fun h=>⟨rfl,BT h.symm⟩⟩
def bm.kind (t:bm)(r:Int):Int:=match t.get r with|some x=>x.k|none=>0
theorem Dk (r:Int):PH Fu (oQ W r) (Wm W) 3 ka (fun d=>D.int d=w.th.kind r):=by
 refine afE ?_;simp only[rk,hW.th,bm.i7];refine⟨_,_,rfl,Lw hW r,?_⟩;intro d hd;rw[hd]
 cases h:w.th.get r with
 |none=>simp;exact⟨rfl,G7 (by simp[bm.kind,h])⟩
 |some x=>simp[bm.val h];exact⟨rfl,G7 (by simp[bm.kind,h])⟩
end
end
section
def tE (a b:Int):Int:=IntKind.u8.wrap ((BitVec.ofInt 8 a &&& BitVec.ofInt 8 b).toNat:Int)
def afb (a b:Int):IntKind.u8.wrap ((BitVec.ofInt 8 a &&& BitVec.ofInt 8 b).toNat:Int)=tE a b:=rfl
def IG (k:Int):Int:=
 if k=1 then 3 else if k=2 then 9 else if k=3 then 9 else if k=4 then 12 else if k=5 then 16 else if k=6 then 16 else if k=8 then 16 else if k=12 then 16
 else if k=9 then 13 else if k=10 then 1 else if k=11 then 8 else if k=13 then 33 else 0
def alL (k:Int):dZ pg On [vT] [.z k] [ot] (·= .z (IG k)):=by
 refine aia ?_;simp only[rk,D.bu,amY,amF,an3];unfold IG;refine⟨fun h=>by rw[amu h],fun h1=>?_⟩;rw[amt h1];refine⟨fun h=>by rw[amu h],fun h2=>?_⟩;rw[amt h2];refine⟨fun h=>by rw[amu h],fun h3=>?_⟩;rw[amt h3];refine⟨fun h=>by rw[amu h],fun V=>?_⟩;rw[amt V];refine⟨fun h=>by rw[amu h],fun Z=>?_⟩;rw[amt Z];refine⟨fun h=>by rw[amu h],fun J=>?_⟩;rw[amt J];refine⟨fun h=>by rw[amu h],fun Y=>?_⟩;rw[amt Y];refine⟨fun h=>by rw[amu h],fun U=>?_⟩;rw[amt U];refine⟨fun h=>by rw[amu h],fun O=>?_⟩;rw[amt O];refine⟨fun h=>by rw[amu h],fun A=>?_⟩;rw[amt A];refine⟨fun h=>by rw[amu h],fun I=>?_⟩;rw[amt I];exact⟨fun h=>by rw[amu h],fun h=>by rw[amt h]⟩
def bm.BI (t:bm):Nat->Int->Int->Option Int
 |0,_,_=>none
 |n+1,r,s=>
  match t.get r with
  |none=>some 0
  |some x=>if x.k=14 then bm.BI t n x.of (tE (tE 63 s) x.set)else if x.k=15\/x.k=16 then bm.BI t n x.of s else some (tE (tE 63 s) (IG x.k))
section
variable {W:WS} {w:Wo} (hW:Lj W w)
include hW
theorem ad1 (r a:Int)(n:Nat)(Y:w.th.BI n r 63=some a):PH rE (oQ W r) (Wm W) 3 ka (fun d=>D.int d=a):=by
 have loop:∀(n:Nat) (J s:Int),w.th.BI n J s=some a->aC pg rE [ot] (.bK 3 (ka (oQ W r) (Wm W)) fun d=>D.int d=a) (xC W r J s):=by
  intro n
  induction n with
  |zero=>intro J s h;simp[bm.BI]at h
  |succ n V=>
   intro J s h;refine W8 ?_;simp only[rk,hW.th,bm.i7];refine⟨_,_,rfl,Lw hW J,?_⟩;intro d hd;rw[hd];simp only[bm.BI]at h
   cases U:w.th.get J with
   |none=>simp[U]at h;simp;exact⟨rfl,G7 h⟩
   |some x=>
    simp only[U]at h;simp[-exists_and_left,bm.val U,afb];refine⟨fun O=>?_,fun O=>⟨fun A=>?_,fun A=>⟨fun I=>?_,fun I=>?_⟩⟩⟩
    ·rw[amu O]at h;exact V _ _ h
    ·rw[amt O,amu (.inl A)]at h;exact V _ _ h
    ·rw[amt O,amu (.inr I)]at h;exact V _ _ h
    rw[amt O,amt (by simp[-exists_and_left,A,I])]at h;refine⟨_,_,_,rfl,alL x.k,?_⟩;rintro _ rfl;exact⟨rfl,G7 (amK h)⟩
 exact afC (loop n r 63 Y)
omit hW in
theorem ZQ (W:WS):xR W.th W.st W.ck (D.fh W.th) W.st W.ck=true:=by simp[xR]
def bm.CS (t:bm)(r k o:Int):Bool:=t.any fun p=>decide (p.1≠r/\p.2.k=k/\p.2.of=o)
def bm.one (t:bm):Prop:=(t.map (·.1)).Nodup
omit hW in
theorem bm.wL {t:bm}(h1:t.one){r:Int}{x:Wh}:t.get r=some x↔(r,x)∈t:=by
 induction t with
 |nil=>simp[bm.get]
 |cons p q A=>
  have h2:bm.one q:=(anp.1 h1).2;have I:p.1∉q.map (·.1):=(anp.1 h1).1;simp only[bm.get,amz]
  split
  ·rename_i h
   subst h;constructor
   ·intro e;cases e;exact .inl rfl
   rintro(e|e)
   ·rw[<-e]
   exact absurd (anh.2 ⟨_,e,rfl⟩) I
  rename_i h
  rw[A h2];exact⟨.inr,fun e=>by rcases e with e|e;exact absurd (by rw[<-e]) h;exact e⟩
omit hW in
theorem bm.pY {t:bm}{r:Int}:(t.get r).isSome=true↔r∈t.map (·.1):=by
 induction t with
 |nil=>simp[bm.get]
 |cons p q A=>
  simp only[bm.get,anb,amz]
  split
  ·rename_i h;simp[h]
  rename_i h;rw[A];exact⟨.inr,fun e=>by rcases e with e|e;exact absurd e.symm h;exact e⟩
omit hW in
theorem wA {M:List Int->Prop}(ks:List Int)(h:∀l,(∀q∈l,q∈ks)->l.Nodup->(∀d∈ks,d∉l->M (d::l))->M l):M []:=by
 have key:∀(n:Nat) (l:List Int),(∀q∈l,q∈ks)->l.Nodup->(ks.filter (·∉l)).length<=n->M l:=by
  intro n
  induction n with
  |zero=>intro l h1 h2 J;refine h l h1 h2 fun d hd A=>?_;have:d∈ks.filter (·∉l):=(by simp[hd,A]);have:=ao1 this;omega
  |succ n O=>
   intro l h1 h2 J;refine h l h1 h2 fun d hd A=>O _ (fun q hq=>by rcases amz.1 hq with rfl|hq;exact hd;exact h1 q hq) (anp.2 ⟨A,h2⟩) ?_;have I:(ks.filter (·∉d::l)).length<(ks.filter (·∉l)).length:=by have e:ks.filter (·∉d::l)=(ks.filter (·∉l)).filter (·≠d):=(by rw[List.filter_filter];congr 1;funext x;simp[and_comm]);rw[e];exact List.length_filter_lt_length_iff_exists.2 ⟨d,by simp[hd,A],by simp⟩
   omega
 exact key _ [] (by simp) (by simp) (amG _)
omit hW in
theorem afc {d:D}{l:List Int}:d∈aY l↔∃n,d= .z n/\n∈l:=by simp[eq_comm,and_comm]
omit hW in
@[simp] def Jf {n:Int}{l:List Int}:D.z n∈aY l↔n∈l:=by simp
theorem DZ {C:cK}{G:vJ}{l:List Int}{e:RT}{k:D->RT}(h0:(∀p∈w.th,p.1∈l)->rk pg C G e)(I:∀n∈w.th.map (·.1),n∉l->rk pg C G (k (.z n))):
 rk pg C G (.ite (xR W.th W.st W.ck (D.fh W.th) W.st W.ck) (.pick (D.fh W.th) (aY l) e k) .bT):=by
 refine⟨fun _=>⟨fun h=>h0 fun p hp=>?_,fun d hd J=>?_⟩,fun h=>by rw[ZQ]at h;cases h⟩
 ·have:=h (.z p.1) (by rw[hW.th,bm.fh,Jf];exact anh.2 ⟨p,hp,rfl⟩)
  rwa [Jf]at this
 rw[hW.th,bm.fh]at hd;obtain⟨n,rfl,A⟩:=afc.1 hd;exact I n A fun h=>J (Jf.2 h)
theorem aas (h1:w.th.one)(r k o:Int):PH oB (zo W r k o) (Wm W) 3 cA (fun d=>D.bool d=w.th.CS r k o):=by
 have loop:(∀p∈w.th,p.1∈([]:List Int)->¬(p.1≠r/\p.2.k=k/\p.2.of=o))->
  aC pg oB [aj] (.bK 3 (cA (zo W r k o) (Wm W)) fun d=>D.bool d=w.th.CS r k o) (qD W r k o (aY [])):=by
  refine wA (M:=fun l=>(∀p∈w.th,p.1∈l->¬(p.1≠r/\p.2.k=k/\p.2.of=o))->aC pg oB [aj] (.bK 3 (cA (zo W r k o) (Wm W)) fun d=>D.bool d=w.th.CS r k o) (qD W r k o (aY l))) (w.th.map (·.1)) fun l hl hn Z hno=>?_;refine Ur (DZ hW (fun J=>?_) fun n I Y=>?_)
  ·refine⟨rfl,BT ?_⟩;have:¬w.th.CS r k o=true:=fun h=>by simp only[bm.CS,aoM,aml]at h;obtain⟨p,hp,h2⟩:=h;exact hno p hp (J p hp) h2
   simpa using this
  obtain⟨x,V⟩:=amR.1 (bm.pY.2 I);have O:=(bm.wL h1).1 V;have A:¬(n≠r/\x.k=k/\x.of=o)->aC pg oB [aj] (.bK 3 (cA (zo W r k o) (Wm W)) fun d=>D.bool d=w.th.CS r k o) (qD W r k o (.z n::aY l)):=fun hc=>by
   have:=Z n I Y fun p hp hpl=>by
    rcases amz.1 hpl with e|hpl
    ·have U:w.th.get p.1=some p.2:=(bm.wL h1).2 hp;rw[e,V]at U;cases U;rw[e];exact hc
    exact hno p hp hpl
   simpa using this
  simp only[rk,hW.th,bm.i7,V,anD,bm.val V,D.bu,Wh.ek,Wh.mj,aot,an3,anE,amY,amF,amx,amy,amA,amS];refine⟨fun a=>⟨fun b=>⟨fun c=>?_,fun c=>A (by simp[c])⟩,fun b=>A (by simp[b])⟩,fun a=>A (by simp[a])⟩;refine⟨rfl,BT ?_⟩;symm;simp only[bm.CS,aoM,aml];exact⟨_,O,a,b,c⟩
 exact acG (loop (by simp))
end
end
section
section
variable {W:WS} {w:Wo} (hW:Lj W w)
include hW
theorem AH:PH gv (bG W) (Wm W) 3 aG (fun d=>D.int d=w.ma.length):=by
 refine acD ?_;simp only[rk];exact⟨rfl,G7 (by rw[hW.ma];simp)⟩
theorem ad2 (s:Int):PH JX (oQ W s) (Wm W) 3 cA (fun d=>D.bool d=decide (0<=s/\s<w.ma.length)):=by
 refine afJ ?_;simp only[rk];refine⟨fun h=>⟨_,_,rfl,AH hW,?_⟩,fun h=>⟨rfl,BT ?_⟩⟩
 ·intro d hd;rw[hd];refine⟨rfl,BT ?_⟩;have h:0<=s:=by simpa using h
  simp[h]
 have h:¬0<=s:=by simpa using h
 simp[h]
theorem VM (l:List Int)(hl:l.length<2^63):PH gf (kQ W (aY l)) (Wm1 W) 4 aG
 (fun d=>decide (0<=D.int d)=!l.all fun r=>(w.th.get r).isSome):=by
 have loop:∀(rest:List Int) (i:Nat),l.drop i=rest->
  aC pg gf [ah] (.bK 4 (aG (kQ W (aY l)) (Wm1 W)) fun d=>decide (0<=D.int d)=!rest.all fun r=>(w.th.get r).isSome) (nJ W (aY l) i):=by
  intro rest
  induction rest with
  |nil=>intro i hd;have:=drop_nil hd;refine Ak ?_;simp only[rk,amm];refine⟨fun h=>by simp at h;omega,fun _=>⟨rfl,.z (-1),.ret,by simp⟩⟩
  |cons x rest V=>
   intro i hd;obtain⟨O,U,J⟩:=aF hd;refine Ak ?_;simp[-exists_and_left,J,aR,bC (f:=D.z) O,bL J hl];refine⟨_,_,rfl,Lw hW x,?_⟩;intro d A;rw[A]
   cases I:w.th.get x with
   |none=>simp;exact⟨rfl,.z i,.ret,by simp[I]⟩
   |some y=>have e:=V (i+1) U;simpa [I]using e
 exact NV (loop l 0 rfl)
theorem Px (l:List Int)(hl:l.length<2^63):PH kh (kQ W (aY l)) (Wm1 W) 4 cA
 (fun d=>D.bool d=!l.all fun r=>(w.th.get r).isSome):=by
 refine I1 ?_;simp only[rk,D.aK];refine⟨_,_,rfl,VM hW l hl,?_⟩;intro d hd;exact⟨rfl,BT hd⟩
def bm.Kc (t:bm)(x:Wh):Bool:=(aA.dF x.aN).all fun r=>(t.get r).isSome
theorem agZ (x:Wh)(U:x.ok)(hs:x.sz<2^30)(J:∀v∈x.aN,v.fE=true):PH GC (ov W x.ar) (Wm W) 3 cA (fun d=>D.bool d=w.th.Kc x):=by
 have O:=aA.zG x.aN;have I:=hs;simp only[Wh.sz]at I;refine acF ?_;simp only[rk,D.aK];refine⟨_,_,rfl,akj x U hs J,?_⟩;intro d hd;rw[hd];refine⟨fun _=>⟨_,_,rfl,Px hW (aA.dF x.aN) (by omega),?_⟩,fun h=>by simp at h⟩;intro V A;rw[A];exact⟨rfl,BT (by simp[bm.Kc])⟩
end
end
section
def qg (l:List Int):Bool:=decide (l.length<16)&&(List.range l.length).all fun i=>decide (0<=l.getD i 0/\l.getD i 0<=i)
def tA (l:List Int):qg l=true↔l.length<16/\∀(i:Nat) (x:Int),l[i]?=some x->0<=x/\x<=i:=by
 simp only[qg,amo,aml,ang,ao2];constructor
 ·rintro⟨h1,h2⟩;refine⟨h1,fun i x A=>?_⟩;obtain⟨hi,rfl⟩:=amw.1 A;have:=h2 i hi;simpa [List.getD,hi]using this
 rintro⟨h1,h2⟩;refine⟨h1,fun i hi=>?_⟩;have:=h2 i l[i] (amr hi);simpa [List.getD,hi]using this
def ajd (l:List Int)(hl:l.length<2^30):PH ui (ga (aY l)) [] 0 Dj (fun d=>D.bool d=qg l):=by
 have no:¬qg l=true->∃d,T.dV (BV.tuple [.gF,.int .i64 71],([]:List (Nat×aE))) (Dj (ga (aY l)) [] d)/\D.bool d=qg l:=fun h=>⟨.b false,.ff rfl .ret,by simpa using h⟩;have loop:∀(rest:List Int) (i:Nat),l.length<16->l.drop i=rest->(∀(j:Nat) (x:Int),j<i->l[j]?=some x->0<=x/\x<=j)->
  aC pg ui [cy,bn] (.bK 0 (Dj (ga (aY l)) []) fun d=>D.bool d=qg l) (DQ (aY l) i):=by
  intro rest
  induction rest with
  |nil=>intro i A hd hp;have hi:=drop_nil hd;have U:qg l=true:=(tA l).2 ⟨A,fun j x V=>hp j x (by have:=(amw.1 V).1;omega) V⟩;refine Qu ?_;rw[bM (x:=((aY l).length:Int)+1) (by simp;omega) (by simp;omega)];simp only[rk,amm,D.aK];refine⟨fun h=>by simp at h;omega,fun _=>⟨fun _=>⟨fun _=>?_,fun h=>by simp[vQ]at h;omega⟩,fun h=>by simp[vQ]at h;omega⟩⟩;refine⟨_,_,rfl,IK (aY l) (by simp;omega),?_⟩;intro d J;rw[J];refine⟨fun _=>⟨rfl,.b true,.tt rfl ?_,U.symm⟩,fun h=>by simp at h⟩;have e:((l.length:Int)+1).toNat=(aY l).length+1:=(by simp);rw[e];exact .ret
  |cons x rest ih=>
   intro i A hd hp;obtain⟨I,Z,Y⟩:=aF hd;refine Qu ?_;simp[Y,aR,bC (f:=D.z) I,bL Y (n:=l.length)];refine⟨fun h=>⟨rfl,no fun a=>by have:=((tA l).1 a).2 i x I;omega⟩,fun h=>⟨fun h2=>⟨rfl,no fun a=>by have:=((tA l).1 a).2 i x I;omega⟩,fun h2=>?_⟩⟩;refine ih (i+1) A Z fun j y V O=>?_
   by_cases e:j=i
   ·subst e;rw[I]at O;cases O;omega
   exact hp j y (by omega) O
 refine ah9 ?_;simp only[rk,amm];refine⟨fun h=>⟨rfl,no fun a=>by have:=((tA l).1 a).1;simp at h;omega⟩,fun h=>loop l 0 (by simp at h;omega) rfl (by intros;omega)⟩
section
variable {W:WS} {w:Wo} (hW:Lj W w)
include hW
theorem abE (n:Int)(hc:w.cu.length=w.ma.length):PH AX (oQ W n) (Wm W) 3 AG
 (fun d=>(d.af 0).int=(if 0<n/\n<w.ma.length then 0 else 2)/\(d.af 1).ae=(if 0<n/\n<w.ma.length then w.cu.set n.toNat true else w.cu).map D.b):=by
 have acn:¬(0<n/\n<w.ma.length)->∃d,T.dV (BV.int .i64 2,Wm W) (AG (oQ W n) (Wm W) d)/\((d.af 0).int=(if 0<n/\n<w.ma.length then 0 else 2)/\(d.af 1).ae=(if 0<n/\n<w.ma.length then w.cu.set n.toNat true else w.cu).map D.b):=fun h=>by refine⟨.r [.z 2,.r W.cu],.ret,?_⟩;rw[amt h,amt h];exact⟨rfl,hW.cu⟩
 refine Wu ?_;simp only[rk];refine⟨fun h=>⟨_,_,rfl,AH hW,?_⟩,fun h=>⟨rfl,acn fun a=>by simp at h;omega⟩⟩;intro d hd;rw[hd];have h:0<n:=by simpa using h
 refine⟨fun h2=>⟨rfl,acn fun a=>by simp at h2;omega⟩,fun h2=>?_⟩;have h2:n<w.ma.length:=by simpa using h2
 have A:W.cu.length=w.ma.length:=by rw[hW.cu];simp[hc]
 refine⟨fun _=>⟨fun _=>⟨rfl,.r [.z 0,.r (W.cu.set n.toNat (.b true))],?_,?_⟩,fun I=>by simp[A]at I;omega⟩,fun I=>by simp[di,A]at I;omega⟩
 ·exact .ret
 rw[amu ⟨h,h2⟩,amu ⟨h,h2⟩];refine⟨rfl,?_⟩;show W.cu.set n.toNat (.b true)=_;rw[hW.cu];simp[List.map_set]
end
end
section
def Qp (n:Nat):Nat:=n % 2+n/2 % 2+n/4 % 2+n/8 % 2+n/16 % 2+n/32 % 2
noncomputable def aek:cK:=({f:=jd,rs:=[ah],bK:=none,cj:=[],bJ:=[],bB:=[]}:cK)
def ajU (n:Nat)(h:n<64):dZ pg jd [dA] [.z n] [ah] (·= .z (Qp n)):=by
 rcases n with _|n
 ·exact dZ.om (C:=aek) M9 600 (.lit (.lit (.lit (.lit (.lit (.lit .all)))))) (t:= .ret (.z (Qp 0))) (by kernel_rfl) (by kernel_rfl) (by kernel_rfl) rfl
 iterate 63 (rcases n with _|n;· exact dZ.om (C:=aek) M9 600 (.lit (.lit (.lit (.lit (.lit (.lit .all)))))) (t:= .ret (.z (Qp _))) (by kernel_rfl) (by kernel_rfl) (by kernel_rfl) rfl)
 omega
def bm.rX (t:bm)(ab:Int->Int)(r:Int):Int:=match t.get r with|some x=>if x.k=14 then-1 else 2^Qp (ab r).toNat-1|none=>0
def vD (f:Int->Int)(l:List Int):Int:=l.foldr (fun r a=>f r+a) 0
def adG {f:Int->Int}{l l':List Int}(h:l.Perm l'):vD f l=vD f l':=by
 unfold vD
 induction h with
 |nil=>rfl
 |cons x _ J=>simp[J]
 |swap x y l=>simp;omega
 |trans _ _ A I=>rw[A,I]
def CN:∀{l ks:List Int},l.Nodup->(∀q∈l,q∈ks)->l.length<=ks.length:=by
 intro l
 induction l with
 |nil=>intros;simp
 |cons a r O=>intro ks h1 h2;have I:=h2 a (by simp);have J:=anp.1 h1;have:=O (ks:=ks.erase a) J.2 fun q A=>(List.mem_erase_of_ne (fun e:q=a=>J.1 (by rw[<-e];exact A))).2 (h2 q (by simp[A]));rw[List.length_erase_of_mem I]at this;have:=ao1 I;simp only[amB];omega
def ZD (n:Nat):Qp n<=6:=by unfold Qp;omega
def YU (t:bm)(ab:Int->Int)(r:Int):-1<=t.rX ab r/\t.rX ab r<=63:=by
 unfold bm.rX
 split
 ·split
  ·omega
  have:=ZD (ab r).toNat;generalize Qp (ab r).toNat=p at this;have:p=0\/p=1\/p=2\/p=3\/p=4\/p=5\/p=6:=by omega
  rcases this with rfl|rfl|rfl|rfl|rfl|rfl|rfl<;>decide
 omega
def Z9 {t:bm}{ab:Int->Int}(l:List Int):-(l.length:Int)<=vD (t.rX ab) l/\vD (t.rX ab) l<=63*l.length:=by
 induction l with
 |nil=>simp[vD]
 |cons a r A=>have:=YU t ab a;simp only[vD,apf,amB]at A ⊢;omega
section
variable {W:WS} {w:Wo} (hW:Lj W w)
include hW
theorem ag1 (h1:w.th.one)(hn:w.th.length<2^40)(ab:Int->Int)(U:∀r∈w.th.map (·.1),(∃n,w.th.BI n r 63=some (ab r))/\0<=ab r/\ab r<64):
 PH oC (bG W) (Wm W) 3 aG (fun d=>D.int d=vD (w.th.rX ab) (w.th.map (·.1))):=by
 have loop:aC pg oC [ah] (.bK 3 (aG (bG W) (Wm W)) fun d=>D.int d=vD (w.th.rX ab) (w.th.map (·.1))) (qG W (vD (w.th.rX ab) []) (aY [])):=by
  refine wA (M:=fun l=>aC pg oC [ah] (.bK 3 (aG (bG W) (Wm W)) fun d=>D.int d=vD (w.th.rX ab) (w.th.map (·.1))) (qG W (vD (w.th.rX ab) l) (aY l))) (w.th.map (·.1)) fun l hl J ih=>?_;have a7:l.length<=w.th.length:=by have:=CN J hl;simpa using this
  have hb:=Z9 (t:=w.th) (ab:=ab) l;refine Uu (DZ hW (fun O=>?_) fun n A a6=>?_)
  ·refine⟨rfl,G7 (adG ?_)⟩;exact(aoI J h1).2 fun a=>⟨hl a,fun ha=>by obtain⟨p,hp,rfl⟩:=anh.1 ha;exact O p hp⟩
  obtain⟨x,hx⟩:=amR.1 (bm.pY.2 A);have hm:vD (w.th.rX ab) (n::l)=w.th.rX ab n+vD (w.th.rX ab) l:=rfl;have hv:w.th.rX ab n=if x.k=14 then-1 else 2^Qp (ab n).toNat-1:=by simp only[bm.rX,hx]
  have I:=YU w.th ab n;have e:=ih n A a6;rw[hm,hv]at e;rw[hv]at I;simp only[rk,hW.th,bm.i7,hx,anD,bm.val hx,Wh.ek,D.bu,amY,amF,an3,amx,amy,amA,amS];refine⟨fun V=>?_,fun V=>?_⟩
  ·rw[amu V]at e;rw[bM,show vD (w.th.rX ab) l-1=-1+vD (w.th.rX ab) l by omega];simpa using e
  rw[amt V]at e I;obtain⟨⟨m,Z⟩,a0,a1⟩:=U n A;refine⟨_,_,rfl,ad1 hW n (ab n) m Z,?_⟩;intro d hd;rw[hd];have Y:IntKind.u64.wrap (ab n)=((ab n).toNat:Int):=by have e1:(IntKind.u64).bits=64:=rfl;have e2:(IntKind.u64).signed=false:=rfl;simp only[wp,e1,e2,aog,amp,ann];omega
  rw[Y];refine⟨_,_,_,rfl,ajU (ab n).toNat (by omega),?_⟩;rintro _ rfl;have hp:=ZD (ab n).toNat;generalize Qp (ab n).toNat=p at hp e I ⊢;refine⟨fun _=>?_,fun h=>by simp at h⟩;simp only[D.bu,amq,Int.one_mul];rw[show min p 64=p by omega];have a8:(2:Int)^p<=64/\1<=(2:Int)^p:=by have:p=0\/p=1\/p=2\/p=3\/p=4\/p=5\/p=6:=(by omega);rcases this with rfl|rfl|rfl|rfl|rfl|rfl|rfl<;>decide
  rw[bM (x:=2^p),bM (x:=2^p-1),bM,Int.add_comm (vD (w.th.rX ab) l)];simpa using e
 exact acI loop
end
end
end Go.Proofs
end
