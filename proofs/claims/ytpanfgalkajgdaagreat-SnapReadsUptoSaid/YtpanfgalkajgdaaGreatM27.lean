import Derived.Test.YtpanfgalkajgdaaGreatM13
import Derived.Test.YtpanfgalkajgdaaGreatM26
set_option linter.all false
noncomputable section
namespace Go.Proofs
open Go Go.PB
def Pa.fA {α β A:Type}(p:Pa α)(f:α->Pa β)(g:β->Pa A):(p.bind f).bind g=p.bind fun a=>(f a).bind g:=by
 funext s
 cases h:p s with
 |none=>rw[Pa.cw h,Pa.cw (Pa.cw h)]
 |some x=>rw[Pa.bind_some h,Pa.bind,Pa.bind_some h];rfl
def Pa.ik {α β:Type}(a:α)(f:α->Pa β):(Pa.ret a).bind f=f a:=rfl
def LA {α:Type}(f:Int->Pa α):Ai.bind f=(cT 8).bind fun n=>f (n-2^63):=funext (Vg f)
def UL (v:aA):aH pg ak v.ar=[.int .u8 v.k,.int .i64 v.n,.ax v.s,.bx ak (v.l.map aA.ar),.int .i64 v.r]:=by rw[aA.az,ai8]
def QF (s:cg)(hs:s.length<2^32):Td df [.ie 0 0] nV aA.ar pV s:=by
 refine NZ (s:=s) ?_;simp only[rk];refine⟨_,_,_,rfl,ake s (by omega),fun d hd=>?_⟩
 cases h:ja 16 512 s with
 |none=>rw[h]at hd;have hd:d= .r [V0.ar,.s [],.z 20]:=hd;subst hd;exact⟨fun _=>⟨_,_,rfl,ve,fun _ _=>ZI rfl (fun _ g=> .tt g .ret) h _⟩,fun g=>tf g⟩
 |some x=>rw[h]at hd;have hd:d= .r [x.1.ar,.s x.2,.z 0]:=hd;subst hd;have f0:D.af (.r [x.1.ar,.s x.2,.z 0]) 0=x.1.ar:=rfl;have f1:D.af (.r [x.1.ar,.s x.2,.z 0]) 1= .s x.2:=rfl;rw[f0,f1,D.dS,aA.ek,aA.jP,aA.pR,aA.hI,aA.rB];exact⟨fun g=>ft g,fun _=>AA rfl (fun _ g=> .ff g .ret) h (UL _)⟩
def Ns (S:cg)(hS:S.length<2^32):Td fL [.ie 0 0,.int .i64 1,.func (.func df) [.ie 0 0] []] pb (EL aA.ar) (cQ pV) S:=
 Kx (s:=S) (Io (Ea 16 512) (by decide) hS (by decide) rfl (fun _ g=> .tt g .ret) (fun _ g=> .ff g .ret) rfl rfl rfl (fun _ _ h=>by rw[h,eN]) (fun s h=>QF s (by omega)) fun _ _ _ _ _ x=>EU (s:=S) x)
def alE (v:fx):aH pg dG v.ar=[.ax v.nm]++aH pg ak v.v.ar:=by rw[fx.az,aA.az];kernel_rfl
def alB (s:cg)(hs:s.length<2^32):Td gQ [.ie 0 0] zO fx.ar Wn s:=by
 refine Qf (s:=s) (qh rfl (fun _ g=> .tt g .ret) rfl (Xl s) rfl fun t s1 d h1 A a b=>?_);have I:=vF h1;(try dsimp only);rw[a,b];refine qh rfl (fun _ g=> .tt g .ret) rfl (QF s1 (by omega)) A fun v s2 d h2 A a b=>?_;rw[a,b,D.dS];exact AA rfl (fun _ g=> .ff g .ret) A (alE _)
def QC (S:cg)(hS:S.length<2^32):Td fl [.ie 0 0,.int .i64 5,.func (.func gQ) [.ie 0 0] []] mQ (EL fx.ar) (cQ Wn) S:=
 Ml (s:=S) (Io Kb (by decide) hS (by decide) rfl (fun _ g=> .tt g .ret) (fun _ g=> .ff g .ret) rfl rfl rfl (fun _ _ h=>by rw[h,fx.re]) (fun s h=>alB s (by omega)) fun _ _ _ _ _ x=>Ge (s:=S) x)
def Hg (v:En):aH pg bF v.ar=[.int .i64 v.r,.int .u8 v.w.k,.int .i64 v.w.h,.int .u8 v.w.v.k,.int .i64 v.w.v.n,.ax v.w.v.s,.bx ak (v.w.v.l.map aA.ar),.int .i64 v.w.v.r,.bx ak (v.w.vs.map aA.ar),.int .i64 v.w.n,.int .i64 v.w.lo,.int .i64 v.w.of,.int .i64 v.w.tD,.int .u8 v.w.set,.bool v.w.Ae,.bx aJ (v.w.co.map St.ar),.bx dG (v.w.ns.map fx.ar)]:=by
 rw[En.az,Wh.az,aA.az];kernel_rfl
def pw1 (f:Nat):Qb f 1=(cT 4).bind fun h=>pV.bind fun v=> .ret {Wh.pw 1 h with v:=v}:=rfl
def pw2 (f:Nat):Qb f 2=(cT 4).bind fun h=>(cQ pV).bind fun vs=> .ret {Wh.pw 2 h with vs:=vs}:=rfl
def pw3 (f:Nat):Qb f 3=(cT 4).bind fun h=>Ai.bind fun n=> .ret {Wh.pw 3 h with n:=n}:=rfl
def pw4 (f:Nat):Qb f 4=(cT 4).bind fun h=>(cQ pV).bind fun vs=> .ret {Wh.pw 4 h with vs:=vs}:=rfl
def pw5 (f:Nat):Qb f 5=(cT 4).bind fun h=> .ret (Wh.pw 5 h):=rfl
def pw6 (f:Nat):Qb f 6=(cT 4).bind fun h=>(cT 4).bind fun o=> .ret {Wh.pw 6 h with of:=o}:=rfl
def pw7 (f:Nat):Qb f 7=(cT 4).bind fun h=>(cT 4).bind fun o=>pV.bind fun v=> .ret {Wh.pw 7 h with of:=o,v:=v}:=rfl
def pw8 (f:Nat):Qb f 8=(cT 4).bind fun h=>Ai.bind fun n=>Ai.bind fun lo=> .ret {Wh.pw 8 h with n:=n,lo:=lo}:=rfl
def pw9 (f:Nat):Qb f 9=(cT 4).bind fun h=>(cT 4).bind fun o=>Ai.bind fun n=> .ret {Wh.pw 9 h with of:=o,n:=n}:=rfl
def al4 (f:Nat):Qb f 10=(cT 4).bind fun h=>Wq.bind fun fu=>pV.bind fun v=> .ret {Wh.pw 10 h with Ae:=fu,v:=v}:=rfl
def al5 (f:Nat):Qb f 11=(cT 4).bind fun h=>(cT 4).bind fun o=> .ret {Wh.pw 11 h with of:=o}:=rfl
def al6 (f:Nat):Qb f 12=(cT 4).bind fun h=>(cQ (GW f)).bind fun co=>(cQ Wn).bind fun ns=> .ret {Wh.pw 12 h with co:=co,ns:=ns}:=rfl
def al7 (f:Nat):Qb f 13=(cT 4).bind fun h=>Wq.bind fun fu=>(cT 4).bind fun o=> .ret {Wh.pw 13 h with Ae:=fu,of:=o}:=rfl
def al8 (f:Nat):Qb f 14=(cT 4).bind fun o=>(cT 1).bind fun st=> .ret {Wh.pw 14 0 with of:=o,set:=st}:=rfl
def al9 (f:Nat):Qb f 15=(cT 4).bind fun h=>(cT 4).bind fun o=>(cT 4).bind fun b=> .ret {Wh.pw 15 h with of:=o,tD:=b}:=rfl
def ama (f:Nat):Qb f 16=(cT 4).bind fun h=>(cT 4).bind fun o=>(cT 4).bind fun b=> .ret {Wh.pw 16 h with of:=o,tD:=b}:=rfl
def aj5 (F:Nat)(s:cg)(hF:s.length<=F)(hs:s.length<2^32):Td hJ [.ie 0 0] xY En.ar (pEn F) s:=by
 refine NY (s:=s) (qh rfl (fun _ g=> .tt g .ret) rfl (fF s) rfl fun r s1 d h1 A a b=>?_);have l1:=(bo h1).1;(try dsimp only);rw[a,b];refine qh rfl (fun _ g=> .tt g .ret) rfl (Im s1) A fun k s2 d h2 A a b=>?_;obtain⟨l2,k0,k1⟩:=bo h2;rw[a,b,D.bu,D.bu,abz k0 (by omega)];refine⟨fun g=>⟨_,_,rfl,ve,fun _ _=>ZI rfl (fun _ g=> .tt g .ret) ?_ _⟩,fun g=>⟨fun g0=>⟨_,_,rfl,ve,fun _ _=>ZI rfl (fun _ g=> .tt g .ret) ?_ _⟩,fun g0=>?_⟩⟩
 ·have g:=amU g;rw[A,Pa.cw];rw[Qb,ifN,ifN]
 ·have g0:k=0:=eq_of_beq g0;subst g0;rw[A,Pa.cw];rfl
 have g:=amE g;refine⟨fun e1=>?_,fun e1=>?_⟩
 ·have e1:k=1:=eq_of_beq e1;subst e1;simp only[pw1,Pa.fA,Pa.ik]at A;refine qh rfl (fun _ g=> .tt g .ret) rfl (fF s2) A fun Y J d I A a b=>?_;have l3:=(bo I).1;(try dsimp only);rw[a,b];refine qh rfl (fun _ g=> .tt g .ret) rfl (QF J (by omega)) A fun V U d O A a b=>?_;(try dsimp only);rw[a,b];simp only[D.bu,D.aK,aA.ek,aA.jP,aA.pR,aA.hI,aA.rB];exact AA rfl (fun _ g=> .ff g .ret) A (Hg _)
 refine⟨fun e2=>?_,fun e2=>?_⟩
 ·have e2:k=2:=eq_of_beq e2;subst e2;simp only[pw2,Pa.fA,Pa.ik]at A;refine qh rfl (fun _ g=> .tt g .ret) rfl (fF s2) A fun Y J d I A a b=>?_;have l3:=(bo I).1;(try dsimp only);rw[a,b];refine qh rfl (fun _ g=> .tt g .ret) rfl (Ns J (by omega)) A fun V U d O A a b=>?_;(try dsimp only);rw[a,b];refine⟨fun _=>?_,fun h=>absurd (amE h) (by simp)⟩;simp only[D.bu,D.aK];exact AA rfl (fun _ g=> .ff g .ret) A (Hg _)
 refine⟨fun e3=>?_,fun e3=>?_⟩
 ·have e3:k=3:=eq_of_beq e3;subst e3;simp only[pw3,Pa.fA,Pa.ik,LA]at A;refine qh rfl (fun _ g=> .tt g .ret) rfl (fF s2) A fun Y J d I A a b=>?_;have l3:=(bo I).1;(try dsimp only);rw[a,b];refine qh rfl (fun _ g=> .tt g .ret) rfl (SQ J) A fun V U d O A a b=>?_;obtain⟨l4,n4,m4⟩:=bo O;(try dsimp only);rw[a,b];simp only[D.bu,D.aK,QY n4 (show V<2^64 by omega)];exact AA rfl (fun _ g=> .ff g .ret) A (Hg _)
 refine⟨fun e4=>?_,fun e4=>?_⟩
 ·have e4:k=4:=eq_of_beq e4;subst e4;simp only[pw4,Pa.fA,Pa.ik]at A;refine qh rfl (fun _ g=> .tt g .ret) rfl (fF s2) A fun Y J d I A a b=>?_;have l3:=(bo I).1;(try dsimp only);rw[a,b];refine qh rfl (fun _ g=> .tt g .ret) rfl (Ns J (by omega)) A fun V U d O A a b=>?_;(try dsimp only);rw[a,b];refine⟨fun _=>?_,fun h=>absurd (amE h) (by simp)⟩;simp only[D.bu,D.aK];exact AA rfl (fun _ g=> .ff g .ret) A (Hg _)
 refine⟨fun e5=>?_,fun e5=>?_⟩
 ·have e5:k=5:=eq_of_beq e5;subst e5;simp only[pw5,Pa.fA,Pa.ik]at A;refine qh rfl (fun _ g=> .tt g .ret) rfl (fF s2) A fun Y J d I A a b=>?_;have l3:=(bo I).1;(try dsimp only);rw[a,b];simp only[D.bu,D.aK];exact AA rfl (fun _ g=> .ff g .ret) A (Hg _)
 refine⟨fun e6=>?_,fun e6=>?_⟩
 ·have e6:k=6:=eq_of_beq e6;subst e6;simp only[pw6,Pa.fA,Pa.ik]at A;refine qh rfl (fun _ g=> .tt g .ret) rfl (fF s2) A fun Y J d I A a b=>?_;have l3:=(bo I).1;(try dsimp only);rw[a,b];refine qh rfl (fun _ g=> .tt g .ret) rfl (fF J) A fun V U d O A a b=>?_;have l4:=(bo O).1;(try dsimp only);rw[a,b];simp only[D.bu,D.aK];exact AA rfl (fun _ g=> .ff g .ret) A (Hg _)
 refine⟨fun e7=>?_,fun e7=>?_⟩
 ·have e7:k=7:=eq_of_beq e7;subst e7;simp only[pw7,Pa.fA,Pa.ik]at A;refine qh rfl (fun _ g=> .tt g .ret) rfl (fF s2) A fun Y J d I A a b=>?_;have l3:=(bo I).1;(try dsimp only);rw[a,b];refine qh rfl (fun _ g=> .tt g .ret) rfl (fF J) A fun V U d O A a b=>?_;have l4:=(bo O).1;(try dsimp only);rw[a,b];refine qh rfl (fun _ g=> .tt g .ret) rfl (QF U (by omega)) A fun x5 s5 d Z A a b=>?_;(try dsimp only);rw[a,b];simp only[D.bu,D.aK,aA.ek,aA.jP,aA.pR,aA.hI,aA.rB];exact AA rfl (fun _ g=> .ff g .ret) A (Hg _)
 refine⟨fun e8=>?_,fun e8=>?_⟩
 ·have e8:k=8:=eq_of_beq e8;subst e8;simp only[pw8,Pa.fA,Pa.ik,LA]at A;refine qh rfl (fun _ g=> .tt g .ret) rfl (fF s2) A fun Y J d I A a b=>?_;have l3:=(bo I).1;(try dsimp only);rw[a,b];refine qh rfl (fun _ g=> .tt g .ret) rfl (SQ J) A fun V U d O A a b=>?_;obtain⟨l4,n4,m4⟩:=bo O;(try dsimp only);rw[a,b];refine qh rfl (fun _ g=> .tt g .ret) rfl (SQ U) A fun x5 s5 d Z A a b=>?_;obtain⟨l5,n5,m5⟩:=bo Z;(try dsimp only);rw[a,b];simp only[D.bu,D.aK,QY n4 (show V<2^64 by omega),QY n5 (show x5<2^64 by omega)];exact AA rfl (fun _ g=> .ff g .ret) A (Hg _)
 refine⟨fun e9=>?_,fun e9=>?_⟩
 ·have e9:k=9:=eq_of_beq e9;subst e9;simp only[pw9,Pa.fA,Pa.ik,LA]at A;refine qh rfl (fun _ g=> .tt g .ret) rfl (fF s2) A fun Y J d I A a b=>?_;have l3:=(bo I).1;(try dsimp only);rw[a,b];refine qh rfl (fun _ g=> .tt g .ret) rfl (fF J) A fun V U d O A a b=>?_;have l4:=(bo O).1;(try dsimp only);rw[a,b];refine qh rfl (fun _ g=> .tt g .ret) rfl (SQ U) A fun x5 s5 d Z A a b=>?_;obtain⟨l5,n5,m5⟩:=bo Z;(try dsimp only);rw[a,b];simp only[D.bu,D.aK,QY n5 (show x5<2^64 by omega)];exact AA rfl (fun _ g=> .ff g .ret) A (Hg _)
 refine⟨fun d0=>?_,fun d0=>?_⟩
 ·have d0:k=10:=eq_of_beq d0;subst d0;simp only[al4,Pa.fA,Pa.ik,Wq]at A;refine qh rfl (fun _ g=> .tt g .ret) rfl (fF s2) A fun Y J d I A a b=>?_;have l3:=(bo I).1;(try dsimp only);rw[a,b];refine qh rfl (fun _ g=> .tt g .ret) rfl (Im J) A fun V U d O A a b=>?_;have l4:=(bo O).1;rw[a,b,D.bu];refine⟨fun g=>⟨_,_,rfl,ve,fun _ _=>ZI rfl (fun _ g=> .tt g .ret) (by rw[A,amt (by have:=amU g;omega)];rfl) _⟩,fun g=>?_⟩;rw[amu (by have:=amE g;omega),Pa.ik]at A;refine qh rfl (fun _ g=> .tt g .ret) rfl (QF U (by omega)) A fun x5 s5 d Z A a b=>?_;(try dsimp only);rw[a,b];simp only[D.bu,D.aK,aA.ek,aA.jP,aA.pR,aA.hI,aA.rB];exact AA rfl (fun _ g=> .ff g .ret) A (Hg _)
 refine⟨fun a6=>?_,fun a6=>?_⟩
 ·have a6:k=11:=eq_of_beq a6;subst a6;simp only[al5,Pa.fA,Pa.ik]at A;refine qh rfl (fun _ g=> .tt g .ret) rfl (fF s2) A fun Y J d I A a b=>?_;have l3:=(bo I).1;(try dsimp only);rw[a,b];refine qh rfl (fun _ g=> .tt g .ret) rfl (fF J) A fun V U d O A a b=>?_;have l4:=(bo O).1;(try dsimp only);rw[a,b];simp only[D.bu,D.aK];exact AA rfl (fun _ g=> .ff g .ret) A (Hg _)
 refine⟨fun a8=>?_,fun a8=>?_⟩
 ·have a8:k=12:=eq_of_beq a8;subst a8;simp only[al6,Pa.fA,Pa.ik]at A;refine qh rfl (fun _ g=> .tt g .ret) rfl (fF s2) A fun Y J d I A a b=>?_;have l3:=(bo I).1;(try dsimp only);rw[a,b];refine qh rfl (fun _ g=> .tt g .ret) rfl (wC F J (by omega) fun s hs=>agp F s (by omega) (by omega)) A fun V U d O A a b=>?_;have l4:=(dR (vB F) (by omega) O).1;(try dsimp only);rw[a,b];refine⟨fun _=>?_,fun h=>absurd (amE h) (by simp)⟩;refine qh rfl (fun _ g=> .tt g .ret) rfl (QC U (by omega)) A fun x5 s5 d Z A a b=>?_;(try dsimp only);rw[a,b];refine⟨fun _=>?_,fun h=>absurd (amE h) (by simp)⟩;simp only[D.bu,D.aK];exact AA rfl (fun _ g=> .ff g .ret) A (Hg _)
 refine⟨fun b6=>?_,fun b6=>?_⟩
 ·have b6:k=13:=eq_of_beq b6;subst b6;simp only[al7,Pa.fA,Pa.ik,Wq]at A;refine qh rfl (fun _ g=> .tt g .ret) rfl (fF s2) A fun Y J d I A a b=>?_;have l3:=(bo I).1;(try dsimp only);rw[a,b];refine qh rfl (fun _ g=> .tt g .ret) rfl (Im J) A fun V U d O A a b=>?_;have l4:=(bo O).1;rw[a,b,D.bu];refine⟨fun g=>⟨_,_,rfl,ve,fun _ _=>ZI rfl (fun _ g=> .tt g .ret) (by rw[A,amt (by have:=amU g;omega)];rfl) _⟩,fun g=>?_⟩;rw[amu (by have:=amE g;omega),Pa.ik]at A;refine qh rfl (fun _ g=> .tt g .ret) rfl (fF U) A fun x5 s5 d Z A a b=>?_;have l5:=(bo Z).1;(try dsimp only);rw[a,b];simp only[D.bu,D.aK];exact AA rfl (fun _ g=> .ff g .ret) A (Hg _)
 refine⟨fun a7=>?_,fun a7=>?_⟩
 ·have a7:k=14:=eq_of_beq a7;subst a7;simp only[al8,Pa.fA,Pa.ik]at A;refine qh rfl (fun _ g=> .tt g .ret) rfl (fF s2) A fun Y J d I A a b=>?_;have l3:=(bo I).1;(try dsimp only);rw[a,b];refine qh rfl (fun _ g=> .tt g .ret) rfl (Im J) A fun V U d O A a b=>?_;have l4:=(bo O).1;(try dsimp only);rw[a,b];simp only[D.bu,D.aK];exact AA rfl (fun _ g=> .ff g .ret) A (Hg _)
 refine⟨fun b1=>?_,fun b1=>?_⟩
 ·have b1:k=15:=eq_of_beq b1;subst b1;simp only[al9,Pa.fA,Pa.ik]at A;refine qh rfl (fun _ g=> .tt g .ret) rfl (fF s2) A fun Y J d I A a b=>?_;have l3:=(bo I).1;(try dsimp only);rw[a,b];refine qh rfl (fun _ g=> .tt g .ret) rfl (fF J) A fun V U d O A a b=>?_;have l4:=(bo O).1;(try dsimp only);rw[a,b];refine qh rfl (fun _ g=> .tt g .ret) rfl (fF U) A fun x5 s5 d Z A a b=>?_;have l5:=(bo Z).1;(try dsimp only);rw[a,b];simp only[D.bu,D.aK];exact AA rfl (fun _ g=> .ff g .ret) A (Hg _)
 refine⟨fun b4=>?_,fun b4=>?_⟩
 ·have b4:k=16:=eq_of_beq b4;subst b4;simp only[ama,Pa.fA,Pa.ik]at A;refine qh rfl (fun _ g=> .tt g .ret) rfl (fF s2) A fun Y J d I A a b=>?_;have l3:=(bo I).1;(try dsimp only);rw[a,b];refine qh rfl (fun _ g=> .tt g .ret) rfl (fF J) A fun V U d O A a b=>?_;have l4:=(bo O).1;(try dsimp only);rw[a,b];refine qh rfl (fun _ g=> .tt g .ret) rfl (fF U) A fun x5 s5 d Z A a b=>?_;have l5:=(bo Z).1;(try dsimp only);rw[a,b];simp only[D.bu,D.aK];exact AA rfl (fun _ g=> .ff g .ret) A (Hg _)
 have:=amT g0;have:=amT e1;have:=amT e2;have:=amT e3;have:=amT e4;have:=amT e5;have:=amT e6;have:=amT e7;have:=amT e8;have:=amT e9;have:=amT d0;have:=amT a6;have:=amT a8;have:=amT b6;have:=amT a7;have:=amT b1;have:=amT b4;omega
def Xk (F:Nat)(S:cg)(A:S.length<=F)(hS:S.length<2^32):Td gW [.ie 0 0,.int .i64 5,.func (.func hJ) [.ie 0 0] []] o0 (EL En.ar) (cQ (pEn F)) S:=
 Kw (s:=S) (Io (Yr F) (by decide) hS (by decide) rfl (fun _ g=> .tt g .ret) (fun _ g=> .ff g .ret) rfl rfl rfl (fun _ _ h=>by rw[h,En.re]) (fun s h=>aj5 F s (by omega) (by omega)) fun _ _ _ _ _ x=>ET (s:=S) x)
def Xq (v:Wl):aH pg aM v.ar=[.bx cq (aY v.pa),.bx ah (aY v.cu),.bx bF (v.th.map En.ar),.int .i64 v.la,.bx ah (aY v.ma)]:=by rw[Wl.az];kernel_rfl
def agr (F:Nat)(s:cg)(hF:s.length<=F)(hs:s.length<2^32):Td kT [.ie 0 0] r8 Wl.ar (Lo F) s:=by
 refine N0 (s:=s) (qh rfl (fun _ g=> .tt g .ret) rfl (ZN s hs) rfl fun p s1 d h1 A a b=>?_);have Y:=(dR qf (by omega) h1).1;(try dsimp only);rw[a,b];refine⟨fun _=>?_,fun h=>absurd (amE h) (by simp)⟩;refine qh rfl (fun _ g=> .tt g .ret) rfl (SP s1 (by omega)) A fun c s2 d h2 A a b=>?_;have Z:=(dR qf (by omega) h2).1;(try dsimp only);rw[a,b];refine⟨fun _=>?_,fun h=>absurd (amE h) (by simp)⟩;refine qh rfl (fun _ g=> .tt g .ret) rfl (fF s2) A fun l O d J A a b=>?_;have l3:=(bo J).1;(try dsimp only);rw[a,b];refine qh rfl (fun _ g=> .tt g .ret) rfl (SP O (by omega)) A fun m I d U A a b=>?_;have V:=(dR qf (by omega) U).1;(try dsimp only);rw[a,b];refine⟨fun _=>?_,fun h=>absurd (amE h) (by simp)⟩;refine qh rfl (fun _ g=> .tt g .ret) rfl (Xk F I (by omega) (by omega)) A fun t s5 d h5 A a b=>?_;(try dsimp only);rw[a,b];refine⟨fun _=>?_,fun h=>absurd (amE h) (by simp)⟩;simp only[D.bu,D.aK];exact AA rfl (fun _ g=> .ff g .ret) A (Xq _)
def alF (v:Su):aH pg aV v.ar=[.int .i64 v.si,.bx aJ (v.co.map St.ar),.bx dG (v.ns.map fx.ar),.bx bW (aY v.se)]:=by rw[Su.az];kernel_rfl
def agq (F:Nat)(s:cg)(Z:s.length<=F)(hs:s.length<2^32):Td fI [.ie 0 0] tN Su.ar (pSu F) s:=by
 refine Ko (s:=s) (qh rfl (fun _ g=> .tt g .ret) rfl (fF s) rfl fun n s1 d h1 A a b=>?_);have U:=(bo h1).1;(try dsimp only);rw[a,b];refine qh rfl (fun _ g=> .tt g .ret) rfl (wC F s1 (by omega) fun s hs=>agp F s (by omega) (by omega)) A fun c s2 d h2 A a b=>?_;have Y:=(dR (vB F) (by omega) h2).1;(try dsimp only);rw[a,b];refine⟨fun _=>?_,fun h=>absurd (amE h) (by simp)⟩;refine qh rfl (fun _ g=> .tt g .ret) rfl (QC s2 (by omega)) A fun k J d I A a b=>?_;have l3:=(dR Kb (by omega) I).1;(try dsimp only);rw[a,b];refine⟨fun _=>?_,fun h=>absurd (amE h) (by simp)⟩;refine qh rfl (fun _ g=> .tt g .ret) rfl (adm J (by omega)) A fun l O d V A a b=>?_;(try dsimp only);rw[a,b];refine⟨fun _=>?_,fun h=>absurd (amE h) (by simp)⟩;simp only[D.bu,D.aK];exact AA rfl (fun _ g=> .ff g .ret) A (alF _)
def RG (F:Nat)(S:cg)(A:S.length<=F)(hS:S.length<2^32):Td fC [.ie 0 0,.int .i64 16,.func (.func fI) [.ie 0 0] []] mE (EL Su.ar) (cQ (pSu F)) S:=
 Ha (s:=S) (Io (Z8 F) (by decide) hS (by decide) rfl (fun _ g=> .tt g .ret) (fun _ g=> .ff g .ret) rfl rfl rfl (fun _ _ h=>by rw[h,Su.re]) (fun s h=>agq F s (by omega) (by omega)) fun _ _ _ _ _ x=>C5 (s:=S) x)
section
abbrev Md (s:cg)(z:Bool):List (Nat×aE):=[(0,.cells [.ax s,.bool z] an false)]
abbrev RdD {α:Type}(f:FuncId)(ags:List BV)(Rg:RH)(e:α->D)(q:Rd α)(s:cg)(z:Bool):Prop:=PH f ags (Md s z) 1 Rg (Da e (q (s,z)))
section
variable {α β:Type} {e:α->D} {q:Rd α} {f:α->Rd β} {eX:β->D} {X:β×cg×Bool} {s:cg} {z:Bool} {C:cK} {G:vJ} {R:RT2} {Rg:RH} {g:FuncId} {ags:List BV} {K:D->RT}
def x6 (hs:rp C.bJ g=some Rg)(hc:RdD g ags Rg e q s z)(I:X=(q.bind f) (s,z))
 (A:∀v st d,q (s,z)=(v,st)->X=f v st->D.af d 1=e v->(d.af 2).ax=st.1->(d.af 0).bool=st.2->rk pg C G (K d)):
 rk pg C G (.au g ags (Md s z) 1 K):=
 ⟨Rg,_,hs,hc,fun d hd=>A _ _ d rfl I hd.1 hd.2.1 hd.2.2⟩
def z6 {t:TypeId}{v:β}{r:cg}{b:Bool}{L:List BV}(he:C.bK=some 1)(A:∀d,T.dV (BV.agg (aH pg t (D.af d 1)),Md (d.af 2).ax (d.af 0).bool) (R d))(I:X=(v,r,b))(hL:aH pg t (eX v)=L):
 rk pg C (.bK 1 R (Da eX X)) (.aT (.agg L) (Md r b)):=
 ⟨he,.r [.b b,eX v,.s r],by have:=A (.r [.b b,eX v,.s r]);rwa [show D.ax (D.af (.r [.b b,eX v,.s r]) 2)=r from D.dS r,show D.bool (D.af (.r [.b b,eX v,.s r]) 0)=b from D.bV b,show D.af (.r [.b b,eX v,.s r]) 1=eX v from rfl,hL]at this,Da.mk I⟩
def Vx {v:List β}{Y:List β×cg×Bool}{t:TypeId}{r:cg}{b:Bool}(he:C.bK=some 1)(A:∀d,T.dV (BV.hY 1 ((d.af 1).ae).length true,[(0,.cells [.ax (d.af 2).ax,.bool (d.af 0).bool] an false),(1,.bY t (d.af 1).ae true)]) (R d))(I:Y=(v,r,b)):
 rk pg C (.bK 1 R (Da (EL eX) Y)) (.aT (.hY 1 v.length true) [(0,.cells [.ax r,.bool b] an false),(1,.bY t (v.map eX) true)]):=
 ⟨he,.r [.b b,.r (v.map eX),.s r],by
   have:=A (.r [.b b,.r (v.map eX),.s r])
   rwa [show D.ax (D.af (.r [.b b,.r (v.map eX),.s r]) 2)=r from D.dS r,show D.bool (D.af (.r [.b b,.r (v.map eX),.s r]) 0)=b from D.bV b,show D.ae (D.af (.r [.b b,.r (v.map eX),.s r]) 1)=v.map eX from D.aK _,amm]at this,Da.mk (e:=EL eX) I⟩
end
def ae8 (st:cg×Bool):0<=(pd st).1/\(pd st).1<=(pd st).2.1.length/\(pd st).2.1.length<=st.1.length/\(0<(pd st).1->(pd st).2.1.length+4<=st.1.length):=by
 have h1:=PA 4 st;have h2:=(eB 4).len st;have A:0<(eb 4 st).1->(eb 4 st).2.1.length+4<=st.1.length:=fun A=>by
  have e:(eb 4 st).1=(jN (qZ 4 st).1:Int):=rfl;have J:(eb 4 st).2=(qZ 4 st).2:=rfl;rw[e]at A;rw[J];simp only[qZ]at A ⊢
  split at A
  ·exact absurd (show (0:Int)<((jN []:Nat):Int)from A) (by decide)
  rename_i I
  rw[amt I];simp only[anz];omega
 simp only[pd,Rd.bind]
 split
 ·exact⟨Int.le_refl _,ap6 _,h2,fun h=>absurd (show (0:Int)<0 from h) (by decide)⟩
 exact⟨h1.1,by show _<=((eb 4 st).2.1.length:Int);omega,h2,A⟩
def aiV {α:Type}{q:Rd α}{E:cg×Bool->List α->Prop}{X:List α×cg×Bool}{n B:Nat}(A:∀st l,X=(l,st)->(st.2=true\/l.length=n)->l.length<=n->E st l)
 (I:∀st l,st.2=false->l.length<n->st.1.length<=B->E (q st).2 (l++[(q st).1])->E st l)(J:∀st,(q st).2.1.length<=st.1.length):
 ∀(k:Nat) (st:cg×Bool) (l:List α),l.length+k=n->st.1.length<=B->X=(l++(vP q k st).1,(vP q k st).2)->E st l
 |0,st,l,h,_,O=>A st l (by rw[O];simp[vP,Rd.ret]) (.inr (by omega)) (by omega)
 |k+1,st,l,h,V,O=>by
  cases U:st.2 with
  |true=>exact A st l (by rw[O];simp[vP,U]) (.inl U) (by omega)
  |false=>refine I st l U (by omega) V (aiV A I J k _ _ (by simp;omega) (am8 (J st) V) ?_);rw[O];simp[vP,U,Rd.bind,Rd.ret]
def M4 {α:Type}{e:α->D}{q:Rd α}{S:cg}{Z:Bool}{C:cK}{G:vJ}{h:Int->cg->Bool->Nat->Int->List D->av}{J:Int->cg->Bool->Nat->Int->List D->RT}{U:cg->Bool->Nat->List D->RT}
 (Y:∀st,(q st).2.1.length<=st.1.length)(hS:S.length<2^32)(hs:rp C.bJ cp=some bR)
 (hq:∀n0 s1 b2 c3 n4 l5,rk pg C G (.ite (decide (n4<n0)) (.ite (!b2) (J n0 s1 b2 c3 n4 l5) (U s1 b2 c3 l5)) (U s1 b2 c3 l5))->aC pg C.f C.rs G (h n0 s1 b2 c3 n4 l5))
 (I:∀st l,eJ q (S,Z)=(l,st)->l.length<=S.length->rk pg C G (U st.1 st.2 l.length (l.map e)))
 (V:∀n0 (st:cg×Bool) (l:List α),st.2=false->st.1.length+4<=S.length->l.length+1<=S.length->
   aC pg C.f C.rs G (h n0 (q st).2.1 (q st).2.2 (l.length+1) (IntKind.i64.wrap ((l.length:Int)+1)) ((l++[(q st).1]).map e))->rk pg C G (J n0 st.1 st.2 l.length l.length (l.map e))):
 rk pg C G (.au cp [.ie 0 0] (Md S Z) 1 fun d=> .bz (h (d.af 1).int (d.af 2).ax (d.af 0).bool 0 0 [])):=by
 refine⟨_,_,hs,akI S Z,fun d hd=>?_⟩;obtain⟨a,b,c⟩:=hd;obtain⟨b0,b1,b2,A⟩:=ae8 (S,Z);have A:0<(pd (S,Z)).1->(pd (S,Z)).2.1.length+4<=S.length:=A;have b2:(pd (S,Z)).2.1.length<=S.length:=b2;show aC pg C.f C.rs G (h (d.af 1).int (d.af 2).ax (d.af 0).bool 0 0 []);have hX:eJ q (S,Z)=vP q (pd (S,Z)).1.toNat (pd (S,Z)).2:=rfl;(try dsimp only);rw[a,b,c,D.bu];generalize (pd (S,Z)).1=n at*;generalize (pd (S,Z)).2=a6 at*;have:=aiV (q:=q) (X:=eJ q (S,Z)) (n:=n.toNat) (B:=a6.1.length) (E:=fun st l=>aC pg C.f C.rs G (h n st.1 st.2 l.length l.length (l.map e)))
  (fun st l hX h1 h2=>hq _ _ _ _ _ _ ⟨fun O=>⟨fun hb=>?_,fun _=>I st l hX (by omega)⟩,fun _=>I st l hX (by omega)⟩)
  (fun st l hz O hB hE=>hq _ _ _ _ _ _ ⟨fun _=>⟨fun _=>V n st l hz (by have:=A (by omega);omega) (by omega) ?_,fun hb=>?_⟩,fun a7=>?_⟩) Y n.toNat a6 [] (by simp) (amG _) (by simpa using hX)
 ·simpa using this
 ·have O:=amU O;rcases h1 with h1|h1
  ·rw[h1]at hb;cases hb
  omega
 ·rw[bL (show l.length<2^32 by omega) (by decide),show l.length+1=(l++[(q st).1]).length by simp];exact hE
 ·rw[hz]at hb;cases hb
 have:=amE a7;omega
def xP {α:Type}(e:α->D)(l:List α){z:Nat}(A:z<=1024)(hl:l.length+1<=2^32):(decide (l.length=(l.map e).length)&&bh z (l.length+1))=true:=by
 have:(2*(l.length+1)+1024)*z<=2^34*2^10:=Nat.mul_le_mul (by omega) (by omega);simp[bh];omega
def OF {P:Prop}{b:Bool}(h:b=true)(h':b=false):P:=tf (h.symm.trans h')
def PL (s:cg)(z:Bool)(hs:s.length<2^32):RdD dO [.ie 0 0] ld aA.ar Fm s z:=by
 refine Ks (s:=s) (z:=z) ?_;simp only[rk];refine⟨fun h=>z6 rfl (fun _=> .ret) (by rw[h];rfl) (UL V0),fun h=>⟨_,_,_,rfl,aih s (by omega),fun d hd=>?_⟩⟩;subst h
 cases h:ja 16 512 s with
 |none=>rw[h]at hd;have hd:d= .r [V0.ar,.s [],.z 20]:=hd;subst hd;have f0:D.af (.r [V0.ar,.s [],.z 20]) 0=V0.ar:=rfl;have f1:D.af (.r [V0.ar,.s [],.z 20]) 1= .s []:=rfl;have f2:(D.int (D.af (.r [V0.ar,.s [],.z 20]) 2)!=0)=true:=rfl;rw[f0,f1,f2,D.dS,eN,aA.ek,aA.jP,aA.pR,aA.hI,aA.rB];exact z6 rfl (fun _=> .ret) (by simp[Fm,h]) (UL V0)
 |some x=>rw[h]at hd;have hd:d= .r [x.1.ar,.s x.2,.z 0]:=hd;subst hd;have f0:D.af (.r [x.1.ar,.s x.2,.z 0]) 0=x.1.ar:=rfl;have f1:D.af (.r [x.1.ar,.s x.2,.z 0]) 1= .s x.2:=rfl;have f2:(D.int (D.af (.r [x.1.ar,.s x.2,.z 0]) 2)!=0)=false:=rfl;rw[f0,f1,f2,D.dS,eN,aA.ek,aA.jP,aA.pR,aA.hI,aA.rB];exact z6 rfl (fun _=> .ret) (by simp[Fm,h]) (UL _)
def aaT (s:cg)(z:Bool)(hs:s.length<2^32):RdD gj [.ie 0 0] nu (EL aA.ar) (eJ Fm) s z:=
 I4 (s:=s) (z:=z) (M4 Gv.len hs rfl (fun n0 s1 b2 c3 n4 l5 x=>D1 (s:=s) (z:=z) (n0:=n0) (s1:=s1) (b2:=b2) (c3:=c3) (n4:=n4) (l5:=l5) x) (fun st l I _=>Vx rfl (fun _=> .ret) I)
  fun n0 st l J h1 h2 A=>⟨_,_,rfl,PL st.1 st.2 (by omega),fun d hd=>by
   obtain⟨a,b,c⟩:=hd;simp only[rk];(try dsimp only);rw[a,b,c,eN]
   exact⟨fun _=>by simpa using A,OF (xP _ l (by decide) (by omega))⟩⟩)
def aex (s:cg)(z:Bool)(hs:s.length<2^32):RdD eQ [.ie 0 0] kZ (EL fx.ar) (eJ TF) s z:=
 Kr (s:=s) (z:=z) (M4 aav.len hs rfl (fun n0 s1 b2 c3 n4 l5 x=>ER (s:=s) (z:=z) (n0:=n0) (s1:=s1) (b2:=b2) (c3:=c3) (n4:=n4) (l5:=l5) x) (fun st l I _=>Vx rfl (fun _=> .ret) I)
  fun n0 st l U h1 h2 O=>x6 (X:=TF st) rfl (Vz st.1 st.2) rfl fun t A d h I a b c=>by
   have:=ry.len st;rw[show Cz st=(t,A)from h]at this;(try dsimp only);rw[a,b,c];refine x6 rfl (PL A.1 A.2 (by simp only at this;omega)) I fun v J d h I a b c=>?_;have I:TF st=(⟨t,v⟩,J):=I;simp only[rk];(try dsimp only);rw[a,b,c,eN,D.dS];rw[I]at O
   exact⟨fun _=>by simpa [fx.az]using O,OF (xP _ l (by decide) (by omega))⟩)
def aaQ (s:cg)(z:Bool)(hs:s.length<2^32):RdD dL [.ie 0 0] mP (EL D.z) (eJ (eb 4)) s z:=
 Mc (s:=s) (z:=z) (M4 (eB 4).len hs rfl (fun n0 s1 b2 c3 n4 l5 x=>F5 (s:=s) (z:=z) (n0:=n0) (s1:=s1) (b2:=b2) (c3:=c3) (n4:=n4) (l5:=l5) x) (fun st l I _=>Vx rfl (fun _=> .ret) I)
  fun n0 st l J h1 h2 A=>⟨_,_,rfl,pM st.1 st.2,fun d hd=>by
   obtain⟨a,b,c⟩:=hd;simp only[rk];(try dsimp only);rw[a,b,c,D.bu]
   exact⟨fun _=>by simpa using A,OF (xP _ l (by decide) (by omega))⟩⟩)
def D.akQ (a:D)(l:List D):D.af (.r (a::l)) 0=a:=rfl
def D.akR (a b:D)(l:List D):D.af (.r (a::b::l)) 1=b:=rfl
def D.akS (a b c:D)(l:List D):D.af (.r (a::b::c::l)) 2=c:=rfl
def D.akT (a b c d:D)(l:List D):D.af (.r (a::b::c::d::l)) 3=d:=rfl
def D.alU (a b c d e:D)(l:List D):D.af (.r (a::b::c::d::e::l)) 4=e:=rfl
def aev (F:Nat)(s:cg)(z:Bool)(h:s.length<=F):dEx F (s,z)=((eb 1).bind fun k=>JO.bind fun n=>Cz.bind fun s=>(eJ (dEx (F-1))).bind fun l=> .ret (.mk k n s l)) (s,z):=by
 cases F with
 |zero=>
  have:s=[]:=aob (by omega);subst this
  cases z<;>rfl
 |succ F=>rfl
def PI (F:Nat)(ih:∀H,F=H+1->∀(s:cg) (z:Bool),s.length<=H->s.length<2^32->RdD dt [.ie 0 0] iu Ex.ar (dEx H) s z)(s:cg)(z:Bool)(Y:s.length<=F)(hs:s.length<2^32):
 RdD dt [.ie 0 0] iu Ex.ar (dEx F) s z:=by
 refine Ma (s:=s) (z:=z) (x6 rfl (PD s z) (aev F s z Y) fun k I d h1 J a b c=>?_);have U:=(eB 1).len (s,z);rw[h1]at U;(try dsimp only);rw[a,b,c];refine x6 rfl (JT I.1 I.2) J fun n A d h2 J a b c=>?_;have V:=Dl.len I;rw[show JO I=(n,A)from h2]at V;(try dsimp only);rw[a,b,c];refine x6 rfl (Vz A.1 A.2) J fun t O d h3 J a b c=>?_;have l3:=ry.len A;rw[show Cz A=(t,O)from h3]at l3;(try dsimp only);rw[a,b,c,D.bu,D.bu,D.dS];simp only at U V l3;refine M4 (e:=Ex.ar) (h:=fun m u b i j l=>lO s z m u b k n t j i l) (Lx (F-1)).len (by omega) rfl (fun n0 s1 b2 c3 n4 l5 x=>F4 (s:=s) (z:=z) (n0:=n0) (s1:=s1) (b2:=b2) (n3:=k) (n4:=n) (s5:=t) (n6:=n4) (c7:=c3) (l8:=l5) x) (fun st l hl _=>?_) fun n0 st l hz h1 h2 Z=>?_
 ·have J:dEx F (s,z)=(.mk k n t l,st):=by rw[J,Rd.bind];have hl:eJ (dEx (F-1)) O=(l,st):=hl;rw[hl];rfl
  simp only[rk,D.akQ,D.akR,D.akS,D.akT,D.bu,D.dS,D.aK];exact⟨fun _=>z6 rfl (fun _=> .ret) J (aiA _),OF (anm (by simp))⟩
 obtain⟨H,rfl⟩:∃H,F=H+1:=⟨F-1,by omega⟩;refine⟨_,_,rfl,ih H rfl st.1 st.2 (by omega) (by omega),fun d hd=>?_⟩;obtain⟨a,b,c⟩:=hd;simp only[rk];(try dsimp only);rw[a,b,c,Ex.re];exact⟨fun _=>by simpa using Z,OF (xP _ l (by decide) (by omega))⟩
def aew:∀(F:Nat) (s:cg) (z:Bool),s.length<=F->s.length<2^32->RdD dt [.ie 0 0] iu Ex.ar (dEx F) s z
 |0=>PI 0 fun H h=>by omega
 |F+1=>PI (F+1) fun H h=>by cases h;exact aew F
end
def PE (F:Nat)(ih:∀H,F=H+1->∀(s:cg) (z:Bool),s.length<=H->s.length<2^32->RdD b7 [.ie 0 0] eD (EL St.ar) (eJ (U4 H)) s z)(s:cg)(z:Bool)(hF:s.length<=F)(hs:s.length<2^32):
 RdD b7 [.ie 0 0] eD (EL St.ar) (eJ (U4 F)) s z:=by
 refine L9 (s:=s) (z:=z) (M4 (e:=St.ar) (h:=lM s z) (X3 F).len hs rfl (fun n0 s1 b2 c3 n4 l5 x=>F3 (s:=s) (z:=z) (n0:=n0) (s1:=s1) (b2:=b2) (c3:=c3) (n4:=n4) (l5:=l5) x) (fun st l A _=>Vx rfl (fun _=> .ret) A) fun n0 st l hz h1 h2 hE=>?_);obtain⟨H,rfl⟩:∃H,F=H+1:=⟨F-1,by omega⟩;have hl:st.1.length<=H:=by omega
 refine x6 rfl (PD st.1 st.2) (X:=U4 (H+1) st) rfl fun op O d g1 A a b c=>?_;have l1:=(eB 1).len st;rw[show eb 1 st=(op,O)from g1]at l1;(try dsimp only);rw[a,b,c];refine x6 rfl (Vz O.1 O.2) A fun nm Y d g2 A a b c=>?_;have l2:=ry.len O;rw[show Cz O=(nm,Y)from g2]at l2;(try dsimp only);rw[a,b,c];refine x6 rfl (Vz Y.1 Y.2) A fun sc U d g3 A a b c=>?_;have l3:=ry.len Y;rw[show Cz Y=(sc,U)from g3]at l3;(try dsimp only);rw[a,b,c];refine x6 rfl (PD U.1 U.2) A fun ab J d g4 A a b c=>?_;have l4:=(eB 1).len U;rw[show eb 1 U=(ab,J)from g4]at l4;(try dsimp only);rw[a,b,c];refine x6 rfl (PD J.1 J.2) A fun wh I d g5 A a b c=>?_;have l5:=(eB 1).len J;rw[show eb 1 J=(wh,I)from g5]at l5;(try dsimp only);rw[a,b,c];simp only at l1 l2 l3 l4 l5;refine x6 rfl (aew H I.1 I.2 (by omega) (by omega)) A fun xa V d g6 A a b c=>?_;have l6:=(Lx H).len I;rw[show dEx H I=(xa,V)from g6]at l6;(try dsimp only);rw[a,b,c];simp only at l6;refine x6 rfl (aew H V.1 V.2 (by omega) (by omega)) A fun xb a8 d g7 A a b c=>?_;have l7:=(Lx H).len V;rw[show dEx H V=(xb,a8)from g7]at l7;(try dsimp only);rw[a,b,c];simp only at l7;refine x6 rfl (ih H rfl a8.1 a8.2 (by omega) (by omega)) A fun th a7 d g8 A a b c=>?_;have l8:=(yF H).len a8;rw[show eJ (U4 H) a8=(th,a7)from g8]at l8;(try dsimp only);rw[a,b,c];simp only at l8;refine⟨fun _=>?_,OF (anm rfl)⟩;refine x6 rfl (ih H rfl a7.1 a7.2 (by omega) (by omega)) A fun el Z d g9 A a b c=>?_;have l9:=(yF H).len a7;rw[show eJ (U4 H) a7=(el,Z)from g9]at l9;(try dsimp only);rw[a,b,c];simp only at l9;refine⟨fun _=>?_,OF (anm rfl)⟩;refine x6 rfl (ih H rfl Z.1 Z.2 (by omega) (by omega)) A fun co b1 d b6 A a b c=>?_;have b4:=(yF H).len Z;rw[show eJ (U4 H) Z=(co,b1)from b6]at b4;(try dsimp only);rw[a,b,c];simp only at b4;refine⟨fun _=>?_,OF (anm rfl)⟩;simp only[D.bu,D.dS,D.aK,Ex.ek,Ex.jP,Ex.pR,Ex.hI];refine M4 (e:=D.s) (h:=fun m u b i j w=>ic s z n0 m u b op nm sc ab wh xa.k xa.n xa.s (xa.l.map Ex.ar) xb.k xb.n xb.s (xb.l.map Ex.ar) (th.map St.ar) (el.map St.ar) (co.map St.ar) j i w l.length l.length (l.map St.ar)) ry.len (by omega) rfl
  (fun m u b i j w x=>Az (s:=s) (z:=z) (n0:=n0) (n1:=m) (s2:=u) (b3:=b) (n4:=op) (s5:=nm) (s6:=sc) (n7:=ab) (n8:=wh) (n9:=xa.k) (n10:=xa.n) (s11:=xa.s) (l12:=xa.l.map Ex.ar) (n13:=xb.k) (n14:=xb.n) (s15:=xb.s) (l16:=xb.l.map Ex.ar) (l17:=th.map St.ar) (l18:=el.map St.ar) (l19:=co.map St.ar) (n20:=j) (c21:=i) (l22:=w) (c23:=l.length) (n24:=l.length) (l25:=l.map St.ar) x) (fun a6 w hw _=>?_) fun m a6 w hz h1 h2 hE=>?_
 ·have A:U4 (H+1) st=(.mk op nm sc ab wh xa xb th el co w,a6):=by rw[A,Rd.bind];have hw:(pd.bind fun k=>vP Cz k.toNat) b1=(w,a6):=hw;rw[hw];rfl
  rw[A]at hE;refine⟨fun _=>⟨fun _=>?_,OF (xP _ l (by decide) (by omega))⟩,OF (anm (by simp))⟩;simp only[am6,anb,ank,St.az,Ex.az]at hE;exact hE
 refine⟨_,_,rfl,Vz a6.1 a6.2,fun d hd=>?_⟩;obtain⟨a,b,c⟩:=hd;simp only[rk];(try dsimp only);rw[a,b,c,D.dS];exact⟨fun _=>by simpa using hE,OF (xP _ w (by decide) (by omega))⟩
def aaO:∀(F:Nat) (s:cg) (z:Bool),s.length<=F->s.length<2^32->RdD b7 [.ie 0 0] eD (EL St.ar) (eJ (U4 F)) s z
 |0=>PE 0 fun H h=>by omega
 |F+1=>PE (F+1) fun H h=>by cases h;exact aaO F
def EV (v:Wh):aH pg aU v.ar=[.int .u8 v.k,.int .i64 v.h,.int .u8 v.v.k,.int .i64 v.v.n,.ax v.v.s,.bx ak (v.v.l.map aA.ar),.int .i64 v.v.r,.bx ak (v.vs.map aA.ar),.int .i64 v.n,.int .i64 v.lo,.int .i64 v.of,.int .i64 v.tD,.int .u8 v.set,.bool v.Ae,.bx aJ (v.co.map St.ar),.bx dG (v.ns.map fx.ar)]:=by
 rw[Wh.az,aA.az];kernel_rfl
def akJ (F:Nat)(s:cg)(z:Bool)(k:Int)(hF:s.length<=F)(hs:s.length<2^32)(k0:0<=k):RdD qz [.ie 0 0,.int .u8 k] v8 Wh.ar (Q1 F k) s z:=by
 refine Mh (s:=s) (z:=z) (k:=k) ?_;refine⟨fun e=>?_,fun e0=>⟨fun e=>?_,fun b6=>⟨fun e=>?_,fun b4=>?_⟩⟩⟩
 ·have e:k=0:=eq_of_beq e;subst e;simp only[D.aK];exact z6 rfl (fun _=> .ret) (v:=Wh.pw 0 0) rfl (EV _)
 ·have e:=amU e;simp only[D.aK];exact z6 rfl (fun _=> .ret) (v:=Wh.pw k 0) (by rw[Q1,amu (.inr e)]) (EV _)
 ·have e:k=14:=eq_of_beq e;subst e;refine x6 (X:=Q1 F 14 (s,z)) (f:=fun o=>(eb 1).bind fun t=> .ret {Wh.pw 14 0 with of:=o,set:=t}) rfl (pM s z) rfl fun x1 A d h1 I a b c=>?_;(try dsimp only);rw[a,b,c];refine x6 rfl (PD A.1 A.2) I fun U J d h2 I a b c=>?_;(try dsimp only);rw[a,b,c];simp only[D.bu,D.aK];exact z6 rfl (fun _=> .ret) I (EV _)
 have e0:=amT e0;have b6:=amE b6;have b4:=amT b4;have I:Q1 F k (s,z)=_:=aqj ((amt (show ¬(k<=0\/k>16)by omega)).trans (amt b4)) (s,z);refine x6 rfl (pM s z) I fun h A d h1 I a b c=>?_;have l1:=(eB 4).len (s,z);rw[h1]at l1;simp only at l1;(try dsimp only);rw[a,b,c];refine⟨fun e1=>?_,fun e1=>?_⟩
 ·have e1:k=1:=eq_of_beq e1;subst e1;have I:Q1 F 1 (s,z)=(Fm.bind fun v=> .ret ({Wh.pw 1 h with v:=v}:Wh):Rd Wh) A:=I;refine x6 rfl (PL A.1 A.2 (by omega)) I fun U J d h2 I a b c=>?_;(try dsimp only);rw[a,b,c];simp only[D.bu,D.aK,D.bV,aA.ek,aA.jP,aA.pR,aA.hI,aA.rB];exact z6 rfl (fun _=> .ret) I (EV _)
 refine⟨fun e2=>?_,fun e2=>?_⟩
 ·have e2:k=2:=eq_of_beq e2;subst e2;have I:Q1 F 2 (s,z)=((eJ Fm).bind fun vs=> .ret ({Wh.pw 2 h with vs:=vs}:Wh):Rd Wh) A:=I;refine x6 rfl (aaT A.1 A.2 (by omega)) I fun U J d h2 I a b c=>?_;(try dsimp only);rw[a,b,c];refine⟨fun _=>?_,OF (anm rfl)⟩;simp only[D.bu,D.aK,D.bV];exact z6 rfl (fun _=> .ret) I (EV _)
 refine⟨fun e4=>?_,fun e4=>?_⟩
 ·have e4:k=4:=eq_of_beq e4;subst e4;have I:Q1 F 4 (s,z)=((eJ Fm).bind fun vs=> .ret ({Wh.pw 4 h with vs:=vs}:Wh):Rd Wh) A:=I;refine x6 rfl (aaT A.1 A.2 (by omega)) I fun U J d h2 I a b c=>?_;(try dsimp only);rw[a,b,c];refine⟨fun _=>?_,OF (anm rfl)⟩;simp only[D.bu,D.aK,D.bV];exact z6 rfl (fun _=> .ret) I (EV _)
 refine⟨fun e3=>?_,fun e3=>?_⟩
 ·have e3:k=3:=eq_of_beq e3;subst e3;have I:Q1 F 3 (s,z)=(JO.bind fun n=> .ret ({Wh.pw 3 h with n:=n}:Wh):Rd Wh) A:=I;refine x6 rfl (JT A.1 A.2) I fun U J d h2 I a b c=>?_;(try dsimp only);rw[a,b,c];simp only[D.bu,D.aK,D.bV];exact z6 rfl (fun _=> .ret) I (EV _)
 refine⟨fun e6=>?_,fun e6=>?_⟩
 ·have e6:k=6:=eq_of_beq e6;subst e6;have I:Q1 F 6 (s,z)=((eb 4).bind fun o=> .ret ({Wh.pw 6 h with of:=o}:Wh):Rd Wh) A:=I;refine x6 rfl (pM A.1 A.2) I fun U J d h2 I a b c=>?_;(try dsimp only);rw[a,b,c];simp only[D.bu,D.aK,D.bV];exact z6 rfl (fun _=> .ret) I (EV _)
 refine⟨fun Y=>?_,fun Y=>?_⟩
 ·have Y:k=11:=eq_of_beq Y;subst Y;have I:Q1 F 11 (s,z)=((eb 4).bind fun o=> .ret ({Wh.pw 11 h with of:=o}:Wh):Rd Wh) A:=I;refine x6 rfl (pM A.1 A.2) I fun U J d h2 I a b c=>?_;(try dsimp only);rw[a,b,c];simp only[D.bu,D.aK,D.bV];exact z6 rfl (fun _=> .ret) I (EV _)
 refine⟨fun e7=>?_,fun e7=>?_⟩
 ·have e7:k=7:=eq_of_beq e7;subst e7;have I:Q1 F 7 (s,z)=((eb 4).bind fun o=>Fm.bind fun v=> .ret ({Wh.pw 7 h with of:=o,v:=v}:Wh):Rd Wh) A:=I;refine x6 rfl (pM A.1 A.2) I fun U J d h2 I a b c=>?_;have O:=(eB 4).len A;rw[show (eb 4) A=(U,J)from h2]at O;simp only at O;(try dsimp only);rw[a,b,c];refine x6 rfl (PL J.1 J.2 (by omega)) I fun x3 V d h3 I a b c=>?_;(try dsimp only);rw[a,b,c];simp only[D.bu,D.aK,D.bV,aA.ek,aA.jP,aA.pR,aA.hI,aA.rB];exact z6 rfl (fun _=> .ret) I (EV _)
 refine⟨fun e8=>?_,fun e8=>?_⟩
 ·have e8:k=8:=eq_of_beq e8;subst e8;have I:Q1 F 8 (s,z)=(JO.bind fun n=>JO.bind fun lo=> .ret ({Wh.pw 8 h with n:=n,lo:=lo}:Wh):Rd Wh) A:=I;refine x6 rfl (JT A.1 A.2) I fun U J d h2 I a b c=>?_;have O:=Dl.len A;rw[show JO A=(U,J)from h2]at O;simp only at O;(try dsimp only);rw[a,b,c];refine x6 rfl (JT J.1 J.2) I fun x3 V d h3 I a b c=>?_;(try dsimp only);rw[a,b,c];simp only[D.bu,D.aK,D.bV];exact z6 rfl (fun _=> .ret) I (EV _)
 refine⟨fun e9=>?_,fun e9=>?_⟩
 ·have e9:k=9:=eq_of_beq e9;subst e9;have I:Q1 F 9 (s,z)=((eb 4).bind fun o=>JO.bind fun n=> .ret ({Wh.pw 9 h with of:=o,n:=n}:Wh):Rd Wh) A:=I;refine x6 rfl (pM A.1 A.2) I fun U J d h2 I a b c=>?_;have O:=(eB 4).len A;rw[show (eb 4) A=(U,J)from h2]at O;simp only at O;(try dsimp only);rw[a,b,c];refine x6 rfl (JT J.1 J.2) I fun x3 V d h3 I a b c=>?_;(try dsimp only);rw[a,b,c];simp only[D.bu,D.aK,D.bV];exact z6 rfl (fun _=> .ret) I (EV _)
 refine⟨fun a8=>?_,fun a8=>?_⟩
 ·have a8:k=10:=eq_of_beq a8;subst a8;have I:Q1 F 10 (s,z)=(TG.bind fun fu=>Fm.bind fun v=> .ret ({Wh.pw 10 h with Ae:=fu,v:=v}:Wh):Rd Wh) A:=I;refine x6 rfl (akK A.1 A.2) I fun U J d h2 I a b c=>?_;have O:=Oc.len A;rw[show TG A=(U,J)from h2]at O;simp only at O;(try dsimp only);rw[a,b,c];refine x6 rfl (PL J.1 J.2 (by omega)) I fun x3 V d h3 I a b c=>?_;(try dsimp only);rw[a,b,c];simp only[D.bu,D.aK,D.bV,aA.ek,aA.jP,aA.pR,aA.hI,aA.rB];exact z6 rfl (fun _=> .ret) I (EV _)
 refine⟨fun b1=>?_,fun b1=>?_⟩
 ·have b1:k=12:=eq_of_beq b1;subst b1;have I:Q1 F 12 (s,z)=((eJ (U4 F)).bind fun co=>(eJ TF).bind fun ns=> .ret ({Wh.pw 12 h with co:=co,ns:=ns}:Wh):Rd Wh) A:=I;refine x6 rfl (aaO F A.1 A.2 (by omega) (by omega)) I fun U J d h2 I a b c=>?_;have O:=(yF F).len A;rw[show (eJ (U4 F)) A=(U,J)from h2]at O;simp only at O;(try dsimp only);rw[a,b,c];refine⟨fun _=>?_,OF (anm rfl)⟩;refine x6 rfl (aex J.1 J.2 (by omega)) I fun x3 V d h3 I a b c=>?_;(try dsimp only);rw[a,b,c];refine⟨fun _=>?_,OF (anm rfl)⟩;simp only[D.bu,D.aK,D.bV];exact z6 rfl (fun _=> .ret) I (EV _)
 refine⟨fun a7=>?_,fun a7=>?_⟩
 ·have a7:k=13:=eq_of_beq a7;subst a7;have I:Q1 F 13 (s,z)=(TG.bind fun fu=>(eb 4).bind fun o=> .ret ({Wh.pw 13 h with Ae:=fu,of:=o}:Wh):Rd Wh) A:=I;refine x6 rfl (akK A.1 A.2) I fun U J d h2 I a b c=>?_;have O:=Oc.len A;rw[show TG A=(U,J)from h2]at O;simp only at O;(try dsimp only);rw[a,b,c];refine x6 rfl (pM J.1 J.2) I fun x3 V d h3 I a b c=>?_;(try dsimp only);rw[a,b,c];simp only[D.bu,D.aK,D.bV];exact z6 rfl (fun _=> .ret) I (EV _)
 refine⟨fun Z=>?_,fun Z=>?_⟩
 ·have Z:k=15:=eq_of_beq Z;subst Z;have I:Q1 F 15 (s,z)=((eb 4).bind fun o=>(eb 4).bind fun b=> .ret ({Wh.pw 15 h with of:=o,tD:=b}:Wh):Rd Wh) A:=I;refine x6 rfl (pM A.1 A.2) I fun U J d h2 I a b c=>?_;have O:=(eB 4).len A;rw[show (eb 4) A=(U,J)from h2]at O;simp only at O;(try dsimp only);rw[a,b,c];refine x6 rfl (pM J.1 J.2) I fun x3 V d h3 I a b c=>?_;(try dsimp only);rw[a,b,c];simp only[D.bu,D.aK,D.bV];exact z6 rfl (fun _=> .ret) I (EV _)
 refine⟨fun a6=>?_,fun a6=>?_⟩
 ·have a6:k=16:=eq_of_beq a6;subst a6;have I:Q1 F 16 (s,z)=((eb 4).bind fun o=>(eb 4).bind fun b=> .ret ({Wh.pw 16 h with of:=o,tD:=b}:Wh):Rd Wh) A:=I;refine x6 rfl (pM A.1 A.2) I fun U J d h2 I a b c=>?_;have O:=(eB 4).len A;rw[show (eb 4) A=(U,J)from h2]at O;simp only at O;(try dsimp only);rw[a,b,c];refine x6 rfl (pM J.1 J.2) I fun x3 V d h3 I a b c=>?_;(try dsimp only);rw[a,b,c];simp only[D.bu,D.aK,D.bV];exact z6 rfl (fun _=> .ret) I (EV _)
 have e1:=amT e1;have e2:=amT e2;have e4:=amT e4;have e3:=amT e3;have e6:=amT e6;have Y:=amT Y;have e7:=amT e7;have e8:=amT e8;have e9:=amT e9;have a8:=amT a8;have b1:=amT b1;have a7:=amT a7;have Z:=amT Z;have a6:=amT a6;have e5:k=5:=by omega
 subst e5;have I:Q1 F 5 (s,z)=(.ret (Wh.pw 5 h:Wh):Rd Wh) A:=I;simp only[D.bu,D.aK,D.bV];exact z6 rfl (fun _=> .ret) I (EV _)
def aaS {α:Type}(q:Rd α):∀(n:Nat) (st:cg×Bool),(vP q n st).1.length<=n
 |0,_=>amG _
 |n+1,st=>by
  simp only[vP]
  split
  ·exact anX _
  simp only[Rd.bind,Rd.ret,amB];have:=aaS q n (q st).2;omega
def aaR {α:Type}(q:Rd α)(st:cg×Bool):(eJ q st).1.length<=st.1.length:=by
 have h1:=aaS q (pd st).1.toNat (pd st).2;obtain⟨h2,A,I,-⟩:=ae8 st;have e:eJ q st=vP q (pd st).1.toNat (pd st).2:=rfl;rw[e];omega
def aeC (F:Nat)(s:cg)(z:Bool)(hF:s.length<=F)(hs:s.length<2^32):RdD cE [.ie 0 0] gJ Wl.ar (dWl F) s z:=by
 refine Kt (s:=s) (z:=z) (x6 (X:=dWl F (s,z)) rfl (aaQ s z hs) rfl fun p J d h1 A a b c=>?_);have l1:=zP.len (s,z);have Z:=aaR (eb 4) (s,z);rw[h1]at l1 Z;simp only at l1 Z;(try dsimp only);rw[a,b,c,D.aK,amm];have loop:∀(j:Nat) (i:Nat),i+j=p.length->aC pg cE [aM] (.bK 1 (gJ (ba s z) (bc s z)) (Da Wl.ar (dWl F (s,z)))) (kK s z p.length J.1 J.2 (aY p) i i (aY (p.take i))):=by
  intro j
  induction j with
  |succ j ih=>
   intro i hi;have hg:p[i]?=some (p[i]'(by omega)):=amr _;refine vS (s:=s) (z:=z) ?_;simp only[rk,aml,amk,amm,amq,aR (show i<p.length by omega),bC hg,D.bu,amI];refine⟨fun _=>⟨fun _=>⟨fun _=>⟨fun _=>?_,fun h=>?_⟩,fun h=>by omega⟩,fun h=>by cases h⟩,fun h=>by omega⟩
   ·have:=ih (i+1) (by omega);rw[bL (show i<p.length by omega)];have e:aY (p.take i)++[D.z (p[i]'(by omega))]=aY (p.take (i+1)):=(by show List.map D.z _++_=List.map D.z _;rw[ao3,hg,am6];rfl);rw[e];exact this
   have e:i=min i p.length:=(by omega);simp[bh,<-e]at h;omega
  |zero=>
   intro i hi;have e:p.take i=p:=amv (by omega);rw[e];refine vS (s:=s) (z:=z) ?_;refine⟨fun h=>by have:=amU h;omega,fun _=>⟨fun _=>?_,OF (anm (by simp;omega))⟩⟩;refine x6 rfl (aaQ J.1 J.2 (by omega)) A fun cu U d h2 A a b c=>?_;have l2:=zP.len J;rw[show eJ (eb 4) J=(cu,U)from h2]at l2;(try dsimp only);rw[a,b,c];simp only at l2;refine⟨fun _=>?_,OF (anm rfl)⟩;refine x6 rfl (pM U.1 U.2) A fun la O d h3 A a b c=>?_;have l3:=(eB 4).len U;rw[show eb 4 U=(la,O)from h3]at l3;(try dsimp only);rw[a,b,c];simp only at l3;refine x6 rfl (aaQ O.1 O.2 (by omega)) A fun ma Y d h4 A a b c=>?_;have l4:=zP.len O;rw[show eJ (eb 4) O=(ma,Y)from h4]at l4;(try dsimp only);rw[a,b,c];simp only at l4;refine⟨fun _=>?_,OF (anm rfl)⟩;simp only[D.aK,D.bu];refine M4 (e:=En.ar) (h:=fun m u b i j l=>jM s z m u b (aY cu) la (aY ma) (aY p) j i l) (ad9 F).len (by omega) rfl
    (fun m u b i j l x=>D2 (s:=s) (z:=z) (n0:=m) (s1:=u) (b2:=b) (l3:=aY cu) (n4:=la) (l5:=aY ma) (l6:=aY p) (n7:=j) (c8:=i) (l9:=l) x) (fun st t ht _=>?_) fun m st t hz g1 g2 hE=>?_
   ·have A:dWl F (s,z)=(⟨p,cu,t,la,ma⟩,st):=(by rw[A,Rd.bind];have ht:eJ (dEn F) Y=(t,st):=ht;rw[ht];rfl);simp only[rk,D.akQ,D.akR,D.akS,D.akT,D.alU,D.bu,D.aK];exact⟨fun _=>z6 rfl (fun _=> .ret) A (Xq _),OF (anm (by simp))⟩
   refine x6 rfl (pM st.1 st.2) (X:=dEn F st) rfl fun r I d h5 A a b c=>?_;have l5:=(eB 4).len st;rw[show eb 4 st=(r,I)from h5]at l5;(try dsimp only);rw[a,b,c];simp only at l5;refine x6 rfl (PD I.1 I.2) A fun k V d h6 A a b c=>?_;have l6:=(eB 1).len I;have b6:=PA 1 I;rw[show eb 1 I=(k,V)from h6]at l6 b6;(try dsimp only);rw[a,b,c,D.bu];simp only at l6 b6;refine x6 rfl (akJ F V.1 V.2 k (by omega) (by omega) b6.1) A fun w a6 d h7 A a b c=>?_;simp only[rk];(try dsimp only);rw[a,b,c,D.bu,Wh.re];have A:dEn F st=(⟨r,w⟩,a6):=A;rw[A]at hE;simp only[am6,anb,ank,En.az]at hE;exact⟨fun _=>hE,OF (xP _ t (by decide) (by omega))⟩
 exact loop p.length 0 (by omega)
def ab1 (F:Nat)(s:cg)(z:Bool)(hF:s.length<=F)(hs:s.length<2^32):RdD cI [.ie 0 0] gq (EL Su.ar) (eJ (dSu F)) s z:=by
 refine FP (s:=s) (z:=z) (M4 (e:=Su.ar) (h:=iS s z) (aea F).len hs rfl (fun n0 s1 b2 c3 n4 l5 x=>BY (s:=s) (z:=z) (n0:=n0) (s1:=s1) (b2:=b2) (c3:=c3) (n4:=n4) (l5:=l5) x) (fun st l J _=>Vx rfl (fun _=> .ret) J) fun n0 st l hz h1 h2 Y=>?_);refine x6 rfl (pM st.1 st.2) (X:=dSu F st) rfl fun si I d g1 J a b c=>?_;have l1:=(eB 4).len st;rw[show eb 4 st=(si,I)from g1]at l1;(try dsimp only);rw[a,b,c];simp only at l1;refine x6 rfl (aaO F I.1 I.2 (by omega) (by omega)) J fun co O d g2 J a b c=>?_;have l2:=(yF F).len I;rw[show eJ (U4 F) I=(co,O)from g2]at l2;(try dsimp only);rw[a,b,c];simp only at l2;refine⟨fun _=>?_,OF (anm rfl)⟩;refine x6 rfl (aex O.1 O.2 (by omega)) J fun ns A d g3 J a b c=>?_;have l3:=OP.len O;rw[show eJ TF O=(ns,A)from g3]at l3;(try dsimp only);rw[a,b,c];simp only at l3;refine⟨fun _=>?_,OF (anm rfl)⟩;refine x6 rfl (aaQ A.1 A.2 (by omega)) J fun se U d g4 J a b c=>?_;have V:=aaR (eb 4) A;rw[show eJ (eb 4) A=(se,U)from g4]at V;simp only at V;(try dsimp only);rw[a,b,c];simp only[D.aK,D.bu,amm];have J:dSu F st=(⟨si,co,ns,se⟩,U):=J;rw[J]at Y;simp only[am6,anb,ank,Su.az]at Y;have loop:∀(j:Nat) (i:Nat),i+j=se.length->aC pg cI [br] (.bK 1 (gq (ba s z) (bc s z)) (Da (EL Su.ar) (eJ (dSu F) (s,z)))) (gB s z n0 se.length U.1 U.2 si (co.map St.ar) (ns.map fx.ar) (aY se) i i (aY (se.take i)) l.length l.length (l.map Su.ar)):=by
  intro j
  induction j with
  |succ j ih=>
   intro i hi;have Z:se[i]?=some (se[i]'(by omega)):=amr _;refine py (s:=s) (z:=z) ?_;simp only[rk,aml,amk,amm,amq,aR (show i<se.length by omega),bC Z,D.bu,amI];refine⟨fun _=>⟨fun _=>⟨fun _=>⟨fun _=>?_,fun h=>?_⟩,fun h=>by omega⟩,fun h=>by cases h⟩,fun h=>by omega⟩
   ·have:=ih (i+1) (by omega);rw[bL (show i<se.length by omega)];have e:aY (se.take i)++[D.z (se[i]'(by omega))]=aY (se.take (i+1)):=(by show List.map D.z _++_=List.map D.z _;rw[ao3,Z,am6];rfl);rw[e];exact this
   have e:i=min i se.length:=(by omega);simp[bh,<-e]at h;omega
  |zero=>intro i hi;have e:se.take i=se:=amv (by omega);rw[e];refine py (s:=s) (z:=z) ?_;refine⟨fun h=>by have:=amU h;omega,fun _=>⟨fun _=>⟨fun _=>?_,OF (xP _ l (by decide) (by omega))⟩,OF (anm (by simp;omega))⟩⟩;exact Y
 exact loop se.length 0 (by omega)
end Go.Proofs
end
