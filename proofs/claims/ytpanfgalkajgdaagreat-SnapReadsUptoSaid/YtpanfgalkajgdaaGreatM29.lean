import Derived.Test.YtpanfgalkajgdaaGreatM28
set_option linter.all false
noncomputable section
open Go.IntKind renaming wrap→wp
namespace Go.Proofs
open Go Go.PB
section
def abh {F:Nat}{s r:cg}{l:List Su}(h:cQ (pSu F) s=some (l,r))(hs:s.length<=67108864):l.length<2^30/\∀x∈l,x.Tb:=by
 obtain⟨h1,h2,J,O⟩:=dR (Z8 F) (by omega) h;have I:=eF (l.map Su.ar);rw[amm]at I;refine⟨by omega,fun x A=>Su.akP (J x A) ?_⟩;have:=tg (an6 (f:=Su.ar) A);omega
open Classical in
noncomputable def Br (r:Int×Option (Wl×List Su)):Int×Option (Wl×List Su):=match r with
 | (e,none)=>(e,none)
 | (_,some (x,l))=>if x.sO then (if xH x l=0 then (0,some (x,l))else (xH x l,none))else (71,none)
def Qo {s:cg}{x:Wl}{l:List Su}(ho:Ax 112 s=0)(hp:Qa s.length (eW s)=some ((x,l),[])):∃r,Lo s.length (eW s)=some (x,r)/\cQ (pSu s.length) r=some (l,[])/\r.length<=s.length/\x.vN/\D.bZ x.ar<2^30/\l.length<2^30/\∀y∈l,y.Tb:=by
 have hb:=pG ho;have V:=sI ho;obtain⟨x1,r,h1,h2⟩:=Pa.bN hp;obtain⟨l1,Z,A,O⟩:=Pa.bN h2
 cases O
 obtain⟨J,U⟩:=KW h1 (by omega);have w3:=(U0 _ _ _ _ (by omega) h1).1;obtain⟨I,Y⟩:=abh A (by omega);exact⟨r,h1,A,by omega,J,U,I,Y⟩
def W6 (s:cg):(∃e,e≠0/\Br (i9 112 (Qa s.length) s)=(e,none))\/∃x l,Br (i9 112 (Qa s.length) s)=(0,some (x,l))/\x.sO/\x.vN/\D.bZ x.ar<2^30/\xH x l=0/\l.length<2^30/\∀y∈l,y.Tb:=by
 rcases wa 112 (Qa s.length) s with ⟨e,he,A⟩| ⟨⟨x,l⟩,A,ho,hp⟩
 ·exact .inl ⟨e,he,by rw[A];rfl⟩
 obtain⟨r,h1,h2,Z,U,Y,O,V⟩:=Qo ho hp
 by_cases I:x.sO
 ·by_cases J:xH x l=0
  ·exact .inr ⟨x,l,by rw[A];exact(amu I).trans (amu J),I,U,Y,J,O,V⟩
  exact .inl ⟨xH x l,J,by rw[A];exact(amu I).trans (amt J)⟩
 exact .inl ⟨71,by decide,by rw[A];exact amt I⟩
def QRP (r:Int×Option (Wl×List Su))(d:D):Prop:=(d.af 0).bool=r.2.isNone/\(r.2=none->(d.af 1).int=r.1)/\∀x l,r.2=some (x,l)->∃t f,t.Perm x.aL/\Lj (G4 (D.af d 3)) (x.wp t f)/\(d.af 5).ae=l.map fun s=>s.nf.ar
def ajP (s:cg)(hs:s.length<2^40):PH CD (bX s) [] 0 Ju (QRP (Br (i9 112 (Qa s.length) s))):=by
 have no:∀e:Int,Br (i9 112 (Qa s.length) s)=(e,none)->rk pg JE (.bK 0 (Ju (bX s) []) (QRP (Br (i9 112 (Qa s.length) s)))) (.aT (.tuple [.gF,.int .i64 e]) []):=fun e h=>by rw[h];exact⟨rfl,.r [.b true,.z e],.tt rfl .ret,rfl,fun _=>rfl,fun x l h=>by cases h⟩
 refine afM (s:=s) ?_;refine⟨_,_,rfl,ait s hs,fun d hd=>?_⟩;obtain⟨h1,h2⟩:=hd;rcases wa 112 (Qa s.length) s with ⟨e,he,I⟩| ⟨⟨x,l⟩,I,ho,hp⟩
 ·rw[I]at h1;simp only[rk];rw[h1];exact⟨fun _=>no e (by rw[I];rfl),fun h=>absurd h (by simpa using he)⟩
 obtain⟨h2,h3⟩:=h2 (x,l) (by rw[I]);rw[I]at h1;obtain⟨r,-,-,-,Z,w2,w3,Y⟩:=Qo ho hp;simp only[rk];rw[h1,h2,h3];simp only[Wl.iW,Wl.tX,Wl.gD,Wl.q9,Wl.nD,D.aK,D.bu];refine⟨fun h=>absurd h (by simp),fun _=>⟨_,_,rfl,aby x Z,fun A g3=>?_⟩⟩;obtain⟨g1,g2⟩:=g3;refine⟨fun h=>?_,fun h=>?_⟩
 ·have fD:=g1.1 h;obtain⟨f,-,a1,a2,a3,a4,a5,a6⟩:=g2 fD;have hi:=fD.inv Z;have U:∀e∈x.th,e.r<=x.la:=fun e he=>(fD.rb e he).2;have hW:Lj (WS.mk (A.af 1).ae (A.af 2).ae (oS (D.af A 5)) (pC (D.af A 6)) (pB (D.af A 7)) (oS (D.af A 8)) (pC (D.af A 9)) (pB (D.af A 10)) (A.af 3).int (A.af 4).ae) (x.wo f):=⟨a1,a2,a5,a6,a3,a4⟩;refine⟨_,_,rfl,alv hi U hW l w3 (fun y hy=>⟨(Y y hy).C9,(Y y hy).cn⟩),fun O k=>?_⟩;obtain⟨V,k2,k3⟩:=k;refine⟨fun hb=>?_,fun hb=>?_⟩
  ·have J:xH x l=0:=amU (V.symm.trans hb);have e:Br (i9 112 (Qa s.length) s)=(0,some (x,l)):=(by rw[I];exact(amu fD).trans (amu J));rw[e];refine⟨rfl,.r [.b false,.z 0,D.af O 2,D.af O 3,.r (O.af 4).ae,.r (O.af 5).ae],.ff rfl .ret,rfl,fun h=>(by cases h),fun x' l' hx=>?_⟩
   cases hx
   exact k3 J
  have J:xH x l≠0:=amE (V.symm.trans hb);have e:Br (i9 112 (Qa s.length) s)=(xH x l,none):=by rw[I];exact(amu fD).trans (amt J)
  rw[k2 J];exact no _ e
 have pc:¬x.sO:=fun g=>by rw[g1.2 g]at h;cases h
 have e:Br (i9 112 (Qa s.length) s)=(71,none):=by rw[I];exact amt pc
 exact no 71 e
end
def Uz (s:cg)(hs:s.length<2^62):dZ pg kU [aq] [.s s] [dA] (·= .z (Ll s)):=by
 have A:D.ax (.s s)=s:=rfl;have loop:∀(rest:cg) (i:Nat) (n:Int),s.drop i=rest->aC pg kU [dA] (.cY (·= .z (rest.foldl M8 n))) (yQ (.s s) n i):=by
  intro rest
  induction rest with
  |nil=>intro i n hd;have:=drop_nil hd;refine KG ?_;simp only[rk,A,aml,amk];exact⟨fun h=>by omega,fun _=>rfl⟩
  |cons c rest V=>intro i n hd;obtain⟨J,O,I⟩:=aF hd;refine KG ?_;simp only[rk,A,aml,amk,aR I,amq];refine⟨fun _=>⟨fun _=>?_,fun h=>by cases h⟩,fun h=>by omega⟩;have e:=V (i+1) (M8 n c) O;have U:s.getD i 0=c:=(by simp[List.getD,J]);rw[bL I,U];exact e
 refine acT ?_;exact loop s 0 _ rfl
def SM (x:Int)(n:Nat)(V:n<=8):dZ pg gi [dA,ah] [.z x,.z n] [aq] (·= .s (bO (yg n x))):=by
 have loop:∀(w:Nat) (l:List D),w<=n->l.length+w=n->l++yg w x=yg n x->aC pg gi [aq] (.cY (·= .s (bO (yg n x)))) (wV (.z x) (.z n) l.length ((w:Int)-1) l):=by
  intro w
  induction w with
  |zero=>intro l _ _ hl;refine HQ ?_;simp only[yg,ana]at hl;simp only[rk,aml,amk,ano];exact⟨fun h=>by omega,fun _=>⟨fun _=>by rw[hl],fun h=>absurd (amG _) h⟩⟩
  |succ w J=>intro l hw U hl;have A:((w+1:Nat):Int)-1=w:=(by omega);have O:wp .i64 (8*(w:Int))=((8*w:Nat):Int):=(by rw[bM];omega);have I:min (8*w) 64=8*w:=(by omega);rw[A];refine HQ ?_;rw[O,amq,I,bM (x:=(w:Int)-1)];simp only[rk,aml,amk,D.bu,am2,anf,Gl (show l.length+1<2^41 by omega)];refine⟨fun _=>⟨fun _=>⟨fun _=>?_,fun h=>by cases h⟩,fun h=>by omega⟩,fun h=>by omega⟩;have:=J (l++[.z (IntKind.u8.wrap (x.fdiv (2^(8*w))))]) (by omega) (by simp;omega) (by rw[anK];exact hl);rw[ams]at this;exact this
 refine Zk ?_;rw[D.bu,bM];exact loop n [] (by omega) (by simp) rfl
def Qw (x:Int):dZ pg gi [dA,ah] [.z x,.z 8] [aq] (·= .s (bO (yg 8 x))):=SM x 8 (by omega)
def akz {t:cg}(h:t.length=8){m:Nat}(J:m<2^64):(bO (yg 8 (m:Int))=t)↔jN t=m:=by
 have I:∀s:cg,jN s=num 0 s:=fun s=>rfl;have A:=aef m 8;rw[Nat.div_eq_of_lt J]at A;constructor
 ·intro e;rw[I,<-e];exact A
 intro e;rw[I,<-A]at e;refine(ahL _ _ 0 0 ?_ e).2.symm;rw[h,eY,nA]
def QOp (c:UInt8)(s:cg)(d:D):Prop:=(d.af 0).bool=decide (Ax c s≠0)/\(Ax c s≠0->(d.af 1).int=Ax c s)/\(Ax c s=0->(d.af 2).ax=eW s)
def Qx (c:UInt8)(s:cg)(hs:s.length<2^40):PH mv (Iv [c] s) [] 0 vZ (QOp c s):=by
 have pc:∀e:Int,Ax c s=e->e≠0->rk pg Ds (.bK 0 (vZ (Iv [c] s) []) (QOp c s)) (.aT (.tuple [.gF,.int .i64 e]) []):=fun e h he=>by refine⟨rfl,.r [.b true,.z e],.tt rfl .ret,?_,fun _=>h.symm,fun g=>absurd (h.symm.trans g) he⟩;rw[h];exact(anm he).symm
 refine Zm (t:=[c]) (s:=s) ?_;refine⟨fun h=>pc 4 ?_ (by decide),fun h=>?_⟩
 ·rw[Ax,amu (by have:=amU h;omega)]
 have h:=amE h;refine⟨fun h2=>pc 270 ?_ (by decide),fun h2=>?_⟩
 ·rw[Ax,ifN,amu (by have:=amU h2;omega)]
 have h2:=amE h2;refine⟨fun _=>?_,fun g=>by simp at g;omega⟩;refine⟨fun A=>pc 270 ?_ (by decide),fun A=>?_⟩
 ·rw[Ax,ifN,ifN,amu];intro e;rw[anx,e]at A;exact absurd A (by decide)
 have A:s.take 8=hd8:=by
  rw[anx]at A;have:(List.take 8 s==hd8)=true:=by simpa [hd8]using A
  exact eq_of_beq this
 refine⟨fun _=>?_,fun g=>by simp at g;omega⟩;have O:List.drop 8 (List.take 9 s)=[s.getD 8 0]:=by rw[apU,anU (by omega),anR,amr (by omega)];rfl
 rw[O];refine⟨fun I=>pc 270 ?_ (by decide),fun I=>?_⟩
 ·rw[Ax,ifN,ifN,amt (fun g=>g A),amu];intro e;rw[e]at I;simp at I
 have I:s.getD 8 0=c:=by simpa using I
 have J:Ax c s=if (jN (s.drop (s.length-8)):Int)≠Ll (s.take (s.length-8))then 271 else 0:=by rw[Ax,ifN,ifN,amt (fun g=>g A),amt fun g=>g I]
 have hw:wp .i64 ((s.length:Int)-8)=((s.length-8:Nat):Int):=by rw[bM];omega
 rw[hw,amq,ano,anx];refine⟨fun _=>?_,fun g=>absurd (amE g) (by omega)⟩;refine⟨fun _=>?_,fun g=>by simp at g⟩;refine⟨fun _=>?_,fun g=>by simp at g⟩;refine⟨_,_,_,rfl,Uz _ (by rw[amI];omega),?_⟩;rintro _ rfl;refine⟨_,_,_,rfl,Qw _,?_⟩;rintro _ rfl;have hl:(s.drop (s.length-8)).length=8:=by rw[anz];omega
 obtain⟨b,hb⟩:=aaY (s.take (s.length-8));have q:=akz hl b.isLt;rw[<-hb]at q;simp only[rk];refine⟨fun g=>pc 271 ?_ (by decide),fun g=>⟨fun _=>?_,fun g=>by simp at g;omega⟩⟩
 ·rw[J,amu];intro e;have:bO (yg 8 (Ll (s.take (s.length-8))))=s.drop (s.length-8):=q.2 (by omega);simp[D.ax,D.int,this]at g
 have h0:Ax c s=0:=by
  have:bO (yg 8 (Ll (s.take (s.length-8))))=s.drop (s.length-8):=by simpa [D.ax,D.int]using g
  have:=q.1 this;rw[J,ifN]
 exact⟨rfl,.r [.b false,.z 0,.s (eW s)],.ff rfl .ret,by rw[h0];rfl,fun g=>absurd h0 g,fun _=>rfl⟩
def EZ.aba {α:Type}{p:Pa α}{q:Rd α}{e:α->D}{d:D}{s:cg}(h:EZ p q)(hs:s.length<2^62)(hp:p s=none)(hd:Da e (q (s,false)) d):(d.af 0).bool=true:=by
 have:=h.ok s hs;rw[hp]at this;exact hd.2.2.trans this
def EZ.abq {α:Type}{p:Pa α}{q:Rd α}{e:α->D}{d:D}{s r:cg}{v:α}(h:EZ p q)(hs:s.length<2^62)(hp:p s=some (v,r))(hd:Da e (q (s,false)) d):D.af d 1=e v/\(d.af 2).ax=r/\(d.af 0).bool=false:=by
 have:=h.ok s hs;rw[hp]at this;rw[this]at hd;exact hd
def Qy (x:Wl)(hs:x.vN):xm pg ct [.agg [.bx cq (aY x.pa),.bx ah (aY x.cu),.bx bF (x.th.map En.ar),.int .i64 x.la,.bx ah (aY x.ma)]] [] 0 (eE [.agg [.bx cq (aY x.pa),.bx ah (aY x.cu),.bx bF (x.th.map En.ar),.int .i64 x.la,.bx ah (aY x.ma)]] []) (zN x):=by
 have h:=ail x hs;rw[show dg x.ar=[.agg (aH pg aM x.ar)]from rfl,Xq]at h;exact h
def QOp.pc {c:UInt8}{s:cg}{d:D}(h:QOp c s d)(ho:Ax c s≠0):(d.af 0).bool=true/\(d.af 1).int=Ax c s:=⟨h.1.trans (anm ho),h.2.1 ho⟩
def QOp.ok {c:UInt8}{s:cg}{d:D}(h:QOp c s d)(ho:Ax c s=0):(d.af 0).bool=false/\(d.af 2).ax=eW s:=⟨h.1.trans (by rw[ho];rfl),h.2.2 ho⟩
def aku (r:Int×Option Wl)(d:D):Prop:=(d.af 0).bool=r.2.isNone/\(r.2=none->(d.af 1).int=r.1)/\∀x,r.2=some x->OK ⟨(d.af 2).ae,(d.af 3).ae,(d.af 4).ae,(d.af 5).int,(d.af 6).ae⟩ x.ro
def Il (s:cg)(hs:s.length<2^40):PH jl (bX s) [] 0 r9 (aku (vG (i9 119 (Lo s.length) s))):=by
 have no:∀e:Int,vG (i9 119 (Lo s.length) s)=(e,none)->rk pg sd (.bK 0 (r9 (bX s) []) (aku (vG (i9 119 (Lo s.length) s)))) (.aT (.tuple [.gF,.int .i64 e]) []):=fun e h=>by rw[h];exact⟨rfl,.r [.b true,.z e],.tt rfl .ret,rfl,fun _=>rfl,fun x h=>by cases h⟩
 refine N1 (s:=s) ?_;refine⟨_,_,rfl,Qx 119 s hs,fun d hd=>?_⟩
 by_cases ho:Ax 119 s=0
 ·obtain⟨J,b2⟩:=hd.ok ho;have hb:=pG ho;have Z:=sI ho;simp only[rk];rw[J,b2];refine⟨fun h=>absurd h (by decide),fun _=>⟨_,_,rfl,aeC s.length (eW s) false (by omega) (by omega),fun d2 A=>?_⟩⟩
  cases hp:Lo s.length (eW s)with
  |none=>rw[(OQ _).aba (by omega) hp A];exact⟨fun h=>absurd h (by decide),fun _=>no 270 (by rw[qu ho hp];rfl)⟩
  |some y=>
   obtain⟨x,r⟩:=y;obtain⟨c1,c2,c3⟩:=(OQ _).abq (by omega) hp A;obtain⟨V,w2⟩:=KW hp (by omega);rw[c1,c2,c3];refine⟨fun _=>⟨fun h=>no 270 ?_,fun h=>?_⟩,fun h=>absurd h (by decide)⟩
   ·rw[wb ho hp (by simpa using h)];rfl
   have hr:r=[]:=(by simpa using h);subst hr;have U:=AJ ho hp;simp only[Wl.iW,Wl.tX,Wl.gD,Wl.q9,Wl.nD,D.aK,D.bu];refine⟨_,_,rfl,Qy x V,fun I g3=>?_⟩;obtain⟨O,Y⟩:=g3;refine⟨fun h=>?_,fun h=>?_⟩
   ·have fD:=O.1 h;obtain⟨a1,a2,a3,a4,a5⟩:=Y fD;have e:vG (i9 119 (Lo s.length) s)=(0,some x):=(by rw[U];exact amu fD);rw[e];refine⟨rfl,.r [.b false,.z 0,.r (I.af 1).ae,.r (I.af 2).ae,.r (I.af 3).ae,.z (I.af 4).int,.r (I.af 5).ae],.ff rfl .ret,rfl,fun h=>(by cases h),fun x' hx=>?_⟩
    cases hx
    exact⟨a1,a2,a3,a4,a5⟩
   have pc:¬x.sO:=fun g=>by rw[O.2 g]at h;cases h
   have e:vG (i9 119 (Lo s.length) s)=(71,none):=(by rw[U];exact amt pc);exact no 71 e
 obtain⟨J,b2⟩:=hd.pc ho;simp only[rk];rw[J,b2];exact⟨fun _=>⟨fun _=>no _ (by rw[xp ho];rfl),fun h=>absurd h (by simpa using ho)⟩,fun h=>absurd h (by decide)⟩
section
def MZ (d:D)(w:Wh)(h:d=w.ar):(D.r [.z (d.af 0).int,.z (d.af 1).int,.r [.z (D.int (D.af (D.af d 2) 0)),.z (D.int (D.af (D.af d 2) 1)),.s (D.ax (D.af (D.af d 2) 2)),.r (D.ae (D.af (D.af d 2) 3)),.z (D.int (D.af (D.af d 2) 4))],.r (d.af 3).ae,.z (d.af 4).int,.z (d.af 5).int,.z (d.af 6).int,.z (d.af 7).int,.z (d.af 8).int,.b (d.af 9).bool,.r (d.af 10).ae,.r (d.af 11).ae])=w.ar:=by
 subst h;simp only[Wh.ek,Wh.rA,Wh.pS,Wh.BP,Wh.jP,Wh.Fp,Wh.mj,Wh.qy,Wh.pe,Wh.xu,Wh.iz,Wh.hZ,aA.ek,aA.jP,aA.pR,aA.hI,aA.rB];rw[Wh.az,aA.az]
section
variable {R:RS} {x:Wl} (hi:x.Inv)
include hi
set_option maxRecDepth 10000 in
theorem aaq (U:OK R x.ro)(d1:∀p∈x.pa,-2^63<=p/\p<2^63):PH kR (il R) (Rm R) 1 iT (·=x.ar):=by
 have d0:=hi.DS;have d2:=hi.par;have b1:(kM x.pa.length x.cu).length=x.pa.length:=by simp
 have b6:=hi.th;have a6:x.aL.bY.length=x.th.length:=by simp[bm.bY,Wl.aL]
 have J:∀(rest:List En) (i:Nat),x.th.drop i=rest->i<=x.th.length->aC pg kR [aM] (.bK 1 (iT (il R) (Rm R)) (·=x.ar))
  (wM R x.pa.length x.cu.length (aY x.pa) (aY x.cu) i i ((x.th.take i).map En.ar)):=by
  intro rest
  induction rest with
  |nil=>intro i hd A;have hl:=drop_nil hd;have A:i=x.th.length:=(by omega);subst A;refine HD ?_;rw[ano];have r1:bh 8 (0+x.ma.length)=true:=(by simp[bh];omega);simp only[rk,U.th,U.ma,a6,amm,am2,amA,amx,amy,amS,apx,ani,amp,am1,amG,ano,r1,aoC,an0,anr,amI,Nat.min_self,<-List.map_take];have r2:bh 8 x.ma.length=true:=(by simp[bh];omega);simp only[r2,aoC,amA,amx,amy,amS];refine⟨rfl,x.ar,?_,rfl⟩;rw[Wl.az,U.la];exact .ret
  |cons e rest ih=>intro i hd A;obtain⟨Z,g2,Y⟩:=aF hd;obtain⟨w1,w2,w3⟩:=hi.w e (amn Z);refine HD ?_;have hat:D.at x.aL.bY i= .r [.z e.r,e.w.ar]:=D4 (p:=(e.r,e.w)) (by simp[Wl.aL,Z]);have b4:D.af (D.r [.z e.r,e.w.ar]) 1=e.w.ar:=rfl;have a7:D.af (D.r [.z e.r,e.w.ar]) 0= .z e.r:=rfl;have V:(i:Int)<(x.th.length:Int):=(by omega);have hr:bh 200 (i+1)=true:=(by simp[bh];omega);simp only[rk,U.th,a6,V,hat,b4,a7,aR Y,D.bu,amq,amm,Y,am2,amA,amx,amy,amS,amI,anS (aqd Y),hr,aoC,bL Y,MZ e.w.ar e.w rfl];refine⟨_,_,_,rfl,ZG e.w w1 w2,?_⟩;intro d hd;rw[MZ d e.w hd];have:=ih (i+1) g2 (by omega);rw[<-rZ (f:=En.ar) Z]at this;exact this
 have O:∀(rest:List Bool) (i:Nat),(kM x.pa.length x.cu).drop i=rest->i<=x.pa.length->aC pg kR [aM] (.bK 1 (iT (il R) (Rm R)) (·=x.ar))
  (uC R i i (nr 1 ((kM x.pa.length x.cu).take i)).length (aY (x.pa.take i)) (aY (nr 1 ((kM x.pa.length x.cu).take i)))):=by
  intro rest
  induction rest with
  |nil=>intro i hd A;have hl:=drop_nil hd;have A:i=x.pa.length:=(by omega);subst A;refine Ky ?_;rw[ano,amv (l:=kM x.pa.length x.cu) (by omega),abW hi.Q8 hi.cut];simp only[rk,U.pa,amm,apx,ani,amp,amy,amA,am1];exact J x.th 0 rfl (by omega)
  |cons b rest ih=>
   intro i hd A;obtain⟨Z,g2,Y⟩:=aF hd;have I:i<x.pa.length:=(by omega);obtain⟨p,hp⟩:∃p,x.pa[i]?=some p:=⟨_,amr I⟩;refine Ky ?_;have hat:D.at ((kM x.pa.length x.cu).map D.b) i= .b b:=bC Z;have a8:D.at (aY x.pa) i= .z p:=bC hp;have V:(i:Int)<(x.pa.length:Int):=(by omega);have:=ih (i+1) g2 (by omega);rw[XD Z 1]at this;have hy:=Ta ((kM x.pa.length x.cu).take i) 1;rw[amI]at hy;have r1:bh 8 (i+1)=true:=(by simp[bh];omega);have r2:bh 8 ((nr 1 ((kM x.pa.length x.cu).take i)).length+1)=true:=(by simp[bh];omega);have e1:aY (x.pa.take i)++[D.z p]=aY (x.pa.take (i+1)):=(by rw[bH hp];simp);have e2:(1:Int)+(i:Int)=((i+1:Nat):Int):=(by omega);simp only[rk,U.pa,U.cu,b1,amm,V,hat,a8,aR I,aR Y,Y,I,D.bV,D.bu,amq,am2,amA,amx,amy,amS,r1,r2,aoC,bL I,amI,anS (aqd I),e1];rw[e2]at this;refine⟨fun hb=>?_,fun hb=>?_⟩
   ·subst hb;simpa using this
   subst hb;simpa using this
 refine acC ?_;simp only[rk];exact O _ 0 rfl (by omega)
end
end
section
def af2:∀(n:Nat) (l:List Int),l.Nodup->(∀r∈l,1<=r/\r<=n)->l.length<=n
 |0,[],_,_=>amG _
 |0,a::_,_,h=>by have:=h a (by simp);omega
 |n+1,l,I,h=>by
  have h1:=af2 n (l.erase ((n:Int)+1)) (I.erase _) fun r A=>by
   have J:=h r (List.mem_of_mem_erase A);have:r≠(n:Int)+1:=fun e=>by subst e;exact I.not_mem_erase A
   omega
  rw[List.length_erase]at h1
  split at h1<;>omega
section
variable {R:RS} {x:Wl} (hi:x.Inv)
include hi
theorem agd (A:OK R x.ro)(s:Int):PH Dz (mD R s) (Rm R) 1 cA (fun d=>D.bool d=decide (0<=s/\s<=x.pa.length)):=by
 refine Zd ?_;simp only[rk,A.pa,amm,aml,amk];exact⟨fun h=>⟨rfl,BT (by simp;omega)⟩,fun h=>⟨rfl,BT (by simp;omega)⟩⟩
noncomputable abbrev agY (x:Wl)(R:RS)(s:Su):vJ:= .bK 1 (cA (te R s.ar) (Rm R)) (fun d=>D.bool d=x.fE s)
theorem aif (hR:OK R x.ro)(s:Su)(hs:s.vN)(e2:x.la<=524288):PH eR (te R s.ar) (Rm R) 1 cA (fun d=>D.bool d=x.fE s):=by
 have Z:=hs.ok;have e0:=hs.ns;have d9:=hs.se;have b6:x.aL.length<2^62:=by have:=hi.th;simp[Wl.aL];omega
 have no:¬x.fE s=true->wg.bK=some 1/\∃d,T.dV (BV.bool false,Rm R) (cA (te R s.ar) (Rm R) d)/\D.bool d=x.fE s:=fun h=>⟨rfl,BT (by simpa using h)⟩;have Lz:=fun r=>RR hR b6 r;have a7:∀(n:fx) (j:Nat) (st:List Nat) (c:Nat),s.ns[j]?=some n->j<s.ns.length->n.v.jA.length<2^40->
  ((∀r∈n.v.jA,x.EI s r=true)->aC pg eR [aj] (agY x R s) (rT R s.ar (BW s.se (.b true)) st c ((j+1:Nat):Int)))->
  ∀(rest:List Int) (i:Nat),n.v.jA.drop i=rest->(∀r∈n.v.jA.take i,x.EI s r=true)->
  aC pg eR [aj] (agY x R s) (sw R s.ar (aY n.v.jA) (BW s.se (.b true)) st c i j):=by
  intro n j st c hj d7 d0 done rest
  induction rest with
  |nil=>intro i hd A;have O:=drop_nil hd;rw[amv O]at A;refine Et ?_;have hn:¬(i:Int)<(n.v.jA.length:Int):=(by omega);simp only[rk,amm,hn,ani,amp,amy,amA,am1,bL d7];exact done A
  |cons a rest ih=>
   intro i hd A;obtain⟨J,g2,g3⟩:=aF hd;refine Et ?_;have U:(i:Int)<(n.v.jA.length:Int):=(by omega);have hat:D.at (aY n.v.jA) i= .z a:=bC J;simp only[rk,U,hat,aR g3,D.bu,amq,amm,g3,am2,amA,amx,amy,amS,CR,bL g3];refine⟨_,_,rfl,Lz a,?_⟩;intro d hd;rw[hd.2];have pc:x.EI s a=false->¬x.fE s=true:=fun hh I=>by have:=((x.fM s).1 I).2.2.2.2 n (amn hj) a (amn J);rw[hh]at this;cases this
   refine⟨fun h=>no (pc ?_),fun h=>⟨fun h2=>⟨fun V=>?_,fun V=>?_⟩,fun h2=>no (pc ?_)⟩⟩
   ·simp only[Wl.EI];simp at h;simp[h]
   ·rw[FK _ (by simpa using h2)]at V;simp at V
   ·refine ih (i+1) g2 fun r hr=>?_;rw[bH J]at hr;rcases amO.1 hr with hr|hr
    ·exact A r hr
    rw[amQ]at hr;subst hr;simp at h h2;simp[Wl.EI,h,h2]
   simp only[Wl.EI];simp at h2;simp[h2]
 have b1:∀(rest:List fx) (j:Nat) (st:List Nat) (c:Nat),(0<=s.si/\s.si<=x.pa.length)->y7 s.co=true->gx s.ns=true->(s.se.Nodup/\∀r∈s.se,1<=r/\r<=x.la)->s.ns.drop j=rest->(∀n∈s.ns.take j,∀r∈n.v.jA,x.EI s r=true)->
  aC pg eR [aj] (agY x R s) (rT R s.ar (BW s.se (.b true)) st c j):=by
  intro rest
  induction rest with
  |nil=>intro j st c k1 k2 k3 k4 hd A;have O:=drop_nil hd;rw[amv O]at A;refine HM ?_;have hn:¬(j:Int)<(s.ns.length:Int):=(by omega);simp only[rk,Su.hZ,amm,hn,ani,amp,amy,amA,am1];exact⟨rfl,BT ((x.fM s).2 ⟨k1,k2,k3,k4,A⟩).symm⟩
  |cons n rest ih=>
   intro j st c k1 k2 k3 k4 hd A;obtain⟨J,g2,g3⟩:=aF hd;have I:=amn J;refine HM ?_;have U:(j:Int)<(s.ns.length:Int):=(by omega);have hat:D.at (s.ns.map fx.ar) j=n.ar:=bC J;have d6:=P2 k3 n I;simp only[rk,Su.hZ,amm,U,hat,fx.pS,eN,aR g3,amq,am2,amA,amx,amy,amS];refine⟨_,_,_,rfl,agc n.v (Z.2.2.2.2.2.1 n I).2 (hs.sz n I) (aA.YP d6),?_⟩;intro d hd;rw[hd,D.aK];have d0:n.v.jA.length<2^40:=by have:=aA.C7 n.v;have:=hs.sz n I;omega
   refine a7 n j st c J g3 d0 (fun hh=>ih (j+1) st c k1 k2 k3 k4 g2 fun n' hn'=>?_) n.v.jA 0 rfl (by simp);rw[bH J]at hn';rcases amO.1 hn' with hn'|hn'
   ·exact A n' hn'
   rw[amQ]at hn';subst hn';exact hh
 have b4:∀(rest:List Int) (i:Nat) (st:List Nat) (c:Nat),(0<=s.si/\s.si<=x.pa.length)->y7 s.co=true->gx s.ns=true->s.se.drop i=rest->((s.se.take i).Nodup/\∀r∈s.se.take i,1<=r/\r<=x.la)->
  aC pg eR [aj] (agY x R s) (rS R s.ar i (BW (s.se.take i) (.b true)) st c):=by
  intro rest
  induction rest with
  |nil=>intro i st c k1 k2 k3 hd A;have O:=drop_nil hd;rw[amv O]at A ⊢;refine HL ?_;have hn:¬(i:Int)<(s.se.length:Int):=(by omega);simp only[rk,Su.tY,amm,hn,ani,amp,amy,amA,am1];exact b1 s.ns 0 st c k1 k2 k3 A rfl (by simp)
  |cons a rest ih=>
   intro i st c k1 k2 k3 hd A;obtain⟨J,g2,g3⟩:=aF hd;have I:=amn J;refine HL ?_;have U:(i:Int)<(s.se.length:Int):=(by omega);have hat:D.at (aY s.se) i= .z a:=bC J;have pc:a∈s.se.take i->¬x.fE s=true:=fun hh a8=>Ki J hh ((x.fM s).1 a8).2.2.2.1.1;have a6:¬(1<=a/\a<=x.la)->¬x.fE s=true:=fun hh a8=>hh (((x.fM s).1 a8).2.2.2.1.2 a I);simp only[rk,hR.la,Su.tY,amm,U,hat,aR g3,D.bu,amq,am2,amA,amx,amy,amS,CR,aml,amk,bL g3];refine⟨fun h1=>no (a6 (by omega)),fun h1=>⟨fun h2=>no (a6 (by omega)),fun h2=>⟨fun Y=>⟨fun _=>no (pc Y),fun V=>?_⟩,fun Y=>?_⟩⟩⟩
   ·rw[FK _ Y]at V;simp at V
   have e1:BW (s.se.take i) (.b true)++[(D.z a,D.b true)]=BW (s.se.take (i+1)) (.b true):=(by rw[bH J];exact SF _ _ _);rw[e1];refine ih (i+1) _ _ k1 k2 k3 g2 ?_;rw[bH J];refine⟨aop.2 ⟨A.1,by simp,fun p hp q hq=>?_⟩,fun r hr=>?_⟩
   ·rw[amQ]at hq;subst hq;rintro rfl;exact Y hp
   rcases amO.1 hr with hr|hr
   ·exact A.2 r hr
   rw[amQ]at hr;subst hr;exact⟨by omega,by omega⟩
 refine acS ?_;simp only[rk,Su.PN,Su.iz,Su.hZ,Su.tY];refine⟨_,_,rfl,agd hi hR s.si,?_⟩;intro d1 d8;rw[d8];refine⟨fun h=>no fun I=>?_,fun h=>⟨_,_,_,rfl,aid s.co ⟨Z.2.2.1,Z.2.2.2.1⟩ hs.co,?_⟩⟩
 ·have:=((x.fM s).1 I).1;simp at h;omega
 intro d2 d4;subst d4;refine⟨fun h2=>no fun I=>?_,fun h2=>⟨_,_,_,rfl,Ux s.ns (by omega) Z.2.2.2.2.2.1,?_⟩⟩
 ·have:=((x.fM s).1 I).2.1;simp[this]at h2
 intro d3 d5;subst d5;refine⟨fun V=>no fun I=>?_,fun V=>⟨fun h4=>?_,fun h4=>?_⟩⟩
 ·have:=((x.fM s).1 I).2.2.1;simp[this]at V
 ·refine no fun I=>?_;have h5:=((x.fM s).1 I).2.2.2.1;have:=af2 x.la.toNat s.se h5.1 fun r hr=>by have:=h5.2 r hr;omega
  simp at h4;omega
 refine b4 s.se 0 [] 0 ?_ (by simpa using h2) (by simpa using V) rfl (by simp);simp at h;omega
end
end
def Wl.sO.la2 {x:Wl}(h:x.sO):x.la<=524288:=by
 have h1:=h.la1;have h2:=h.DS;have Z:x.pa.length<16:=by have:=h.par;simp only[qg,amo,aml]at this;exact this.1
 have O:∀l:List Int,(∀m∈l,0<=m/\m<=512)->l.foldr (·+·) 0<=512*(l.length:Int):=fun l=>by
  induction l with
  |nil=>intro _;simp
  |cons a r J=>intro A;have V:=J fun m I=>A m (by simp[I]);have e2:=A a (by simp);simp only[apf,amB];omega
 have Y:=O x.ma h.mb;have U:x.sum=x.ma.foldr (·+·) 0:=rfl;omega
def Uy (s:cg)(hs:s.length<2^40):PH ko (bX s) [] 0 tO (fun d=>(d.af 0).int=(Cy (i9 99 (cQ (GW s.length)) s)).1/\(d.af 1).ae=(Cy (i9 99 (cQ (GW s.length)) s)).2.map St.ar):=by
 have leaf:∀(e:Int) (l:List St),Cy (i9 99 (cQ (GW s.length)) s)=(e,l)->rk pg tS (.bK 0 (tO (bX s) []) fun d=>(d.af 0).int=(Cy (i9 99 (cQ (GW s.length)) s)).1/\(d.af 1).ae=(Cy (i9 99 (cQ (GW s.length)) s)).2.map St.ar)
  (.aT (.tuple [.bx aJ (D.ae (.r (l.map St.ar))),.int .i64 e]) []):=fun e l h=>⟨rfl,.r [.z e,.r (l.map St.ar)],.ret,by rw[h];rfl,by rw[h];rfl⟩
 refine Qk (s:=s) ?_;refine⟨_,_,rfl,Qx 99 s hs,fun d hd=>?_⟩
 by_cases ho:Ax 99 s=0
 ·obtain⟨J,b2⟩:=hd.ok ho;have hb:=pG ho;have a6:=sI ho;simp only[rk];rw[J,b2];refine⟨fun h=>absurd h (by decide),fun _=>⟨_,_,rfl,aaO s.length (eW s) false (by omega) (by omega),fun d2 A=>?_⟩⟩
  cases hp:cQ (GW s.length) (eW s)with
  |none=>rw[(yF _).aba (by omega) hp A];exact⟨fun h=>absurd h (by decide),fun _=>leaf 270 [] (by rw[qu ho hp];rfl)⟩
  |some y=>
   obtain⟨l,r⟩:=y;obtain⟨c1,U,c3⟩:=(yF _).abq (by omega) hp A;obtain⟨V,w2,-⟩:=UE hp (by omega);rw[c1,U,c3,EL,D.aK];refine⟨fun _=>⟨fun h=>leaf 270 [] ?_,fun h=>?_⟩,fun h=>absurd h (by decide)⟩
   ·rw[wb ho hp (by simpa using h)];rfl
   have Y:r=[]:=(by simpa using h);subst Y;have O:=AJ ho hp;refine⟨fun _=>⟨_,_,_,rfl,OA l V (by omega),fun d1 I=>?_⟩,fun h=>absurd h (by simp)⟩;obtain⟨-,Z⟩:=I;simp only[tI]at Z;refine⟨fun h=>leaf 2 [] ?_,fun h=>leaf 0 l ?_⟩
   ·have:=amU h;rw[O];exact ifP
   have:=amE h;rw[O];exact ifN
 obtain⟨J,b2⟩:=hd.pc ho;simp only[rk];rw[J,b2];exact⟨fun _=>⟨fun _=>leaf _ [] (by rw[xp ho];rfl),fun h=>absurd h (by simpa using ho)⟩,fun h=>absurd h (by decide)⟩
def agb {R:RS}{x:Wl}(hi:x.Inv)(I:OK R x.ro)(A:x.la<=524288)(s:Su)(hs:s.vN):xm pg eR [.ie 0 0,.agg [.int .i64 s.si,.bx aJ (s.co.map St.ar),.bx dG (s.ns.map fx.ar),.bx bW (aY s.se)]] (Rm R) 1 (cA [.ie 0 0,.agg [.int .i64 s.si,.bx aJ (s.co.map St.ar),.bx dG (s.ns.map fx.ar),.bx bW (aY s.se)]] (Rm R)) (fun d=>D.bool d=x.fE s):=by
 have h:=aif hi I s hs A;rw[show te R s.ar=[.ie 0 0,.agg (aH pg aV s.ar)]from rfl,alF]at h;exact h
def ajg (r:Int×Option (Wl×List Su))(d:D):Prop:=(d.af 0).bool=r.2.isNone/\(r.2=none->(d.af 1).int=r.1)/\∀x l,r.2=some (x,l)->OK ⟨(d.af 2).ae,(d.af 3).ae,(d.af 4).ae,(d.af 5).int,(d.af 6).ae⟩ x.ro/\(d.af 7).ae=l.map Su.ar
def Xd (s:cg)(hs:s.length<2^40):PH kn (bX s) [] 0 vY (ajg (Br (i9 112 (Qa s.length) s))):=by
 have no:∀e:Int,Br (i9 112 (Qa s.length) s)=(e,none)->rk pg zT (.bK 0 (vY (bX s) []) (ajg (Br (i9 112 (Qa s.length) s)))) (.aT (.tuple [.gF,.bx aV (D.ae (D.r [])),.int .i64 e]) []):=fun e h=>by rw[h];exact⟨rfl,.r [.b true,.z e],.tt rfl .ret,rfl,fun _=>rfl,fun x l h=>by cases h⟩
 refine Zf (s:=s) ?_;refine⟨_,_,rfl,Qx 112 s hs,fun d hd=>?_⟩
 by_cases ho:Ax 112 s=0
 ·obtain⟨b1,b2⟩:=hd.ok ho;have hb:=pG ho;have b4:=sI ho;simp only[rk];rw[b1,b2];refine⟨fun h=>absurd h (by decide),fun _=>⟨_,_,rfl,aeC s.length (eW s) false (by omega) (by omega),fun d3 U=>?_⟩⟩;have a8:=(OQ s.length).len (eW s,false);have e3:=U.2.1;refine⟨_,_,rfl,ab1 s.length (d3.af 2).ax (d3.af 0).bool (by rw[e3];simp only at a8;omega) (by rw[e3];simp only at a8;omega),fun d4 J=>?_⟩
  cases hp:Lo s.length (eW s)with
  |none=>have c3:=(OQ _).aba (by omega) hp U;rw[c3]at J;have c4:(d4.af 0).bool=true:=J.2.2.trans ((Ti s.length).pc _);rw[c4];exact⟨fun h=>absurd h (by decide),fun _=>no 270 (by rw[qu (p:=Qa s.length) ho (Pa.cw hp)];rfl)⟩
  |some y=>
   obtain⟨x,r⟩:=y;obtain⟨c1,c2,c3⟩:=(OQ _).abq (by omega) hp U;have hl:=(U0 _ _ _ _ (by omega) hp).1;have hX:Qa s.length (eW s)=((cQ (pSu s.length)).bind fun l=> .ret (x,l)) r:=Pa.bind_some hp;obtain⟨w1,w2⟩:=KW hp (by omega);rw[c2,c3]at J
   cases I:cQ (pSu s.length) r with
   |none=>rw[(Ti _).aba (by omega) I J];exact⟨fun h=>absurd h (by decide),fun _=>no 270 (by rw[qu ho (hX.trans (Pa.cw I))];rfl)⟩
   |some z=>
    obtain⟨l,t⟩:=z;obtain⟨Y,k2,k3⟩:=(Ti _).abq (by omega) I J;obtain⟨w4,w5⟩:=abh I (by omega);have a6:Qa s.length (eW s)=some ((x,l),t):=hX.trans (Pa.bind_some I);rw[Y,k2,k3,c1,EL,D.aK];refine⟨fun _=>⟨fun h=>no 270 ?_,fun h=>?_⟩,fun h=>absurd h (by decide)⟩
    ·rw[wb ho a6 (by simpa using h)];rfl
    have ht:t=[]:=(by simpa using h);subst ht;have ha:=AJ ho a6;simp only[Wl.iW,Wl.tX,Wl.gD,Wl.q9,Wl.nD,D.aK,D.bu];refine⟨_,_,rfl,Qy x w1,fun O g5=>?_⟩;obtain⟨g1,g2⟩:=g5;refine⟨fun h=>?_,fun h=>?_⟩
    ·have fD:=g1.1 h;obtain⟨a1,a2,a3,a4,a5⟩:=g2 fD;have hP:Br (i9 112 (Qa s.length) s)=if xH x l=0 then (0,some (x,l))else (xH x l,none):=by rw[ha];exact amu fD
     have V:OK ⟨(O.af 1).ae,(O.af 2).ae,(O.af 3).ae,(O.af 4).int,(O.af 5).ae⟩ x.ro:=⟨a1,a2,a3,a4,a5⟩;generalize (O.af 1).ae=z1 at V ⊢;generalize (O.af 2).ae=z2 at V ⊢;generalize (O.af 3).ae=z3 at V ⊢;generalize (O.af 5).ae=z5 at V ⊢;generalize (O.af 4).int=z4 at V ⊢;rw[amm];refine⟨fun h=>no 4 ?_,fun h=>?_⟩
     ·have:=amU h;have e:xH x l=4:=ifP;rw[hP,e];rfl
     have a7:¬l.length>32:=(by have:=amE h;omega);have loop:∀(rest:List Su) (i:Nat),(l.take i).all x.fE=true->l.drop i=rest->aC pg kn [aW,br,ah] (.bK 0 (vY (bX s) []) (ajg (Br (i9 112 (Qa s.length) s)))) (sx s l.length (l.map Su.ar) z1.length z2.length z3.length z4 z5.length z1 z2 z3 z5 i):=by
      intro rest
      induction rest with
      |nil=>
       intro i A hd;have:=drop_nil hd;rw[amv this]at A;have e:xH x l=0:=(by rw[xH,amt a7,amu A]);rw[hP,amu e];refine Eu ?_;refine⟨fun h=>?_,fun _=>⟨fun _=>?_,fun h=>?_⟩⟩
       ·have:=amU h;omega
       ·refine⟨rfl,.r [.b false,.z 0,.r z1,.r z2,.r z3,.z z4,.r z5,.r (l.map Su.ar)],.ff rfl .ret,rfl,fun h=>(by cases h),fun x' l' hx=>?_⟩
        cases hx
        exact⟨V,D.aK _⟩
       simp at h
      |cons y rest ih=>
       intro i A hd;obtain⟨Y,k2,k3⟩:=aF hd;have hm:=amn Y;refine Eu ?_;simp only[rk,amm,aml,amk,amq,bC Y,aR k3,Su.PN,Su.iz,Su.hZ,Su.tY];refine⟨fun _=>⟨fun _=>⟨fun _=>⟨_,_,rfl,agb (fD.inv w1) V fD.la2 y (w5 y hm).C9,fun d6 h6=>?_⟩,fun h=>absurd k3 h⟩,fun h=>by cases h⟩,fun h=>by omega⟩;rw[h6]
       cases Z:x.fE y with
       |false=>have e:xH x l=190:=(by rw[xH,amt a7,amt];intro h;have:=ang.1 h y hm;rw[Z]at this;cases this);exact⟨fun _=>no 190 (by rw[hP,e];rfl),fun h=>absurd h (by decide)⟩
       |true=>refine⟨fun h=>absurd h (by decide),fun _=>?_⟩;rw[bL k3];refine ih (i+1) ?_ k2;rw[bH Y,aod,A];simp[Z]
     exact loop l 0 (by simp) rfl
    have pc:¬x.sO:=fun g=>by rw[g1.2 g]at h;cases h
    have e:Br (i9 112 (Qa s.length) s)=(71,none):=(by rw[ha];exact amt pc);exact no 71 e
 obtain⟨b1,b2⟩:=hd.pc ho;simp only[rk];rw[b1,b2];exact⟨fun _=>⟨fun _=>no _ (by rw[xp ho];rfl),fun h=>absurd h (by simpa using ho)⟩,fun h=>absurd h (by decide)⟩
def aaV (x:Ex):x.ok->dZ pg fU [aI,aI] [x.ar,x.ar] [aj] (·= .b true):=by
 induction x using Ex.ind with|h x ih=>
 intro Y;have A:=(Ex.fe x).1 Y;have loop:∀(rest:List Ex) (i:Nat),x.l.drop i=rest->aC pg fU [aj] (.cY (·= .b true)) (qQ x.ar x.ar i):=by
  intro rest
  induction rest with
  |nil=>intro i hd;have:=drop_nil hd;refine C4 ?_;have Z:¬(i:Int)<(x.l.length:Int):=(by omega);simp only[rk,Ex.hI,amm,Z,ani,amp,amy,amA,am1]
  |cons y rest I=>intro i hd;obtain⟨O,g2,V⟩:=aF hd;have U:=amn O;have J:(i:Int)<(x.l.length:Int):=(by omega);refine C4 ?_;simp only[rk,Ex.hI,amm,J,aR V,amq,bC O,Ex.re,bL V,am2,amA,amx,amy,amS];refine⟨_,_,_,rfl,ih y U (A.2.2.2.2.2.2 y U),?_⟩;rintro _ rfl;exact⟨fun h=>by simp at h,fun _=>I (i+1) g2⟩
 refine Rx ?_;simp only[rk,anA,aqi,anY,amp,amy,amA,am1];exact loop x.l 0 rfl
def LM (l:List St):St.vl l->dZ pg cD [aQ,aQ] [.r (l.map St.ar),.r (l.map St.ar)] [aj] (·= .b true):=by
 induction l using St.NS with|h l ih=>
 intro hl;have a7:=hl.1;have J:∀{q:List cg} {k:Nat} {z:cg},q[k]?=some z->D.at (zi q) k= .s z:=fun h=>bC h;have V:∀(s:St) (i:Nat),i<l.length->s.wi.length<2^63->aC pg cD [aj] (.cY (·= .b true)) (mX (.r (l.map St.ar)) (.r (l.map St.ar)) ((i+1:Nat):Int))->
  ∀(rest:List cg) (k:Nat),s.wi.drop k=rest->aC pg cD [aj] (.cY (·= .b true)) (mH (.r (l.map St.ar)) (.r (l.map St.ar)) k i s.ar s.ar):=by
  intro s i hi hw done rest
  induction rest with
  |nil=>intro k hd;have:=drop_nil hd;refine yu ?_;have Z:¬(k:Int)<(s.wi.length:Int):=(by omega);simp only[rk,St.BQ,amm,Z,ani,amp,amy,amA,am1,bL hi];exact done
  |cons z rest A=>intro k hd;obtain⟨U,g2,O⟩:=aF hd;have I:(k:Int)<(s.wi.length:Int):=(by omega);refine yu ?_;simp only[rk,St.BQ,amm,I,aR O,amq,aqi,anY,bL O,am2,amA,amx,amp,amy,amS,am1];exact A (k+1) g2
 have a6:∀(rest:List St) (i:Nat),l.drop i=rest->aC pg cD [aj] (.cY (·= .b true)) (mX (.r (l.map St.ar)) (.r (l.map St.ar)) i):=by
  intro rest
  induction rest with
  |nil=>intro i hd;have:=drop_nil hd;refine C1 ?_;have Z:¬(i:Int)<(l.length:Int):=(by omega);simp only[rk,D.aK,amm,Z,ani,amp,amy,amA,am1]
  |cons s rest A=>intro i hd;obtain⟨U,g2,O⟩:=aF hd;have hs:=amn U;have Y:=(St.fe s).1 (hl.2 s hs);obtain⟨o1,o2,o3,_⟩:=hl.th hs;obtain⟨i1,i2,i3⟩:=ih s hs;have I:(i:Int)<(l.length:Int):=(by omega);refine C1 ?_;simp only[rk,D.aK,amm,I,aR O,amq,bC U,St.CB,St.JV,St.gD,St.BO,St.iz,Ex.re,anA,aqi,anY,am2,amA,amx,amp,amy,amS,am1];refine⟨_,_,_,rfl,aaV s.a Y.2.2.2.2.2.2.2.2.1,?_⟩;rintro _ rfl;refine⟨fun h=>by simp at h,fun _=>⟨_,_,_,rfl,aaV s.b Y.2.2.2.2.2.2.2.2.2.1,?_⟩⟩;rintro _ rfl;refine⟨fun h=>by simp at h,fun _=>⟨_,_,_,rfl,i1 o1,?_⟩⟩;rintro _ rfl;refine⟨fun h=>by simp at h,fun _=>⟨_,_,_,rfl,i2 o2,?_⟩⟩;rintro _ rfl;refine⟨fun h=>by simp at h,fun _=>⟨_,_,_,rfl,i3 o3,?_⟩⟩;rintro _ rfl;exact⟨fun h=>by simp at h,fun _=>V s i O (Y.2.2.2.2.2.2.2.2.2.2.2.2.2.2.2.2.1) (A (i+1) g2) s.wi 0 rfl⟩
 refine Rs ?_;simp only[rk,anA,amp,amy,amA,am1];exact a6 l 0 rfl
def QS (v:aA)(h:v.ok):dZ pg iC [ak,ak] [v.ar,v.ar] [aj] (·= .b true):=by
 have:=abf v v h h
 rwa [(aA.K1 v v).2 rfl]at this
def S8 (y:Wh)(h:y.ok)(hs:y.sz<2^30):dZ pg gG [aU,aU] [y.ar,y.ar] [aj] (·= .b true):=by
 have A:=h.aN;have a6:=y.L3;simp only[Wh.sz]at hs;have loop:∀(rest:List fx) (i:Nat),y.ns.drop i=rest->aC pg gG [aj] (.cY (·= .b true)) (qN y.ar y.ar i):=by
  intro rest
  induction rest with
  |nil=>intro i hd;have:=drop_nil hd;refine C2 ?_;have J:¬(i:Int)<(y.ns.length:Int):=(by omega);simp only[rk,Wh.hZ,Wh.iz,amm,J,ani,amp,amy,amA,am1];refine⟨_,_,_,rfl,LM y.co h.co,?_⟩;rintro _ rfl;rfl
  |cons n rest O=>intro i hd;obtain⟨V,g2,Z⟩:=aF hd;have J:=amn V;have U:(i:Int)<(y.ns.length:Int):=(by omega);refine C2 ?_;simp only[rk,Wh.hZ,amm,U,aR Z,amq,bC V,fx.pS,eN,aqi,anY,am2,amA,amx,amp,amy,amS,am1,bL Z];refine⟨_,_,_,rfl,QS n.v (A n.v (by simp only[Wh.aN,amz,amO,anh];exact .inr (.inr ⟨n,J,rfl⟩))),?_⟩;rintro _ rfl;exact⟨fun h=>by simp at h,fun _=>O (i+1) g2⟩
 have I:(aA.mk 3 0 [] y.vs 0).ok:=by rw[aA.fe];simp only[aA.k,aA.n,aA.s,aA.l,aA.r];refine⟨by omega,by omega,by omega,by omega,by simp,by omega,by omega,by omega,fun v hv=>A v (by simp[Wh.aN,hv])⟩
 have le:(aA.mk 3 0 [] y.vs 0).ar=D.r [.z 3,.z 0,.s [],.r (y.vs.map aA.ar),.z 0]:=aA.az _;refine Rt ?_;simp only[rk,Wh.pS,Wh.BP,eN,anA,aqi,anY,amp,amy,amA,am1];refine⟨_,_,_,rfl,QS y.v (A _ (by simp[Wh.aN])),?_⟩;rintro _ rfl;have Y:dZ pg CE [dn] [.r (y.vs.map aA.ar)] [ak] (·=(aA.mk 3 0 [] y.vs 0).ar):=by refine ac5 ?_;simp only[rk,D.aK,le]
 refine⟨fun h=>by simp at h,fun _=>⟨_,_,_,rfl,Y,?_⟩⟩;rintro _ rfl;refine⟨_,_,_,rfl,Y,?_⟩;rintro _ rfl;rw[eN];refine⟨_,_,_,rfl,QS _ I,?_⟩;rintro _ rfl;exact⟨fun h=>by simp at h,fun _=>loop y.ns 0 rfl⟩
def QW (x:Wl)(hi:x.Inv):dZ pg eS [aM,aM] [x.ar,x.ar] [aj] (·= .b true):=by
 have a8:=hi.th;have h1:=hi.par;have h2:=hi.DS;have b1:x.cu.length<2^62:=by
  have:=CN (ks:=(List.range 17).map Int.ofNat) hi.Q8.Bo fun q hq=>by obtain⟨a,b⟩:=hi.cut q hq;exact anh.2 ⟨q.toNat,ao2.2 (by omega),by show (q.toNat:Int)=q;omega⟩
  simp at this;omega
 have a6:∀(rest:List En) (i:Nat),x.th.drop i=rest->aC pg eS [aj] (.cY (·= .b true)) (xf x.ar x.ar i):=by
  intro rest
  induction rest with
  |nil=>intro i hd;have:=drop_nil hd;refine Ib ?_;have O:¬(i:Int)<(x.th.length:Int):=(by omega);simp only[rk,Wl.gD,amm,O,ani,amp,amy,amA,am1]
  |cons e rest A=>intro i hd;obtain⟨V,U,J⟩:=aF hd;have he:=amn V;obtain⟨w1,w2,_⟩:=hi.w e he;have I:(i:Int)<(x.th.length:Int):=(by omega);refine Ib ?_;simp only[rk,Wl.gD,amm,I,aR J,amq,bC V,En.VD,Wh.re,anA,am2,amA,amx,amp,amy,amS,am1,bL J];refine⟨_,_,_,rfl,S8 e.w w1 w2,?_⟩;rintro _ rfl;exact⟨fun h=>by simp at h,fun _=>A (i+1) U⟩
 have Y:∀(rest:List Int) (i:Nat),x.ma.drop i=rest->aC pg eS [aj] (.cY (·= .b true)) (xe x.ar x.ar i):=by
  intro rest
  induction rest with
  |nil=>intro i hd;have:=drop_nil hd;refine Ia ?_;have O:¬(i:Int)<(x.ma.length:Int):=(by omega);simp only[rk,Wl.nD,amm,O,ani,amp,amy,amA,am1];exact a6 x.th 0 rfl
  |cons e rest A=>intro i hd;obtain⟨V,U,J⟩:=aF hd;have I:(i:Int)<(x.ma.length:Int):=(by omega);refine Ia ?_;simp only[rk,Wl.nD,amm,I,aR J,anA,am2,amA,amx,amp,amy,amS,am1,bL J];exact A (i+1) U
 have Z:∀(rest:List Int) (i:Nat),x.cu.drop i=rest->aC pg eS [aj] (.cY (·= .b true)) (xd x.ar x.ar i):=by
  intro rest
  induction rest with
  |nil=>intro i hd;have:=drop_nil hd;refine HZ ?_;have O:¬(i:Int)<(x.cu.length:Int):=(by omega);simp only[rk,Wl.tX,amm,O,ani,amp,amy,amA,am1];exact Y x.ma 0 rfl
  |cons e rest A=>intro i hd;obtain⟨V,U,J⟩:=aF hd;have I:(i:Int)<(x.cu.length:Int):=(by omega);refine HZ ?_;simp only[rk,Wl.tX,amm,I,aR J,anA,am2,amA,amx,amp,amy,amS,am1,bL J];exact A (i+1) U
 have a7:∀(rest:List Int) (i:Nat),x.pa.drop i=rest->aC pg eS [aj] (.cY (·= .b true)) (yU x.ar x.ar i):=by
  intro rest
  induction rest with
  |nil=>intro i hd;have:=drop_nil hd;refine KK ?_;have O:¬(i:Int)<(x.pa.length:Int):=(by omega);simp only[rk,Wl.iW,amm,O,ani,amp,amy,amA,am1];exact Z x.cu 0 rfl
  |cons e rest A=>intro i hd;obtain⟨V,U,J⟩:=aF hd;have I:(i:Int)<(x.pa.length:Int):=(by omega);refine KK ?_;simp only[rk,Wl.iW,amm,I,aR J,anA,am2,amA,amx,amp,amy,amS,am1,bL J];exact A (i+1) U
 refine ac0 ?_;simp only[rk,anA,amp,amy,amA,am1];exact a7 x.pa 0 rfl
def Wh.aft (s:Su):(D.r [D.z 0,D.z 0,D.r [D.z 0,D.z 0,D.s [],D.r [],D.z 0],D.r [],D.z 0,D.z 0,D.z 0,D.z 0,D.z 0,D.b false,D.r (s.co.map St.ar),D.r (s.ns.map fx.ar)])=(Wh.EM s.co s.ns).ar:=rfl
def Wh.abb {s:Su}(A:s.ok):(Wh.EM s.co s.ns).ok:=by
 obtain⟨a1,a2,a3,a4,a5,a6,a7,a8,a9,b1,I,Y,Z,U,J,V,O,b4,b6,_,_⟩:=Wh.vH;exact⟨a1,a2,a3,a4,a5,a6,a7,a8,a9,b1,I,Y,Z,U,J,V,O,A.2.2.1,A.2.2.2.1,A.2.2.2.2.1,A.2.2.2.2.2.1⟩
def Wh.ahM {s:Su}(hf:s.Tb):(Wh.EM s.co s.ns).sz<2^30:=by
 have I:=hf.all;have h0:aA.zero.size=1:=by decide
 have h1:(Wh.EM s.co s.ns).co=s.co:=rfl;have A:(Wh.EM s.co s.ns).aN=aA.zero::s.ns.map fx.v:=by simp[Wh.aN,Wh.EM]
 have h2:aA.bA (Wh.EM s.co s.ns).aN=1+aA.bA (s.ns.map fx.v):=by rw[A,aA.bA,h0]
 simp only[Wh.sz,h1,h2];omega
def aiH (s:Su)(h:s.Tb):dZ pg fK [aV,aV] [s.ar,s.ar] [aj] (·= .b true):=by
 have J:=h.C9.se;have loop:∀(rest:List Int) (i:Nat),s.se.drop i=rest->aC pg fK [aj] (.cY (·= .b true)) (lL s.ar s.ar i):=by
  intro rest
  induction rest with
  |nil=>intro i hd;have:=drop_nil hd;refine xK ?_;simp only[rk,Su.tY,Su.iz,Su.hZ,amm,aml,amk];refine⟨fun h=>by omega,fun _=>?_⟩;rw[Wh.aft];refine⟨_,_,_,rfl,S8 _ (Wh.abb h.C9.ok) (Wh.ahM h),?_⟩;rintro _ rfl;rfl
  |cons n rest O=>intro i hd;obtain⟨U,I,A⟩:=aF hd;refine xK ?_;simp only[rk,Su.tY,amm,aml,amk,aR A,anA,amp,amy,amA,am1];refine⟨fun _=>⟨?_,fun h=>by cases h⟩,fun h=>by omega⟩;rw[bL A];exact⟨O (i+1) I,fun h=>by cases h⟩
 refine Kp ?_;simp only[rk,anA,amp,amy,amA,am1];exact loop s.se 0 rfl
def aeY (l:List Su)(hl:l.length<2^30)(h:∀s∈l,s.Tb):dZ pg pW [br,br] [.r (l.map Su.ar),.r (l.map Su.ar)] [aj] (·= .b true):=by
 have loop:∀(rest:List Su) (i:Nat),l.drop i=rest->aC pg pW [aj] (.cY (·= .b true)) (wP (.r (l.map Su.ar)) (.r (l.map Su.ar)) i):=by
  intro rest
  induction rest with
  |nil=>intro i hd;have:=drop_nil hd;refine HJ ?_;simp only[rk,D.aK,amm,aml,amk];exact⟨fun h=>by omega,fun _=>trivial⟩
  |cons s rest U=>intro i hd;obtain⟨A,O,I⟩:=aF hd;have J:=amn A;refine HJ ?_;simp only[rk,D.aK,amm,aml,amk,aR I,amq,bC A,Su.re];refine⟨fun _=>⟨fun _=>⟨fun _=>⟨_,_,_,rfl,aiH s (h s J),?_⟩,fun h=>by cases h⟩,fun h=>by cases h⟩,fun h=>by omega⟩;rintro _ rfl;rw[bL I];exact⟨fun h=>(by cases h),fun _=>U (i+1) O⟩
 refine Y4 ?_;simp only[rk,anA,amp,amy,amA,am1];exact loop l 0 rfl
end Go.Proofs
end
