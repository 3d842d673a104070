import Derived.Test.YtpanfgalkajgdaaGreatM14
import Derived.Test.YtpanfgalkajgdaaGreatM29
set_option linter.all false
noncomputable section
open Go.IntKind renaming wrap→wp
namespace Go.Proofs
open Go Go.PB
def aer (s:cg):St.vl (Cy (i9 99 (cQ (GW s.length)) s)).2/\(Cy (i9 99 (cQ (GW s.length)) s)).2.length<2^30:=by
 have h0:St.vl []/\([]:List St).length<2^30:=⟨⟨by decide,fun _ h=>by cases h⟩,by decide⟩;rcases wa 99 (cQ (GW s.length)) s with ⟨e,he,A⟩| ⟨l,A,ho,hp⟩
 ·rw[A];exact h0
 have hb:=pG ho;have O:=sI ho;obtain⟨I,-,J⟩:=UE hp (by omega);rw[A];simp only[Cy]
 split
 ·exact h0
 exact⟨I,J⟩
def Su.ahR {x:Wl}{s:Su}(h:x.fE s=true):s.nf=s:=by
 have h2:=((x.fM s).1 h).2.1;simp only[y7,amY]at h2;rw[Su.nf,amu h2]
def afp {x:Wl}{l:List Su}(h:xH x l=0):∀y∈l,x.fE y=true:=by
 unfold xH at h
 split at h
 ·cases h
 split at h
 ·next A=>exact ang.1 A
 cases h
def GR (s:cg)(hs:s.length<2^40):PH gw (bX s) [] 0 bg (fun d=>D.bool d=true):=by
 have bz:∀l:List St,St.vl l->l.length<2^30->aC pg gw [aj] (.bK 0 (bg (bX s) []) fun d=>D.bool d=true) (jh s (l.map St.ar).length (l.map St.ar).length (l.map St.ar) ((l.map St.ar).length:Int) (l.map St.ar) (l.map St.ar) 0):=by
  intro l hl hn;have loop:∀(k i:Nat) (l4:List D),i+k=(l.map St.ar).length->l4.length=(l.map St.ar).length->aC pg gw [aj] (.bK 0 (bg (bX s) []) fun d=>D.bool d=true) (jh s (l.map St.ar).length (l.map St.ar).length (l.map St.ar) ((l.map St.ar).length:Int) l4 (l.map St.ar) i):=by
   intro k
   induction k with
   |zero=>intro i l4 hi h4;refine Bs ?_;simp only[rk,aml,amk];refine⟨fun h=>by omega,fun _=>⟨fun _=>⟨_,_,_,rfl,LM l hl,?_⟩,fun h=>h trivial⟩⟩;rintro _ rfl;exact⟨rfl,.b true,.ret,rfl⟩
   |succ k ih=>intro i l4 hi h4;have a7:i<(l.map St.ar).length:=(by omega);have e1:(l.map St.ar).length<2^30:=(by rw[amm];exact hn);refine Bs ?_;simp only[rk,aml,amk,aR a7,amq];refine⟨fun _=>⟨fun _=>⟨fun _=>?_,fun h=>by omega⟩,fun h=>by cases h⟩,fun h=>by omega⟩;rw[bL a7];exact ih (i+1) _ (by omega) (by rw[List.length_set];exact h4)
  exact loop (l.map St.ar).length 0 _ (by omega) rfl
 obtain⟨a6,d9⟩:=aer s;have code:rk pg xq (.bK 0 (bg (bX s) []) fun d=>D.bool d=true) (.au jJ [.ax s] [] 0 fun A=>.au jJ [.ax s] [] 0 fun Y=>.au ko [.ax s] [] 0 fun O=>.ite (((A.af 0).int:Int)!=((O.af 0).int:Int)) .bT (.ite (decide (((List.length (A.af 1).ae):Nat)=((List.length (A.af 1).ae):Nat))) (.call cD [D.r (A.af 1).ae,D.r (O.af 1).ae] fun e0=>.ite (! (D.bool e0)) .bT (.bz (jh s (List.length (A.af 1).ae) (List.length (Y.af 1).ae) (O.af 1).ae (((List.length (A.af 1).ae):Nat):Int) (A.af 1).ae (Y.af 1).ae 0))) .bT)):=by refine⟨_,_,rfl,P4 s hs,fun A d4=>⟨_,_,rfl,P4 s hs,fun Y b4=>⟨_,_,rfl,Uy s hs,fun O b6=>?_⟩⟩⟩;obtain⟨a1,a2⟩:=d4;obtain⟨b1,b2⟩:=b4;obtain⟨c1,c2⟩:=b6;simp only[rk];rw[a1,a2,b2,c1,c2];refine⟨fun h=>absurd h (by simp),fun _=>⟨fun _=>⟨_,_,_,rfl,LM _ a6,?_⟩,fun h=>absurd h (by simp)⟩⟩;rintro _ rfl;exact⟨fun h=>absurd h (by simp),fun _=>bz _ a6 d9⟩
 simp only[rk]at code;refine WJ (s:=s) ?_;refine⟨_,_,rfl,FH s hs,fun d0 h0=>?_⟩;obtain⟨J,p2,p3⟩:=h0;rcases U1 119 s.length s with ⟨e,he,hw⟩| ⟨x,hw,fD,g2,g3⟩
 case' inl=>rw[hw]at J p2;simp only[rk];rw[J];refine⟨fun _=>⟨_,_,rfl,Il s hs,fun d1 h1=>?_⟩,fun h=>absurd h (by simp)⟩;obtain⟨I,U,q3⟩:=h1;rw[hw]at I U;rw[I,p2 rfl,U rfl];refine⟨fun _=>⟨fun h=>absurd h (by simp),fun _=>?_⟩,fun h=>absurd h (by simp)⟩;clear J p2 p3 I U q3
 case' inr=>obtain⟨f,hW⟩:=p3 x (by rw[hw]);rw[hw]at J;simp only[rk];rw[J];refine⟨fun h=>absurd h (by simp),fun _=>⟨_,_,rfl,Il s hs,fun d1 h1=>?_⟩⟩;obtain⟨I,U,q3⟩:=h1;have hR:=q3 x (by rw[hw]);rw[hw]at I;rw[I];refine⟨fun h=>absurd h (by simp),fun _=>⟨_,_,rfl,Ix (fD.inv g2) (aoG _) hW,?_⟩⟩;rintro _ rfl;refine⟨_,_,rfl,aaq (fD.inv g2) hR (fun p hp=>g2.ok.2.1 p hp),?_⟩;rintro _ rfl;rw[Wl.re];refine⟨_,_,_,rfl,QW x (fD.inv g2),?_⟩;rintro _ rfl;refine⟨fun _=>?_,fun h=>absurd h (by simp)⟩
 all_goals
  refine⟨_,_,rfl,ajP s hs,fun d2 h2=>?_⟩;obtain⟨J,p2,p3⟩:=h2;rcases W6 s with ⟨e,he,hw⟩| ⟨x,l,hw,fD,w1,-,hn,w4,w5⟩
  ·rw[hw]at J p2;rw[J];refine⟨fun _=>⟨_,_,rfl,Xd s hs,fun d1 h1=>?_⟩,fun h=>absurd h (by simp)⟩;obtain⟨I,U,q3⟩:=h1;rw[hw]at I U;rw[I,p2 rfl,U rfl];refine⟨fun _=>⟨fun h=>absurd h (by simp),fun _=>⟨fun h=>absurd h (by simpa using he),fun _=>⟨fun h=>absurd h (by simpa using he),fun _=>?_⟩⟩⟩,fun h=>absurd h (by simp)⟩;exact code
  obtain⟨t,f,ht,hW,d8⟩:=p3 x l (by rw[hw]);rw[hw]at J;rw[J];refine⟨fun h=>absurd h (by simp),fun _=>⟨_,_,rfl,Xd s hs,fun d1 h1=>?_⟩⟩;obtain⟨I,U,q3⟩:=h1;obtain⟨hR,d3⟩:=q3 x l (by rw[hw]);rw[hw]at I;rw[I];refine⟨fun h=>absurd h (by simp),fun _=>⟨_,_,rfl,X1 (fD.inv w1) ht hW,fun d5 h5=>?_⟩⟩;obtain⟨t',f',d6,d7⟩:=h5;refine⟨_,_,rfl,Ix (fD.inv w1) d6 d7,?_⟩;rintro _ rfl;refine⟨_,_,rfl,aaq (fD.inv w1) hR (fun p hp=>w1.ok.2.1 p hp),?_⟩;rintro _ rfl;rw[Wl.re];refine⟨_,_,_,rfl,QW x (fD.inv w1),?_⟩;rintro _ rfl;have a8:∀y∈l,x.fE y=true:=afp hn;have V:(l.map fun s=>s.nf.ar)=l.map Su.ar:=aoO fun y Z=>by rw[Su.ahR (a8 y Z)]
  rw[d8,V];refine⟨fun _=>⟨_,_,_,rfl,I7 l w4 (fun y Z=>⟨(w5 y Z).C9.ok,(w5 y Z).cn,(w5 y Z).C9.co,(w5 y Z).C9.ns,(w5 y Z).C9.se⟩),?_⟩,fun h=>absurd h (by simp)⟩;rintro _ rfl;rw[V,D.aK,d3];refine⟨_,_,_,rfl,aeY l w4 w5,?_⟩;rintro _ rfl;exact⟨fun h=>absurd h (by simp),fun _=>code⟩
def UA (x:Int)(n:Nat)(U:n<=8):dZ pg rI [dA,ah] [.z x,.z n] [QP] (fun d=>(D.ae d).length=n):=by
 have loop:∀(w:Nat) (l:List D),w<=n->l.length+w=n->aC pg rI [QP] (.cY fun d=>(D.ae d).length=n) (Bg (.z x) (.z n) l.length ((w:Int)-1) l):=by
  intro w
  induction w with
  |zero=>intro l _ A;refine Nj ?_;simp only[rk,aml,amk,D.aK];exact⟨fun h=>by omega,fun _=>⟨fun _=>by omega,fun h=>h trivial⟩⟩
  |succ w J=>intro l hw A;have I:((w+1:Nat):Int)-1=w:=(by omega);have O:wp .i64 (8*(w:Int))=((8*w:Nat):Int):=(by rw[bM];omega);rw[I];refine Nj ?_;rw[O,bM (x:=(w:Int)-1)];simp only[rk,aml,amk,am2,anf,Gl (show l.length+1<2^41 by omega)];refine⟨fun _=>⟨fun _=>⟨fun _=>?_,fun h=>by cases h⟩,fun h=>by omega⟩,fun h=>by omega⟩;have:=J (l++[.z (IntKind.u8.wrap (Int.fdiv (D.int (.z x)) (2^(min (Int.toNat ((8*w:Nat):Int)) 64))))]) (by omega) (by simp;omega);rw[ams]at this;exact this
 refine afP ?_;rw[D.bu,bM];exact loop n [] (by omega) (by simp)
def alC {m:Nat}(h:m<2^38):bh 8 m=true:=by simp[bh];omega
def E3 (a:Int)(d:D):Prop:=D.int d=-1\/1<=D.int d/\D.int d<=a
def aij:∀(v:aA) (a b:Int),0<=a->a<=512->0<=b->b<=16->v.l.length<2^40->(∀J b':Int,∀x∈v.l,0<=J->J<=512->0<=b'->b'<=16->dZ pg dT [ak,ah,ah] [x.ar,.z J,.z b'] [ah] (E3 J))->dZ pg dT [ak,ah,ah] [v.ar,.z a,.z b] [ah] (E3 a):=by
 intro v a b a7 ha a6 hb hl ih;have pc:E3 a (.z (-1)):= .inl rfl
 by_cases O:a<1
 ·refine SH ⟨fun _=>pc,fun h=>?_⟩;have h:¬a<1:=amE h;exact absurd O h
 have one:E3 a (.z 1):= .inr ⟨Int.le_refl _,by rw[D.bu];omega⟩;have loop:1<=b->∀(rest:List aA) (i:Nat) (n:Int),v.l.drop i=rest->1<=n->n<=a->aC pg dT [ah] (.cY (E3 a)) (u0 v.ar (.z a) (.z b) n i):=by
  intro a8 rest
  induction rest with
  |nil=>intro i n hd h1 h2;have:=drop_nil hd;refine F7 ?_;simp only[rk,aA.hI,amm,aml,amk];exact⟨fun h=>by omega,fun _=> .inr ⟨h1,h2⟩⟩
  |cons x rest V=>
   intro i n hd h1 h2;obtain⟨Y,g2,Z⟩:=aF hd;refine F7 ?_;simp only[rk,aA.hI,amm,aml,amk,aR Z,amq,bC Y,eN,D.bu];rw[bM (x:=a-n),bM (x:=b-1)];refine⟨fun _=>⟨fun _=>⟨_,_,_,rfl,ih (a-n) (b-1) x (amn Y) (by omega) (by omega) (by omega) (by omega),fun d hd=>⟨fun _=>pc,fun h=>?_⟩⟩,fun h=>by cases h⟩,fun h=>by omega⟩;rcases hd with h'| ⟨h3,h4⟩
   ·omega
   rw[bM (x:=n+D.int d),bL Z];exact V (i+1) _ g2 (by omega) (by omega)
 have A:aC pg dT [ah] (.cY (E3 a)) (DP v.ar (.z a) (.z b)):=by refine Uw ⟨fun _=>one,fun _=>⟨fun _=>pc,fun h=>⟨fun _=>pc,fun _=>loop ?_ v.l 0 1 rfl (by omega) (by omega)⟩⟩⟩;have h:¬b<1:=amE h;omega
 have I:aC pg dT [ah] (.cY (E3 a)) (uZ v.ar (.z a) (.z b)):=
  Uv ⟨fun _=>pc,fun _=>⟨fun _=>⟨fun _=>pc,fun _=>⟨fun _=>pc,fun _=>A⟩⟩,fun _=>⟨fun _=>pc,fun _=>A⟩⟩⟩
 refine SH ⟨fun _=>pc,fun _=>?_⟩;have k4:∀{c d:Bool},rk pg qx (.cY (E3 a)) (.ite c (.ite d (.ret (.z (-1))) (.bz (uZ v.ar (.z a) (.z b)))) (.bz (uZ v.ar (.z a) (.z b)))):=⟨fun _=>⟨fun _=>pc,fun _=>I⟩,fun _=>I⟩;have U:∀{c d:Bool} {t:RT},rk pg qx (.cY (E3 a)) t->rk pg qx (.cY (E3 a)) (.ite c (.ite d (.ret (.z (-1))) t) t):=fun h=>⟨fun _=>⟨fun _=>pc,fun _=>h⟩,fun _=>h⟩;exact U (U (U k4))
def aA.J8 (v:aA):v.l.length<=D.bZ v.ar:=by
 have:=eF (v.l.map aA.ar);rw[amm]at this;rw[aA.az];simp only[D.bZ,D.bw];omega
def aA.Lc {v x:aA}(h:x∈v.l):D.bZ x.ar<D.bZ v.ar:=by
 have:=tg (an6 (f:=aA.ar) h);rw[aA.az v];simp only[D.bZ,D.bw];omega
def aj1 (v:aA)(hb:D.bZ v.ar<2^30):dZ pg JY [ak] [v.ar] [aj] (fun _=>True):=by
 have lk:∀v:aA,D.bZ v.ar<2^30->∀a b:Int,0<=a->a<=512->0<=b->b<=16->dZ pg dT [ak,ah,ah] [v.ar,.z a,.z b] [ah] (E3 a):=by refine aA.ind fun v I V a b h1 h2 U J=>aij v a b h1 h2 U J (by have:=v.J8;omega) fun O b' x A=>I x A (by have:=aA.Lc A;omega) O b'
 refine afO ?_;simp only[rk,eN];refine⟨_,_,_,rfl,(?_:dZ pg DD [ak] [v.ar] [ah] fun _=>True),fun _ _=>trivial⟩;refine Zq ?_;simp only[rk,eN];exact⟨_,_,_,rfl,lk v hb 512 16 (by omega) (by omega) (by omega) (by omega),fun d _=>⟨fun _=>trivial,fun _=>trivial⟩⟩
def aii:∀v:aA,D.bZ v.ar<2^30->dZ pg oI [ak] [v.ar] [dH] (fun d=>(D.ae d).length<=D.bZ v.ar):=by
 refine aA.ind fun v V Y=>?_;have hl:=v.J8;have he:D.bZ v.ar=6+v.s.length+D.bw (v.l.map aA.ar):=by rw[aA.az];simp only[D.bZ,D.bw];omega
 have loop:∀(rest:List aA) (i:Nat) (l:List D),v.l.drop i=rest->l.length+D.bw (rest.map aA.ar)<=D.bZ v.ar->aC pg oI [dH] (.cY fun d=>(D.ae d).length<=D.bZ v.ar) (wX v.ar l.length i l):=by
  intro rest
  induction rest with
  |nil=>intro i l hd h;have:=drop_nil hd;refine HS ?_;simp only[rk,aA.hI,amm,aml,amk,D.aK];simp only[ank,D.bw]at h;exact⟨fun h=>by omega,fun _=>⟨fun _=>by omega,fun h=>h trivial⟩⟩
  |cons x rest A=>
   intro i l hd h;obtain⟨I,U,O⟩:=aF hd;have J:=amn I;have hs:=aA.Lc J;simp only[anb,D.bw]at h;refine HS ?_;simp only[rk,aA.hI,amm,aml,amk,aR O,amq,bC I,eN,am2,anf];refine⟨fun _=>⟨fun _=>⟨_,_,_,rfl,V x J (by omega),fun d hd=>⟨fun _=>?_,fun h=>?_⟩⟩,fun h=>by cases h⟩,fun h=>by omega⟩
   ·rw[bL O];have:=A (i+1) (l++D.ae d) U (by rw[ams];omega);rw[ams]at this;exact this
   rw[alC (by omega)]at h;cases h
 refine acU ⟨fun _=>?_,fun _=>loop v.l 0 [] rfl (by simp;omega)⟩;show (D.ae (D.r [_])).length<=_;rw[D.aK];simp;omega
def agf:∀v:aA,D.bZ v.ar<2^30->dZ pg my [ak] [v.ar] [QP] (fun d=>(D.ae d).length<=2*D.bZ v.ar):=by
 refine aA.ind fun v V Y=>?_;have hl:=v.J8;have he:D.bZ v.ar=6+v.s.length+D.bw (v.l.map aA.ar):=by rw[aA.az];simp only[D.bZ,D.bw];omega
 have loop:∀(rest:List aA) (i:Nat) (l:List D),v.l.drop i=rest->l.length+2*D.bw (rest.map aA.ar)<=2*D.bZ v.ar->aC pg my [QP] (.cY fun d=>(D.ae d).length<=2*D.bZ v.ar) (qM v.ar l.length l i):=by
  intro rest
  induction rest with
  |nil=>intro i l hd h;have:=drop_nil hd;refine C0 ?_;simp only[rk,aA.hI,amm,aml,amk,D.aK];simp only[ank,D.bw]at h;exact⟨fun h=>by omega,fun _=>⟨fun _=>by omega,fun h=>h trivial⟩⟩
  |cons x rest A=>
   intro i l hd h;obtain⟨I,U,O⟩:=aF hd;have J:=amn I;have hs:=aA.Lc J;simp only[anb,D.bw]at h;refine C0 ?_;simp only[rk,aA.hI,amm,aml,amk,aR O,amq,bC I,eN,am2,anf];refine⟨fun _=>⟨fun _=>⟨_,_,_,rfl,V x J (by omega),fun d hd=>⟨fun _=>?_,fun h=>?_⟩⟩,fun h=>by cases h⟩,fun h=>by omega⟩
   ·rw[bL O];have:=A (i+1) (l++D.ae d) U (by rw[ams];omega);rw[ams]at this;exact this
   rw[Gl (by omega)]at h;cases h
 refine Zs ?_;simp only[rk,aA.ek,aA.jP,aA.pR,aA.hI,aA.rB,am2,anf,D.aK,zZ,ams,amB,amM,aml,amk,anr];refine⟨fun _=>⟨_,_,_,rfl,UA _ 8 (by omega),fun d hd=>?_⟩,fun _=>⟨fun _=>⟨_,_,_,rfl,UA _ 2 (by omega),fun d hd=>?_⟩,fun _=>⟨fun _=>⟨_,_,_,rfl,UA _ 2 (by omega),fun d hd=>?_⟩,fun _=>⟨fun _=>⟨_,_,_,rfl,UA _ 4 (by omega),fun d hd=>?_⟩,fun _=>?_⟩⟩⟩⟩
 ·rw[Gl (by omega)];exact⟨fun _=>⟨fun _=>by omega,fun h=>by cases h⟩,fun h=>by cases h⟩
 ·rw[Gl (by omega),Gl (by omega)];exact⟨fun _=>⟨fun _=>⟨fun _=>by omega,fun h=>by cases h⟩,fun h=>by cases h⟩,fun h=>by cases h⟩
 ·rw[Gl (by omega)];refine⟨fun _=>?_,fun h=>by cases h⟩;have:=loop v.l 0 ([D.z v.k]++D.ae d) rfl (by simp only[ams,amB,amM];omega);rw[ams]at this;exact this
 ·rw[Gl (by omega)];exact⟨fun _=>⟨fun _=>by omega,fun h=>by cases h⟩,fun h=>by cases h⟩
 show 1<=2*D.bZ v.ar;omega
def age (v:aA)(Y:v.ok)(hb:D.bZ v.ar<2^30):dZ pg pX [ak] [v.ar] [aq,ah] (fun d=>((d.af 0).ax).length<=2*D.bZ v.ar):=by
 have no:(D.ax (D.af (.r [D.s [],D.z 2]) 0)).length<=2*D.bZ v.ar:=anX _;refine Zr ?_;simp only[rk,eN];refine⟨_,_,_,rfl,aj1 v hb,fun U _=>⟨fun _=>no,fun _=>⟨_,_,_,rfl,aii v hb,fun O h1=>?_⟩⟩⟩;generalize D.ae O=l at h1;have loop:∀(rest:List D) (i:Nat),l.drop i=rest->aC pg pX [aq,ah] (.cY fun d=>((d.af 0).ax).length<=2*D.bZ v.ar) (uY v.ar l i):=by
  intro rest
  induction rest with
  |nil=>intro i hd;have:=drop_nil hd;refine F6 ?_;simp only[rk,eN,aml,amk];refine⟨fun h=>by omega,fun _=>⟨_,_,_,rfl,agf v hb,fun d hd=>?_⟩⟩;show (bO (D.ae d)).length<=_;rw[eY];exact hd
  |cons x rest A=>intro i hd;obtain⟨V,J,I⟩:=aF hd;refine F6 ?_;simp only[rk,aml,amk,aR I];refine⟨fun _=>⟨fun _=>⟨fun _=>no,fun _=>?_⟩,fun h=>by cases h⟩,fun h=>by omega⟩;rw[bL I];exact A (i+1) J
 exact loop l 0 rfl
def eU (n:Int):dZ pg ch [ah] [.z n] [aq] (fun d=>(D.ax d).length<=4):=by
 refine WR ?_;refine⟨_,_,_,rfl,SM _ 4 (by omega),?_⟩;rintro _ rfl;show (bO _).length<=4;rw[eY,nA];omega
def Aw (n:Int):dZ pg jK [QO] [.z n] [aq] (fun d=>(D.ax d).length<=8):=by
 refine Uj ?_;refine⟨_,_,_,rfl,Qw _,?_⟩;rintro _ rfl;show (bO _).length<=8;rw[eY,nA];omega
def Gq (s:cg)(hs:s.length<2^40):dZ pg mw [aq] [.s s] [aq] (fun d=>(D.ax d).length<=4+s.length):=by
 refine Zn ?_;refine⟨_,_,_,rfl,eU _,fun d hd=>⟨fun _=>?_,fun h=>?_⟩⟩
 ·show (D.ax d++s).length<=_;rw[ams];omega
 have h:¬(D.ax d).length+s.length<4611686018427387904:=amE h;omega
def MB (v:aA)(A:v.ok)(hb:D.bZ v.ar<2^30):dZ pg jS [ak] [v.ar] [aq] (fun d=>(D.ax d).length<=2*D.bZ v.ar):=by
 refine WU ?_;rw[eN];exact⟨_,_,_,rfl,age v A hb,fun d hd=>hd⟩
def Iu {α:Type}{l:List α}{g:α->Nat}{N:Nat}{E:cg->Nat->Prop}(I:∀s,s.length<=N->E s l.length)
 (A:∀s i x,l[i]?=some x->i<l.length->s.length+g x<=N->(∀s':cg,s'.length<=s.length+g x->E s' (i+1))->E s i):
 ∀(rest:List α) (s:cg) (i:Nat),l.drop i=rest->i<=l.length->s.length+(rest.map g).sum<=N->E s i:=by
 intro rest
 induction rest with
 |nil=>
  intro s i hd hi h;have:i=l.length:=by have:=drop_nil hd;omega
  subst this;exact I s (by simpa using h)
 |cons x r V=>intro s i hd hi h;obtain⟨J,O,U⟩:=aF hd;simp only[anb,List.sum_cons]at h;exact A s i x J U (by omega) fun s' hs=>V s' (i+1) O (by omega) (by omega)
def oO {α:Type}(f:α->D)(k:Nat)(l:List α):(l.map fun x=>k*D.bZ (f x)).sum=k*D.bw (l.map f):=by
 induction l with
 |nil=>rfl
 |cons x r A=>simp only[anb,List.sum_cons,D.bw,A,Nat.mul_add]
def zR {α:Type}(f:α->D){l:List α}{i:Nat}{x:α}(h:l[i]?=some x):D.bZ (f x)<=D.bw (l.map f):=tg (an6 (amn h))
def S2 (l:List fx)(hl:D.bw (l.map fx.ar)<2^30)(ho:∀n∈l,n.v.ok):dZ pg jR [fw] [.r (l.map fx.ar)] [aq] (fun d=>(D.ax d).length<=4+4*D.bw (l.map fx.ar)):=by
 have I:=eF (l.map fx.ar);rw[amm]at I;refine WT ?_;refine⟨_,_,_,rfl,eU _,fun d hd=>?_⟩;refine Iu (E:=fun s i=>aC pg jR [aq] (.cY fun d=>(D.ax d).length<=4+4*D.bw (l.map fx.ar)) (uX (.r (l.map fx.ar)) s i)) (g:=fun n=>4*D.bZ n.ar) (N:=4+4*D.bw (l.map fx.ar)) ?_ ?_ l _ 0 rfl (by omega) (by rw[oO];omega)
 ·intro s hs;refine F2 ?_;simp only[rk,D.aK,amm,aml];exact⟨fun h=>by omega,fun _=>hs⟩
 intro s i n hi A hs J;have hb:=zR fx.ar hi;have he:D.bZ n.ar=2+n.nm.length+D.bZ n.v.ar:=by rw[fx.az];simp only[D.bZ,D.bw];omega
 refine F2 ?_;simp only[rk,D.aK,amm,aml,amk,aR A,amq,bC hi,fx.sT,fx.pS,eN];refine⟨fun _=>⟨fun _=>⟨_,_,_,rfl,Gq n.nm (by omega),fun O h0=>⟨fun _=>⟨_,_,_,rfl,MB n.v (ho n (amn hi)) (by omega),fun U h1=>⟨fun _=>?_,fun h=>?_⟩⟩,fun h=>?_⟩⟩,fun h=>by cases h⟩,fun h=>by omega⟩
 ·rw[bL A];exact J _ (by simp only[ams];omega)
 ·simp only[ams]at h;omega
 omega
def aaf (l:List aA)(hl:D.bw (l.map aA.ar)<2^30)(ho:∀n∈l,n.ok):dZ pg lB [dn] [.r (l.map aA.ar)] [aq] (fun d=>(D.ax d).length<=4+4*D.bw (l.map aA.ar)):=by
 have I:=eF (l.map aA.ar);rw[amm]at I;refine Uk ?_;refine⟨_,_,_,rfl,eU _,fun d hd=>?_⟩;refine Iu (E:=fun s i=>aC pg lB [aq] (.cY fun d=>(D.ax d).length<=4+4*D.bw (l.map aA.ar)) (sy (.r (l.map aA.ar)) s i)) (g:=fun n=>4*D.bZ n.ar) (N:=4+4*D.bw (l.map aA.ar)) ?_ ?_ l _ 0 rfl (by omega) (by rw[oO];omega)
 ·intro s hs;refine Ev ?_;simp only[rk,D.aK,amm,aml];exact⟨fun h=>by omega,fun _=>hs⟩
 intro s i n hi A hs J;have hb:=zR aA.ar hi;refine Ev ?_;simp only[rk,D.aK,amm,aml,amk,aR A,amq,bC hi,eN];refine⟨fun _=>⟨fun _=>⟨_,_,_,rfl,MB n (ho n (amn hi)) (by omega),fun O h1=>⟨fun _=>?_,fun h=>?_⟩⟩,fun h=>by cases h⟩,fun h=>by omega⟩
 ·rw[bL A];exact J _ (by simp only[ams];omega)
 omega
def XP (l:List Int)(hl:l.length<2^30):dZ pg nH [jW] [.r (aY l)] [aq] (fun d=>(D.ax d).length<=4+4*D.bw (aY l)):=by
 have J:D.bw (aY l)=l.length:=by
  clear hl
  induction l with
  |nil=>rfl
  |cons a r O=>rw[show aY (a::r)= .z a::aY r from rfl,D.bw,O,D.bZ,amB];omega
 refine Zl ?_;refine⟨_,_,_,rfl,eU _,fun d hd=>?_⟩;refine Iu (E:=fun s i=>aC pg nH [aq] (.cY fun d=>(D.ax d).length<=4+4*D.bw (aY l)) (wW (.r (aY l)) s i)) (g:=fun n=>4*D.bZ (D.z n)) (N:=4+4*D.bw (aY l)) ?_ ?_ l _ 0 rfl (by omega) (by rw[oO];show (D.ax d).length+4*D.bw (aY l)<=_;omega)
 ·intro s hs;refine HR ?_;simp only[rk,D.aK,amm,aml];exact⟨fun h=>by omega,fun _=>hs⟩
 intro s i n hi A hs I;simp only[D.bZ]at hs I;refine HR ?_;simp only[rk,D.aK,amm,aml,amk,aR A,amq];refine⟨fun _=>⟨fun _=>⟨_,_,_,rfl,eU _,fun U h1=>⟨fun _=>?_,fun h=>?_⟩⟩,fun h=>by cases h⟩,fun h=>by omega⟩
 ·rw[bL A];exact I _ (by simp only[ams];omega)
 omega
def XN:∀v:Ex,D.bZ v.ar<2^30->dZ pg kr [aI] [v.ar] [aq] (fun d=>(D.ax d).length<=4*D.bZ v.ar):=by
 refine Ex.ind fun v O hb=>?_;have I:=eF (v.l.map Ex.ar);rw[amm]at I;have he:D.bZ v.ar=5+v.s.length+D.bw (v.l.map Ex.ar):=by rw[Ex.az];simp only[D.bZ,D.bw];omega
 refine Zi ?_;simp only[rk,Ex.jP,Ex.pR,Ex.hI];refine⟨_,_,_,rfl,Aw _,fun V h0=>⟨fun _=>⟨_,_,_,rfl,Gq _ (by omega),fun U h1=>⟨fun _=>⟨_,_,_,rfl,eU _,fun Y h2=>⟨fun _=>?_,fun h=>?_⟩⟩,fun h=>?_⟩⟩,fun h=>?_⟩⟩
 ·refine Iu (l:=v.l) (E:=fun s i=>aC pg kr [aq] (.cY fun d=>(D.ax d).length<=4*D.bZ v.ar) (wU v.ar s i)) (g:=fun n=>4*D.bZ n.ar) (N:=4*D.bZ v.ar) ?_ ?_ v.l _ 0 rfl (by omega) (by rw[oO];simp only[ams,eY,amB,amM];omega)
  ·intro s hs;refine HP ?_;simp only[rk,Ex.hI,amm,aml];exact⟨fun h=>by omega,fun _=>hs⟩
  intro s i n hi A hs J;have hb:=zR Ex.ar hi;refine HP ?_;simp only[rk,Ex.hI,amm,aml,amk,aR A,amq,bC hi,Ex.re];refine⟨fun _=>⟨fun _=>⟨_,_,_,rfl,O n (amn hi) (by omega),fun U h1=>⟨fun _=>?_,fun h=>?_⟩⟩,fun h=>by cases h⟩,fun h=>by omega⟩
  ·rw[bL A];exact J _ (by simp only[ams];omega)
  omega
 all_goals
  simp only[ams,eY,amB,amM,amk]at h;omega
def adF {l:List cg}{i:Nat}{x:cg}(h:l[i]?=some x):x.length+1<=D.bw (zi l):=zR D.s h
def QU (l:List St):D.bw (l.map St.ar)<2^30->dZ pg dK [aQ] [.r (l.map St.ar)] [aq] (fun d=>(D.ax d).length<=4+4*D.bw (l.map St.ar)):=by
 induction l using St.NS with|h l ih=>
 intro hl;have O:=eF (l.map St.ar);rw[amm]at O;refine Zh ?_;simp only[rk,D.aK,amm];refine⟨_,_,_,rfl,eU _,fun d hd=>?_⟩;refine Iu (l:=l) (E:=fun s i=>aC pg dK [aq] (.cY fun d=>(D.ax d).length<=4+4*D.bw (l.map St.ar)) (wT (.r (l.map St.ar)) s i)) (g:=fun n=>4*D.bZ n.ar) (N:=4+4*D.bw (l.map St.ar)) ?_ ?_ l _ 0 rfl (by omega) (by rw[oO];omega)
 ·intro s hs;refine HO ?_;simp only[rk,D.aK,amm,aml];exact⟨fun h=>by omega,fun _=>hs⟩
 intro s i x hi J hs hk;have hb:=zR St.ar hi;obtain⟨i1,Z,i3⟩:=ih x (amn hi);have he:D.bZ x.ar=10+x.nm.length+x.sc.length+D.bZ x.a.ar+D.bZ x.b.ar+D.bw (x.th.map St.ar)+D.bw (x.el.map St.ar)+D.bw (x.co.map St.ar)+D.bw (zi x.wi):=by rw[St.az];simp only[D.bZ,D.bw];omega
 have U:=eF (zi x.wi);rw[amm]at U;refine HO ?_;simp only[rk,D.aK,amm,aml,amk,aR J,amq,bC hi,St.sT,St.PM,St.CB,St.JV,St.gD,St.BO,St.iz,St.BQ,Ex.re]
 refine⟨fun _=>⟨fun _=>⟨fun _=>⟨_,_,_,rfl,Gq _ (by omega),fun d0 h0=>⟨fun _=>⟨_,_,_,rfl,Gq _ (by omega),fun d1 h1=>⟨fun _=>⟨fun _=>⟨_,_,_,rfl,XN _ (by omega),fun d2 h2=>⟨fun _=>⟨_,_,_,rfl,XN _ (by omega),fun d3 h3=>⟨fun _=>
  ⟨_,_,_,rfl,i1 (by omega),fun d4 h4=>⟨fun _=>⟨_,_,_,rfl,Z (by omega),fun d5 h5=>⟨fun _=>⟨_,_,_,rfl,i3 (by omega),fun d6 h6=>⟨fun _=>⟨_,_,_,rfl,eU _,fun d7 h7=>⟨fun _=>?_,fun h=>?_⟩⟩,fun h=>?_⟩⟩,fun h=>?_⟩⟩,fun h=>?_⟩⟩,fun h=>?_⟩⟩,fun h=>?_⟩⟩,fun h=>?_⟩,fun h=>?_⟩⟩,fun h=>?_⟩⟩,fun h=>?_⟩,fun h=>by cases h⟩,fun h=>by omega⟩
 ·refine Iu (l:=x.wi) (E:=fun s' j=>aC pg dK [aq] (.cY fun d=>(D.ax d).length<=4+4*D.bw (l.map St.ar)) (qL (.r (l.map St.ar)) s' j _ _ _ _ _ _ _ _ _ _ _ _ _ _ _ _ _ _)) (g:=fun w=>4*D.bZ (.s w)) (N:=s.length+4*D.bZ x.ar) ?_ ?_ x.wi _ 0 rfl (by omega) ?_
  ·intro s' A;refine CZ ?_;simp only[rk,amm,aml];refine⟨fun h=>by omega,fun _=>?_⟩;rw[bL J];exact hk _ A
  ·intro s' j w Y I A V;have a6:=adF Y;have ew:D.bZ (.s w)=w.length+1:=rfl;refine CZ ?_;simp only[rk,amm,aml,amk,aR I,amq,bC Y,D.dS];refine⟨fun _=>⟨fun _=>⟨_,_,_,rfl,Gq w (by omega),fun d1 h1=>⟨fun _=>?_,fun h=>?_⟩⟩,fun h=>by cases h⟩,fun h=>by omega⟩
   ·rw[bL I];exact V _ (by simp only[ams];omega)
   omega
  rw[oO];show _+4*D.bw (zi x.wi)<=_;simp only[ams,eY,amB,amM];omega
 all_goals first|omega| (simp only[ams,eY,amB,amM]at h;omega)
def XO (b:Bool):dZ pg Ac [aj] [.b b] [aq] (fun d=>(D.ax d).length<=1):=by
 refine Zj ?_;exact⟨fun _=>amG _,fun _=>amG _⟩
def agM (x:Wh)(U:x.ok)(hb:D.bZ x.ar<2^30):dZ pg DB [aU] [x.ar] [aq] (fun d=>(D.ax d).length<=4*D.bZ x.ar):=by
 have A:=U.aN;have he:D.bZ x.ar=12+D.bZ x.v.ar+D.bw (x.vs.map aA.ar)+D.bw (x.co.map St.ar)+D.bw (x.ns.map fx.ar):=by rw[Wh.az];simp only[D.bZ,D.bw];omega
 have J:=MB x.v (A _ (by simp[Wh.aN])) (by omega);have O:=aaf x.vs (by omega) (fun n I=>A n (by simp[Wh.aN,I]));have v3:=QU x.co (by omega);have v4:=S2 x.ns (by omega) (fun n I=>A n.v (by simp only[Wh.aN,amz,amO,anh];exact .inr (.inr ⟨n,I,rfl⟩)));refine Zo ?_;simp only[rk,Wh.ek,Wh.rA,Wh.pS,Wh.BP,Wh.jP,Wh.Fp,Wh.mj,Wh.qy,Wh.pe,Wh.xu,Wh.iz,Wh.hZ,eN,aml,amk];refine⟨_,_,_,rfl,eU _,fun Y h0=>⟨_,_,_,rfl,eU _,fun d1 h1=>⟨_,_,_,rfl,eU _,fun Z h2=>?_⟩⟩⟩;have V:∀d,D.ax (D.s d)=d:=D.dS
 refine⟨fun _=>⟨_,_,_,rfl,J,fun d h=>⟨fun _=>?_,fun g=>?_⟩⟩,fun _=>⟨fun _=>⟨_,_,_,rfl,O,fun d h=>⟨fun _=>?_,fun g=>?_⟩⟩,fun _=>⟨fun _=>⟨_,_,_,rfl,O,fun d h=>⟨fun _=>?_,fun g=>?_⟩⟩,
  fun _=>⟨fun _=>⟨_,_,_,rfl,Aw _,fun d h=>⟨fun _=>?_,fun g=>?_⟩⟩,fun _=>⟨fun _=>⟨fun _=>?_,fun g=>?_⟩,fun _=>⟨fun _=>⟨fun _=>?_,fun g=>?_⟩,
  fun _=>⟨fun _=>⟨fun _=>⟨_,_,_,rfl,J,fun d h=>⟨fun _=>?_,fun g=>?_⟩⟩,fun g=>?_⟩,fun _=>⟨fun _=>⟨_,_,_,rfl,Aw _,fun d h=>⟨fun _=>⟨_,_,_,rfl,Aw _,fun d' h'=>⟨fun _=>?_,fun g=>?_⟩⟩,fun g=>?_⟩⟩,
  fun _=>⟨fun _=>⟨fun _=>⟨_,_,_,rfl,Aw _,fun d h=>⟨fun _=>?_,fun g=>?_⟩⟩,fun g=>?_⟩,fun _=>⟨fun _=>⟨_,_,_,rfl,XO _,fun d h=>⟨fun _=>⟨_,_,_,rfl,J,fun d' h'=>⟨fun _=>?_,fun g=>?_⟩⟩,fun g=>?_⟩⟩,
  fun _=>⟨fun _=>⟨_,_,_,rfl,v3,fun d h=>⟨fun _=>⟨_,_,_,rfl,v4,fun d' h'=>⟨fun _=>?_,fun g=>?_⟩⟩,fun g=>?_⟩⟩,fun _=>⟨fun _=>⟨_,_,_,rfl,XO _,fun d h=>⟨fun _=>⟨fun _=>?_,fun g=>?_⟩,fun g=>?_⟩⟩,
  fun _=>⟨fun _=>⟨fun _=>⟨fun _=>?_,fun g=>?_⟩,fun g=>?_⟩,fun _=>⟨fun _=>⟨fun _=>⟨fun _=>?_,fun g=>?_⟩,fun g=>?_⟩,fun _=>⟨fun _=>⟨fun _=>?_,fun g=>?_⟩,fun _=>?_⟩⟩⟩⟩⟩⟩⟩⟩⟩⟩⟩⟩⟩⟩⟩
 all_goals first|omega| (simp only[ams]at g;omega)| (simp only[V,ams,eY,amB,amM];omega)
def GO (l:List Int):D.bw (aY l)=l.length:=by
 induction l with
 |nil=>rfl
 |cons a r A=>rw[show aY (a::r)= .z a::aY r from rfl,D.bw,A,D.bZ,amB];omega
def XM (x:Wl)(U:x.ok)(hb:D.bZ x.ar<2^30):dZ pg gS [aM] [x.ar] [aq] (fun d=>(D.ax d).length<=4*D.bZ x.ar):=by
 have he:D.bZ x.ar=6+D.bw (aY x.pa)+D.bw (aY x.cu)+D.bw (x.th.map En.ar)+D.bw (aY x.ma):=by rw[Wl.az];simp only[D.bZ,D.bw];omega
 have i1:=GO x.pa;have i2:=GO x.cu;have i3:=GO x.ma;have J:=eF (x.th.map En.ar);rw[amm]at J;refine Zg ?_;simp only[rk,Wl.iW,amm];refine⟨_,_,_,rfl,eU _,fun d hd=>?_⟩;refine Iu (l:=x.pa) (E:=fun s i=>aC pg gS [aq] (.cY fun d=>(D.ax d).length<=4*D.bZ x.ar) (wS x.ar s i)) (g:=fun n=>4*D.bZ (.z n)) (N:=4+4*D.bw (aY x.pa)) ?_ ?_ x.pa _ 0 rfl (by omega) (by rw[oO];show _+4*D.bw (aY x.pa)<=_;omega)
 ·intro s hs;refine HN ?_;simp only[rk,Wl.iW,Wl.tX,Wl.gD,Wl.q9,Wl.nD,amm,aml,amk];refine⟨fun h=>by omega,fun _=>⟨_,_,_,rfl,XP x.cu (by omega),fun O h1=>⟨fun _=>⟨_,_,_,rfl,eU _,fun Z h2=>⟨fun _=>⟨_,_,_,rfl,XP x.ma (by omega),fun d3 h3=>⟨fun _=>⟨_,_,_,rfl,eU _,fun d4 h4=>⟨fun _=>?_,fun g=>?_⟩⟩,fun g=>?_⟩⟩,fun g=>?_⟩⟩,fun g=>?_⟩⟩⟩
  ·refine Iu (l:=x.th) (E:=fun s i=>aC pg gS [aq] (.cY fun d=>(D.ax d).length<=4*D.bZ x.ar) (uW x.ar s i)) (g:=fun n=>4*D.bZ n.ar) (N:=4*D.bZ x.ar) ?_ ?_ x.th _ 0 rfl (by omega) (by rw[oO];simp only[ams];omega)
   ·intro s hs;refine F1 ?_;simp only[rk,Wl.gD,amm,aml];exact⟨fun h=>by omega,fun _=>hs⟩
   intro s i e hi A hs I;have Y:=zR En.ar hi;have V:D.bZ e.ar=2+D.bZ e.w.ar:=(by rw[En.az];simp only[D.bZ,D.bw];omega);refine F1 ?_;simp only[rk,Wl.gD,amm,aml,amk,aR A,amq,bC hi,En.VD,Wh.re];refine⟨fun _=>⟨fun _=>⟨_,_,_,rfl,eU _,fun d0 h0=>⟨fun _=>⟨fun _=>⟨_,_,_,rfl,agM e.w (U.2.2.2.2.2.1 e (amn hi)).2.2 (by omega),fun O h1=>⟨fun _=>?_,fun g=>?_⟩⟩,fun g=>?_⟩,fun g=>?_⟩⟩,fun h=>by cases h⟩,fun h=>by omega⟩
   ·rw[bL A];exact I _ (by simp only[ams,eY,amB,amM];omega)
   all_goals first|omega| (simp only[ams,eY,amB,amM]at g;omega)
  all_goals first|omega| (simp only[ams]at g;omega)
 intro s i n hi A hs I;simp only[D.bZ]at hs I;refine HN ?_;simp only[rk,Wl.iW,amm,aml,amk,aR A,amq];refine⟨fun _=>⟨fun _=>⟨_,_,_,rfl,eU _,fun O h1=>⟨fun _=>?_,fun g=>?_⟩⟩,fun h=>by cases h⟩,fun h=>by omega⟩
 ·rw[bL A];exact I _ (by simp only[ams];omega)
 omega
def UT (l:List Su)(hl:D.bw (l.map Su.ar)<2^30)(ho:∀s∈l,s.ok):dZ pg eu [br] [.r (l.map Su.ar)] [aq] (fun d=>(D.ax d).length<=4+4*D.bw (l.map Su.ar)):=by
 have U:=eF (l.map Su.ar);rw[amm]at U;refine Ql ?_;simp only[rk,D.aK,amm];refine⟨_,_,_,rfl,eU _,fun d hd=>?_⟩;refine Iu (l:=l) (E:=fun s i=>aC pg eu [aq] (.cY fun d=>(D.ax d).length<=4+4*D.bw (l.map Su.ar)) (pq (.r (l.map Su.ar)) s i)) (g:=fun n=>4*D.bZ n.ar) (N:=4+4*D.bw (l.map Su.ar)) ?_ ?_ l _ 0 rfl (by omega) (by rw[oO];omega)
 ·intro s hs;refine Bv ?_;simp only[rk,D.aK,amm,aml];exact⟨fun h=>by omega,fun _=>hs⟩
 intro s i x hi A hs Z;have hb:=zR Su.ar hi;have V:=ho x (amn hi);have he:D.bZ x.ar=5+D.bw (x.co.map St.ar)+D.bw (x.ns.map fx.ar)+D.bw (aY x.se):=by rw[Su.az];simp only[D.bZ,D.bw];omega
 have i3:=GO x.se;refine Bv ?_;simp only[rk,D.aK,amm,aml,amk,aR A,amq,bC hi,Su.PN,Su.iz,Su.hZ,Su.tY];refine⟨fun _=>⟨fun _=>⟨_,_,_,rfl,eU _,fun d0 h0=>⟨fun _=>⟨_,_,_,rfl,QU x.co (by omega),fun d1 h1=>⟨fun _=>⟨_,_,_,rfl,S2 x.ns (by omega) (fun n Y=>(V.2.2.2.2.2.1 n Y).2),fun d2 h2=>⟨fun _=>⟨_,_,_,rfl,eU _,fun d3 h3=>⟨fun _=>?_,fun g=>?_⟩⟩,fun g=>?_⟩⟩,fun g=>?_⟩⟩,fun g=>?_⟩⟩,fun h=>by cases h⟩,fun h=>by omega⟩
 ·refine Iu (l:=x.se) (E:=fun s' j=>aC pg eu [aq] (.cY fun d=>(D.ax d).length<=4+4*D.bw (l.map Su.ar)) (mG (.r (l.map Su.ar)) s' j i)) (g:=fun n=>4*D.bZ (.z n)) (N:=s.length+4*D.bZ x.ar) ?_ ?_ x.se _ 0 rfl (by omega) ?_
  ·intro s' I;refine yq ?_;simp only[rk,D.aK,amm,aml,aR A,amq,bC hi,Su.tY];refine⟨fun _=>⟨fun h=>by omega,fun _=>?_⟩,fun h=>by cases h⟩;rw[bL A];exact Z _ I
  ·intro s' j n hj O I J;simp only[D.bZ]at I J;refine yq ?_;simp only[rk,D.aK,amm,aml,amk,aR A,aR O,amq,bC hi,Su.tY];refine⟨fun _=>⟨fun _=>⟨fun _=>⟨_,_,_,rfl,eU _,fun d1 h1=>⟨fun _=>?_,fun g=>?_⟩⟩,fun h=>by cases h⟩,fun h=>by omega⟩,fun h=>by cases h⟩
   ·rw[bL O];exact J _ (by simp only[ams];omega)
   omega
  rw[oO];show _+4*D.bw (aY x.se)<=_;simp only[ams];omega
 all_goals first|omega| (simp only[ams]at g;omega)
def MC (c:UInt8)(s:cg)(hs:s.length<2^36):dZ pg nk [aq,aq] [.s [c],.s s] [aq] (fun d=>(D.ax d).length<=17+s.length):=by
 have A:∀d,D.ax (D.s d)=d:=D.dS;refine WV ?_;simp only[rk,A,ams,amB,amM,aml,amk];refine⟨fun _=>⟨fun _=>⟨_,_,_,rfl,Uz _ (by simp only[ams,amB,amM];omega),fun I h0=>⟨_,_,_,rfl,Qw _,?_⟩⟩,fun h=>by omega⟩,fun h=>by omega⟩;rintro _ rfl;simp only[A,eY,nA,ams,amB,amM];exact⟨fun _=>by omega,fun h=>by omega⟩
def adM (x:Wl)(A:x.ok)(hb:D.bZ x.ar<2^30):dZ pg A8 [aM] [x.ar] [aq] (fun d=>(D.ax d).length<2^36):=by
 refine WO ?_;simp only[rk,Wl.re];refine⟨_,_,_,rfl,XM x A hb,fun J h0=>⟨_,_,_,rfl,MC _ _ (by omega),fun I h1=>?_⟩⟩;show (D.ax (D.s _)).length<_;rw[D.dS];omega
def adN (x:Wl)(A:x.ok)(hb:D.bZ x.ar<2^30)(l:List Su)(hl:D.bw (l.map Su.ar)<2^30)(ho:∀s∈l,s.ok):dZ pg A9 [aM,br] [x.ar,.r (l.map Su.ar)] [aq] (fun d=>(D.ax d).length<2^36):=by
 refine WQ ?_;simp only[rk,Wl.re,D.aK,aml,amk];refine⟨_,_,_,rfl,XM x A hb,fun I h0=>⟨_,_,_,rfl,UT l hl ho,fun O h1=>⟨fun _=>⟨_,_,_,rfl,MC _ _ (by simp only[ams];omega),fun J h2=>?_⟩,fun h=>by omega⟩⟩⟩;simp only[ams]at h2;rw[D.dS];omega
def agL (l:List St)(h1:St.vl l)(h2:St.dq l<2^40)(hb:D.bw (l.map St.ar)<2^30):dZ pg DA [aQ] [.r (l.map St.ar)] [aq,ah] (fun d=>((d.af 0).ax).length<2^36):=by
 refine Ze ?_;simp only[rk,D.aK,aml,amk];refine⟨_,_,_,rfl,OA l h1 h2,fun A h0=>⟨fun _=>?_,fun _=>⟨_,_,_,rfl,QU l hb,fun J h1=>⟨_,_,_,rfl,MC _ _ (by omega),fun I h2=>?_⟩⟩⟩⟩
 ·show (D.ax (D.s [])).length<_;rw[D.dS];decide
 show (D.ax (D.s _)).length<_;rw[D.dS];omega
def air:∀v:aA,D.bZ v.ar<2^40->∀a:Int,dZ pg oL [ak,ah] [v.ar,.z a] [ah] (fun _=>True):=by
 refine aA.ind fun v V Y a=>?_;have hl:=v.J8;have loop:∀(rest:List aA) (i:Nat) (n:Int),v.l.drop i=rest->aC pg oL [ah] (.cY fun _=>True) (xi v.ar (.z a) n i):=by
  intro rest
  induction rest with
  |nil=>intro i n hd;have:=drop_nil hd;refine Ig ?_;simp only[rk,aA.hI,amm,aml,amk];exact⟨fun h=>by omega,fun _=>trivial⟩
  |cons x rest A=>intro i n hd;obtain⟨I,U,O⟩:=aF hd;have J:=amn I;refine Ig ?_;simp only[rk,aA.hI,amm,aml,amk,aR O,amq,bC I,eN];refine⟨fun _=>⟨fun _=>⟨fun _=>⟨_,_,_,rfl,V x J (by have:=aA.Lc J;omega) n,fun d _=>?_⟩,fun h=>by cases h⟩,fun _=>trivial⟩,fun _=>trivial⟩;rw[bL O];exact A (i+1) _ U
 refine ac8 ⟨fun _=>trivial,fun _=>?_⟩;exact loop v.l 0 _ rfl
def agj (v:aA)(h:D.bZ v.ar<2^40):dZ pg DF [ak] [v.ar] [aj] (fun _=>True):=by
 refine Zx ?_;simp only[rk,eN];exact⟨_,_,_,rfl,air v h _,fun _ _=>trivial⟩
def aco (l:List Su)(hb:D.bw (l.map Su.ar)<2^30):dZ pg dQ [br] [.r (l.map Su.ar)] [aj] (fun _=>True):=by
 have Y:=eF (l.map Su.ar);rw[amm]at Y;have loop:∀(rest:List Su) (i:Nat),l.drop i=rest->aC pg dQ [aj] (.cY fun _=>True) (p5 (.r (l.map Su.ar)) i):=by
  intro rest
  induction rest with
  |nil=>intro i hd;have:=drop_nil hd;refine FV ?_;simp only[rk,D.aK,amm,aml,amk];exact⟨fun h=>by omega,fun _=>trivial⟩
  |cons s rest ih=>
   intro i hd;obtain⟨I,g2,A⟩:=aF hd;have b4:=tg (an6 (f:=Su.ar) (amn I));have he:D.bZ s.ar=5+D.bw (s.co.map St.ar)+D.bw (s.ns.map fx.ar)+D.bw (aY s.se):=(by rw[Su.az];simp only[D.bZ,D.bw];omega);have hn:=eF (s.ns.map fx.ar);have a8:=eF (aY s.se);rw[amm]at hn a8;have next:aC pg dQ [aj] (.cY fun _=>True) (p5 (.r (l.map Su.ar)) (wp .i64 ((i:Int)+1))):=by rw[bL A];exact ih (i+1) g2
   have Z:∀(U:List fx) (j:Nat),s.ns.drop j=U->aC pg dQ [aj] (.cY fun _=>True) (pf (.r (l.map Su.ar)) j i):=by
    intro U
    induction U with
    |nil=>intro j hd;have:=drop_nil hd;refine Bt ?_;simp only[rk,D.aK,amm,aml,amk,aR A,amq,bC I,Su.hZ];exact⟨fun _=>⟨fun h=>by omega,fun _=>next⟩,fun h=>by cases h⟩
    |cons n U a7=>intro j hd;obtain⟨V,k2,J⟩:=aF hd;have b6:=tg (an6 (f:=fx.ar) (amn V));have d0:D.bZ n.ar=2+n.nm.length+D.bZ n.v.ar:=(by rw[fx.az];simp only[D.bZ,D.bw];omega);refine Bt ?_;simp only[rk,D.aK,amm,aml,amk,aR A,aR J,amq,bC I,bC V,Su.hZ,fx.pS,eN];refine⟨fun _=>⟨fun _=>⟨fun _=>⟨_,_,_,rfl,agj n.v (by omega),fun d _=>⟨fun _=>trivial,fun _=>?_⟩⟩,fun h=>by cases h⟩,fun h=>by omega⟩,fun h=>by cases h⟩;rw[bL J];exact a7 (j+1) k2
   have b1:∀(O:List Int) (j:Nat),s.se.drop j=O->aC pg dQ [aj] (.cY fun _=>True) (qI (.r (l.map Su.ar)) j i):=by
    intro O
    induction O with
    |nil=>intro j hd;have:=drop_nil hd;refine CV ?_;simp only[rk,D.aK,amm,aml,amk,aR A,amq,bC I,Su.tY];exact⟨fun _=>⟨fun h=>by omega,fun _=>Z s.ns 0 rfl⟩,fun h=>by cases h⟩
    |cons n O a6=>intro j hd;obtain⟨V,k2,J⟩:=aF hd;refine CV ?_;simp only[rk,D.aK,amm,aml,amk,aR A,aR J,amq,bC I,Su.tY];refine⟨fun _=>⟨fun _=>⟨fun _=>⟨fun _=>trivial,fun _=>⟨fun _=>trivial,fun _=>?_⟩⟩,fun h=>by cases h⟩,fun h=>by omega⟩,fun h=>by cases h⟩;rw[bL J];exact a6 (j+1) k2
   refine FV ?_;simp only[rk,D.aK,amm,aml,amk,aR A];exact⟨fun _=>⟨fun _=>⟨fun _=>trivial,fun _=>⟨fun _=>trivial,fun _=>b1 s.se 0 rfl⟩⟩,fun h=>by cases h⟩,fun h=>by omega⟩
 exact WK (loop l 0 rfl)
def ai4 (n0 n3:Int)(L:Nat):Int:=(if (((wp .i64 (n0+(if (((if ((((L:Nat):Int):Int)<(n3:Int))then ((L:Nat):Int)else n3):Int)>(0:Int))then (if ((((L:Nat):Int):Int)<(n3:Int))then ((L:Nat):Int)else n3)else 0))):Int)<(((L:Nat):Int):Int))then (wp .i64 (n0+(if (((if ((((L:Nat):Int):Int)<(n3:Int))then ((L:Nat):Int)else n3):Int)>(0:Int))then (if ((((L:Nat):Int):Int)<(n3:Int))then ((L:Nat):Int)else n3)else 0)))else ((L:Nat):Int))
def ae3 {n0 n3:Int}{L:Nat}(h0:0<=n0)(h1:n0<=L)(hL:L<2^40):∃E:Nat,E<=L/\n0<=E/\ai4 n0 n3 L=(E:Int):=by
 have key:∀m:Int,0<=m->m<=L->∃E:Nat,E<=L/\n0<=E/\(if wp .i64 (n0+m)<((L:Nat):Int)then wp .i64 (n0+m)else ((L:Nat):Int))=(E:Int):=by
  intro m A I;rw[bM]
  split
  ·exact⟨(n0+m).toNat,by omega,by omega,by omega⟩
  exact⟨L,amG _,h1,rfl⟩
 refine key (if (if ((L:Nat):Int)<n3 then ((L:Nat):Int)else n3)>0 then (if ((L:Nat):Int)<n3 then ((L:Nat):Int)else n3)else 0) ?_ ?_
 ·split
  ·omega
  omega
 split
 ·split
  ·omega
  omega
 omega
set_option maxRecDepth 100000 in
def IW (s0:cg)(l:List D)(hs:s0.length<2^37):dZ pg cm [aq,cR] [.s s0,.r l] [aq] (fun d=>(D.ax d).length<2^38):=by
 have loop:∀(k i:Nat) (s:cg),i+k=20->s.length<2^37+4000*(i+1)->aC pg cm [aq] (.cY fun d=>(D.ax d).length<2^38) (jr (.s s0) (.r l) i s):=by
  intro k
  induction k with
  |zero=>intro i s hi hs;refine Em ?_;simp only[rk,aml,amk];exact⟨fun _=>⟨fun h=>by omega,fun _=>(D.dS s).symm▸(by omega)⟩,fun _=>(D.dS s).symm▸(by omega)⟩
  |succ k ih=>
   intro i s hi hs;have next:∀s':cg,s'.length<=s.length+4000->aC pg cm [aq] (.cY fun d=>(D.ax d).length<2^38) (jr (.s s0) (.r l) (wp .i64 ((i:Int)+1)) s'):=fun s' h'=>by rw[bM];exact ih (i+1) s' (by omega) (by omega)
   have Z:∀(w:Nat) (x:Int) (b:List D),w<=8->b.length+w<=s.length+4000->aC pg cm [aq] (.cY fun d=>(D.ax d).length<2^38) (lK (.s s0) (.r l) x b.length b (8*(w:Int)-8) i):=by
    intro w
    induction w with
    |zero=>intro x b _ hb;refine xJ ?_;simp only[rk,aml,amk,ano];exact⟨fun h=>by omega,fun _=>⟨fun _=>next _ (by simp only[eY];omega),fun h=>absurd (amG _) h⟩⟩
    |succ w U=>intro x b hw hb;refine xJ ?_;have e1:8*((w+1:Nat):Int)-8=8*(w:Int):=(by omega);rw[e1,bM (x:=8*(w:Int)-8)];simp only[rk,aml,amk,am2,anf,Gl (show b.length+1<2^41 by omega)];refine⟨fun _=>⟨fun _=>⟨fun _=>?_,fun h=>by cases h⟩,fun h=>by omega⟩,fun h=>by omega⟩;have:=U x (b++[.z (IntKind.u8.wrap (Int.fdiv x (2^(min (Int.toNat (8*(w:Int))) 64))))]) (by omega) (by simp;omega);rw[ams]at this;exact this
   have c3:∀(s':cg) (I n3:Int) (A:cg) (b:Bool),s'.length<=s.length+4000->aC pg cm [aq] (.cY fun d=>(D.ax d).length<2^38) (sX (.s s0) (.r l) s' i I n3 A b):=(by intro s' I n3 A b h';refine I8 ?_;refine⟨fun _=>⟨fun Y=>?_,fun _=>next s' h'⟩,fun _=>next s' h'⟩;have Y:(s'.length:Int)>8:=amU Y;have hw:wp .i64 ((s'.length:Int)-8)=((s'.length-8:Nat):Int):=(by rw[bM];omega);rw[hw,amq,anx];simp only[rk,aml,amk,amo,apL];refine⟨fun _=>⟨fun _=>⟨_,_,_,rfl,Uz _ (by simp only[amI];omega),fun d0 _=>?_⟩,fun h=>by have:=h (anX _);omega⟩,fun h=>by omega⟩;have e:(s'.take (s'.length-8)).length=(kf (s'.take (s'.length-8))).length:=(zZ _).symm;rw[e];refine Z 8 (D.int d0) _ (by omega) ?_;rw[zZ,amI];omega);have V:∀(n0 I n3:Int) (A:cg) (b:Bool),0<=n0->n0<=s.length->A.length<=4000->aC pg cm [aq] (.cY fun d=>(D.ax d).length<2^38) (pk (.s s0) (.r l) n0 i I n3 A b s):=by
    intro n0 I n3 A b h0 h1 h4;obtain⟨E,O,a6,J⟩:=ae3 (n3:=n3) h0 h1 (show s.length<2^40 by omega);unfold ai4 at J;obtain⟨m,rfl⟩:=aoc h0;refine KD ?_;dsimp only;rw[J,amq,amq];simp only[rk,aml,amk,amo,apL,ano,anx,ams,amI,anz];refine⟨fun _=>⟨fun _=>⟨fun _=>⟨fun _=>⟨fun _=>⟨fun _=>c3 _ _ _ _ _ ?_,fun h=>by omega⟩,fun h=>?_⟩,fun h=>by omega⟩,fun h=>by omega⟩,fun h=>?_⟩,fun h=>by omega⟩
    ·simp only[ams,amI,anz];omega
    ·have:=h O;omega
    have:=h (anX _);omega
   have c1:∀(n1 I n3:Int) (A:cg) (b:Bool),aC pg cm [aq] (.cY fun d=>(D.ax d).length<2^38) (uL (.s s0) (.r l) i n1 I n3 A b s):=(by intro n1 I n3 A b;have same:=next s (by omega);refine KC ?_;simp only[rk,aml,amk];exact⟨fun _=>⟨fun _=>same,fun h1=>⟨fun _=>same,fun h2=>⟨fun _=>same,fun h3=>V _ _ _ _ _ (by omega) (by omega) (by omega)⟩⟩⟩,fun h0=>⟨fun _=>same,fun h2=>⟨fun _=>same,fun h3=>V _ _ _ _ _ (by omega) (by omega) (by omega)⟩⟩⟩);refine Em ?_;simp only[rk,D.aK,aml,amk];refine⟨fun hi=>⟨fun _=>⟨fun _=>c1 _ _ _ _ _,fun h=>?_⟩,fun _=>(D.dS s).symm▸(by omega)⟩,fun _=>(D.dS s).symm▸(by omega)⟩;rw[aR (by omega)]at h;cases h
 refine Ub ?_;exact loop 20 0 s0 rfl (by omega)
def Wh.ahN (c:List St):(D.r [D.z 0,D.z 0,D.r [D.z 0,D.z 0,D.s [],D.r [],D.z 0],D.r [],D.z 0,D.z 0,D.z 0,D.z 0,D.z 0,D.b false,D.r (c.map St.ar),D.r []])=(Wh.EM c []).ar:=rfl
def adA (x:Wl)(V:x.vN)(J:D.bZ x.ar<2^30)(l:List Su)(U:D.bw (l.map Su.ar)<2^30)(hs:∀s∈l,s.Tb)(c:List St)(hc:St.vl c)(a8:D.bw (c.map St.ar)<2^30-8)(h:List D)(o:cg):
 PH nZ (nR x.ar (l.map Su.ar) (c.map St.ar) h o) [] 0 bg (fun d=>D.bool d=true):=by
 have Z:=eF (l.map Su.ar);rw[amm]at Z;have e4:=K6 c;have bz:∀d,D.bool d=true->hG.bK=some 0/\∃d',T.dV (BV.bool (D.bool d),([]:List (Nat×aE))) (bg (nR x.ar (l.map Su.ar) (c.map St.ar) h o) [] d')/\D.bool d'=true:=fun d hd=>⟨rfl,d,.ret,hd⟩;have cz:(Wh.EM c []).ok:=Wh.abb (s:=⟨0,c,[],[]⟩) ⟨show (-2^63:Int)<=0 by decide,show (0:Int)<2^63 by decide,hc.1,hc.2,show 0<2^63 by decide,(fun _ h=>by cases h),show 0<2^63 by decide,fun _ h=>by cases h⟩;have cs:(Wh.EM c []).sz<2^30:=by
  have h0:aA.zero.size=1:=by decide
  have h1:(Wh.EM c []).co=c:=rfl;have I:(Wh.EM c []).aN=[aA.zero]:=rfl;simp only[Wh.sz,h1,I,aA.bA,h0];omega
 refine NW ?_;simp only[rk,Wl.re,Wl.iW,Wl.tX,Wl.gD,Wl.q9,Wl.nD,aml,amk];rw[Wh.ahN];refine⟨_,_,_,rfl,aeX l (by omega) hs,fun d0 _=>⟨fun _=>⟨_,_,rfl,Vd,fun d hd=>bz d hd⟩,fun _=>⟨_,_,_,rfl,aiq x V,fun d2 _=>⟨fun _=>⟨_,_,rfl,Vd,fun d hd=>bz d hd⟩,fun _=>⟨_,_,_,rfl,UC _ cz cs,fun d4 _=>⟨fun _=>⟨_,_,rfl,Vd,fun d hd=>bz d hd⟩,fun _=>⟨fun _=>⟨_,_,rfl,Vd,fun d hd=>bz d hd⟩,fun ho=>?_⟩⟩⟩⟩⟩⟩⟩;have bx:∃R O,rp hG.bJ gw=some R/\xm pg gw [BV.ax o] [] 0 (R [BV.ax o] []) O/\∀d,O d->(D.bool d=true->∃R O,rp hG.bJ tn=some R/\PH tn [] [] 0 R O/\∀d,O d->hG.bK=some 0/\∃d',T.dV (BV.bool (D.bool d),([]:List (Nat×aE))) (bg (nR x.ar (l.map Su.ar) (c.map St.ar) h o) [] d')/\D.bool d'=true)/\(D.bool d=false->hG.bK=some 0/\∃d',T.dV (BV.bool false,([]:List (Nat×aE))) (bg (nR x.ar (l.map Su.ar) (c.map St.ar) h o) [] d')/\D.bool d'=true):=
  ⟨_,_,rfl,GR o (by omega),fun d hd=>⟨fun _=>⟨_,_,rfl,Vd,fun d hd=>bz d hd⟩,fun A=>by rw[hd]at A;cases A⟩⟩
 refine⟨_,_,rfl,Qy x V,fun d7 _=>⟨fun _=>⟨_,_,_,rfl,aco l U,fun d8 _=>⟨fun _=>bx,fun _=>?_⟩⟩,fun _=>bx⟩⟩;refine⟨_,_,_,rfl,agL c hc (by omega) (by omega),fun e2 e0=>⟨_,_,_,rfl,adN x V.ok J l U (fun s hm=>(hs s hm).C9.ok),fun d3 d6=>⟨_,_,_,rfl,IW _ h (by omega),fun b6 b1=>⟨_,_,rfl,GR _ (by omega),fun b4 a6=>⟨fun _=>?_,fun A=>?_⟩⟩⟩⟩⟩
 ·refine⟨_,_,_,rfl,adM x V.ok J,fun e7 d9=>⟨_,_,_,rfl,IW _ h (by omega),fun e3 e1=>⟨_,_,rfl,GR _ (by omega),fun e5 a7=>⟨fun _=>?_,fun A=>?_⟩⟩⟩⟩
  ·refine⟨_,_,_,rfl,IW _ h (by omega),fun d1 e6=>⟨_,_,rfl,GR _ (by omega),fun d5 Y=>⟨fun _=>bx,fun A=>?_⟩⟩⟩;rw[Y]at A;cases A
  rw[a7]at A;cases A
 rw[a6]at A;cases A
end Go.Proofs
end
