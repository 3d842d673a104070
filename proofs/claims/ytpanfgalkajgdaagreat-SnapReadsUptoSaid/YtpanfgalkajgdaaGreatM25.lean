import Derived.WalkKit
import Derived.ProofKit
import Derived.WalkLawsBesides
import Derived.Test.YtpanfgalkajgdaaGreatM12
import Derived.Test.YtpanfgalkajgdaaGreatM24
set_option linter.all false
noncomputable section
open Go.IntKind renaming wrap→wp
namespace Go.Proofs
open Go Go.PB
def eY (l:List D):(bO l).length=l.length:=by simp[bO]
def VT {R:D->T (BV×List (Nat×aE))}(I:∀d,R d= .ret (.tuple [],Lm (D.ae d))){Q:D->Prop}{l':List D}{k:Nat}(A:k=l'.length)(h:Q (.r l')):
 ∃d,T.dV (BV.tuple [],[(0,aE.cells [.hY 1 k true] fG false),(1,.bY Lp l' true)]) (R d)/\Q d:=⟨.r l',by rw[I,A];exact .ret,h⟩
def Vc {l:List D}{i:Nat}{x:D}(h:l[i]?=some x):D.at l i=x:=by simp[D.at,List.getD,h]
def dq (ys:List D):List D:=ys.flatMap fun y=>yg 4 (D.int y)
def SA (ys l:List D)(hl:l.length+4+4*ys.length<2^40):
 PH fk (qm l ys) (cU l ys) 1 bI (fun d=>D.ae d=l++(yg 4 ys.length++dq ys)):=by
 have V:∀J:List D,(dq J).length=4*J.length:=fun J=>by
  induction J with
  |nil=>rfl
  |cons z r U=>simp only[dq,apw,ams,nA,amB]at U ⊢;omega
 have loop:∀(rest:List D) (i:Nat) (A:List D),ys.drop i=rest->A++dq rest=l++(yg 4 ys.length++dq ys)->aC pg fk [] (.bK 1 (bI (qm l ys) (cU l ys)) fun d=>D.ae d=l++(yg 4 ys.length++dq ys)) (mI l ys A.length A i):=by
  intro rest
  induction rest with
  |nil=>intro i A hd h;have:=drop_nil hd;refine yw ?_;simp only[rk,aml,amk];exact⟨fun h=>by omega,fun _=>⟨rfl,VT (fun _=>rfl) rfl (by simpa [dq]using h)⟩⟩
  |cons x rest U=>intro i A hd h;obtain⟨Z,k2,Y⟩:=aF hd;have I:=amZ List.length h;simp only[ams,V,nA,amB]at I;refine yw ?_;simp only[rk,aml,amk,amq,Vc Z,aR Y];refine⟨fun _=>⟨fun _=>⟨_,_,rfl,GS A (D.int x) (by omega),fun d O=>?_⟩,fun h=>by cases h⟩,fun h=>by omega⟩;rw[bL Y];exact U (i+1) (D.ae d) k2 (by rw[O,<-h];simp[dq])
 refine Mj ?_;simp only[rk];refine⟨_,_,rfl,GS l _ (by omega),fun d hd=>?_⟩;exact loop ys 0 _ rfl (by rw[hd];simp)
def VN (l:List D)(hl:l.length+4<2^40):PH gT (tG l []) (cU l []) 1 bI (fun d=>D.ae d=l++yg 4 0):=by
 refine Ku ?_;simp only[rk];refine⟨_,_,rfl,GS l _ (by omega),fun d hd=>Gb ?_⟩;simp only[rk,amM,aml,amk];exact⟨fun h=>absurd h (by decide),fun _=>⟨rfl,VT (fun _=>rfl) rfl (by rw[D.aK,hd];rfl)⟩⟩
def TR (l:List D)(hl:l.length+4<2^40):PH gk (sL l []) (cU l []) 1 bI (fun d=>D.ae d=l++yg 4 0):=by
 refine I5 ?_;simp only[rk];refine⟨_,_,rfl,GS l _ (by omega),fun d hd=>ES ?_⟩;simp only[rk,amM,aml,amk];exact⟨fun h=>absurd h (by decide),fun _=>⟨rfl,VT (fun _=>rfl) rfl (by rw[D.aK,hd];rfl)⟩⟩
def VO (l:List D)(hl:l.length+4<2^40):PH gV (tH l []) (cU l []) 1 bI (fun d=>D.ae d=l++yg 4 0):=by
 refine Kv ?_;simp only[rk];refine⟨_,_,rfl,GS l _ (by omega),fun d hd=>Gc ?_⟩;simp only[rk,amM,aml,amk];exact⟨fun h=>absurd h (by decide),fun _=>⟨rfl,VT (fun _=>rfl) rfl (by rw[D.aK,hd];rfl)⟩⟩
def Yp (y:D):Prop:=D.ae (y.af 0)=[]/\D.ae (y.af 1)=[]/\D.int (y.af 3)=0/\D.ae (y.af 4)=[.z 0]/\D.ae (y.af 2)=[]
def agT:List D:=[.z 0,.z 0,.z 0,.z 0,.z 0,.z 0,.z 0,.z 0,.z 0,.z 0,.z 0,.z 0,.z 0,.z 0,.z 0,.z 1,.z 0,.z 0,.z 0,.z 0,.z 0,.z 0,.z 0,.z 0]
def afl {y:D}(e:Yp y)(l:List D)(hl:l.length+61<2^40):PH wI (Hj l y) (Hk l y) 1 bI (fun d=>D.ae d=l++agT):=by
 obtain⟨V,Z,e2,e3,e4⟩:=e;refine Rn ?_;simp only[rk,V,Z,e2,e3,e4];refine⟨_,_,rfl,VN _ (by omega),fun d0 J=>?_⟩;have h0:=amZ List.length J;simp only[ams,nA]at h0;refine⟨_,_,rfl,SA _ _ (by simp only[amM];omega),fun d1 A=>?_⟩;have h1:=amZ List.length A;simp only[ams,nA,dq,List.flatMap_nil,amM]at h1;refine⟨_,_,rfl,GS _ _ (by omega),fun d2 I=>?_⟩;have h2:=amZ List.length I;simp only[ams,nA]at h2;refine⟨_,_,rfl,SA _ _ (by simp only[amB,amM];omega),fun d3 O=>?_⟩;have Y:=amZ List.length O;simp only[ams,nA,dq,apw,List.flatMap_nil,amM]at Y;refine⟨_,_,rfl,TR _ (by omega),fun d4 U=>?_⟩;refine⟨rfl,VT (fun _=>rfl) rfl ?_⟩;rw[D.aK,U,O,I,A,J];simp only[anK];rfl
end Go.Proofs
namespace Go.Proofs
open Go Go.PB Go.ChangeShapes Go.WideShapes Go.ChangeAt Go.RowKit Go.Op
def adP (w:World):Calls pg 131 #[] w fun e w'=>e= .panicked [{v:= .iface 197 (.agg #[.int .i64 270]),recovered:=false}]/\w'=w:=by
 go_enter Tryz.func131,Tryz.ntmps131
 go_wp2
 all_goals exact⟨rfl,rfl,rfl⟩
def ve:PH cx (abB) (abD) 0 fP (fun _=>True):=by
 intro g w A I J;have h0:A.toList=[]:=J;obtain⟨A⟩:=A;have h0:A=[]:=h0;subst h0;refine(adP w).mono ?_;rintro e w' ⟨rfl,rfl⟩;exact⟨g,.z 0,_,.ret,⟨amG _,fun _ _ _=>rfl,fun _ h=>h,fun _ _ h=> .inl h,I.oU,fun c _ ho=>ho,fun _ _ h=>h,rfl,rfl,rfl⟩,Pin.zero _ _,I,rfl,trivial⟩
end Go.Proofs
namespace Go.Proofs
open Go Go.PB
def zn {x:Int}(h0:0<=x:=by omega)(h1:x<2^64:=by omega):IntKind.u64.wrap x=x:=by
 have A:(IntKind.u64).bits=64:=rfl;have I:(IntKind.u64).signed=false:=rfl;simp only[wp,A,I,aog,amp,ann];omega
def afz (a b k:Nat)(hb:b<2^k)(h:a*2^k+b<2^64):(BitVec.ofInt 64 ((a*2^k:Nat):Int) ||| BitVec.ofInt 64 (b:Int)).toNat=a*2^k+b:=by
 rw[BitVec.toNat_or];simp only[an8];have A:(((a*2^k:Nat):Int) % ((2^64:Nat):Int)).toNat=a*2^k:=by omega
 have I:((b:Int) % ((2^64:Nat):Int)).toNat=b:=by omega
 rw[A,I,<-Nat.shiftLeft_eq,Nat.shiftLeft_add_eq_or_of_lt hb]
def OD {n:Nat}{c:UInt8}(h:n*256+c.toNat<2^64):IntKind.u64.wrap (((BitVec.ofInt 64 (IntKind.u64.wrap ((n:Int)*256)) ||| BitVec.ofInt 64 (IntKind.u64.wrap ((c.toNat:Nat):Int))).toNat:Nat):Int)=((n*256+c.toNat:Nat):Int):=by
 have hc:=c.toNat_lt;have A:IntKind.u64.wrap ((n:Int)*256)=((n*2^8:Nat):Int):=by rw[zn];omega
 have I:IntKind.u64.wrap ((c.toNat:Nat):Int)=((c.toNat:Nat):Int):=zn;rw[A,I,afz n c.toNat 8 (by omega) (by omega),zn]
def Dn {s:cg}{i:Nat}{c:UInt8}(h:s[i]?=some c):jN (s.take (i+1))=jN (s.take i)*256+c.toNat:=by
 rw[ao3,h];exact RX _ _
def Gw {s:cg}{i:Nat}(h:i<=8):jN (s.take i)<2^64:=by
 have h1:=OU (s.take i);have h2:(s.take i).length<=8:=by rw[amI];omega
 have A:256^(s.take i).length<=256^8:=apX (by decide) h2;have I:256^8=2^64:=by decide
 omega
def z7 (s:cg)(n:Nat):List.drop n (List.take s.length s)=s.drop n:=by rw[ano]
def Rq {α:Type}(e:α->D)(p:Pa α)(s:cg)(d:D):Prop:=match p s with
 |some (v,r)=>(d.af 0).bool=false/\D.af d 1=e v/\(d.af 2).ax=r
 |none=>(d.af 0).bool=true
def Rq.pc {α:Type}{e:α->D}{p:Pa α}{s:cg}{d:D}(h:p s=none)(hd:Rq e p s d):(d.af 0).bool=true:=by simpa [Rq,h]using hd
def Rq.fD {α:Type}{e:α->D}{p:Pa α}{s r:cg}{v:α}{d:D}(h:p s=some (v,r))(hd:Rq e p s d):(d.af 0).bool=false/\D.af d 1=e v/\(d.af 2).ax=r:=by simpa [Rq,h]using hd
def Rq.ofB {α:Type}{e:α->D}{p:Pa α}{s:cg}{d:D}(h:p s=none)(g:(d.af 0).bool=true):Rq e p s d:=by simpa [Rq,h]using g
def Rq.mkB {α:Type}{e:α->D}{p:Pa α}{s:cg}{x y:D}(h:p s=none):Rq e p s (.r [.b true,x,y]):=by simp[Rq,h,D.af,D.at,D.bool]
def Rq.mk {α:Type}{e:α->D}{p:Pa α}{s r:cg}{v:α}(h:p s=some (v,r)):Rq e p s (.r [.b false,e v,.s r]):=by simp[Rq,h,D.af,D.at,D.bool,D.ax]
def zE {n:Int}{s:cg}(h:n<0\/n>s.length):px n s=none:=by rw[px,ifN]
def Aj {n:Int}{s:cg}(h0:0<=n)(h1:n<=s.length):px n s=some (s.take n.toNat,s.drop n.toNat):=by rw[px,amu ⟨h0,h1⟩]
def abk (s:cg)(n:Int):PH fS (EY s n) (E2 s n) 1 eg (Rq D.s (px n) s):=by
 refine Qg ?_;simp only[rk,aml,amk,z7,anx,amo,ant];refine⟨fun h=>⟨_,_,rfl,ve,fun _ _=>⟨rfl,_,.tt rfl .ret,Rq.mkB (y:= .s s) (x:= .z 0) (zE (.inl h))⟩⟩,fun h0=>⟨fun h=>⟨_,_,rfl,ve,fun _ _=>⟨rfl,_,.tt rfl .ret,Rq.mkB (y:= .s s) (x:= .z 0) (zE (.inr h))⟩⟩,fun h1=>?_⟩⟩;exact⟨fun _=>⟨fun _=>⟨fun _=>⟨rfl,_,.ff rfl .ret,Rq.mk (Aj (by omega) (by omega))⟩,fun h=>by omega⟩,fun h=>by omega⟩,fun h=>by omega⟩
def Kj {k:Nat}{s:cg}(h:px k s=none):cT k s=none:=Pa.cw h
def I0 {k:Nat}{s t r:cg}(h:px k s=some (t,r)):cT k s=some ((jN t:Int),r):=by rw[cT,Pa.bind_some h];rfl
def Im (s:cg):PH dJ (cG s) (bd s) 1 pE (Rq D.z (cT 1) s):=by
 refine Qe ?_;simp only[rk];refine⟨_,_,rfl,abk s 1,fun d hd=>?_⟩
 cases h:px 1 s with
 |none=>exact⟨fun g=>⟨rfl,d,.tt g .ret,.ofB (Kj h) g⟩,fun g=>absurd (Rq.pc h hd) (by rw[g];decide)⟩
 |some x=>obtain⟨h0,h1,h2⟩:=Rq.fD h hd;obtain⟨-,-,hl⟩:=vE h;obtain⟨c,hc⟩:=List.length_eq_one_iff.1 (show x.1.length=1 by omega);rw[h0,h1,h2,D.dS,hc];refine⟨fun g=>(by cases g),fun _=>⟨fun _=>⟨rfl,.r [.b false,.z _,.s _],.ff rfl .ret,?_⟩,fun g=>by cases g⟩⟩;refine Rq.mk (v:=((c.toNat:Nat):Int)) (e:=D.z) ?_;rw[I0 (show px (1:Nat) s=some (x.1,x.2)from h),hc];simp[jN]
def akA {a b c e:UInt8}:IntKind.i64.wrap (((BitVec.ofInt 64 (IntKind.i64.wrap (((BitVec.ofInt 64 (IntKind.i64.wrap (((BitVec.ofInt 64 (IntKind.i64.wrap (IntKind.i64.wrap ((a.toNat:Nat):Int)*16777216)) ||| BitVec.ofInt 64 (IntKind.i64.wrap (IntKind.i64.wrap ((b.toNat:Nat):Int)*65536))).toNat:Nat):Int)) ||| BitVec.ofInt 64 (IntKind.i64.wrap (IntKind.i64.wrap ((c.toNat:Nat):Int)*256))).toNat:Nat):Int)) ||| BitVec.ofInt 64 (IntKind.i64.wrap ((e.toNat:Nat):Int))).toNat:Nat):Int)=(jN [a,b,c,e]:Int):=by
 have O:=a.toNat_lt;have hb:=b.toNat_lt;have hc:=c.toNat_lt;have he:=e.toNat_lt;have w:∀{x:Int},0<=x->x<2^40->IntKind.i64.wrap x=x:=fun h0 h1=>bM;have A:IntKind.i64.wrap (IntKind.i64.wrap ((a.toNat:Nat):Int)*16777216)=((a.toNat*2^24:Nat):Int):=by rw[w (x:=((a.toNat:Nat):Int)) (by omega) (by omega),w (by omega) (by omega)];omega
 have J:IntKind.i64.wrap (IntKind.i64.wrap ((b.toNat:Nat):Int)*65536)=((b.toNat*65536:Nat):Int):=by rw[w (x:=((b.toNat:Nat):Int)) (by omega) (by omega),w (by omega) (by omega)];omega
 have I:IntKind.i64.wrap (IntKind.i64.wrap ((c.toNat:Nat):Int)*256)=((c.toNat*256:Nat):Int):=by rw[w (x:=((c.toNat:Nat):Int)) (by omega) (by omega),w (by omega) (by omega)];omega
 have o:∀(x k y:Nat),y<2^k->x*2^k+y<2^40->IntKind.i64.wrap (((BitVec.ofInt 64 ((x*2^k:Nat):Int) ||| BitVec.ofInt 64 ((y:Nat):Int)).toNat:Nat):Int)=((x*2^k+y:Nat):Int):=fun x k y h1 h2=>by rw[afz x y k h1 (by omega),w (by omega) (by omega)]
 rw[A,J,o a.toNat 24 _ (by omega) (by omega),I,show a.toNat*2^24+b.toNat*65536=(a.toNat*256+b.toNat)*2^16 by omega,o _ 16 _ (by omega) (by omega),
  show (a.toNat*256+b.toNat)*2^16+c.toNat*256=((a.toNat*256+b.toNat)*256+c.toNat)*2^8 by omega,w (x:=((e.toNat:Nat):Int)) (by omega) (by omega),o _ 8 _ (by omega) (by omega)]
 simp[jN]
def fF (s:cg):PH aB (cG s) (bd s) 1 cH (Rq D.z (cT 4) s):=by
 refine NX ?_;simp only[rk];refine⟨_,_,rfl,abk s 4,fun d hd=>?_⟩
 cases h:px 4 s with
 |none=>exact⟨fun g=>⟨rfl,d,.tt g .ret,.ofB (Kj h) g⟩,fun g=>absurd (Rq.pc h hd) (by rw[g];decide)⟩
 |some x=>
  obtain⟨h0,h1,h2⟩:=Rq.fD h hd;obtain⟨-,-,hl⟩:=vE h;obtain⟨t,r⟩:=x
  match t,hl with
  | [a,b,c,e],_=>
  rw[h0,h1,h2,D.dS];refine⟨fun g=>(by cases g),fun _=>⟨fun _=>⟨fun _=>⟨fun _=>⟨fun _=>⟨rfl,.r [.b false,.z _,.s _],.ff rfl .ret,?_⟩,fun g=>by cases g⟩,fun g=>by cases g⟩,fun g=>by cases g⟩,fun g=>by cases g⟩⟩;refine Rq.mk (e:=D.z) ?_;rw[I0 (show px (4:Nat) s=some ([a,b,c,e],r)from h)];exact amZ some (Prod.ext akA.symm rfl)
def Xl (s:cg):PH dh (cG s) (bd s) 1 eg (Rq D.s Bq s):=by
 refine Qh ?_;simp only[rk];refine⟨_,_,rfl,fF s,fun d hd=>?_⟩
 cases h:cT 4 s with
 |none=>exact⟨fun g=>⟨rfl,d,.tt g .ret,.ofB (Pa.cw h) g⟩,fun g=>absurd (Rq.pc h hd) (by rw[g];decide)⟩
 |some x=>
  obtain⟨h0,h1,h2⟩:=Rq.fD h hd;rw[h0,h1,h2,D.bu];refine⟨fun g=>(by cases g),fun _=>⟨_,_,rfl,abk x.2 x.1,fun d' A=>?_⟩⟩
  cases h':px x.1 x.2 with
  |none=>exact⟨fun g=>⟨rfl,d',.tt g .ret,.ofB ((Pa.bind_some h).trans h') g⟩,fun g=>absurd (Rq.pc h' A) (by rw[g];decide)⟩
  |some y=>obtain⟨O,J,I⟩:=Rq.fD h' A;rw[O,J,I];exact⟨fun g=>(by cases g),fun _=>⟨rfl,_,.ff rfl .ret,Rq.mk ((Pa.bind_some h).trans h')⟩⟩
def SQ (s:cg):PH cv (cG s) (bd s) 1 fR (Rq D.z (cT 8) s):=by
 refine Qi ?_;simp only[rk];refine⟨_,_,rfl,abk s 8,fun d hd=>?_⟩
 cases h:px 8 s with
 |none=>exact⟨fun g=>⟨rfl,d,.tt g .ret,.ofB (Kj h) g⟩,fun g=>absurd (Rq.pc h hd) (by rw[g];decide)⟩
 |some x=>
  obtain⟨h0,h1,h2⟩:=Rq.fD h hd;obtain⟨-,-,hl⟩:=vE h;obtain⟨t,r⟩:=x;have hl:t.length=8:=by exact Int.ofNat_inj.1 hl
  rw[h0,h1,h2,D.dS];refine⟨fun g=>(by cases g),fun _=>?_⟩;have loop:∀(rest:cg) (i:Nat),t.drop i=rest->aC pg cv [dA] (.bK 1 (fR (cG s) (bd s)) (Rq D.z (cT 8) s)) (po s t.length t.length r (kf t) (jN (t.take i)) i):=by
   intro rest
   induction rest with
   |nil=>intro i A;have:=drop_nil A;refine Bu ?_;simp only[rk,aml,amk];refine⟨fun h=>by omega,fun _=>⟨rfl,.r [.b false,.z _,.s _],.ff rfl .ret,?_⟩⟩;rw[amv this];exact Rq.mk (e:=D.z) (I0 (k:=8) h)
   |cons c rest V=>intro i A;obtain⟨I,U,J⟩:=aF A;have hb:=Dn I;have O:=Gw (s:=t) (i:=i+1) (by omega);refine Bu ?_;have hat:D.at (kf t) i= .z (c.toNat:Int):=Vc (by simp[kf,I]);simp only[rk,aml,amk,aR J,amq,zZ,hat,D.bu];refine⟨fun _=>⟨fun _=>⟨fun _=>?_,fun h=>by omega⟩,fun h=>by cases h⟩,fun h=>by omega⟩;rw[bL J,OD (by omega),<-hb];exact V (i+1) U
  exact loop t 0 rfl
section
abbrev Rd (α:Type):=cg×Bool->α×(cg×Bool)
namespace Rd
variable {α β:Type}
def bind (p:Rd α)(f:α->Rd β):Rd β:=fun st=>f (p st).1 (p st).2
def ret (a:α):Rd α:=fun st=>(a,st)
end Rd
def qZ (n:Int):Rd cg:=fun st=>if st.2=true\/n<0\/n>st.1.length then ([],(st.1,true))else (st.1.take n.toNat,(st.1.drop n.toNat,false))
def eb (k:Nat):Rd Int:=(qZ k).bind fun t=> .ret (jN t:Int)
def JO:Rd Int:=(eb 8).bind fun n=> .ret (n-2^63)
def Cz:Rd cg:=(eb 4).bind qZ
def pd:Rd Int:=(eb 4).bind fun n st=>if n>st.1.length\/st.2=true then (0,(st.1,true))else (n,st)
def TG:Rd Bool:=(eb 1).bind fun n st=>(n==1,(st.1,st.2||decide (n>1)))
def vP {α:Type}(p:Rd α):Nat->Rd (List α)
 |0=> .ret []
 |n+1=>fun st=>if st.2=true then ([],st)else (p.bind fun a=>(vP p n).bind fun l=> .ret (a::l)) st
def eJ {α:Type}(p:Rd α):Rd (List α):=pd.bind fun n=>vP p n.toNat
def dEx:Nat->Rd Ex
 |0=>fun st=>(.mk 0 (-2^63) [] [],(st.1,true))
 |f+1=>(eb 1).bind fun k=>JO.bind fun n=>Cz.bind fun s=>(eJ (dEx f)).bind fun l=> .ret (.mk k n s l)
def U4:Nat->Rd St
 |0=>fun st=>(.mk 0 [] [] 0 0 (.mk 0 0 [] []) (.mk 0 0 [] []) [] [] [] [],(st.1,true))
 |f+1=>(eb 1).bind fun op=>Cz.bind fun nm=>Cz.bind fun sc=>(eb 1).bind fun ab=>(eb 1).bind fun wh=>(dEx f).bind fun a=>(dEx f).bind fun b=>(eJ (U4 f)).bind fun th=>(eJ (U4 f)).bind fun el=>(eJ (U4 f)).bind fun co=>(pd.bind fun k=>vP Cz k.toNat).bind fun wi=> .ret (.mk op nm sc ab wh a b th el co wi)
def V0:aA:= .mk 0 0 [] [] 0
def Fm:Rd aA:=fun st=>if st.2=true then (V0,st)else match pV st.1 with|some (v,r)=>(v,(r,false))|none=>(V0,([],true))
def TF:Rd fx:=Cz.bind fun t=>Fm.bind fun v=> .ret ⟨t,v⟩
def Q1 (f:Nat)(k:Int):Rd Wh:=
 if k<=0\/k>16 then fun st=>(Wh.pw k 0,(st.1,true))
 else if k=14 then (eb 4).bind fun o=>(eb 1).bind fun s=> .ret {Wh.pw k 0 with of:=o,set:=s}
 else (eb 4).bind fun h=>
  if k=1 then Fm.bind fun v=> .ret {Wh.pw k h with v:=v}
  else if k=2\/k=4 then (eJ Fm).bind fun l=> .ret {Wh.pw k h with vs:=l}
  else if k=3 then JO.bind fun n=> .ret {Wh.pw k h with n:=n}
  else if k=5 then .ret (Wh.pw k h)
  else if k=6\/k=11 then (eb 4).bind fun o=> .ret {Wh.pw k h with of:=o}
  else if k=7 then (eb 4).bind fun o=>Fm.bind fun v=> .ret {Wh.pw k h with of:=o,v:=v}
  else if k=8 then JO.bind fun n=>JO.bind fun l=> .ret {Wh.pw k h with n:=n,lo:=l}
  else if k=9 then (eb 4).bind fun o=>JO.bind fun n=> .ret {Wh.pw k h with of:=o,n:=n}
  else if k=10 then TG.bind fun b=>Fm.bind fun v=> .ret {Wh.pw k h with Ae:=b,v:=v}
  else if k=12 then (eJ (U4 f)).bind fun c=>(eJ TF).bind fun l=> .ret {Wh.pw k h with co:=c,ns:=l}
  else if k=13 then TG.bind fun b=>(eb 4).bind fun o=> .ret {Wh.pw k h with Ae:=b,of:=o}
  else (eb 4).bind fun o=>(eb 4).bind fun b=> .ret {Wh.pw k h with of:=o,tD:=b}
def dEn (f:Nat):Rd En:=(eb 4).bind fun r=>(eb 1).bind fun k=>(Q1 f k).bind fun w=> .ret ⟨r,w⟩
def dWl (f:Nat):Rd Wl:=(eJ (eb 4)).bind fun p=>(eJ (eb 4)).bind fun c=>(eb 4).bind fun l=>(eJ (eb 4)).bind fun m=>(eJ (dEn f)).bind fun t=> .ret ⟨p,c,t,l,m⟩
def dSu (f:Nat):Rd Su:=(eb 4).bind fun s=>(eJ (U4 f)).bind fun c=>(eJ TF).bind fun n=>(eJ (eb 4)).bind fun l=> .ret ⟨s,c,n,l⟩
structure EZ {α:Type}(p:Pa α)(q:Rd α):Prop where
 pc:∀s,(q (s,true)).2.2=true
 ok:∀s,s.length<2^62->match p s with|some (v,r)=>q (s,false)=(v,(r,false))|none=>(q (s,false)).2.2=true
 len:∀st,(q st).2.1.length<=st.1.length
namespace EZ
variable {α β:Type} {p:Pa α} {q:Rd α}
def bind {f:α->Pa β}{g:α->Rd β}(h:EZ p q)(hf:∀v,EZ (f v) (g v)):EZ (p.bind f) (q.bind g):=by
 have A:∀st:cg×Bool,st.2=true->∀v,(g v st).2.2=true:=fun st e v=>by obtain⟨s,z⟩:=st;have e:z=true:=e;subst e;exact(hf v).pc s
 constructor
 ·intro s;exact A _ (h.pc s) _
 ·intro s hs;have h1:=h.ok s hs
  cases hp:p s with
  |none=>rw[hp]at h1;rw[Pa.cw hp];exact A _ h1 _
  |some x=>obtain⟨v,r⟩:=x;rw[hp]at h1;have h2:=h.len (s,false);rw[h1]at h2;have I:=(hf v).ok r (Nat.lt_of_le_of_lt h2 hs);rw[Pa.bind_some hp];have e:q.bind g (s,false)=g v (r,false):=(by simp[Rd.bind,h1]);rw[e];exact I
 intro st;exact am8 ((hf _).len _) (h.len st)
def ret (a:α):EZ (Pa.ret a) (Rd.ret a):=⟨fun _=>rfl,fun _ _=>rfl,fun _=>amG _⟩
def ite {c:Prop}[Decidable c]{I:Pa α}{A:Rd α}(h:c->EZ p q)(h':¬c->EZ I A):EZ (if c then p else I) (if c then q else A):=by
 split
 ·exact h ‹_›
 exact h' ‹_›
def loop (h:EZ p q):∀n,EZ (rep p n) (vP q n)
 |0=>ret []
 |n+1=>by
  have h1:=h.bind fun a=>(loop h n).bind fun l=>ret (a::l);refine⟨fun _=>rfl,h1.ok,fun st=>?_⟩;simp only[vP]
  split
  ·exact amG _
  exact h1.len st
end EZ
def OO {α:Type}{q:Rd α}(h:∀st,(q st).2=(st.1,true)):EZ (fun _=>none) q:=⟨fun _=>by rw[h],fun _ _=>by simp[h],fun _=>by rw[h];exact amG _⟩
def U8 (n:Int):EZ (px n) (qZ n):=by
 constructor
 ·intro s;simp[qZ]
 ·intro s _
  by_cases h:0<=n/\n<=s.length
  ·simp only[px,amu h,qZ];rw[amt (by simp;omega)]
  simp only[px,amt h,qZ];rw[amu (by simp;omega)]
 intro st;simp only[qZ]
 split
 ·exact amG _
 simp only[anz];omega
def eB (k:Nat):EZ (cT k) (eb k):=(U8 k).bind fun _=> .ret _
def Dl:EZ Ai JO:=(eB 8).bind fun _=> .ret _
def ry:EZ Bq Cz:=(eB 4).bind fun n=>U8 n
def tP {α:Type}{c:Nat}{e:α->D}{φ:α->Prop}{p:Pa α}{q:Rd α}(hp:XZ c e φ p)(hc:1<=c)(h:EZ p q):EZ (cQ p) (eJ q):=by
 have e:eJ q=(eb 4).bind fun n st=>vP q (if n>st.1.length\/st.2=true then (0:Int)else n).toNat (st.1,if n>st.1.length\/st.2=true then true else st.2):=by
  funext st;simp only[eJ,pd,Rd.bind]
  split<;>rfl
 rw[e];refine(eB 4).bind fun n=>⟨fun s=>by simp[vP,Rd.ret],fun s hs=>?_,fun st=>(h.loop _).len _⟩
 by_cases A:n>s.length
 ·have:rep p n.toNat s=none:=Xj hp hs (by
   have:=ap2 n.toNat hc
   omega)
  simp only[this];simp[A,vP,Rd.ret]
 have:=(h.loop n.toNat).ok s hs;simpa [A]using this
def Oc:EZ Wq TG:=by
 refine(eB 1).bind fun n=>⟨fun s=>rfl,fun s _=>?_,fun _=>amG _⟩
 by_cases h:n<=1
 ·rw[amu h];show _=_;simp;omega
 rw[amt h];simp;omega
def Gv:EZ pV Fm:=by
 refine⟨fun s=>rfl,fun s hs=>?_,fun st=>?_⟩
 ·cases h:pV s<;>simp[Fm,h]
 simp only[Fm]
 split
 ·exact amG _
 split
 ·rename_i v r h
  exact aad h
 exact anX _
def Lx:∀f,EZ (pEx f) (dEx f)
 |0=>OO fun _=>rfl
 |f+1=>(eB 1).bind fun _=>Dl.bind fun _=>ry.bind fun _=>(tP (IP f) (by decide) (Lx f)).bind fun _=> .ret _
def X3:∀f,EZ (GW f) (U4 f)
 |0=>OO fun _=>rfl
 |f+1=>
  have h:=tP (vB f) (by decide) (X3 f)
  (eB 1).bind fun _=>ry.bind fun _=>ry.bind fun _=>(eB 1).bind fun _=>(eB 1).bind fun _=>(Lx f).bind fun _=>(Lx f).bind fun _=>h.bind fun _=>h.bind fun _=>h.bind fun _=>(tP QN (by decide) ry).bind fun _=> .ret _
def aav:EZ Wn TF:=ry.bind fun _=>Gv.bind fun _=> .ret _
def yF (f:Nat):EZ (cQ (GW f)) (eJ (U4 f)):=tP (vB f) (by decide) (X3 f)
def OP:EZ (cQ Wn) (eJ TF):=tP Kb (by decide) aav
def zP:EZ (cQ (cT 4)) (eJ (eb 4)):=tP qf (by decide) (eB 4)
def ajs (f:Nat)(k:Int):EZ (Qb f k) (Q1 f k):=by
 have A:=eB 4;unfold Qb Q1
 by_cases I:k=14
 ·rw[amu I,ifN,amu I];exact A.bind fun _=>(eB 1).bind fun _=> .ret _
 rw[amt I]
 by_cases J:¬(1<=k/\k<=16)
 ·rw[amt J,ifP];exact OO fun _=>rfl
 rw[amu (Classical.not_not.1 J),amt (show ¬(k<=0\/k>16)by omega),amt I];exact A.bind fun _=> .ite (fun _=>Gv.bind fun _=> .ret _) fun _=> .ite (fun _=>(tP (Ea _ _) (by decide) Gv).bind fun _=> .ret _) fun _=> .ite (fun _=>Dl.bind fun _=> .ret _) fun _=>
  .ite (fun _=> .ret _) fun _=> .ite (fun _=>A.bind fun _=> .ret _) fun _=> .ite (fun _=>A.bind fun _=>Gv.bind fun _=> .ret _) fun _=> .ite (fun _=>Dl.bind fun _=>Dl.bind fun _=> .ret _) fun _=>
  .ite (fun _=>A.bind fun _=>Dl.bind fun _=> .ret _) fun _=> .ite (fun _=>Oc.bind fun _=>Gv.bind fun _=> .ret _) fun _=> .ite (fun _=>(yF f).bind fun _=>OP.bind fun _=> .ret _) fun _=>
  .ite (fun _=>Oc.bind fun _=>A.bind fun _=> .ret _) fun _=>A.bind fun _=>A.bind fun _=> .ret _
def ad9 (f:Nat):EZ (pEn f) (dEn f):=(eB 4).bind fun _=>(eB 1).bind fun k=>(ajs f k).bind fun _=> .ret _
def OQ (f:Nat):EZ (Lo f) (dWl f):=zP.bind fun _=>zP.bind fun _=>(eB 4).bind fun _=>zP.bind fun _=>(tP (Yr f) (by decide) (ad9 f)).bind fun _=> .ret _
def aea (f:Nat):EZ (pSu f) (dSu f):=(eB 4).bind fun _=>(yF f).bind fun _=>OP.bind fun _=>zP.bind fun _=> .ret _
def Ti (f:Nat):EZ (cQ (pSu f)) (eJ (dSu f)):=tP (Z8 f) (by decide) (aea f)
end
def Da {α:Type}(e:α->D)(x:α×cg×Bool)(d:D):Prop:=D.af d 1=e x.1/\(d.af 2).ax=x.2.1/\(d.af 0).bool=x.2.2
def Da.mk {α:Type}{e:α->D}{x:α×cg×Bool}{v:α}{s:cg}{z:Bool}(h:x=(v,s,z)):Da e x (.r [.b z,e v,.s s]):=by subst h;exact⟨rfl,rfl,rfl⟩
def Da.z {x:Int×cg×Bool}{n:Int}{s:cg}{z:Bool}(h:x=(n,s,z)):Da D.z x (.r [.b z,.z n,.s s]):=Da.mk h
def Da.s {x:cg×cg×Bool}{n:cg}{s:cg}{z:Bool}(h:x=(n,s,z)):Da D.s x (.r [.b z,.s n,.s s]):=Da.mk h
def LN {n:Int}{s:cg}{z:Bool}(h:z=true\/n<0\/n>s.length):qZ n (s,z)=([],s,true):=amu h
def aeu {n:Int}{s:cg}(h0:0<=n)(h1:n<=s.length):qZ n (s,false)=(s.take n.toNat,s.drop n.toNat,false):=amt (by simp;omega)
def Sm {n:Int}{st:cg×Bool}:((qZ n st).1.length:Int)<=max n 0:=by
 simp only[qZ]
 split
 ·simp;omega
 rw[amI];omega
def aiW (s:cg)(z:Bool)(n:Int):PH jZ (jX s z n) (im s z n) 1 fi (Da D.s (qZ n (s,z))):=by
 refine Mf ?_;simp only[rk,aml,amk,z7,anx,amo,ant];refine⟨fun h=>⟨rfl,_,.ret,Da.s (LN (.inl h))⟩,fun A=>⟨fun h=>⟨rfl,_,.ret,Da.s (LN (.inr (.inl h)))⟩,fun h0=>⟨fun h=>⟨rfl,_,.ret,Da.s (LN (.inr (.inr h)))⟩,fun h1=>?_⟩⟩⟩;subst A;exact⟨fun _=>⟨fun _=>⟨fun _=>⟨rfl,_,.ret,Da.s (aeu (by omega) (by omega))⟩,fun h=>by omega⟩,fun h=>by omega⟩,fun h=>by omega⟩
def aeB (s:cg)(z:Bool)(k:Nat)(hk:k<=8):PH du (jX s z k) (im s z k) 1 iv (Da D.z (eb k (s,z))):=by
 refine Mi ?_;simp only[rk];refine⟨_,_,rfl,aiW s z k,fun d hd=>?_⟩;obtain⟨h1,h2,U⟩:=hd;have hl:=Sm (n:=k) (st:=(s,z));rw[h1,h2,U,D.dS];have I:∀t,(qZ k (s,z)).1=t->eb k (s,z)=((jN t:Int),(qZ k (s,z)).2):=fun t h=>by subst h;rfl
 generalize (qZ k (s,z)).1=t at hl I;generalize (qZ k (s,z)).2=st at I;have loop:∀(rest:cg) (i:Nat),t.drop i=rest->aC pg du [dA] (.bK 1 (iv (jX s z k) (im s z k)) (Da D.z (eb k (s,z)))) (lQ s z k t st.1 st.2 (jN (t.take i)) i):=by
  intro rest
  induction rest with
  |nil=>intro i A;have:=drop_nil A;refine xL ?_;simp only[rk,aml,amk];refine⟨fun h=>by omega,fun _=>⟨rfl,_,.ret,Da.z ?_⟩⟩;rw[amv this];exact I t rfl
  |cons c rest Z=>intro i A;obtain⟨J,Y,O⟩:=aF A;have hb:=Dn J;have V:=Gw (s:=t) (i:=i+1) (by omega);refine xL ?_;have hat:t.getD i 0=c:=(by rw[anR,J];rfl);simp only[rk,aml,amk,aR O,amq,hat];refine⟨fun _=>⟨fun _=>?_,fun h=>by cases h⟩,fun h=>by omega⟩;rw[bL O,OD (by omega),<-hb];exact Z (i+1) Y
 exact loop t 0 rfl
def PA (k:Nat)(st:cg×Bool):0<=(eb k st).1/\(eb k st).1<256^k:=by
 have hl:=Sm (n:=k) (st:=st);have e:(eb k st).1=(jN (qZ k st).1:Int):=rfl;rw[e];have h1:=OU (qZ k st).1;have h2:256^(qZ k st).1.length<=256^k:=apX (by decide) (by omega);have A:=Int.ofNat_lt.2 (amX h1 h2);rw[Int.natCast_pow]at A;exact⟨by omega,A⟩
def pM (s:cg)(z:Bool):PH bS (ba s z) (bc s z) 1 bR (Da D.z (eb 4 (s,z))):=by
 refine Kq ?_;simp only[rk];refine⟨_,_,rfl,aeB s z 4 (by decide),fun d hd=>?_⟩;obtain⟨h1,h2,A⟩:=hd;obtain⟨I,J⟩:=PA 4 (s,z);rw[h1,h2,A,D.bu,bM];exact⟨rfl,_,.ret,Da.z rfl⟩
def PD (s:cg)(z:Bool):PH cX (ba s z) (bc s z) 1 iq (Da D.z (eb 1 (s,z))):=by
 refine L8 ?_;simp only[rk];refine⟨_,_,rfl,aeB s z 1 (by decide),fun d hd=>?_⟩;obtain⟨h1,h2,I⟩:=hd;obtain⟨A,J⟩:=PA 1 (s,z);rw[h1,h2,I,D.bu,IntKind.wrap_u8,Int.emod_eq_of_lt A (by omega)];exact⟨rfl,_,.ret,Da.z rfl⟩
def aiL (m:Nat)(h:m<2^64):m ^^^ 2^63=if m<2^63 then m+2^63 else m-2^63:=by
 have a:=Nat.xor_mod_two_pow (a:=m) (b:=2^63) (n:=63);have b:=Nat.shiftRight_xor_distrib (a:=m) (b:=2^63) (i:=63);rw[Nat.mod_self,Nat.xor_zero]at a;simp only[Nat.shiftRight_eq_div_pow]at b;rw[Nat.div_self (by decide)]at b;generalize m ^^^ 2^63=x at a b
 split
 ·rw[show m/2^63=0 by omega,Nat.zero_xor]at b;omega
 rw[show m/2^63=1 by omega,Nat.xor_self]at b;omega
def QY {n:Int}(h0:0<=n)(h1:n<2^64):IntKind.i64.wrap (IntKind.u64.wrap (((BitVec.ofInt 64 n ^^^ BitVec.ofInt 64 9223372036854775808).toNat:Nat):Int))=n-2^63:=by
 obtain⟨m,rfl⟩:=aoc h0;have J:m<2^64:=by omega
 have I:(IntKind.i64).bits=64:=rfl;have A:(IntKind.i64).signed=true:=rfl;rw[BitVec.toNat_xor,an8,an8,show ((m:Int) % ((2^64:Nat):Int)).toNat=m by omega,show ((9223372036854775808:Int) % ((2^64:Nat):Int)).toNat=2^63 by decide,aiL m J]
 split
 ·rw[zn];simp only[wp,I,A,anf,aml];omega
 rw[zn];simp only[wp,I,A,anf,aml];omega
def JT (s:cg)(z:Bool):PH eZ (ba s z) (bc s z) 1 bR (Da D.z (JO (s,z))):=by
 refine I3 ?_;simp only[rk];refine⟨_,_,rfl,aeB s z 8 (by decide),fun d hd=>?_⟩;obtain⟨h1,h2,I⟩:=hd;obtain⟨A,J⟩:=PA 8 (s,z);rw[h1,h2,I,D.bu,QY A (by omega)];exact⟨rfl,_,.ret,Da.z rfl⟩
def Vz (s:cg)(z:Bool):PH eI (ba s z) (bc s z) 1 fi (Da D.s (Cz (s,z))):=by
 refine Mg ?_;simp only[rk];refine⟨_,_,rfl,pM s z,fun d hd=>?_⟩;obtain⟨h1,h2,A⟩:=hd;rw[h1,h2,A,D.bu];refine⟨_,_,rfl,aiW _ _ _,fun d hd=>?_⟩;obtain⟨h1,h2,A⟩:=hd;rw[h1,h2,A,D.dS];exact⟨rfl,_,.ret,Da.s rfl⟩
def akI (s:cg)(z:Bool):PH cp (ba s z) (bc s z) 1 bR (Da D.z (pd (s,z))):=by
 refine Me ?_;simp only[rk];refine⟨_,_,rfl,pM s z,fun d hd=>?_⟩;obtain⟨h1,h2,A⟩:=hd;rw[h1,h2,A,D.bu];have e:pd (s,z)=if (eb 4 (s,z)).1>(eb 4 (s,z)).2.1.length\/(eb 4 (s,z)).2.2=true then (0,((eb 4 (s,z)).2.1,true))else eb 4 (s,z):=rfl;simp only[aml,amk];refine⟨fun h=>⟨rfl,_,.ret,Da.z ?_⟩,fun h=>⟨fun h'=>⟨rfl,_,.ret,Da.z ?_⟩,fun h'=>⟨rfl,_,.ret,Da.z ?_⟩⟩⟩
 ·rw[e,amu (.inl h)]
 ·rw[e,amu (.inr h'),h']
 rw[e,amt (by simp[h'];omega)]
def akK (s:cg)(z:Bool):PH mT (ba s z) (bc s z) 1 v7 (Da D.b (TG (s,z))):=by
 refine Mb ?_;simp only[rk];refine⟨_,_,rfl,PD s z,fun d hd=>?_⟩;obtain⟨h1,h2,A⟩:=hd;rw[h1,h2,A,D.bu];have e:TG (s,z)=((eb 1 (s,z)).1==1,((eb 1 (s,z)).2.1,(eb 1 (s,z)).2.2||decide ((eb 1 (s,z)).1>1))):=rfl;exact⟨fun h=>⟨rfl,.r [.b _,.b _,.s _],.ret,Da.mk (e:=D.b) (by rw[e,h];rfl)⟩,fun h=>⟨rfl,.r [.b _,.b _,.s _],.ret,Da.mk (e:=D.b) (by rw[e,h];rfl)⟩⟩
end Go.Proofs
end
