import Derived.Test.YtpanfgalkajgdaaGreatM18
set_option linter.all false
noncomputable section
open Go.IntKind renaming wrap→wp
namespace Go.Proofs
open Go Go.PB
section
inductive bm.mN (t:bm):Nat->Int->Prop where
 |aD {r:Int} {x:Wh} (h:t.get r=some x) (hw:gy x.k=false):bm.mN t 0 r
 |step {n:Nat} {r:Int} {x:Wh} (h:t.get r=some x) (hw:gy x.k=true) (he:bm.mN t n x.of):bm.mN t (n+1) r
def bm.mN.amf {t:bm}:∀{n m:Nat} {r:Int},t.mN n r->t.mN m r->n=m:=by
 intro n
 induction n with
 |zero=>
  intro m r h1 h2
  cases h1 with
  |aD e J=>
   cases h2 with
   |aD=>rfl
   |step A I=>rw[e]at A;cases A;rw[J]at I;cases I
 |succ n U=>
  intro m r h1 h2
  cases h1 with
  |step e J he=>
   cases h2 with
   |aD A I=>rw[e]at A;cases A;rw[J]at I;cases I
   |step A I O=>rw[e]at A;cases A;rw[U he O]
def bm.mN.chain {t:bm}{n:Nat}{r:Int}(h:t.mN n r):t.chain n r=true:=by
 induction h with
 |aD e w=>simp[bm.chain,e,w]
 |step e w _ A=>simp[bm.chain,e,w,A]
def bm.Ps {t:bm}:∀{n:Nat} {r:Int},t.chain n r=true->∃m,m<=n/\t.mN m r:=by
 intro n
 induction n with
 |zero=>
  intro r h;simp only[bm.chain]at h
  cases A:t.get r with
  |none=>rw[A]at h;cases h
  |some x=>simp only[A]at h;exact⟨0,by omega,.aD A (by simpa using h)⟩
 |succ n I=>
  intro r h;simp only[bm.chain]at h
  cases A:t.get r with
  |none=>rw[A]at h;cases h
  |some x=>
   simp only[A]at h
   by_cases hw:gy x.k=true
   ·rw[amu hw]at h;obtain⟨m,h1,h2⟩:=I h;exact⟨m+1,by omega,.step A hw h2⟩
   exact⟨0,by omega,.aD A (by simpa using hw)⟩
def bm.S7 (t:bm)(r:Int):Prop:=(t.kL (t.length+1) r).length<=t.length/\∃q x,(t.kL (t.length+1) r).getLast?=some q/\t.get q=some x/\gy x.k=false
def bm.mN.way {t:bm}:∀{n:Nat} {r:Int},t.mN n r->∀k,n<k->(t.kL k r).length=n+1/\(t.kL k r).Nodup/\(∀q∈t.kL k r,q∈t.map (·.1)/\∃j,j<=n/\t.mN j q)/\∃q x,(t.kL k r).getLast?=some q/\t.get q=some x/\gy x.k=false:=by
 intro n
 induction n with
 |zero=>
  intro r h k Y
  cases h with
  |aD e w=>
   cases k with
   |zero=>omega
   |succ k=>have A:t.kL (k+1) r=[r]:=(by simp[bm.kL,e,w]);rw[A];exact⟨rfl,by simp,fun q J=>by simp at J;subst J;exact⟨bm.pY.1 (by simp[e]),0,amG _,.aD e w⟩,r,_,rfl,e,w⟩
 |succ n ih=>
  intro r h k Y;have h0:=h
  cases h with
  |step e w he=>
   rename_i x
   cases k with
   |zero=>omega
   |succ k=>
    have A:t.kL (k+1) r=r::t.kL k x.of:=(by simp[bm.kL,e,w]);obtain⟨a1,a2,a3,q,y,a4,a5,V⟩:=ih he k (by omega);rw[A];refine⟨by simp[a1],anp.2 ⟨fun Z=>?_,a2⟩,fun p hp=>?_,q,y,?_,a5,V⟩
    ·obtain⟨_,j,hj,I⟩:=a3 r Z;have:=I.amf h0;omega
    ·rcases amz.1 hp with rfl|hp
     ·exact⟨bm.pY.1 (by simp[e]),_,amG _,h0⟩
     obtain⟨O,j,b2,U⟩:=a3 p hp;exact⟨O,j,by omega,U⟩
    rw[ap7,a4];rfl
def bm.agP {t:bm}:∀(k:Nat) (r:Int),(t.kL k r).length<k->(∃q x,(t.kL k r).getLast?=some q/\t.get q=some x/\gy x.k=false)->∃n,n<k/\t.mN n r:=by
 intro k
 induction k with
 |zero=>intro r h;omega
 |succ k U=>
  intro r h hl;obtain⟨q,y,h1,h2,J⟩:=hl
  cases I:t.get r with
  |none=>simp[bm.kL,I]at h1
  |some x=>
   by_cases hw:gy x.k=true
   ·have O:t.kL (k+1) r=r::t.kL k x.of:=(by simp[bm.kL,I,hw]);rw[O]at h h1;rw[ap7]at h1
    cases A:(t.kL k x.of).getLast? with
    |none=>rw[A]at h1;simp at h1;subst h1;rw[I]at h2;cases h2;rw[hw]at J;cases J
    |some p=>rw[A]at h1;simp at h1;subst h1;obtain⟨n,V,he⟩:=U x.of (by simpa using h) ⟨p,y,A,h2,J⟩;exact⟨n+1,by omega,.step I hw he⟩
   exact⟨0,by omega,.aD I (by simpa using hw)⟩
def bm.LK {t:bm}(h1:t.one)(r:Int):t.chain t.length r=true↔t.S7 r:=by
 constructor
 ·intro h;obtain⟨n,O,he⟩:=bm.Ps h;obtain⟨J,A,a3,a4⟩:=he.way (t.length+1) (by omega);refine⟨?_,a4⟩;have:=CN A fun q I=>(a3 q I).1;simpa using this
 rintro⟨J,A⟩;obtain⟨n,O,he⟩:=bm.agP (t.length+1) r (by omega) A;exact bm.Vt (by omega) he.chain
def aje (v:BitVec 8):IntKind.u8.wrap ((v.toNat:Nat):Int)=(v.toNat:Int):=by
 have I:(IntKind.u8).bits=8:=rfl;have A:(IntKind.u8).signed=false:=rfl;simp only[wp,I,A,aog,amp,ann];have:=v.isLt;omega
def of8 (v:BitVec 8):BitVec.ofInt 8 (v.toNat:Int)=v:=by simp
def aa9 (a b:Int):tE a b=((BitVec.ofInt 8 a &&& BitVec.ofInt 8 b).toNat:Int):=aje _
def NG (a b:Int):nQ a b=0↔BitVec.ofInt 8 a &&& BitVec.ofInt 8 b=BitVec.ofInt 8 a:=by
 rw[nQ,aje];generalize BitVec.ofInt 8 a=u;generalize BitVec.ofInt 8 b=v;constructor
 ·intro h;have h0:u &&& ~~~v=0#8:=BitVec.eq_of_toNat_eq (by simpa using h);ext i hi;have:=amZ (·[i]) h0;simp at this ⊢;exact this
 intro h;have h0:u &&& ~~~v=0#8:=by ext i hi;have:=amZ (·[i]) h;simp at this ⊢;exact this
 rw[h0];rfl
def YQ {s set a:Int}(h:nQ set a=0):tE (tE 63 (tE (tE 63 s) set)) a=tE (tE 63 s) set:=by
 rw[NG]at h;simp only[aa9,of8];congr 1;congr 1;generalize BitVec.ofInt 8 s=u at*;generalize BitVec.ofInt 8 set=v at*;generalize BitVec.ofInt 8 a=w at*;generalize BitVec.ofInt 8 63=x at*;ext i hi;have:=amZ (·[i]) h;simp at this ⊢
 revert this
 cases x[i]<;>cases u[i]<;>cases v[i]<;>cases w[i]<;>simp
def ahE {a:Int}(h0:0<=a)(h1:a<64):tE (tE 63 63) a=a:=by
 obtain⟨m,rfl⟩:=aoc h0;have h:m<64:=by omega
 have key:∀m:Nat,m<64->tE (tE 63 63) (m:Int)=m:=by decide+kernel
 exact key m h
def alP (a b:Int)(h0:0<=b)(h1:b<64):0<=tE a b/\tE a b<64:=by
 rw[aa9];have:(BitVec.ofInt 8 a &&& BitVec.ofInt 8 b).toNat<=(BitVec.ofInt 8 b).toNat:=by rw[BitVec.toNat_and];exact Nat.and_le_right
 have:(BitVec.ofInt 8 b).toNat=b.toNat:=by rw[an8];congr 1;omega
 omega
def QV {a b:Int}(h:nQ a b=0)(a0:0<=a)(I:a<256)(h0:0<=b)(h1:b<64):a<64:=by
 rw[NG]at h;have e:(BitVec.ofInt 8 a).toNat<=(BitVec.ofInt 8 b).toNat:=by rw[<-h,BitVec.toNat_and];exact Nat.and_le_right
 have A:(BitVec.ofInt 8 b).toNat=b.toNat:=by rw[an8];congr 1;omega
 have J:(BitVec.ofInt 8 a).toNat=a.toNat:=by rw[an8];congr 1;omega
 omega
def ajx (k:Int):0<=IG k/\IG k<64:=by unfold IG;repeat' split;all_goals omega
def bm.Ch (t:bm)(r:Int):Int:=(t.qX (t.length+1) r).getD 0
def bm.mN.qX {t:bm}:∀{n:Nat} {r:Int},t.mN n r->∃a,∀k,n<k->t.qX k r=some a:=by
 intro n
 induction n with
 |zero=>
  intro r h
  cases h with
  |aD e w=>
   rename_i x
   refine⟨IG x.k,fun k I=>?_⟩
   cases k with
   |zero=>omega
   |succ k=>simp only[gy,amk]at w;simp only[bm.qX,e];rw[ifN,ifN]
 |succ n O=>
  intro r h
  cases h with
  |step e w he=>
   rename_i x
   obtain⟨a,J⟩:=O he;simp only[gy,aml]at w
   by_cases A:x.k=14
   ·refine⟨x.set,fun k I=>?_⟩
    cases k with
    |zero=>omega
    |succ k=>simp only[bm.qX,e];rw[amu A]
   refine⟨a,fun k I=>?_⟩
   cases k with
   |zero=>omega
   |succ k=>simp only[bm.qX,e];rw[amt A,ifP];exact J k (by omega)
section
variable {t:bm}
def bm.Oe (h1:t.one)(A:∀r x,t.get r=some x->t.chain t.length r=true){r:Int}{x:Wh}(O:t.get r=some x):∃n,n<t.length/\t.mN n r:=by
 obtain⟨n,V,he⟩:=bm.Ps (A r x O);obtain⟨U,J,a3,_⟩:=he.way (t.length+1) (by omega);have:=CN J fun q I=>(a3 q I).1;exact⟨n,by simp at this;omega,he⟩
def bm.mN.Ch {n:Nat}{r:Int}(J:n<=t.length)(h:t.mN n r)(k:Nat)(I:n<k):t.qX k r=some (t.Ch r):=by
 obtain⟨a,A⟩:=h.qX;rw[A k I];simp[bm.Ch,A (t.length+1) (by omega)]
def bm.Th (V:∀r x,t.get r=some x->0<=x.set/\x.set<256)(hf:(∀r x,t.get r=some x->x.k=14->nQ x.set (t.ab x.of)=0)\/(∀r x,t.get r=some x->x.k=14->nQ x.set (t.Ch x.of)=0)):
 ∀(n:Nat) (r:Int),n<=t.length->t.mN n r->(∀k,n<k->∀s,t.BI k r s=some (tE (tE 63 s) (t.Ch r)))/\t.ab r=t.Ch r/\0<=t.Ch r/\t.Ch r<64:=by
 have bz:∀(n:Nat) (r:Int),n<=t.length->(∀k,n<k->∀s,t.BI k r s=some (tE (tE 63 s) (t.Ch r)))->0<=t.Ch r->t.Ch r<64->t.ab r=t.Ch r:=fun n r U h a0 a1=>by simp only[bm.ab,h (t.length+1) (by omega) 63,anI,ahE a0 a1]
 intro n
 induction n with
 |zero=>
  intro r U h;have O:=h.Ch U 1 (by omega)
  cases h with
  |aD e w=>
   rename_i x
   simp only[gy,amk]at w;have hc:t.Ch r=IG x.k:=by simp only[bm.qX,e]at O;rw[ifN,ifN]at O;exact(amK O).symm
   have A:=ajx x.k;rw[<-hc]at A;have I:∀k,0<k->∀s,t.BI k r s=some (tE (tE 63 s) (t.Ch r)):=fun k hk s=>by
    cases k with
    |zero=>omega
    |succ k=>simp only[bm.BI,e];rw[ifN,ifN,hc]
   exact⟨I,bz 0 r U I A.1 A.2,A⟩
 |succ n ih=>
  intro r U h;have O:=h.Ch U (n+2) (by omega)
  cases h with
  |step e w he=>
   rename_i x
   obtain⟨i1,i2,Y,Z⟩:=ih x.of (by omega) he;have hO:=he.Ch (by omega) (n+1) (by omega);simp only[gy,aml]at w
   by_cases J:x.k=14
   ·have hc:t.Ch r=x.set:=(by simp only[bm.qX,e]at O;rw[amu J]at O;exact(amK O).symm);have hw:nQ x.set (t.Ch x.of)=0:=by
     rcases hf with hf|hf
     ·rw[<-i2];exact hf r x e J
     exact hf r x e J
    have hs:=V r x e;have A:=QV hw hs.1 hs.2 Y Z;rw[<-hc]at A;have I:∀k,n+1<k->∀s,t.BI k r s=some (tE (tE 63 s) (t.Ch r)):=fun k hk s=>by
     cases k with
     |zero=>omega
     |succ k=>simp only[bm.BI,e];rw[amu J,i1 k (by omega),YQ hw,hc]
    exact⟨I,bz (n+1) r U I (by rw[hc];exact hs.1) A,by rw[hc];exact hs.1,A⟩
   have hc:t.Ch r=t.Ch x.of:=(by have a6:t.qX (n+2) r=t.qX (n+1) x.of:=(by rw[bm.qX];simp only[e];rw[amt J,ifP]);rw[a6,hO]at O;exact(amK O).symm);have I:∀k,n+1<k->∀s,t.BI k r s=some (tE (tE 63 s) (t.Ch r)):=fun k hk s=>by
    cases k with
    |zero=>omega
    |succ k=>simp only[bm.BI,e];rw[amt J,ifP,i1 k (by omega),hc]
   exact⟨I,bz (n+1) r U I (by rw[hc];exact Y) (by rw[hc];exact Z),by rw[hc];exact Y,by rw[hc];exact Z⟩
end
structure bm.aan (t:bm):Prop where
 one:t.one
 pos:∀r x,t.get r=some x->1<=r
 kind:∀r x,t.get r=some x->1<=x.k/\x.k<=16
 set:∀r x,t.get r=some x->0<=x.set/\x.set<256
def bm.aa5 {t:bm}(h:t.aan)(q:Int):t.kind q=0↔t.get q=none:=by
 unfold bm.kind
 cases e:t.get q with
 |none=>simp
 |some x=>have:=h.kind q x e;simp;omega
def bm.Wg (t:bm)(r k o:Int):t.sY r k o false=t.CS r k o:=by
 unfold bm.sY bm.CS;congr 1
def bm.Iy {t:bm}(h:t.aan)(r:Int)(x:Wh)(a:Int):t.ny r x a=0↔t.S1 x=true/\t.ym r x a=true:=by
 have V:(aA.dF x.aN).any (fun q=>decide (t.kind q=0))=!t.Kc x:=by
  rw[bm.Kc,List.all_eq_not_any_not,Bool.not_not];congr 1;funext q
  cases e:t.get q with
  |none=>simp[bm.aa5 h,e]
  |some y=>
   have:¬t.kind q=0:=fun a=>by rw[(bm.aa5 h q).1 a]at e;cases e
   simp[this]
 have I:∀o:Option Wh,o.isNone=!o.isSome:=fun o=>by cases o<;>rfl
 rw[bm.ny,V];simp only[bm.S1,Wh.S6,I]
 by_cases c1:t.Kc x=true
 ·by_cases A:(t.get x.of).isSome=true
  ·by_cases J:(t.get x.tD).isSome=true
   ·cases O:t.ym r x a<;>simp[c1,A,J]
   cases O:t.ym r x a<;>cases U:xZ x.k<;>simp[c1,A,J]
  cases O:t.ym r x a<;>cases U:xZ x.k<;>cases Z:zQ x.k<;>cases J:(t.get x.tD).isSome<;>by_cases Y:(x.k=13/\x.of≠0)<;>simp[c1,A,Y]
 simp[c1]
def bm.SW {t:bm}(h:t.aan):((∀r x,t.get r=some x->x.k=14->x.set<64)/\t.OL)↔(∀r x,t.get r=some x->t.S7 r)/\(∀r x,t.get r=some x->t.ny r x (t.Ch x.of)=0):=by
 have mem:∀r x,t.get r=some x↔(r,x)∈t:=fun r x=>bm.wL h.one;have U:∀x:Wh,t.S1 x=true->zQ x.k=true->(t.get x.of).isSome=true:=fun x hs Y=>by simp only[bm.S1,amo,Y]at hs;simpa using hs.1.1.2
 have wr:∀k:Int,k=14\/k=15\/k=16->zQ k=true:=fun k Y=>by simp[zQ,gy];omega
 have Z:(∀r x,t.get r=some x->t.chain t.length r=true)->∀o,(t.get o).isSome=true->∃n,n<=t.length/\t.mN n o:=fun V o ho=>by obtain⟨y,hy⟩:=amR.1 ho;obtain⟨n,hn,he⟩:=bm.Oe h.one V hy;exact⟨n,by omega,he⟩
 constructor
 ·rintro⟨d3,hS,d0,hP⟩;have V:∀r x,t.get r=some x->t.chain t.length r=true:=fun r x A=>(hS r x A).2;have hf:∀r x,t.get r=some x->x.k=14->nQ x.set (t.ab x.of)=0:=fun r x A Y=>by have:=hP r x A;simp[bm.XW,Y]at this;exact this.2.2.2
  refine⟨fun r x A=>(bm.LK h.one r).1 (V r x A),fun r x A=>(bm.Iy h r x _).2 ⟨(hS r x A).1,?_⟩⟩;have hs:=(hS r x A).1;have hp:=hP r x A;have hr:=h.pos r x A;have a6:x.k=14->t.Ch x.of=t.ab x.of:=fun Y=>by obtain⟨n,hn,he⟩:=Z V x.of (U x hs (wr _ (.inl Y)));exact(bm.Th h.set (.inl hf) n x.of hn he).2.1.symm
  have d2:=h.kind r x A
  by_cases J:x.k=15
  ·simp[bm.XW,J]at hp;have ho:t.sY r 15 x.tD true=false:=by rw[<-Bool.not_eq_true];intro hh;simp only[bm.sY,aoM,aml,am5]at hh;obtain⟨p,a8,p2,p3,p4⟩:=hh;have:=hP p.1 p.2 ((mem _ _).2 a8);simp[bm.XW,p3]at this;rw[p4]at this;exact p2 (by rw[<-this.2.2.2,hp.2.2.2])
   simp[bm.ym,J,hp,ho]
  by_cases I:x.k=14
  ·simp[bm.XW,I]at hp;have hn:t.Bn r x=true:=by
    simp only[bm.Bn,ang,aml];intro p a8
    by_cases c1:p.2.k=14
    ·by_cases c2:p.2.of=x.of
     ·by_cases c3:p.2.set=x.set
      ·exact .inl (d0 p.1 r p.2 x ((mem _ _).2 a8) A c1 I c2 c3)
      exact .inr (.inr (.inr c3))
     exact .inr (.inr (.inl c2))
    exact .inr (.inl c1)
   simp[bm.ym,I,a6 I,hp,hn]
  by_cases O:x.k=16
  ·simp[bm.XW,O]at hp;simp[bm.ym,O,hp]
  simp only[bm.XW,I,J,O,ann]at hp;simp only[bm.ym,I,J,O,ann,bm.Wg];exact hp
 rintro⟨b1,a7⟩;have V:∀r x,t.get r=some x->t.chain t.length r=true:=fun r x A=>(bm.LK h.one r).2 (b1 r x A);have hS:∀r x,t.get r=some x->t.S1 x=true:=fun r x A=>((bm.Iy h r x _).1 (a7 r x A)).1;have hR:∀r x,t.get r=some x->t.ym r x (t.Ch x.of)=true:=fun r x A=>((bm.Iy h r x _).1 (a7 r x A)).2;have hf:∀r x,t.get r=some x->x.k=14->nQ x.set (t.Ch x.of)=0:=fun r x A Y=>by have:=hR r x A;simp[bm.ym,Y]at this;exact this.1.2.1
 have a6:∀r x,t.get r=some x->x.k=14->t.ab x.of=t.Ch x.of/\0<=t.Ch x.of/\t.Ch x.of<64:=fun r x A Y=>by obtain⟨n,hn,he⟩:=Z V x.of (U x (hS r x A) (wr _ (.inl Y)));exact(bm.Th h.set (.inr hf) n x.of hn he).2
 refine⟨fun r x A Y=>?_,fun r x A=>⟨hS r x A,V r x A⟩,fun r q x y A hy d1 b6 e1 e2=>?_,fun r x A=>?_⟩
 ·have:=h.set r x A;exact QV (hf r x A Y) this.1 this.2 (a6 r x A Y).2.1 (a6 r x A Y).2.2
 ·have:=hR r x A;simp[bm.ym,d1]at this;have hn:=this.2;simp only[bm.Bn,ang,aml]at hn;rcases hn (q,y) ((mem _ _).1 hy)with c|c|c|c
  ·exact c.symm
  ·exact absurd b6 c
  ·exact absurd e1.symm c
  exact absurd e2.symm c
 have hp:=hR r x A;have hs:=hS r x A;have hr:=h.pos r x A
 by_cases J:x.k=15
 ·have ho:=U x hs (wr _ (.inr (.inl J)));simp[bm.ym,J]at hp;have b4:¬r=0:=by omega
  simp[b4]at hp;simp[bm.XW,J,hp,ho]
 by_cases I:x.k=14
 ·have ho:=U x hs (wr _ (.inl I));simp[bm.ym,I]at hp;simp[bm.XW,I,(a6 r x A I).1,hp,ho]
 by_cases O:x.k=16
 ·have ho:=U x hs (wr _ (.inr (.inr O)));simp[bm.ym,O]at hp;simp[bm.XW,O,hp,ho]
 simp only[bm.ym,I,J,O,ann,bm.Wg]at hp;simp only[bm.XW,I,J,O,ann];exact hp
end
def E6 {P:Program}{f:FuncId}{ags:List BV}{M A:List (Nat×aE)}{p:Nat}{R:RH}{Q:D->Prop}(h:M=A)(hp:xm P f ags A p (R ags A) Q):xm P f ags M p (R ags M) Q:=by subst h;exact hp
def eA (l:List Int):Prop:=∀(i:Nat) (a b:Int),l[i]?=some a->l[i+1]?=some b->a<b
def eA.tail {a:Int}{l:List Int}(h:eA (a::l)):eA l:=fun i x y h1 h2=>h (i+1) x y (by simpa using h1) (by simpa using h2)
def eA.lt:∀{l:List Int} {a:Int},eA (a::l)->∀b∈l,a<b:=by
 intro l
 induction l with
 |nil=>intro a _ b hb;cases hb
 |cons c r A=>
  intro a h b hb;have h1:a<c:=h 0 a c rfl rfl;rcases amz.1 hb with rfl|hb
  ·exact h1
  have:=A h.tail b hb;omega
def eA.Bo:∀{l:List Int},eA l->l.Nodup:=by
 intro l
 induction l with
 |nil=>intro _;simp
 |cons a r A=>intro h;refine anp.2 ⟨fun I=>?_,A h.tail⟩;have:=h.lt a I;omega
namespace Wl
def aL (x:Wl):bm:=x.th.map fun e=>(e.r,e.w)
def sum (x:Wl):Int:=x.ma.foldr (·+·) 0
end Wl
def LL (l:List En)(i:Nat):Nat:=(l.filter fun e=>decide (e.w.k≠14/\e.w.h=(i:Int))).length
def jO (n:Nat)(l:List Int):List Bool:=l.foldl (fun a c=>a.set c.toNat true) (List.replicate (n+1) false)
def Yn (n:Nat)(l:List Int)(c:Int):jO n (l++[c])=(jO n l).set c.toNat true:=by simp[jO]
def Hw (l:List Int)(f:Int->Nat):∀a:List Bool,(l.foldl (fun a c=>a.set (f c) true) a).length=a.length:=by
 induction l with
 |nil=>intro a;rfl
 |cons c r A=>intro a;simp[A]
@[simp] def abX (n:Nat)(l:List Int):(jO n l).length=n+1:=by simp[jO,Hw]
structure Wl.sO (x:Wl):Prop where
 par:qg x.pa=true
 DS:x.ma.length=x.pa.length+1
 cut:∀c∈x.cu,1<=c/\c<=x.pa.length
 Q8:eA x.cu
 mb:∀m∈x.ma,0<=m/\m<=512
 la0:0<=x.la
 la1:x.la<=64*x.sum
 rb:∀e∈x.th,1<=e.r/\e.r<=x.la
 RF:eA (x.th.map En.r)
 G6:∀e∈x.th,e.w.F (x.pa.length+1:Nat)/\(e.w.k=14->e.w.set<64)
 IT:∀(i:Nat) (m:Int),x.ma[i]?=some m->(LL x.th i:Int)<=m
 agC:x.aL.OL
 SX:x.la+vD (x.aL.rX x.aL.ab) (x.aL.map (·.1))<=64*x.sum
structure Wl.vN (x:Wl):Prop where
 ok:x.ok
 pa:x.pa.length<2^30
 cu:x.cu.length<2^30
 th:x.th.length<2^30
 ma:x.ma.length<2^30
 sz:∀e∈x.th,e.w.sz<2^30
def Wl.fh (x:Wl):x.aL.map (·.1)=x.th.map En.r:=by simp[Wl.aL]
def XB (l:List Int)(h:∀m∈l,0<=m/\m<=512):0<=l.foldr (·+·) (0:Int)/\l.foldr (·+·) (0:Int)<=512*l.length:=by
 induction l with
 |nil=>simp
 |cons a r I=>have h1:=h a (by simp);have h2:=I fun m A=>h m (by simp[A]);simp only[apf,amB];omega
def XC (l:List Int)(a:Int):(l++[a]).foldr (·+·) (0:Int)=l.foldr (·+·) 0+a:=by
 induction l with
 |nil=>simp
 |cons b r A=>simp only[anM,apf,A];omega
structure XT (l:List D)(n:Nat)(pre:List En):Prop where
 len:l.length=n
 Lz:∀i,i<n->D.at l i= .z (LL pre i)
def XT.ak1 (n:Nat):XT (List.replicate n (D.z 0)) n []:=⟨by simp,fun i hi=>by simp[D.at,List.getD,hi,LL]⟩
def Sl (pre:List En)(e:En)(i:Nat):LL (pre++[e]) i=LL pre i+if e.w.k≠14/\e.w.h=(i:Int)then 1 else 0:=by
 simp only[LL,List.filter_append,ams]
 by_cases h:e.w.k≠14/\e.w.h=(i:Int)
 ·rw[amu h,List.filter_cons_of_pos (by simpa using h)];rfl
 rw[amt h,List.filter_cons_of_neg (by simpa using h)];rfl
def aaL (pre:List En)(i:Nat):LL pre i<=pre.length:=apN _ _
def XT.same {l:List D}{n:Nat}{pre:List En}(h:XT l n pre){e:En}(he:e.w.k=14):XT l n (pre++[e]):=⟨h.len,fun i hi=>by rw[h.Lz i hi,Sl,amt (by simp[he])];rfl⟩
def XT.step {l:List D}{n:Nat}{pre:List En}(h:XT l n pre){e:En}(he:e.w.k≠14)(h0:0<=e.w.h)(h1:e.w.h<n):XT (l.set e.w.h.toNat (.z ((LL pre e.w.h.toNat:Int)+1))) n (pre++[e]):=by
 refine⟨by simp[h.len],fun i hi=>?_⟩;rw[Sl]
 by_cases A:e.w.h=i
 ·have:e.w.h.toNat=i:=by omega
  rw[amu ⟨he,A⟩,this];simp[D.at,List.getD,h.len,hi]
 have:e.w.h.toNat≠i:=by omega
 rw[amt (by simp[A])];have:=h.Lz i hi;simp only[D.at,List.getD,an1 ‹_›]at this ⊢;simpa using this
def eA.UP {l:List Int}{b:Int}(h:eA l)(hl:∀a,0<l.length->l[l.length-1]?=some a->a<b):eA (l++[b]):=by
 intro i x y h1 h2;have hi:=(amw.1 h2).1;simp only[ams,apO]at hi;rw[an7 (by omega)]at h1
 by_cases e:i+1<l.length
 ·rw[an7 e]at h2;exact h i x y h1 h2
 have:i+1=l.length:=by omega
 rw[apl (by omega),this,Nat.sub_self]at h2
 cases h2
 exact hl x (by omega) (by rw[<-this];exact h1)
def bm.DK (t u:bm)(r:Int):bm.get (t++u) r=(t.get r).or (u.get r):=by
 induction t with
 |nil=>simp[bm.get]
 |cons p q A=>simp only[anM,bm.get];split<;>simp_all
abbrev alb (x:Wl)(cu:List D)(m:List (D×D))(st:List Nat)(c:Nat)(fm:List (D×D))(fs:List Nat)(A:Nat):List (Nat×aE):=
 [(0,.cells [.bx cq (aY x.pa),.hY 3 (x.pa.length+1) true,.map 1,.map 2,.int .i64 0,.hY 4 (x.pa.length+1) true] bU false),(1,.cd bW (.dD 1 aU) m st c),(2,.cd bp (.data bW) fm fs A),(3,.bY aj cu true),(4,.bY ah (List.replicate (x.pa.length+1) (D.z 0)) true)]
def DU (x:Wl){cu:List D}(h:cu.length=x.pa.length+1)(m:List (D×D))(st:List Nat)(c:Nat)(fm:List (D×D))(fs:List Nat)(A:Nat):
 alb x cu m st c fm fs A=Wm (WS.mk (aY x.pa) cu m st c fm fs A 0 (List.replicate (x.pa.length+1) (D.z 0))):=by
 simp only[alb,Wm,h,anH]
def aix (x:Wl)(cu:List Bool)(th:bm)(fa:nT)(st:List Nat)(c:Nat)(fs:List Nat)(A:Nat):
 Lj (WS.mk (aY x.pa) (cu.map D.b) th.ar st c fa.ar fs A 0 (List.replicate (x.pa.length+1) (D.z 0))) ⟨x.pa,cu,th,fa,0,List.replicate (x.pa.length+1) 0⟩:=⟨rfl,rfl,rfl,rfl,rfl,by simp[aY]⟩
def Js (x:Wl)(d:D):Prop:=((d.af 0).bool=true↔x.sO)/\(x.sO->∃f:nT,f.Idx x.aL/\(d.af 1).ae=aY x.pa/\(d.af 2).ae=(jO x.pa.length x.cu).map D.b/\(d.af 3).int=x.la/\(d.af 4).ae=aY x.ma/\oS (D.af d 5)=x.aL.ar/\oS (D.af d 8)=f.ar)
def akh (x:Wl)(hs:x.vN):PH fy (dg x.ar) [] 0 kb (Js x):=by
 have no:¬x.sO->rz.bK=some 0/\∃d,T.dV (BV.tuple [.gF,.int .i64 71],([]:List (Nat×aE))) (kb (dg x.ar) [] d)/\Js x d:=fun h=>⟨rfl,.r [.b false],.ff rfl .ret,⟨fun a=>by simp[D.af,D.at]at a,fun a=>(h a).elim⟩,fun a=>(h a).elim⟩;have d5:=hs.ok;have h8:=hs.pa;have i3:=hs.th;have h6:=hs.ma;have d1:∀e∈x.th,e.w.ok:=fun e he=>(d5.2.2.2.2.2.1 e he).2.2;have d6:∀(rest:List Int) (i:Nat) (A:List D) (st:List Nat) (c:Nat),qg x.pa=true->x.ma.length=x.pa.length+1->(∀c∈x.cu,1<=c/\c<=x.pa.length)->eA x.cu->(∀e∈x.th,1<=e.r/\e.r<=x.la)->eA (x.th.map En.r)->
  (∀e∈x.th,e.w.F (x.pa.length+1:Nat)/\(e.w.k=14->e.w.set<64))->XT A (x.pa.length+1) x.th->x.ma.drop i=rest->(∀m∈x.ma.take i,0<=m/\m<=512)->(∀(j:Nat) (m:Int),j<i->x.ma[j]?=some m->(LL x.th j:Int)<=m)->
  aC pg fy [cy,bn] (.bK 0 (kb (dg x.ar) []) (Js x)) (xj x.ar (x.pa.length+1) A x.aL.ar st c ((jO x.pa.length x.cu).map D.b) ((x.ma.take i).foldr (·+·) 0) i):=by
  intro rest
  induction rest with
  |nil=>
   intro i A st c Z g2 g3 g4 g5 g6 g7 hc hd hm hh;have hi:=drop_nil hd;rw[amv hi]at hm ⊢;have e7:=XB x.ma hm;have Y:-2^63<=x.la/\x.la<2^63:=⟨d5.2.2.2.2.2.2.1,d5.2.2.2.2.2.2.2.1⟩;have b4:x.aL.one:=(by rw[bm.one,Wl.fh];exact g6.Bo);have a7:∀r y,x.aL.get r=some y->∃e∈x.th,e.r=r/\e.w=y:=fun r y hy=>by
    have:=bm.uw hy;simp only[Wl.aL,anh]at this;obtain⟨e,he,h⟩:=this
    cases h
    exact⟨e,he,rfl,rfl⟩
   have b1:x.aL.sO:=⟨b4,by simp[Wl.aL];omega,fun r y hy=>by obtain⟨e,he,_,rfl⟩:=a7 r y hy;exact d1 e he,fun r y hy=>by obtain⟨e,he,_,rfl⟩:=a7 r y hy;exact hs.sz e he,fun r y hy=>by obtain⟨e,he,_,rfl⟩:=a7 r y hy;exact(g7 e he).1.fE⟩;refine Ik ?_;simp only[rk,Wl.iW,Wl.nD,Wl.q9,amm,aml,amk,D.aK];refine⟨fun h=>by omega,fun _=>⟨fun h=>no fun g=>by have:=g.la0;omega,fun l0=>?_⟩⟩;rw[bM (x:=64*_)];refine⟨fun h=>no fun g=>by have:=g.la1;simp only[Wl.sum]at this;omega,fun l1=>?_⟩;refine⟨_,_,rfl,E6 (DU x (by simp) x.aL.ar st c [] [] 0) (ag0 (aix x _ x.aL [] st c [] 0) b1 rfl),?_⟩;rintro d ⟨q1,q2⟩;refine⟨fun h=>no fun g=>by rw[q1.2 g.agC]at h;simp at h,fun h=>?_⟩;have hS:x.aL.OL:=q1.1 (by simpa using h);obtain⟨f,hf,e2⟩:=q2 hS;have e4:∀r y,x.aL.get r=some y->0<=y.set/\y.set<256:=fun r y hy=>by have:=b1.ok r y hy;simp only[Wh.ok]at this;omega
   have g9:∀r y,x.aL.get r=some y->0<=x.aL.ab r/\x.aL.ab r<64:=fun r y hy=>by
    obtain⟨n,hn,he⟩:=bm.Oe b4 (fun r x h=>(hS.1 r x h).2) hy;have e8:∀r y,x.aL.get r=some y->y.k=14->nQ y.set (x.aL.ab y.of)=0:=fun r y hy hk=>by have:=hS.2.2 r y hy;simp[bm.XW,hk]at this;exact this.2.2.2
    have:=(bm.Th e4 (.inl e8) n r (by omega) he).2;omega
   have e9:PH oC (bG _) (Wm _) 3 aG (fun d=>D.int d=vD (x.aL.rX x.aL.ab) (x.aL.map (·.1))):=ag1 (aix x (jO x.pa.length x.cu) x.aL f st c (pC (D.af d 2)) (pB (D.af d 3))) b4 (by simp[Wl.aL];omega) x.aL.ab fun r hr=>by obtain⟨y,hy⟩:=amR.1 (bm.pY.2 hr);exact⟨⟨_,bm.aiP (hS.1 r y hy).2⟩,g9 r y hy⟩
   rw[hf];refine⟨_,_,rfl,E6 (DU x (by simp) x.aL.ar st c f.ar (pC (D.af d 2)) (pB (D.af d 3))) e9,?_⟩;intro d2 a6;rw[a6];have d9:=Z9 (t:=x.aL) (ab:=x.aL.ab) (x.aL.map (·.1));have g8:(x.aL.map (·.1)).length=x.th.length:=(by simp[Wl.aL]);rw[g8]at d9;have i1:x.sum=x.ma.foldr (·+·) 0:=rfl;rw[bM (x:=x.la+_)];refine⟨fun h=>no fun g=>by have:=g.SX;omega,fun h=>?_⟩;refine⟨_,_,rfl,abT (aY x.ma) (by simpa using h6),?_⟩;intro d3 e6;rw[e6];have fD:x.sO:=⟨Z,g2,g3,g4,hm,by omega,by omega,g5,g6,g7,fun j m hj=>hh j m (by have:=(amw.1 hj).1;omega) hj,hS,by omega⟩;refine⟨rfl,.r [.b true,.r (aY x.pa),.r ((jO x.pa.length x.cu).map D.b),.z x.la,.r (aY x.ma),VB x.aL.ar,VC st,.z c,VB f.ar,VC (pC (D.af d 2)),.z (pB (D.af d 3))],.tt rfl (bD.2 ?_),⟨fun _=>fD,fun _=>rfl⟩,fun _=>⟨f,e2,rfl,rfl,rfl,rfl,?_,?_⟩⟩
   ·simp only[D.af,D.aK,D.at,anB,an5,xr,JQ,JP,D.bu,amm,abX]
   ·simp only[D.af,D.aK,D.at,anB,an5,xr]
   simp only[D.af,D.aK,D.at,anB,an5,xr]
  |cons m rest ih=>
   intro i A st c Z g2 g3 g4 g5 g6 g7 hc hd hm hh;obtain⟨J,k2,k3⟩:=aF hd;have hi:i<x.pa.length+1:=(by omega);have I:=amn J;have e7:=XB (x.ma.take i) hm;have h4:(x.ma.take i).length<=x.ma.length:=aoH ..;refine Ik ?_;simp only[rk,Wl.nD,amm,aml,amk,amq,bC (f:=D.z) J,hc.Lz i hi,hc.len,D.bu,aR k3,aR hi];refine⟨fun _=>⟨fun _=>⟨fun _=>⟨fun _=>⟨fun h=>no fun g=>by have:=g.IT i m J;omega,fun h1=>⟨fun h=>no fun g=>by have:=g.mb m I;omega,fun h2=>?_⟩⟩,fun h=>by omega⟩,fun h=>by simp at h⟩,fun h=>by simp at h⟩,fun h=>by omega⟩;have e:=ih (i+1) A st c Z g2 g3 g4 g5 g6 g7 hc k2 (fun y hy=>?_) (fun j y hj hy=>?_)
   ·rw[bH J,XC]at e;rw[bM (x:=_+m),bL k3];exact e
   ·rw[bH J]at hy;rcases amO.1 hy with hy|hy
    ·exact hm y hy
    simp only[amQ]at hy;subst hy;omega
   by_cases ej:j=i
   ·subst ej;rw[J]at hy;cases hy;omega
   exact hh j y (by omega) hy
 have d7:∀(rest:List En) (i:Nat) (U:Int) (A:List D) (st:List Nat) (c:Nat),qg x.pa=true->x.ma.length=x.pa.length+1->(∀c∈x.cu,1<=c/\c<=x.pa.length)->eA x.cu->x.th.drop i=rest->
  (∀e∈x.th.take i,1<=e.r/\e.r<=x.la/\e.r<=U)->(i=0->U=0)->(∀e,0<i->x.th[i-1]?=some e->U=e.r)->0<=U->eA ((x.th.take i).map En.r)->(∀e∈x.th.take i,e.w.F (x.pa.length+1:Nat)/\(e.w.k=14->e.w.set<64))->XT A (x.pa.length+1) (x.th.take i)->
  aC pg fy [cy,bn] (.bK 0 (kb (dg x.ar) []) (Js x)) (oN x.ar (x.pa.length+1) A ((jO x.pa.length x.cu).map D.b) U i (bm.ar ((x.th.take i).map fun e=>(e.r,e.w))) st c):=by
  intro rest
  induction rest with
  |nil=>intro i U A st c Z g2 g3 g4 hd hb h0 hl e5 hr hf hc;have hi:=drop_nil hd;rw[amv hi]at hb hr hf hc ⊢;refine Ij ?_;simp only[rk,Wl.gD,amm,aml,amk];refine⟨fun h=>by omega,fun _=>?_⟩;exact d6 x.ma 0 A st c Z g2 g3 g4 (fun e he=>⟨(hb e he).1,(hb e he).2.1⟩) hr hf hc rfl (by simp) (by intro j m hj;omega)
  |cons e rest ih=>
   intro i U A st c Z g2 g3 g4 hd hb h0 hl e5 hr hf hc;obtain⟨J,k2,k3⟩:=aF hd;have I:=amn J;have e0:=d1 e I;have e1:D.af e.ar 1=e.w.ar:=En.VD e;have UP:bm.ar ((x.th.take i).map fun e=>(e.r,e.w))++[(D.z e.r,e.w.ar)]=bm.ar ((x.th.take (i+1)).map fun e=>(e.r,e.w)):=(by rw[bH J];simp[bm.ar]);refine Ij ?_;simp only[rk,Wl.iW,Wl.gD,Wl.q9,amm,aml,amk,amq,bC J,En.rB,e1,Wh.re,aR k3];refine⟨fun _=>⟨fun _=>⟨fun h=>no fun g=>?_,fun r1=>⟨fun h=>no fun g=>by have:=(g.rb e I).2;omega,fun r2=>?_⟩⟩,fun h=>by simp at h⟩,fun h=>by omega⟩
   ·by_cases g0:i=0
    ·have:=h0 g0;have:=(g.rb e I).1;omega
    obtain⟨p,hp⟩:∃p,x.th[i-1]?=some p:=⟨_,amr (by omega)⟩;have h2:=hl p (by omega) hp;have h3:=g.RF (i-1) p.r e.r (by simp[hp]) (by rw[show i-1+1=i by omega];simp[J]);omega
   have a8:bm.get ((x.th.take i).map fun e=>(e.r,e.w)) e.r=none:=by
    cases hg:bm.get ((x.th.take i).map fun e=>(e.r,e.w)) e.r with
    |none=>rfl
    |some y=>have:=bm.uw hg;simp only[anh]at this;obtain⟨q,hq,h9⟩:=this;have:=(hb q hq).2.2;have f9:=amZ Prod.fst h9;simp only at f9;omega
   have d0:bm.get ((x.th.take (i+1)).map fun e=>(e.r,e.w)) e.r=some e.w:=(by rw[bH J,am6,bm.DK,a8];simp[bm.get]);refine⟨_,_,rfl,E6 (DU x (by simp) _ st c [] [] 0) (ajj (aix x (jO x.pa.length x.cu) ((x.th.take i).map fun e=>(e.r,e.w)) [] st c [] 0) e.w e0 (hs.sz e I)),?_⟩;intro d a6;rw[a6];simp only[anH];refine⟨fun h=>no fun g=>?_,fun V=>?_⟩
   ·have:=(Wh.GN).2 (g.G6 e I);rw[this]at h;simp at h
   have V:e.w.F (x.pa.length+1:Nat)/\(e.w.k=14->e.w.set<64):=Wh.GN.1 (by simpa using V);refine⟨_,_,_,rfl,MD e.w e0 (hs.sz e I) V.1.fE,?_⟩;rintro _ rfl;simp only[Wh.re,UP,bm.i7,a8,d0,bm.val d0,Wh.ek,Wh.rA,aqa,anD,amp,amx,amy,amA,am1,amS,aot,anE,an3,hc.len];have nx:∀O,XT O (x.pa.length+1) (x.th.take (i+1))->aC pg fy [cy,bn] (.bK 0 (kb (dg x.ar) []) (Js x)) (oN x.ar (x.pa.length+1) O ((jO x.pa.length x.cu).map D.b) e.r (IntKind.i64.wrap ((i:Int)+1)) (bm.ar ((x.th.take (i+1)).map fun e=>(e.r,e.w))) (st++[c]) (c+1)):=fun O h5=>by
    rw[bL k3];refine ih (i+1) e.r O (st++[c]) (c+1) Z g2 g3 g4 k2 (fun q hq=>?_) (by omega) (fun p _ hp=>by rw[apn,J]at hp;cases hp;rfl) (by omega) ?_ (fun q hq=>?_) h5
    ·rw[bH J]at hq;rcases amO.1 hq with hq|hq
     ·have:=hb q hq;omega
     simp only[amQ]at hq;subst hq;omega
    ·rw[bH J,am6];refine hr.UP fun a ha Y=>?_;simp only[amm,amI]at ha Y;rw[show min i x.th.length=i by omega]at Y;simp only[anw,aoa (show i-1<i by omega),am9]at Y;obtain⟨p,hp,rfl⟩:=Y;have:=hl p (by omega) hp;omega
    rw[bH J]at hq;rcases amO.1 hq with hq|hq
    ·exact hf q hq
    simp only[amQ]at hq;subst hq;exact V
   refine⟨fun hk=>?_,fun hk=>nx A (by rw[bH J];exact hc.same hk)⟩;have hh:=V.1.2.2.1 hk;have i4:=aaL (x.th.take i) e.w.h.toNat;have h4:(x.th.take i).length<=x.th.length:=aoH ..;have h7:di e.w.h (x.pa.length+1)=true:=(by simp[di];omega);refine⟨fun _=>⟨fun _=>?_,fun h=>by omega⟩,fun h=>by rw[h7]at h;cases h⟩;rw[hc.Lz _ (by omega),D.bu,bM];exact nx _ (by rw[bH J];exact hc.step hk hh.1 hh.2)
 have d8:∀(rest:List Int) (i:Nat),qg x.pa=true->x.ma.length=x.pa.length+1->x.cu.drop i=rest->(∀c∈x.cu.take i,1<=c/\c<=x.pa.length)->eA (x.cu.take i)->
  aC pg fy [cy,bn] (.bK 0 (kb (dg x.ar) []) (Js x)) (u9 x.ar i ((jO x.pa.length (x.cu.take i)).map D.b)):=by
  intro rest
  induction rest with
  |nil=>intro i Z g2 hd hc hr;have hi:=drop_nil hd;rw[amv hi]at hc hr ⊢;refine KP ?_;simp only[rk,Wl.iW,Wl.tX,amm,aml,amk];refine⟨fun h=>by omega,fun _=>⟨_,_,rfl,E6 (DU x (by simp) [] [] 0 [] [] 0) (AH (w:=⟨x.pa,jO x.pa.length x.cu,[],[],0,List.replicate (x.pa.length+1) 0⟩) ⟨rfl,rfl,rfl,rfl,rfl,by simp[aY]⟩),?_⟩⟩;intro d a6;rw[a6];simp only[anH];refine⟨fun _=>?_,fun h=>by simp[vQ]at h;omega⟩;have e:=d7 x.th 0 0 (List.replicate (x.pa.length+1) (D.z 0)) [] 0 Z g2 hc hr rfl (by simp) (by simp) (by simp) (by omega) (by intro i a b h;simp at h) (by simp) (XT.ak1 _);simpa [bm.ar]using e
  |cons c rest ih=>
   intro i Z g2 hd hc hr;obtain⟨J,k2,k3⟩:=aF hd;have I:=amn J;have i2:=hs.cu;have b6:=abE (aix x (jO x.pa.length (x.cu.take i)) [] [] [] 0 [] 0) c (by simp);simp only[anH]at b6;have after:(∀a,0<i->x.cu[i-1]?=some a->a<c)->∀d:D,((d.af 0).int=(if 0<c/\c<(x.pa.length+1:Nat)then 0 else 2)/\(d.af 1).ae=(if 0<c/\c<(x.pa.length+1:Nat)then (jO x.pa.length (x.cu.take i)).set c.toNat true else jO x.pa.length (x.cu.take i)).map D.b)->
    (((d.af 0).int !=0)=true->rz.bK=some 0/\∃d,T.dV (BV.tuple [.gF,.int .i64 71],([]:List (Nat×aE))) (kb (dg x.ar) [] d)/\Js x d)/\
    (((d.af 0).int !=0)=false->aC pg rz.f rz.rs (.bK 0 (kb (dg x.ar) []) (Js x)) (u9 x.ar (IntKind.i64.wrap ((i:Int)+1)) (d.af 1).ae)):=by
    rintro d4 d ⟨q1,q2⟩
    by_cases e3:0<c/\c<(x.pa.length+1:Nat)
    ·rw[amu e3]at q1 q2;rw[q1,q2];refine⟨fun h=>by simp at h,fun _=>?_⟩;rw[bL k3,<-Yn,<-bH J];refine ih (i+1) Z g2 k2 (fun y hy=>?_) ?_
     ·rw[bH J]at hy;rcases amO.1 hy with hy|hy
      ·exact hc y hy
      simp only[amQ]at hy;subst hy;omega
     rw[bH J];refine hr.UP fun a ha Y=>?_;simp only[amI]at ha Y;rw[show min i x.cu.length=i by omega,aoa (by omega)]at Y;exact d4 a (by omega) Y
    rw[amt e3]at q1;rw[q1];exact⟨fun _=>no fun g=>by have:=g.cut c I;omega,fun h=>by simp at h⟩
   refine KP ?_;simp only[rk,Wl.iW,Wl.tX,amm,aml,amk,amq,bC (f:=D.z) J,D.bu,aR k3];refine⟨fun _=>⟨fun _=>⟨fun hi=>?_,fun hi=>⟨_,_,rfl,E6 (DU x (by simp) [] [] 0 [] [] 0) b6,after fun a ha=>by omega⟩⟩,fun h=>by simp at h⟩,fun h=>by omega⟩;have hw:IntKind.i64.wrap ((i:Int)-1)=((i-1:Nat):Int):=(by rw[bM];omega);obtain⟨p,hp⟩:∃p,x.cu[i-1]?=some p:=⟨_,amr (by omega)⟩;simp only[hw,amq,bC (f:=D.z) hp,D.bu,aR (show i-1<x.cu.length by omega)];refine⟨fun _=>⟨fun h=>no fun g=>?_,fun h=>⟨_,_,rfl,E6 (DU x (by simp) [] [] 0 [] [] 0) b6,after fun a _ ha=>by rw[hp]at ha;cases ha;omega⟩⟩,fun h=>by simp at h⟩;have:=g.Q8 (i-1) p c hp (by rw[show i-1+1=i by omega];exact J);omega
 refine afX ?_;simp only[rk,Wl.iW,Wl.nD,amm];refine⟨_,_,rfl,ajd x.pa h8,?_⟩;intro d hd;rw[hd];refine⟨fun Z=>⟨_,_,rfl,E6 (DU x (by simp) [] [] 0 [] [] 0) (AH (w:=⟨x.pa,List.replicate (x.pa.length+1) false,[],[],0,List.replicate (x.pa.length+1) 0⟩) ⟨rfl,by simp,rfl,rfl,rfl,by simp[aY]⟩),?_⟩,fun Z=>no fun g=>by rw[g.par]at Z;cases Z⟩;intro d2 a6;rw[a6];simp only[anH];refine⟨fun h=>no fun g=>by have:=g.DS;simp at h;omega,fun h=>?_⟩;have e:=d8 x.cu 0 Z (by simp at h;omega) rfl (by simp) (by intro i a b h;simp at h);simpa [jO]using e
end Go.Proofs
end
