import Derived.Below
import Derived.ChangeSame
import Derived.WalkKit
import Derived.ProofKit
import Derived.OpenShut
import Derived.WideKeyArgs
import Derived.Handed
import Derived.ChangeCalls
import Derived.Test.YtpanfgalkajgdaaGreatM23
set_option linter.all false
noncomputable section
namespace Go.Proofs
open Go Go.PB
section
def RX (a:cg)(c:UInt8):jN (a++[c])=jN a*256+c.toNat:=by simp[jN]
def OU (s:cg):jN s<256^s.length:=by
 have:∀n (s:cg),s.length=n->jN s<256^n:=by
  intro n
  induction n with
  |zero=>intro s h;rw[aob h];decide
  |succ n I=>intro s h;have A:s≠[]:=(by intro h';rw[h']at h;cases h);have e:=List.dropLast_concat_getLast A;have h1:=I s.dropLast (by simp[h]);rw[<-e,RX,apG];have:=(s.getLast A).toNat_lt;omega
 exact this _ s rfl
def XZ {α:Type}(c:Nat)(e:α->D)(φ:α->Prop)(p:Pa α):Prop:=
 ∀s v r,s.length<2^62->p s=some (v,r)->r.length+c<=s.length/\D.bZ (e v)+8*r.length<=8*s.length/\φ v
def vE {n:Int}{s v r:cg}(h:px n s=some (v,r)):0<=n/\s=v++r/\(v.length:Int)=n:=by
 unfold px at h
 split at h
 ·obtain⟨rfl,rfl⟩:=am7 (amK h);exact⟨by omega,(aoj _ _).symm,by rw[amI];omega⟩
 cases h
def ahK {k:Nat}{s r:cg}{v:Int}(h:cT k s=some (v,r)):∃t:cg,s=t++r/\t.length=k/\v=jN t/\0<=v/\v<256^k:=by
 obtain⟨t,I,h1,h2⟩:=Pa.bN h;obtain⟨rfl,rfl⟩:=am7 (amK h2);obtain⟨-,A,J⟩:=vE h1;have hl:t.length=k:=by omega
 refine⟨t,A,hl,rfl,by omega,?_⟩;have:=OU t;rw[hl]at this;have:=Int.ofNat_lt.2 this;rw[Int.natCast_pow]at this;exact this
def bo {k:Nat}{s r:cg}{v:Int}(h:cT k s=some (v,r)):r.length+k=s.length/\0<=v/\v<256^k:=by
 obtain⟨t,rfl,h1,-,h2,A⟩:=ahK h;exact⟨by rw[ams];omega,h2,A⟩
def y5 {s r:cg}{v:Int}(h:Ai s=some (v,r)):r.length+8=s.length/\-2^63<=v/\v<2^63:=by
 obtain⟨n,I,h1,h2⟩:=Pa.bN h;obtain⟨rfl,rfl⟩:=am7 (amK h2);obtain⟨A,J,O⟩:=bo h1;exact⟨A,by omega,by omega⟩
def vF {s v r:cg}(h:Bq s=some (v,r)):r.length+4+v.length=s.length:=by
 obtain⟨n,I,h1,h2⟩:=Pa.bN h;obtain⟨A,-,-⟩:=bo h1;obtain⟨-,rfl,J⟩:=vE h2;rw[ams]at A;omega
section
variable {α:Type} {c:Nat} {e:α->D} {φ:α->Prop} {p:Pa α}
def UJ (hp:XZ c e φ p):∀(n:Nat) (s:cg) (l:List α) (r:cg),s.length<2^62->rep p n s=some (l,r)->l.length=n/\r.length+n*c<=s.length/\D.bw (l.map e)+8*r.length<=8*s.length/\∀v∈l,φ v
 |0,s,l,r,_,h=>by obtain⟨rfl,rfl⟩:=am7 (amK h);exact⟨rfl,by simp,by simp[D.bw],by simp⟩
 |n+1,s,l,r,hs,h=>by
  obtain⟨a,t,h1,h2⟩:=Pa.bN h;obtain⟨k,u,A,J⟩:=Pa.bN h2;obtain⟨rfl,rfl⟩:=am7 (amK J);obtain⟨Y,Z,a3⟩:=hp _ _ _ hs h1;obtain⟨O,U,V,I⟩:=UJ hp n t k u (by omega) A;refine⟨by simp[O],by rw[aqe];omega,by simp only[anb,D.bw];omega,?_⟩;intro v hv;rcases amz.1 hv with rfl|hv
  ·exact a3
  exact I v hv
def dR (hp:XZ c e φ p){s:cg}{l:List α}{r:cg}(hs:s.length<2^62)(h:cQ p s=some (l,r)):r.length+4<=s.length/\D.bw (l.map e)+1+8*r.length<=8*s.length/\(∀v∈l,φ v)/\l.length<2^32:=by
 obtain⟨n,t,h1,h2⟩:=Pa.bN h;obtain⟨Y,O,U⟩:=bo h1;obtain⟨J,I,V,A⟩:=UJ hp _ _ _ _ (by omega) h2;exact⟨by omega,by omega,A,by omega⟩
def Xj (hp:XZ c e φ p){n:Nat}{s:cg}(hs:s.length<2^62)(h:s.length<n*c):rep p n s=none:=by
 cases A:rep p n s with
 |none=>rfl
 |some x=>obtain⟨-,I,-⟩:=UJ hp n s x.1 x.2 hs A;omega
end
def QN:XZ 4 D.s (fun t=>t.length<2^63) Bq:=by
 intro s v r hs h;have:=vF h;exact⟨by omega,by simp only[D.bZ];omega,by omega⟩
def qf:XZ 4 D.z (fun n=>0<=n/\n<2^32) (cT 4):=by
 intro s v r hs h;obtain⟨h1,h2,A⟩:=bo h;exact⟨by omega,by simp only[D.bZ];omega,h2,by omega⟩
def IP:∀f,XZ 17 Ex.ar Ex.ok (pEx f)
 |0=>fun s v r _ h=>by cases h
 |f+1=>fun s v r hs h=>by
  obtain⟨k,s1,h1,h⟩:=Pa.bN h;obtain⟨n,s2,h2,h⟩:=Pa.bN h;obtain⟨t,s3,I,h⟩:=Pa.bN h;obtain⟨l,s4,U,h⟩:=Pa.bN h;obtain⟨rfl,rfl⟩:=am7 (amK h);obtain⟨a1,V,a3⟩:=bo h1;obtain⟨Z,J,O⟩:=y5 h2;have c1:=vF I;obtain⟨d1,Y,A,d4⟩:=dR (IP f) (by omega) U;refine⟨by omega,?_,?_⟩
  ·rw[Ex.az];simp only[D.bZ,D.bw,Ex.k,Ex.n,Ex.s,Ex.l];omega
  rw[Ex.fe];exact⟨V,by simp only[Ex.k];omega,J,O,by simp only[Ex.s];omega,by simp only[Ex.l];omega,A⟩
def vB:∀f,XZ 61 St.ar St.ok (GW f)
 |0=>fun s v r _ h=>by cases h
 |f+1=>fun s v r hs h=>by
  obtain⟨op,s1,h1,h⟩:=Pa.bN h;obtain⟨nm,s2,h2,h⟩:=Pa.bN h;obtain⟨sc,s3,h3,h⟩:=Pa.bN h;obtain⟨ab,s4,U,h⟩:=Pa.bN h;obtain⟨wh,s5,Z,h⟩:=Pa.bN h;obtain⟨a,s6,h6,h⟩:=Pa.bN h;obtain⟨b,s7,Y,h⟩:=Pa.bN h;obtain⟨th,s8,h8,h⟩:=Pa.bN h;obtain⟨el,s9,h9,h⟩:=Pa.bN h;obtain⟨co,a6,A,h⟩:=Pa.bN h;obtain⟨wi,a7,I,h⟩:=Pa.bN h;obtain⟨rfl,rfl⟩:=am7 (amK h);obtain⟨a1,a2,a3⟩:=bo h1;have b1:=vF h2;have c1:=vF h3;obtain⟨d1,J,d3⟩:=bo U;obtain⟨e1,e2,e3⟩:=bo Z;obtain⟨f1,f2,f3⟩:=IP f _ _ _ (by omega) h6;obtain⟨g1,g2,g3⟩:=IP f _ _ _ (by omega) Y;obtain⟨i1,i2,i3,i4⟩:=dR (vB f) (by omega) h8;obtain⟨j1,j2,O,j4⟩:=dR (vB f) (by omega) h9;obtain⟨k1,k2,V,k4⟩:=dR (vB f) (by omega) A;obtain⟨l1,l2,l3,l4⟩:=dR QN (by omega) I;refine⟨by omega,?_,?_⟩
  ·rw[St.az];simp only[D.bZ,D.bw,St.op,St.nm,St.sc,St.ab,St.wh,St.a,St.b,St.th,St.el,St.co,St.wi,zi];omega
  rw[St.fe];simp only[St.op,St.nm,St.sc,St.ab,St.wh,St.a,St.b,St.th,St.el,St.co,St.wi];exact⟨a2,by omega,by omega,by omega,J,by omega,e2,by omega,f3,g3,by omega,i3,by omega,O,by omega,V,by omega,l3⟩
def XK {e:Nat->Pa aA}(hp:∀m,XZ 1 aA.ar aA.ok (e m)):∀(n m:Nat) (s:cg) (l:List aA) (r:cg),s.length<2^62->q6 e n m s=some (l,r)->l.length=n/\r.length<=s.length/\D.bw (l.map aA.ar)+8*r.length<=8*s.length/\∀v∈l,v.ok
 |0,m,s,l,r,_,h=>by obtain⟨rfl,rfl⟩:=am7 (amK h);exact⟨rfl,by simp,by simp[D.bw],by simp⟩
 |n+1,m,s,l,r,hs,h=>by
  obtain⟨a,t,h1,h2⟩:=Pa.bN h;obtain⟨k,u,A,J⟩:=Pa.bN h2;obtain⟨rfl,rfl⟩:=am7 (amK J);obtain⟨Y,Z,a3⟩:=hp m _ _ _ hs h1;obtain⟨O,U,V,I⟩:=XK hp n _ t k u (by omega) A;refine⟨by simp[O],by omega,by simp only[anb,D.bw];omega,?_⟩;intro v hv;rcases amz.1 hv with rfl|hv
  ·exact a3
  exact I v hv
def zI {d A:Nat}{s r:cg}{v:aA}(h:ja d A s=some (v,r)):∃k s1,cT 1 s=some (k,s1)/\A≠0/\
 (k=0/\v= .mk 0 0 [] [] 0/\r=s1\/k=1/\(∃n,Ai s1=some (n,r)/\v= .mk 1 n [] [] 0)\/k=2/\(∃n s2 t,cT 2 s1=some (n,s2)/\n<=256/\px n s2=some (t,r)/\v= .mk 2 0 t [] 0)\/
   k=3/\(∃n s2 d' l,cT 2 s1=some (n,s2)/\d=d'+1/\n<A/\q6 (ja d') n.toNat (A-1) s2=some (l,r)/\v= .mk 3 0 [] l 0)\/k=4/\∃n,cT 4 s1=some (n,r)/\n≠0/\v= .mk 4 0 [] [] n):=by
 unfold ja at h
 split at h
 ·cases h
 rename_i J
 obtain⟨k,s1,h1,h⟩:=Pa.bN h;refine⟨k,s1,h1,J,?_⟩
 split at h
 ·obtain⟨rfl,rfl⟩:=am7 (amK h);exact .inl ⟨by assumption,rfl,rfl⟩
 split at h
 ·obtain⟨n,s2,h2,h⟩:=Pa.bN h;obtain⟨rfl,rfl⟩:=am7 (amK h);exact .inr (.inl ⟨by assumption,n,h2,rfl⟩)
 split at h
 ·obtain⟨n,s2,h2,h⟩:=Pa.bN h
  split at h
  ·obtain⟨t,O,I,h⟩:=Pa.bN h;obtain⟨rfl,rfl⟩:=am7 (amK h);exact .inr (.inr (.inl ⟨by assumption,n,s2,t,h2,by assumption,I,rfl⟩))
  cases h
 split at h
 ·obtain⟨n,s2,h2,h⟩:=Pa.bN h
  split at h
  ·cases h
  split at h
  ·obtain⟨l,O,I,h⟩:=Pa.bN h;obtain⟨rfl,rfl⟩:=am7 (amK h);exact .inr (.inr (.inr (.inl ⟨by assumption,n,s2,_,l,h2,rfl,by assumption,I,rfl⟩)))
  cases h
 split at h
 ·obtain⟨n,s2,h2,h⟩:=Pa.bN h
  split at h
  ·cases h
  obtain⟨rfl,rfl⟩:=am7 (amK h);exact .inr (.inr (.inr (.inr ⟨by assumption,n,h2,by assumption,rfl⟩)))
 cases h
def Ea:∀d A,XZ 1 aA.ar aA.ok (ja d A):=by
 intro d
 induction d with
 |zero=>
  intro A s v r hs h;obtain⟨k,s1,h1,-,⟨-,rfl,rfl⟩| ⟨-,n,h2,rfl⟩| ⟨-,n,s2,t,h2,J,V,rfl⟩| ⟨-,n,s2,d',l,-,J,-⟩| ⟨-,n,h2,J,rfl⟩⟩:=zI h
  all_goals obtain⟨a1,a2,a3⟩:=bo h1
  ·refine⟨by omega,by simp only[aA.ar,aA.yH,D.bZ,D.bw,amM];omega,by rw[aA.fe];simp[aA.k,aA.n,aA.s,aA.l,aA.r]⟩
  ·obtain⟨I,U,O⟩:=y5 h2;refine⟨by omega,by simp only[aA.ar,aA.yH,D.bZ,D.bw,amM];omega,by rw[aA.fe];simp[aA.k,aA.n,aA.s,aA.l,aA.r];omega⟩
  ·obtain⟨I,U,O⟩:=bo h2;obtain⟨c1,rfl,Y⟩:=vE V;simp only[ams]at I;refine⟨by omega,by simp only[aA.ar,aA.yH,D.bZ,D.bw,amM];omega,by rw[aA.fe];simp[aA.k,aA.n,aA.s,aA.l,aA.r];omega⟩
  ·cases J
  obtain⟨I,U,O⟩:=bo h2;refine⟨by omega,by simp only[aA.ar,aA.yH,D.bZ,D.bw,amM];omega,by rw[aA.fe];simp[aA.k,aA.n,aA.s,aA.l,aA.r];omega⟩
 |succ d ih=>
  intro A s v r hs h;obtain⟨k,s1,h1,-,⟨-,rfl,rfl⟩| ⟨-,n,h2,rfl⟩| ⟨-,n,s2,t,h2,J,V,rfl⟩| ⟨-,n,s2,d',l,h2,J,V,Z,rfl⟩| ⟨-,n,h2,J,rfl⟩⟩:=zI h
  all_goals obtain⟨a1,a2,a3⟩:=bo h1
  ·refine⟨by omega,by simp only[aA.ar,aA.yH,D.bZ,D.bw,amM];omega,by rw[aA.fe];simp[aA.k,aA.n,aA.s,aA.l,aA.r]⟩
  ·obtain⟨I,U,O⟩:=y5 h2;refine⟨by omega,by simp only[aA.ar,aA.yH,D.bZ,D.bw,amM];omega,by rw[aA.fe];simp[aA.k,aA.n,aA.s,aA.l,aA.r];omega⟩
  ·obtain⟨I,U,O⟩:=bo h2;obtain⟨c1,rfl,Y⟩:=vE V;simp only[ams]at I;refine⟨by omega,by simp only[aA.ar,aA.yH,D.bZ,D.bw,amM];omega,by rw[aA.fe];simp[aA.k,aA.n,aA.s,aA.l,aA.r];omega⟩
  ·obtain⟨I,U,O⟩:=bo h2
   cases J
   obtain⟨c0,c1,c2,Y⟩:=XK ih _ _ _ _ _ (by omega) Z;refine⟨by omega,?_,?_⟩
   ·rw[aA.az];simp only[aA.k,aA.n,aA.s,aA.l,aA.r,D.bZ,D.bw,amM];omega
   rw[aA.fe];simp only[aA.k,aA.n,aA.s,aA.l,aA.r];exact⟨by decide,by decide,by decide,by decide,by decide,by omega,by decide,by decide,Y⟩
  obtain⟨I,U,O⟩:=bo h2;refine⟨by omega,by simp only[aA.ar,aA.yH,D.bZ,D.bw,amM];omega,by rw[aA.fe];simp[aA.k,aA.n,aA.s,aA.l,aA.r];omega⟩
def abx {e:Nat->Pa aA}(hp:∀m s v r,e m s=some (v,r)->r.length<=s.length):∀(n m:Nat) (s:cg) (l:List aA) (r:cg),q6 e n m s=some (l,r)->r.length<=s.length
 |0,m,s,l,r,h=>by obtain⟨rfl,rfl⟩:=am7 (amK h);exact amG _
 |n+1,m,s,l,r,h=>by obtain⟨a,t,h1,h2⟩:=Pa.bN h;obtain⟨k,u,A,I⟩:=Pa.bN h2;obtain⟨rfl,rfl⟩:=am7 (amK I);exact am8 (abx hp n _ t k u A) (hp m _ _ _ h1)
def aad:∀{d A:Nat} {s r:cg} {v:aA},ja d A s=some (v,r)->r.length<=s.length:=by
 intro d
 induction d with
 |zero=>
  intro A s r v h;obtain⟨k,s1,h1,-,⟨-,-,rfl⟩| ⟨-,n,h2,-⟩| ⟨-,n,s2,t,h2,I,J,-⟩| ⟨-,n,s2,d',l,-,I,-⟩| ⟨-,n,h2,-⟩⟩:=zI h
  all_goals have O:=(bo h1).1
  ·omega
  ·have:=(y5 h2).1;omega
  ·have:=(bo h2).1;obtain⟨-,rfl,-⟩:=vE J;simp only[ams]at*;omega
  ·cases I
  have:=(bo h2).1;omega
 |succ d U=>
  intro A s r v h;obtain⟨k,s1,h1,-,⟨-,-,rfl⟩| ⟨-,n,h2,-⟩| ⟨-,n,s2,t,h2,I,J,-⟩| ⟨-,n,s2,d',l,h2,I,-,V,-⟩| ⟨-,n,h2,-⟩⟩:=zI h
  all_goals have O:=(bo h1).1
  ·omega
  ·have:=(y5 h2).1;omega
  ·have:=(bo h2).1;obtain⟨-,rfl,-⟩:=vE J;simp only[ams]at*;omega
  ·cases I
   have:=(bo h2).1;have:=abx (fun m s v r h=>U h) _ _ _ _ _ V;omega
  have:=(bo h2).1;omega
def S0 {e:Nat->Pa aA}(hp:∀m s v r,e m s=some (v,r)->v.size<=m):∀(n m:Nat) (s:cg) (l:List aA) (r:cg),q6 e n m s=some (l,r)->aA.bA l<=m
 |0,m,s,l,r,h=>by obtain⟨rfl,rfl⟩:=am7 (amK h);exact anX _
 |n+1,m,s,l,r,h=>by obtain⟨a,t,h1,h2⟩:=Pa.bN h;obtain⟨k,u,A,I⟩:=Pa.bN h2;obtain⟨rfl,rfl⟩:=am7 (amK I);have:=hp m _ _ _ h1;have:=S0 hp n _ t k u A;simp only[aA.bA];omega
def XJ:∀{d A:Nat} {s r:cg} {v:aA},ja d A s=some (v,r)->v.size<=A:=by
 intro d
 induction d with
 |zero=>
  intro A s r v h;obtain⟨k,s1,h1,h0,⟨-,rfl,rfl⟩| ⟨-,n,h2,rfl⟩| ⟨-,n,s2,t,h2,I,J,rfl⟩| ⟨-,n,s2,d',l,-,I,-⟩| ⟨-,n,h2,-,rfl⟩⟩:=zI h
  all_goals first|cases I| (simp only[aA.size,aA.bA];omega)
 |succ d O=>
  intro A s r v h;obtain⟨k,s1,h1,h0,⟨-,rfl,rfl⟩| ⟨-,n,h2,rfl⟩| ⟨-,n,s2,t,h2,I,J,rfl⟩| ⟨-,n,s2,d',l,h2,I,J,U,rfl⟩| ⟨-,n,h2,-,rfl⟩⟩:=zI h
  rotate_left 3
  ·cases I
   have:=S0 (fun m s v r h=>O h) _ _ _ _ _ U;simp only[aA.size];omega
  all_goals (simp only[aA.size,aA.bA];omega)
def Kb:XZ 5 fx.ar fx.ok Wn:=fun s v r hs h=>by
 obtain⟨t,s1,h1,h⟩:=Pa.bN h;obtain⟨x,s2,h2,h⟩:=Pa.bN h;obtain⟨rfl,rfl⟩:=am7 (amK h);have J:=vF h1;obtain⟨I,O,A⟩:=Ea _ _ _ _ _ (by omega) h2;exact⟨by omega,by rw[fx.az];simp only[D.bZ,D.bw];omega,show t.length<_ by omega,A⟩
def abA {s r:cg}{b:Bool}(h:Wq s=some (b,r)):r.length+1=s.length:=by
 obtain⟨n,s1,h1,h⟩:=Pa.bN h;have:=(bo h1).1
 split at h
 ·obtain⟨rfl,rfl⟩:=am7 (amK h);exact this
 cases h
def Wh.Rb:D.bZ (aA.ar (.mk 0 0 [] [] 0))=6:=by decide
def aA.ok0:(aA.mk 0 0 [] [] 0).ok:=by rw[aA.fe];simp[aA.k,aA.n,aA.s,aA.l,aA.r]
def akk (f:Nat)(k:Int)(hk:0<=k/\k<256):∀s v r,s.length<2^62->Qb f k s=some (v,r)->r.length+4<=s.length/\D.bZ v.ar+8*r.length<=8*s.length+20/\v.ok:=by
 intro s v r hs h;have O:∀(w:Wh),w.k=k->(-2^63<=w.h/\w.h<2^63)->w.v.ok->(w.vs.length<2^63/\(∀x∈w.vs,x.ok))->(-2^63<=w.n/\w.n<2^63)->(-2^63<=w.lo/\w.lo<2^63)->(-2^63<=w.of/\w.of<2^63)->(-2^63<=w.tD/\w.tD<2^63)->(0<=w.set/\w.set<256)->
  (w.co.length<2^63/\(∀x∈w.co,x.ok))->(w.ns.length<2^63/\(∀x∈w.ns,x.ok))->w.ok:=by
  intro w e a b c d e' f' g h i j;exact⟨by omega,by omega,a.1,a.2,b,c.1,c.2,d.1,d.2,e'.1,e'.2,f'.1,f'.2,g.1,g.2,h.1,h.2,i.1,i.2,j.1,j.2⟩
 have z63:(-2^63:Int)<=0/\(0:Int)<2^63:=by decide
 have B3:([]:List aA).length<2^63/\(∀x∈([]:List aA),x.ok):=by simp
 have J:([]:List St).length<2^63/\(∀x∈([]:List St),x.ok):=by simp
 have I:([]:List fx).length<2^63/\(∀x∈([]:List fx),x.ok):=by simp
 have A:(0:Int)<=0/\(0:Int)<256:=by decide
 have aS:∀w:Wh,D.bZ w.ar=12+D.bZ w.v.ar+D.bw (w.vs.map aA.ar)+D.bw (w.co.map St.ar)+D.bw (w.ns.map fx.ar):=by intro w;rw[Wh.az];simp only[D.bZ,D.bw];omega
 by_cases e0:k=14
 ·rw[Qb,amu e0]at h;obtain⟨o,s1,h1,h⟩:=Pa.bN h;obtain⟨t,s2,h2,h⟩:=Pa.bN h;obtain⟨rfl,rfl⟩:=am7 (amK h);obtain⟨a1,a2,a3⟩:=bo h1;obtain⟨b1,Z,U⟩:=bo h2;refine⟨by omega,by rw[aS];simp only[Wh.pw,Wh.Rb,ank,D.bw];omega,O _ rfl z63 aA.ok0 B3 z63 z63 ⟨by show _<=o;omega,by show o<_;omega⟩ z63 ⟨Z,by show t<_;omega⟩ J I⟩
 rw[Qb,amt e0]at h
 by_cases e1:1<=k/\k<=16
 ·rw[amu e1]at h;obtain⟨hm,s1,h1,h⟩:=Pa.bN h;obtain⟨a1,a2,a3⟩:=bo h1;have Y:(-2^63:Int)<=hm/\hm<2^63:=by omega
  by_cases e2:k=1
  ·rw[amu e2]at h;obtain⟨x,s2,h2,h⟩:=Pa.bN h;obtain⟨rfl,rfl⟩:=am7 (amK h);obtain⟨b1,Z,U⟩:=Ea _ _ _ _ _ (by omega) h2;exact⟨by omega,by rw[aS];simp only[Wh.pw,ank,D.bw];omega,O _ rfl Y U B3 z63 z63 z63 z63 A J I⟩
  rw[amt e2]at h
  by_cases e3:k=2\/k=4
  ·rw[amu e3]at h;obtain⟨x,s2,h2,h⟩:=Pa.bN h;obtain⟨rfl,rfl⟩:=am7 (amK h);obtain⟨b1,Z,U,b4⟩:=dR (Ea _ _) (by omega) h2;exact⟨by omega,by rw[aS];simp only[Wh.pw,Wh.Rb,ank,D.bw];omega,O _ rfl Y aA.ok0 ⟨by show x.length<_;omega,U⟩ z63 z63 z63 z63 A J I⟩
  rw[amt e3]at h
  by_cases e4:k=3
  ·rw[amu e4]at h;obtain⟨x,s2,h2,h⟩:=Pa.bN h;obtain⟨rfl,rfl⟩:=am7 (amK h);obtain⟨b1,Z,U⟩:=y5 h2;exact⟨by omega,by rw[aS];simp only[Wh.pw,Wh.Rb,ank,D.bw];omega,O _ rfl Y aA.ok0 B3 ⟨Z,U⟩ z63 z63 z63 A J I⟩
  rw[amt e4]at h
  by_cases e5:k=5
  ·rw[amu e5]at h;obtain⟨rfl,rfl⟩:=am7 (amK h);exact⟨by omega,by rw[aS];simp only[Wh.pw,Wh.Rb,ank,D.bw];omega,O _ rfl Y aA.ok0 B3 z63 z63 z63 z63 A J I⟩
  rw[amt e5]at h
  by_cases e6:k=6\/k=11
  ·rw[amu e6]at h;obtain⟨o,s2,h2,h⟩:=Pa.bN h;obtain⟨rfl,rfl⟩:=am7 (amK h);obtain⟨b1,Z,U⟩:=bo h2;exact⟨by omega,by rw[aS];simp only[Wh.pw,Wh.Rb,ank,D.bw];omega,O _ rfl Y aA.ok0 B3 z63 z63 ⟨by show _<=o;omega,by show o<_;omega⟩ z63 A J I⟩
  rw[amt e6]at h
  by_cases e7:k=7
  ·rw[amu e7]at h;obtain⟨o,s2,h2,h⟩:=Pa.bN h;obtain⟨x,s3,V,h⟩:=Pa.bN h;obtain⟨rfl,rfl⟩:=am7 (amK h);obtain⟨b1,Z,U⟩:=bo h2;obtain⟨c1,c2,c3⟩:=Ea _ _ _ _ _ (by omega) V;exact⟨by omega,by rw[aS];simp only[Wh.pw,ank,D.bw];omega,O _ rfl Y c3 B3 z63 z63 ⟨by show _<=o;omega,by show o<_;omega⟩ z63 A J I⟩
  rw[amt e7]at h
  by_cases e8:k=8
  ·rw[amu e8]at h;obtain⟨x,s2,h2,h⟩:=Pa.bN h;obtain⟨y,s3,V,h⟩:=Pa.bN h;obtain⟨rfl,rfl⟩:=am7 (amK h);obtain⟨b1,Z,U⟩:=y5 h2;obtain⟨c1,c2,c3⟩:=y5 V;exact⟨by omega,by rw[aS];simp only[Wh.pw,Wh.Rb,ank,D.bw];omega,O _ rfl Y aA.ok0 B3 ⟨Z,U⟩ ⟨c2,c3⟩ z63 z63 A J I⟩
  rw[amt e8]at h
  by_cases e9:k=9
  ·rw[amu e9]at h;obtain⟨o,s2,h2,h⟩:=Pa.bN h;obtain⟨x,s3,V,h⟩:=Pa.bN h;obtain⟨rfl,rfl⟩:=am7 (amK h);obtain⟨b1,Z,U⟩:=bo h2;obtain⟨c1,c2,c3⟩:=y5 V;exact⟨by omega,by rw[aS];simp only[Wh.pw,Wh.Rb,ank,D.bw];omega,O _ rfl Y aA.ok0 B3 ⟨c2,c3⟩ z63 ⟨by show _<=o;omega,by show o<_;omega⟩ z63 A J I⟩
  rw[amt e9]at h
  by_cases a7:k=10
  ·rw[amu a7]at h;obtain⟨o,s2,h2,h⟩:=Pa.bN h;obtain⟨x,s3,V,h⟩:=Pa.bN h;obtain⟨rfl,rfl⟩:=am7 (amK h);have b1:=abA h2;obtain⟨c1,c2,c3⟩:=Ea _ _ _ _ _ (by omega) V;exact⟨by omega,by rw[aS];simp only[Wh.pw,ank,D.bw];omega,O _ rfl Y c3 B3 z63 z63 z63 z63 A J I⟩
  rw[amt a7]at h
  by_cases a6:k=12
  ·rw[amu a6]at h;obtain⟨x,s2,h2,h⟩:=Pa.bN h;obtain⟨y,s3,V,h⟩:=Pa.bN h;obtain⟨rfl,rfl⟩:=am7 (amK h);obtain⟨b1,Z,U,b4⟩:=dR (vB f) (by omega) h2;obtain⟨c1,c2,c3,c4⟩:=dR Kb (by omega) V;exact⟨by omega,by rw[aS];simp only[Wh.pw,Wh.Rb,ank,D.bw];omega,O _ rfl Y aA.ok0 B3 z63 z63 z63 z63 A ⟨by show x.length<_;omega,U⟩ ⟨by show y.length<_;omega,c3⟩⟩
  rw[amt a6]at h
  by_cases a8:k=13
  ·rw[amu a8]at h;obtain⟨x,s2,h2,h⟩:=Pa.bN h;obtain⟨o,s3,V,h⟩:=Pa.bN h;obtain⟨rfl,rfl⟩:=am7 (amK h);have b1:=abA h2;obtain⟨c1,c2,c3⟩:=bo V;exact⟨by omega,by rw[aS];simp only[Wh.pw,Wh.Rb,ank,D.bw];omega,O _ rfl Y aA.ok0 B3 z63 z63 ⟨by show _<=o;omega,by show o<_;omega⟩ z63 A J I⟩
  rw[amt a8]at h
  ·obtain⟨o,s2,h2,h⟩:=Pa.bN h;obtain⟨b,s3,V,h⟩:=Pa.bN h;obtain⟨rfl,rfl⟩:=am7 (amK h);obtain⟨b1,Z,U⟩:=bo h2;obtain⟨c1,c2,c3⟩:=bo V;exact⟨by omega,by rw[aS];simp only[Wh.pw,Wh.Rb,ank,D.bw];omega,O _ rfl Y aA.ok0 B3 z63 z63 ⟨by show _<=o;omega,by show o<_;omega⟩ ⟨by show _<=b;omega,by show b<_;omega⟩ A J I⟩
 rw[amt e1]at h;cases h
def Yr (f:Nat):XZ 5 En.ar En.ok (pEn f):=fun s v r hs h=>by
 obtain⟨n,s1,h1,h⟩:=Pa.bN h;obtain⟨k,s2,h2,h⟩:=Pa.bN h;obtain⟨w,Y,I,h⟩:=Pa.bN h;obtain⟨rfl,rfl⟩:=am7 (amK h);obtain⟨Z,a2,a3⟩:=bo h1;obtain⟨U,J,V⟩:=bo h2;obtain⟨c1,O,A⟩:=akk f k ⟨J,by omega⟩ _ _ _ (by omega) I;exact⟨by omega,by rw[En.az];simp only[D.bZ,D.bw];omega,by show _<=n;omega,by show n<_;omega,A⟩
def U0 (f:Nat):XZ 20 Wl.ar Wl.ok (Lo f):=fun s v r hs h=>by
 obtain⟨p,s1,h1,h⟩:=Pa.bN h;obtain⟨c,s2,h2,h⟩:=Pa.bN h;obtain⟨l,s3,V,h⟩:=Pa.bN h;obtain⟨m,s4,O,h⟩:=Pa.bN h;obtain⟨t,s5,U,h⟩:=Pa.bN h;obtain⟨rfl,rfl⟩:=am7 (amK h);obtain⟨a1,a2,a3,a4⟩:=dR qf (by omega) h1;obtain⟨b1,b2,J,b4⟩:=dR qf (by omega) h2;obtain⟨c1,c2,c3⟩:=bo V;obtain⟨d1,d2,I,d4⟩:=dR qf (by omega) O;obtain⟨e1,e2,Z,e4⟩:=dR (Yr f) (by omega) U;have A:∀{l:List Int},(∀v∈l,0<=v/\v<2^32)->∀x∈l,(-2^63:Int)<=x/\x<2^63:=fun h x Y=>by have:=h x Y;omega
 refine⟨by omega,by rw[Wl.az];simp only[D.bZ,D.bw,aY];omega,?_⟩;exact⟨by show p.length<_;omega,A a3,by show c.length<_;omega,A J,by show t.length<_;omega,Z,by show _<=l;omega,by show l<_;omega,by show m.length<_;omega,A I⟩
def Z8 (f:Nat):XZ 16 Su.ar Su.ok (pSu f):=fun s v r hs h=>by
 obtain⟨n,s1,h1,h⟩:=Pa.bN h;obtain⟨c,s2,h2,h⟩:=Pa.bN h;obtain⟨k,s3,J,h⟩:=Pa.bN h;obtain⟨l,s4,V,h⟩:=Pa.bN h;obtain⟨rfl,rfl⟩:=am7 (amK h);obtain⟨a1,a2,a3⟩:=bo h1;obtain⟨b1,b2,O,b4⟩:=dR (vB f) (by omega) h2;obtain⟨c1,Y,I,c4⟩:=dR Kb (by omega) J;obtain⟨d1,Z,A,d4⟩:=dR qf (by omega) V;refine⟨by omega,by rw[Su.az];simp only[D.bZ,D.bw,aY];omega,?_⟩;exact⟨by show _<=n;omega,by show n<_;omega,by show c.length<_;omega,O,by show k.length<_;omega,I,by show l.length<_;omega,fun x U=>by have:=A x U;omega⟩
end
structure Su.Tb (s:Su):Prop where
 C9:s.vN
 cn:St.dq s.co<2^30
 all:St.dq s.co+St.ml s.co+aA.bA (s.ns.map fx.v)+s.ns.length+1<2^30
def qv {α:Type}(f:α->D)(g:α->Nat)(A:List α->Nat)(h0:A []=0)(h1:∀v r,A (v::r)=g v+A r):∀l:List α,(∀x∈l,g x<=D.bZ (f x))->A l<=D.bw (l.map f)
 | [],_=>by rw[h0];exact anX _
 |v::r,h=>by rw[h1,anb,D.bw];have:=h v (by simp);have:=qv f g A h0 h1 r fun x I=>h x (by simp[I]);omega
def aeh (d:D):1<=D.bZ d:=by cases d<;>simp[D.bZ]
def eF:∀l:List D,l.length<=D.bw l
 | []=>by simp
 |d::r=>by have:=aeh d;have:=eF r;simp only[amB,D.bw];omega
def tg:∀{l:List D} {x:D},x∈l->D.bZ x<=D.bw l
 |d::r,x,h=>by
  rw[D.bw];rcases amz.1 h with rfl|h
  ·omega
  have:=tg h;omega
def aA.bZ:∀v:aA,v.size<=D.bZ v.ar:=by
 refine aA.ind fun v A=>?_;have:=qv aA.ar aA.size aA.bA rfl (fun _ _=>rfl) v.l A;have e:v.size=1+aA.bA v.l:=by cases v;rfl
 rw[e,aA.az];simp only[D.bZ,D.bw];omega
def Ex.bZ:∀v:Ex,v.size<=D.bZ v.ar:=by
 refine Ex.ind fun v A=>?_;have:=qv Ex.ar Ex.size Ex.bA rfl (fun _ _=>rfl) v.l A;have e:v.size=1+Ex.bA v.l:=by cases v;rfl
 rw[e,Ex.az];simp only[D.bZ,D.bw];omega
def St.bZ:∀v:St,v.cnt+v.esz<=D.bZ v.ar:=by
 refine St.ind fun v A O I=>?_;have U:=v.a.bZ;have hb:=v.b.bZ;have h1:=qv St.ar (fun v=>v.cnt+v.esz) (fun l=>St.dq l+St.ml l) rfl (fun v r=>by simp only[St.dq,St.ml];omega) v.th A;have h2:=qv St.ar (fun v=>v.cnt+v.esz) (fun l=>St.dq l+St.ml l) rfl (fun v r=>by simp only[St.dq,St.ml];omega) v.el O;have V:=qv St.ar (fun v=>v.cnt+v.esz) (fun l=>St.dq l+St.ml l) rfl (fun v r=>by simp only[St.dq,St.ml];omega) v.co I;have J:=eF (zi v.wi);rw[amm]at J;rw[St.Fl,St.x7,St.az];simp only[D.bZ,D.bw];omega
def K6 (l:List St):St.dq l+St.ml l<=D.bw (l.map St.ar):=
 qv St.ar (fun v=>v.cnt+v.esz) (fun l=>St.dq l+St.ml l) rfl (fun v r=>by simp only[St.dq,St.ml];omega) l fun x _=>x.bZ
def adI (l:List aA):aA.bA l<=D.bw (l.map aA.ar):=qv aA.ar aA.size aA.bA rfl (fun _ _=>rfl) l fun x _=>x.bZ
def SE (l:List fx):aA.bA (l.map fx.v)+l.length<=D.bw (l.map fx.ar):=
 qv fx.ar (fun n=>n.v.size+1) (fun l=>aA.bA (l.map fx.v)+l.length) rfl (fun v r=>by simp only[anb,aA.bA,amB];omega) l fun x _=>by have:=x.v.bZ;rw[fx.az];simp only[D.bZ,D.bw];omega
def zH (l r:List aA):aA.bA (l++r)=aA.bA l+aA.bA r:=by
 induction l with
 |nil=>simp[aA.bA]
 |cons a l A=>simp only[anM,aA.bA,A];omega
def Wh.bZ (v:Wh):v.sz<=D.bZ v.ar:=by
 have h1:=v.v.bZ;have h2:=adI v.vs;have A:=SE v.ns;have I:=K6 v.co;rw[Wh.az];simp only[Wh.sz,Wh.aN,aA.bA,zH,D.bZ,D.bw];omega
def Wl.C9 {x:Wl}(ho:x.ok)(h:D.bZ x.ar<2^30):x.vN:=by
 rw[Wl.az]at h;simp only[D.bZ,D.bw]at h;have h1:=eF (aY x.pa);have h2:=eF (aY x.cu);have J:=eF (x.th.map En.ar);have I:=eF (aY x.ma);simp only[amm]at h1 h2 J I;refine⟨ho,by omega,by omega,by omega,by omega,fun e he=>?_⟩;have A:=tg (an6 (f:=En.ar) he);have O:=e.w.bZ;rw[En.az]at A;simp only[D.bZ,D.bw]at A;omega
def Su.akP {s:Su}(ho:s.ok)(h:D.bZ s.ar<2^30):s.Tb:=by
 rw[Su.az]at h;simp only[D.bZ,D.bw]at h;have h1:=K6 s.co;have h2:=SE s.ns;have I:=eF (aY s.se);simp only[amm]at I;refine⟨⟨ho,by omega,by omega,by omega,fun n J=>?_,by omega⟩,by omega,by omega⟩;have:∀(l:List fx),n∈l->n.v.size<=aA.bA (l.map fx.v):=fun l hl=>by
  induction l with
  |nil=>cases hl
  |cons a r A=>
   simp only[anb,aA.bA];rcases amz.1 hl with rfl|hl
   ·omega
   have:=A hl;omega
 have:=this s.ns J;omega
def Wl.sO.inv {x:Wl}(h:x.sO)(hs:x.vN):x.Inv where
 par:=by have:=h.par;simp only[qg,amo,aml]at this;exact this.1
 DS:=h.DS
 cut:=h.cut
 Q8:=h.Q8
 th:=hs.th
 RF:=h.RF
 w:=fun e he=>⟨(hs.ok.2.2.2.2.2.1 e he).2.2,hs.sz e he,(h.G6 e he).1.fE⟩
def Wh.EM (c:List St)(l:List fx):Wh:=⟨0,0,.zero,[],0,0,0,0,0,false,c,l⟩
def aiq (x:Wl)(I:x.vN):dZ pg tv [aM] [x.ar] [aj] (fun _=>True):=by
 have Y:=I.th;have loop:∀(rest:List En) (i:Nat),x.th.drop i=rest->aC pg tv [aj] (.cY fun _=>True) (yX x.ar i):=by
  intro rest
  induction rest with
  |nil=>intro i hd;have:=drop_nil hd;refine KO ?_;simp only[rk,Wl.gD,amm,aml,amk];exact⟨fun h=>by omega,fun _=>trivial⟩
  |cons e rest V=>intro i hd;obtain⟨J,U,O⟩:=aF hd;have A:=amn J;refine KO ?_;simp only[rk,Wl.gD,amm,aml,amk,aR O,bC J,En.VD,Wh.re,amq,bL O (show x.th.length<2^63 by omega)];refine⟨fun _=>⟨fun _=>⟨_,_,_,rfl,UC e.w (I.ok.2.2.2.2.2.1 e A).2.2 (I.sz e A),?_⟩,fun h=>by cases h⟩,fun h=>by omega⟩;rintro _ rfl;exact⟨fun _=>trivial,fun _=>V (i+1) U⟩
 refine ac7 ?_;simp only[rk];exact⟨fun _=>trivial,fun _=>⟨fun _=>trivial,fun _=>⟨fun _=>trivial,fun _=>⟨fun _=>trivial,fun _=>loop x.th 0 rfl⟩⟩⟩⟩
def aeX (l:List Su)(hl:l.length<2^30)(hs:∀s∈l,s.Tb):dZ pg pU [br] [.r (l.map Su.ar)] [aj] (fun _=>True):=by
 have one:∀s∈l,dZ pg j6 [aU] [D.r [D.z 0,D.z 0,D.r [D.z 0,D.z 0,D.s [],D.r [],D.z 0],D.r [],D.z 0,D.z 0,D.z 0,D.z 0,D.z 0,D.b false,D.r (s.co.map St.ar),D.r (s.ns.map fx.ar)]] [aj] (·= .b (Wh.EM s.co s.ns).xB):=by
  intro s h;have hf:=hs s h;have A:=hf.C9.ok;have d0:=hf.all;have e0:(D.r [D.z 0,D.z 0,D.r [D.z 0,D.z 0,D.s [],D.r [],D.z 0],D.r [],D.z 0,D.z 0,D.z 0,D.z 0,D.z 0,D.b false,D.r (s.co.map St.ar),D.r (s.ns.map fx.ar)])=(Wh.EM s.co s.ns).ar:=rfl;rw[e0];refine UC _ ?_ ?_
  ·obtain⟨a1,a2,a3,a4,a5,a6,a7,a8,a9,V,Y,b4,b6,J,Z,U,b1,d1,d2,_,_⟩:=Wh.vH;exact⟨a1,a2,a3,a4,a5,a6,a7,a8,a9,V,Y,b4,b6,J,Z,U,b1,A.2.2.1,A.2.2.2.1,A.2.2.2.2.1,A.2.2.2.2.2.1⟩
  have h0:aA.zero.size=1:=by decide
  have h1:(Wh.EM s.co s.ns).co=s.co:=rfl;have I:(Wh.EM s.co s.ns).aN=aA.zero::s.ns.map fx.v:=by simp[Wh.aN,Wh.EM]
  have h2:aA.bA (Wh.EM s.co s.ns).aN=1+aA.bA (s.ns.map fx.v):=by rw[I,aA.bA,h0]
  simp only[Wh.sz,h1,h2];omega
 have loop:∀(rest:List Su) (i:Nat),l.drop i=rest->aC pg pU [aj] (.cY fun _=>True) (wO (.r (l.map Su.ar)) i):=by
  intro rest
  induction rest with
  |nil=>intro i hd;have:=drop_nil hd;refine HI ?_;simp only[rk,D.aK,amm,aml,amk];exact⟨fun h=>by omega,fun _=>trivial⟩
  |cons s rest ih=>intro i hd;obtain⟨g1,g2,g3⟩:=aF hd;have O:=amn g1;refine HI ?_;simp only[rk,D.aK,amm,aml,amk,aR g3,bC g1,Su.iz,Su.hZ,amq,bL g3 (show l.length<2^63 by omega)];refine⟨fun _=>⟨fun _=>⟨_,_,_,rfl,one s O,?_⟩,fun h=>by cases h⟩,fun h=>by omega⟩;rintro _ rfl;exact⟨fun _=>trivial,fun _=>⟨fun _=>trivial,fun _=>ih (i+1) g2⟩⟩
 refine Y3 ?_;simp only[rk];exact⟨fun _=>trivial,fun _=>loop l 0 rfl⟩
section
def PW (P:Program)(t:TypeId):List TypeId:=match P.underlying t with|some (.struct fs)=>fs.toList.map (·.type)|_=>[]
section
variable {P:Program} {n:Nat} {t:TypeId} {d:D}
def abC (P:Program)(n:Nat):List TypeId->List D->Prop
 | [],l=>l=[]
 |t::A,l=>∃x r,l=x::r/\dX P n t x/\abC P n A r
def abC.of {m:Nat}:∀{fs:List Field} {l:List D},l.length=fs.length->(∀(i:Nat) (f:Field) (x:D),fs[i]?=some f->l[i]?=some x->dX P m f.type x)->abC P m (fs.map (·.type)) l
 | [],[],_,_=>rfl
 | [],_::_,h,_=>by simp at h
 |_::_,[],h,_=>by simp at h
 |f::fs,x::l,h,hi=>⟨x,l,rfl,hi 0 f x rfl rfl,abC.of (by simpa using h) fun i f x a b=>hi (i+1) f x (by simpa using a) (by simpa using b)⟩
def Fk {u:TypeId}{I:List TypeId}(A:PW P t=u::I)(h:dX P n t d):∃m l,n=m+1/\d= .r l/\abC P m (u::I) l:=by
 cases n with
 |zero=>exact h.elim
 |succ m=>
  unfold dX at h;unfold PW at A
  cases hp:P.underlying t with
  |none=>rw[hp]at h;exact h.elim
  |some J=>
   rw[hp]at h A
   cases J<;>try (cases A;done)
   obtain⟨l,h1,h2,O⟩:=h;exact⟨m,l,rfl,h1,A▸abC.of h2 O⟩
def aaK {k:IntKind}(A:P.underlying t=some (.int k))(h:dX P n t d):∃a,d= .z a/\k.min<=a/\a<=k.max:=by
 cases n with
 |zero=>exact h.elim
 |succ m=>unfold dX at h;rw[A]at h;exact h
def nC (A:P.underlying t=some (.int .i64))(h:dX P n t d):∃a,d= .z a/\-2^63<=a/\a<2^63:=by
 obtain⟨a,h1,h2,J⟩:=aaK A h;have O:IntKind.min .i64=-2^63:=by decide
 have I:IntKind.max .i64=2^63-1:=by decide
 exact⟨a,h1,by omega,by omega⟩
def IH (A:P.underlying t=some (.int .u8))(h:dX P n t d):∃a,d= .z a/\0<=a/\a<256:=by
 obtain⟨a,h1,h2,J⟩:=aaK A h;have O:IntKind.min .u8=0:=by decide
 have I:IntKind.max .u8=255:=by decide
 exact⟨a,h1,by omega,by omega⟩
def aeo (A:P.underlying t=some .bool)(h:dX P n t d):∃a,d= .b a:=by
 cases n with
 |zero=>exact h.elim
 |succ m=>unfold dX at h;rw[A]at h;exact h
def Gz (A:P.underlying t=some .string)(h:dX P n t d):∃a,d= .s a/\a.length<2^63:=by
 cases n with
 |zero=>exact h.elim
 |succ m=>unfold dX at h;rw[A]at h;exact h
def ij {e:TypeId}{α:Type}{f:α->D}{Q:α->Prop}(A:P.underlying t=some (.slice e))(h:dX P n t d)(hf:∀m,m<n->∀x,dX P m e x->∃v,x=f v/\Q v):∃l:List α,d= .r (l.map f)/\l.length<2^63/\∀v∈l,Q v:=by
 cases n with
 |zero=>exact h.elim
 |succ m=>
  unfold dX at h;rw[A]at h;obtain⟨l,rfl,h1,h2⟩:=h;have key:∀l:List D,(∀x∈l,dX P m e x)->∃k:List α,l=k.map f/\∀v∈k,Q v:=by
   intro l
   induction l with
   |nil=>intro _;exact⟨[],rfl,fun _ h=>by cases h⟩
   |cons a r V=>
    intro h;obtain⟨v,O,Z⟩:=hf m (by omega) a (h a (by simp));obtain⟨k,U,Y⟩:=V fun x I=>h x (by simp[I]);refine⟨v::k,by simp[O,U],fun y hy=>?_⟩;rcases amz.1 hy with rfl|hy
    ·exact Z
    exact Y y hy
  obtain⟨k,rfl,J⟩:=key l h2;exact⟨k,rfl,by simpa using h1,J⟩
end
def f1:PW pg ak=[Jc,QO,aq,dn,bW]:=by kernel_rfl
def f2:PW pg dG=[aq,ak]:=by kernel_rfl
def f3:PW pg aI=[Mz,QO,aq,D7]:=by kernel_rfl
def f4:PW pg aJ=[tOp,aq,aq,ot,vT,aI,aI,aQ,aQ,aQ,fY]:=by kernel_rfl
def f5:PW pg aU=[vT,cq,ak,dn,QO,QO,bW,bW,ot,aj,aQ,fw]:=by kernel_rfl
def f6:PW pg bF=[bW,aU]:=by kernel_rfl
def f7:PW pg aM=[kG,jW,zl,bW,jW]:=by kernel_rfl
def f8:PW pg aV=[cq,aQ,fw,dH]:=by kernel_rfl
def uS:pg.underlying cq=some (.int .i64):=by kernel_rfl
def uR:pg.underlying bW=some (.int .i64):=by kernel_rfl
def uI:pg.underlying QO=some (.int .i64):=by kernel_rfl
def uI1:pg.underlying ah=some (.int .i64):=by kernel_rfl
def uK:pg.underlying vT=some (.int .u8):=by kernel_rfl
def uA:pg.underlying ot=some (.int .u8):=by kernel_rfl
def uO:pg.underlying tOp=some (.int .u8):=by kernel_rfl
def uV:pg.underlying Jc=some (.int .u8):=by kernel_rfl
def uE:pg.underlying Mz=some (.int .u8):=by kernel_rfl
def uB:pg.underlying aj=some .bool:=by kernel_rfl
def uT:pg.underlying aq=some .string:=by kernel_rfl
def lV:pg.underlying dn=some (.slice ak):=by kernel_rfl
def lE:pg.underlying D7=some (.slice aI):=by kernel_rfl
def lS:pg.underlying aQ=some (.slice aJ):=by kernel_rfl
def lT:pg.underlying fY=some (.slice aq):=by kernel_rfl
def lN:pg.underlying fw=some (.slice dG):=by kernel_rfl
def lY:pg.underlying zl=some (.slice bF):=by kernel_rfl
def lR:pg.underlying dH=some (.slice bW):=by kernel_rfl
def lD:pg.underlying kG=some (.slice cq):=by kernel_rfl
def lI:pg.underlying jW=some (.slice ah):=by kernel_rfl
def lU:pg.underlying br=some (.slice aV):=by kernel_rfl
def aae:∀n d,dX pg n ak d->∃v:aA,d=v.ar/\v.ok:=by
 intro n
 induction n using Nat.strongRecOn with|ind n ih=>
 intro d h;obtain⟨m,_,rfl,rfl,a0,_,rfl,J,a1,_,rfl,O,a2,_,rfl,H2,a3,_,rfl,Z,a4,_,rfl,H4,rfl⟩:=Fk f1 h;obtain⟨k,rfl,A,k2⟩:=IH uV J;obtain⟨b,rfl,I,V⟩:=nC uI O;obtain⟨s,rfl,s1⟩:=Gz uT H2;obtain⟨l,rfl,l1,l2⟩:=ij (f:=aA.ar) (Q:=aA.ok) lV Z fun j hj x Y=>ih j (by omega) x Y;obtain⟨r,rfl,U,r2⟩:=nC uR H4;exact⟨.mk k b s l r,by rw[aA.az];rfl,(aA.fe _).2 ⟨A,k2,I,V,s1,l1,U,r2,l2⟩⟩
def aiZ:∀n d,dX pg n aI d->∃v:Ex,d=v.ar/\v.ok:=by
 intro n
 induction n using Nat.strongRecOn with|ind n ih=>
 intro d h;obtain⟨m,_,rfl,rfl,a0,_,rfl,J,a1,_,rfl,O,a2,_,rfl,Z,a3,_,rfl,Y,rfl⟩:=Fk f3 h;obtain⟨k,rfl,A,k2⟩:=IH uE J;obtain⟨b,rfl,I,U⟩:=nC uI O;obtain⟨s,rfl,s1⟩:=Gz uT Z;obtain⟨l,rfl,l1,l2⟩:=ij (f:=Ex.ar) (Q:=Ex.ok) lE Y fun j hj x V=>ih j (by omega) x V;exact⟨.mk k b s l,by rw[Ex.az];rfl,(Ex.fe _).2 ⟨A,k2,I,U,s1,l1,l2⟩⟩
def agF:∀n d,dX pg n aJ d->∃v:St,d=v.ar/\v.ok:=by
 intro n
 induction n using Nat.strongRecOn with|ind n J=>
 intro d h;obtain⟨m,_,rfl,rfl,a0,_,rfl,H0,U,_,rfl,H1,a2,_,rfl,H2,a3,_,rfl,H3,a4,_,rfl,H4,a5,_,rfl,H5,a6,_,rfl,V,a7,_,rfl,H7,a8,_,rfl,H8,a9,_,rfl,H9,b4,_,rfl,O,rfl⟩:=Fk f4 h;obtain⟨k,rfl,Y,k2⟩:=IH uO H0;obtain⟨s,rfl,s1⟩:=Gz uT H1;obtain⟨c,rfl,c1⟩:=Gz uT H2;obtain⟨p,rfl,p1,p2⟩:=IH uA H3;obtain⟨q,rfl,q1,q2⟩:=IH uK H4;obtain⟨a,rfl,U⟩:=aiZ _ _ H5;obtain⟨b,rfl,b1⟩:=aiZ _ _ V;obtain⟨l,rfl,l1,l2⟩:=ij (f:=St.ar) (Q:=St.ok) lS H7 fun j I x A=>J j (by omega) x A;obtain⟨e,rfl,e1,e2⟩:=ij (f:=St.ar) (Q:=St.ok) lS H8 fun j I x A=>J j (by omega) x A;obtain⟨o,rfl,o1,o2⟩:=ij (f:=St.ar) (Q:=St.ok) lS H9 fun j I x A=>J j (by omega) x A;obtain⟨w,rfl,Z,w2⟩:=ij (f:=D.s) (Q:=fun x=>x.length<2^63) lT O fun j I x A=>Gz uT A;exact⟨.mk k s c p q a b l e o w,by rw[St.az];rfl,(St.fe _).2 ⟨Y,k2,s1,c1,p1,p2,q1,q2,U,b1,l1,l2,e1,e2,o1,o2,Z,w2⟩⟩
def afm (n:Nat)(d:D)(h:dX pg n dG d):∃v:fx,d=v.ar/\v.ok:=by
 obtain⟨m,_,rfl,rfl,a0,_,rfl,A,O,_,rfl,I,rfl⟩:=Fk f2 h;obtain⟨s,rfl,s1⟩:=Gz uT A;obtain⟨v,rfl,J⟩:=aae _ _ I;exact⟨⟨s,v⟩,rfl,s1,J⟩
set_option maxRecDepth 4000 in
def alM (n:Nat)(d:D)(h:dX pg n aU d):∃v:Wh,d=v.ar/\v.ok:=by
 obtain⟨m,_,rfl,rfl,a0,_,rfl,Z,a1,_,rfl,H1,a2,_,rfl,H2,a3,_,rfl,H3,a4,_,rfl,H4,a5,_,rfl,H5,a6,_,rfl,U,a7,_,rfl,H7,a8,_,rfl,H8,a9,_,rfl,H9,b4,_,rfl,J,b6,_,rfl,I,rfl⟩:=Fk f5 h;obtain⟨k,rfl,V,k2⟩:=IH uK Z;obtain⟨i,rfl,h1,h2⟩:=nC uS H1;obtain⟨v,rfl,v1⟩:=aae _ _ H2;obtain⟨l,rfl,l1,l2⟩:=ij (f:=aA.ar) (Q:=aA.ok) lV H3 fun j O x A=>aae _ _ A;obtain⟨b,rfl,Y,b2⟩:=nC uI H4;obtain⟨c,rfl,c1,c2⟩:=nC uI H5;obtain⟨e,rfl,e1,e2⟩:=nC uR U;obtain⟨f,rfl,f1,f2⟩:=nC uR H7;obtain⟨g,rfl,g1,g2⟩:=IH uA H8;obtain⟨y,rfl⟩:=aeo uB H9;obtain⟨o,rfl,o1,o2⟩:=ij (f:=St.ar) (Q:=St.ok) lS J fun j O x A=>agF _ _ A;obtain⟨p,rfl,p1,p2⟩:=ij (f:=fx.ar) (Q:=fx.ok) lN I fun j O x A=>afm _ _ A;exact⟨⟨k,i,v,l,b,c,e,f,g,y,o,p⟩,rfl,V,k2,h1,h2,v1,l1,l2,Y,b2,c1,c2,e1,e2,f1,f2,g1,g2,o1,o2,p1,p2⟩
def akM (n:Nat)(d:D)(h:dX pg n bF d):∃v:En,d=v.ar/\v.ok:=by
 obtain⟨m,_,rfl,rfl,a0,_,rfl,J,V,_,rfl,O,rfl⟩:=Fk f6 h;obtain⟨r,rfl,U,A⟩:=nC uR J;obtain⟨w,rfl,I⟩:=alM _ _ O;exact⟨⟨r,w⟩,rfl,U,A,I⟩
def alN (n:Nat)(d:D)(h:dX pg n aM d):∃v:Wl,d=v.ar/\v.ok:=by
 obtain⟨m,_,rfl,rfl,a0,_,rfl,V,a1,_,rfl,Y,a2,_,rfl,H2,a3,_,rfl,H3,a4,_,rfl,H4,rfl⟩:=Fk f7 h;obtain⟨p,rfl,U,p2⟩:=ij (f:=D.z) (Q:=fun x=>-2^63<=x/\x<2^63) lD V fun j I x A=>nC uS A;obtain⟨c,rfl,c1,J⟩:=ij (f:=D.z) (Q:=fun x=>-2^63<=x/\x<2^63) lI Y fun j I x A=>nC uI1 A;obtain⟨t,rfl,Z,O⟩:=ij (f:=En.ar) (Q:=En.ok) lY H2 fun j I x A=>akM _ _ A;obtain⟨r,rfl,r1,r2⟩:=nC uR H3;obtain⟨o,rfl,o1,o2⟩:=ij (f:=D.z) (Q:=fun x=>-2^63<=x/\x<2^63) lI H4 fun j I x A=>nC uI1 A;exact⟨⟨p,c,t,r,o⟩,rfl,U,p2,c1,J,Z,O,r1,r2,o1,o2⟩
def alH (n:Nat)(d:D)(h:dX pg n aV d):∃v:Su,d=v.ar/\v.ok:=by
 obtain⟨m,_,rfl,rfl,a0,_,rfl,O,a1,_,rfl,U,a2,_,rfl,H2,a3,_,rfl,Z,rfl⟩:=Fk f8 h;obtain⟨s,rfl,s1,s2⟩:=nC uS O;obtain⟨o,rfl,o1,o2⟩:=ij (f:=St.ar) (Q:=St.ok) lS U fun j I x A=>agF _ _ A;obtain⟨p,rfl,J,V⟩:=ij (f:=fx.ar) (Q:=fx.ok) lN H2 fun j I x A=>afm _ _ A;obtain⟨r,rfl,Y,r2⟩:=ij (f:=D.z) (Q:=fun x=>-2^63<=x/\x<2^63) lR Z fun j I x A=>nC uR A;exact⟨⟨s,o,p,r⟩,rfl,s1,s2,o1,o2,J,V,Y,r2⟩
end
end Go.Proofs
namespace Go.PB
open Go Go.ChangeShapes Go.WideShapes Go.RowKit
section
section post
open Go.RowKit Go.WideShapes Go.ChangeShapes
variable {H:Type} {ar:TypeId×Value->H} {P:Program}
def Uo {f:Func}{s:ChangeSpec}{U a7 I a6:Bool}{W W':World}{args:Array Value}{v:Value}{ds gs:List (DataW H)}{A pa pv:List MemPlace}
 (hW:DataW.Whole ar P f.params.toList s.vars U W args.toList ds gs A)
 (Z:∀(b:Nat) (sp:Nat->Bool) (hd:Bool),DataW.TrodAll ar P W' b sp hd f.resultTypes.toList (v.resultList f.resultTypes.size) (s.fn H (ds++gs)).results [])
 (J:∀sp:Nat->Bool,(∀p∈A,sp p.block=true)->DataW.TrodAll ar P W' 0 sp true f.params.toList args.toList (s.fn H (ds++gs)).args pa)
 (O:∀sp:Nat->Bool,(∀p∈A,sp p.block=true)->DataW.TrodVars ar P W' sp s.vars (s.fn H (ds++gs)).vars pv)
 (V:A=pa++pv)(hk:EG W W')
 (b4:∀(j:Nat) (t:TypeId) (r:Value),f.resultTypes[j]?=some t->(v.resultList f.resultTypes.size)[j]?=some r->Value.okWide P W' .any 0 t r):
 s.post ar P f U a7 I a6 W args v W':=by
 have hb:=hk.below;have a8:∀p∈A,p.block<W.heap.size:=fun p hp=>hW.lt p hp;have Y:∀p∈A,(fun b=>decide (b<W.heap.size)) p.block=true:=fun p hp=>by simpa using a8 p hp
 refine⟨ds,gs,A,[],pa,pv,hW,Z _ _ _,J _ Y,O _ Y,World.keptBut_mono (fun p hp=>⟨hp,?_⟩) (hb.frame (·∈A)),fun _=>?_⟩
 ·rw[V,amO]at hp;exact Or.inr hp
 obtain⟨_,_,_,_,_,hz,hn⟩:=hW;refine⟨b4,_,_,([]++pa)++pv,⟨[]++pa,pv,trodAll_append (J _ fun _ _=>rfl) (Z _ _ _),O _ (fun _ _=>rfl),rfl,?_,?_⟩,?_⟩
 ·intro b off hp;have b1:MemPlace.cell b off∈A:=by rw[V];simpa using hp
  rw[hb.frozen (a8 _ b1)];exact hz b off b1
 ·intro ha;have:=hn ha;rw[V]at this;simpa using this
 intro p hp _;rw[V];simpa using hp
end post
section
variable {H:Type} {ar:TypeId×Value->H} {P:Program} {W W':World}
def It (hl:laidOutB P=true)(hb:Below W.heap.size W W'):∀{V:List TypeId} {vs:List Value} {ds:List (DataW H)} {ps:List MemPlace},(∀t∈V,P.readableRec t=true/\t<P.types.size)->
 DataW.TrodAll ar P W 0 (fun _=>true) true V vs ds ps->(∀x∈ps,x.block<W.heap.size)->∀U:Nat->Bool,(∀x∈ps,U x.block=true)->DataW.TrodAll ar P W' 0 U true V vs ds ps
 | [],_,_,_,_,h,_,_,_=>by obtain⟨rfl,rfl,rfl⟩:=trodAll_nil h;exact trodAll_mk0
 |t::V,vs,ds,ps,Ln,h,I,U,J=>by obtain⟨v,Z,d,dr,p,q,rfl,rfl,rfl,h1,h2⟩:=trodAll_cons h;obtain⟨Y,O⟩:=Ln t anl;refine trodAll_cons_mk (Go.WideElems.Trod_stays hl Y O h1 (fun x A=>hb.same (I x (aoo _ A))) fun x A=>J x (aoo _ A)) ?_;exact It hl hb (fun t ht=>Ln t (am4 _ ht)) h2 (fun x A=>I x (aoi _ A)) U (fun x A=>J x (aoi _ A))
def af0 (P:Program)(A:List TypeId):Bool:=A.all fun t=>P.readableRec t&&decide (t<P.types.size)
end
section
variable {H:Type} {ar:TypeId×Value->H}
def ajw {C:Checked}{f:FuncId}{fn:Func}{s:ChangeSpec}{tb:TypeId}{W:World}{args:Array Value}{ds gs:List (DataW H)}{A:List MemPlace}
 (hl:laidOutB C.prog=true)(b6:af0 C.prog fn.params.toList=true)(I:s.vars=[])
 (V:∀ds:List (DataW H),ds.length=fn.params.toList.length->s.fn H ds={results:=[.lit (.bool true)],args:=ds})
 (O:fn.resultTypes=#[tb])(a8:C.prog.underlying tb=some .bool)
 (hW:DataW.Whole ar C.prog fn.params.toList s.vars false W args.toList ds gs A)
 (hc:Calls C.prog f args W fun e W'=>e= .returned (.bool true)/\EG W W'):
 Calls C.prog f args W fun e W'=>∃v,e= .returned v/\s.post ar C.prog fn false true false false W args v W':=by
 have a6:=hW;obtain⟨p,q,hA,hV,b4,d2,d1⟩:=hW;rw[I]at hV;obtain⟨d0,hq⟩:=trodVars_none hV;have Z:=trodAll_length hA;refine hc.mono fun e W' ⟨he,hk⟩=>?_;subst he;have U:s.fn H (ds++gs)={results:=[.lit (.bool true)],args:=ds}:=by rw[d0,ana];exact V ds Z.2
 have Y:A=p:=by rw[b4,hq,ana]
 have b1:∀x∈p,x.block<W.heap.size:=fun x hx=>a6.lt x (by rw[Y];exact hx);have J:∀t∈fn.params.toList,C.prog.readableRec t=true/\t<C.prog.types.size:=fun t ht=>by have:=ang.1 b6 t ht;simpa using this
 refine⟨_,rfl,Uo (pa:=p) (pv:=[]) a6 (fun _ _ _=>?_) (fun sp a7=>?_) (fun sp a7=>?_) (by rw[Y,ana]) hk ?_⟩
 ·rw[U,O];exact trodAll_cons_mk (shut_bool a8 _) trodAll_mk0
 ·rw[U];exact It hl hk.below J hA b1 sp (fun x hx=>a7 x (by rw[Y];exact hx))
 ·rw[U,I];rfl
 exact ok_one O rfl (okWide_bool_mk a8 _)
end
def J6 (b:Nat):(hL []).get b=none:=by
 unfold hL ai.get Rh
 cases b<;>rfl
def gE (w:World):Gh:=⟨fun _=>none,fun c=>c<w.heap.size,fun _ _=>none⟩
def akZ (P:Program)(w:World):bq P (gE w) (hL []) w where
 PJ:=fun b o h=>by rw[J6]at h;cases h
 lt:=fun b x h=>by cases h
 Ny:=fun f k x h=>by cases h
 Hv:=fun b o f h=>by rw[J6]at h;cases h
 fu:=fun b b' o o' f h=>by rw[J6]at h;cases h
 sk:=fun b o f k x h=>by rw[J6]at h;cases h
 al:=fun b b' f k h=>by rw[J6]at h;cases h
 rV:=fun l aS aD h=>by cases l<;>cases h
 rW:=fun l l' aS aD base' o o' _ _ h=>by cases l<;>cases h
 vL:=fun l o aS aD _ h=>by cases l<;>cases h
 oU:=fun c h=>h
def adg {P:Program}{f:FuncId}{xs:List BV}{R:D->T (BV×List (Nat×aE))}(h:xm P f xs [] 0 R fun d=>D.bool d=true)(V:∀x d,T.dV x (R d)->x=(.bool (D.bool d),[])){w:World}{A:Array Value}(O:ay P (gE w) w xs A.toList):
 Calls P f A w fun e w'=>e= .returned (.bool true)/\EG w w':=by
 refine(h (gE w) w A (akZ P w) O).mono ?_;rintro e w' ⟨g',d,x,h1,h2,_,_,J,U⟩;have:=V x d h1;subst this;obtain⟨Y,rfl,I⟩:=J.get rfl;simp only[aw]at I;subst I;rw[U];refine⟨rfl,h2.size,fun c hc=>h2.FB c hc ?_,h2.os.1,h2.os.2.1,h2.os.2.2⟩;rintro⟨l,o,aD,_,hb⟩
 cases l<;>cases hb
end
end Go.PB
namespace Go.Proofs
open Go Go.PB
def yg:Nat->Int->List D
 |0,_=>[]
 |w+1,n=> .z (IntKind.u8.wrap (n.fdiv (2^(8*w))))::yg w n
def nA (w:Nat)(n:Int):(yg w n).length=w:=by
 induction w with
 |zero=>rfl
 |succ w A=>simp[yg,A]
def be4 (n:Int):[D.z (IntKind.u8.wrap (n.fdiv 16777216)),D.z (IntKind.u8.wrap (n.fdiv 65536)),D.z (IntKind.u8.wrap (n.fdiv 256)),D.z (IntKind.u8.wrap n)]=yg 4 n:=by
 simp[yg,Int.fdiv_one]
def zZ (s:cg):(kf s).length=s.length:=by simp[kf]
def aa7 {R:D->T (BV×List (Nat×aE))}(I:∀d,R d= .ret (.tuple [],Lm (D.ae d))){l' X:List D}{k:Nat}(A:k=l'.length)(h:l'=X):
 ∃d,T.dV (BV.tuple [],[(0,aE.cells [.hY 1 k true] fG false),(1,.bY Lp l' true)]) (R d)/\D.ae d=X:=⟨.r l',by rw[I,A];exact .ret,h⟩
def Gl {m:Nat}(h:m<2^41):bh 1 m=true:=by simp[bh];omega
def GS (l:List D)(n:Int)(hl:l.length+4<2^41):PH da (Hi l n) (oy l n) 1 bI (fun d=>D.ae d=l++yg 4 n):=by
 refine Rl ?_;simp only[rk,am2,anf,Gl hl];exact⟨fun _=>⟨rfl,aa7 (fun _=>rfl) (by simp) (by rw[be4])⟩,fun h=>by cases h⟩
def afk (l:List D)(n:Int)(hl:l.length+8<2^41):PH iP (yy l n) (oy l n) 1 bI (fun d=>D.ae d=l++yg 8 n):=by
 have loop:∀(w:Nat) (A:List D),w<=8->A++yg w n=l++yg 8 n->aC pg iP [] (.bK 1 (bI (yy l n) (oy l n)) fun d=>D.ae d=l++yg 8 n) (uM l n (8*(w:Int)-8) A.length A):=by
  intro w
  induction w with
  |zero=>intro A _ h;refine FW ?_;simp only[rk];refine⟨fun h=>by simp at h,fun _=>⟨rfl,aa7 (fun _=>rfl) rfl (by simpa [yg]using h)⟩⟩
  |succ w O=>intro A hw h;have I:=amZ List.length h;simp only[ams,nA]at I;refine FW ?_;simp only[rk,am2,anf,Gl (show A.length+1<2^41 by omega),aml,amk];refine⟨fun _=>⟨fun _=>⟨fun _=>?_,fun h=>by cases h⟩,fun h=>by omega⟩,fun h=>by omega⟩;have e:=O (A++[.z (IntKind.u8.wrap (n.fdiv (2^(8*w))))]) (by omega) (by rw[<-h];simp[yg]);have J:(8*((w+1:Nat):Int)-8).toNat=8*w:=(by omega);rw[J,show min (8*w) 64=8*w by omega,bM,show 8*((w+1:Nat):Int)-8-8=8*(w:Int)-8 by omega];simpa using e
 refine Ug ?_;have e:=loop 8 l (by omega) rfl;exact e
def M8 (n:Int)(c:UInt8):Int:=IntKind.u64.wrap (IntKind.u64.wrap (((BitVec.ofInt 64 n ^^^ BitVec.ofInt 64 (IntKind.u64.wrap (c.toNat:Int))).toNat:Nat):Int)*1099511628211)
def Ll (s:cg):Int:=s.foldl M8 14695981039346656037
def V8 (s:cg)(hs:s.length<2^62):dZ pg je [aq] [.s s] [dA] (·= .z (Ll s)):=by
 have A:D.ax (.s s)=s:=rfl;have loop:∀(rest:cg) (i:Nat) (n:Int),s.drop i=rest->aC pg je [dA] (.cY (·= .z (rest.foldl M8 n))) (DO (.s s) n i):=by
  intro rest
  induction rest with
  |nil=>intro i n hd;have:=drop_nil hd;refine Qs ?_;simp only[rk,A,aml,amk];exact⟨fun h=>by omega,fun _=>rfl⟩
  |cons c rest V=>intro i n hd;obtain⟨J,O,I⟩:=aF hd;refine Qs ?_;simp only[rk,A,aml,amk,aR I,amq];refine⟨fun _=>⟨fun _=>?_,fun h=>by cases h⟩,fun h=>by omega⟩;have e:=V (i+1) (M8 n c) O;have U:s.getD i 0=c:=(by simp[List.getD,J]);rw[bL I,U];exact e
 refine ah1 ?_;exact loop s 0 _ rfl
end Go.Proofs
end
