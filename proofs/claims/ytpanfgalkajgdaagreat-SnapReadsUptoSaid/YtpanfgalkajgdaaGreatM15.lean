import Derived.Test.YtpanfgalkajgdaaGreatM9
set_option linter.all false
noncomputable section
namespace Go.Proofs
open Go Go.PB
def agh (v:aA)(A:v.ok):dZ pg DE [ak] [v.ar] [aj] (·= .b v.field):=by
 refine Zu ?_;simp[A.k,aA.field]
 grind
def adl (v:aA):v.ok->dZ pg jT [ak] [v.ar] [aj] (·= .b v.gX):=by
 induction v using aA.ind with|h v U=>
 intro I;refine WX ?_;have loop:∀(rest:List aA) (i:Nat),v.l.drop i=rest->aC pg jT [aj] (.cY (·= .b (aA.nI rest&&v.field))) (u6 v.ar i):=by
  intro rest
  induction rest with
  |nil=>intro i hd;have:=drop_nil hd;refine F8 ?_;simp[this];exact⟨by omega,_,_,rfl,_,agh v I,by rintro _ rfl;simp[aA.nI]⟩
  |cons x rest A=>intro i hd;obtain⟨h1,h2,J⟩:=aF hd;have O:=amn h1;refine F8 ?_;simp[J,aR,bC h1,bL J I.len];refine⟨_,_,rfl,_,U x O (I.mem O),?_⟩;rintro _ rfl;simp[aA.nI];exact⟨fun h=>by simp[h],fun h=>by rw[h];exact A _ h2⟩
 simp only[rk];rw[aA.qA];exact loop _ 0 rfl
end Go.Proofs
namespace Go.Proofs
open Go Go.PB
namespace aA
mutual
def pV:aA->Int->Int
 | .mk _ _ _ l _,k=>if k>16 then 513 else pL l k 1
def pL:List aA->Int->Int->Int
 | [],_,n=>n
 |v::r,k,n=>if n<=512 then pL r k (n+pV v (k+1))else n
end
def alu (v:aA)(k:Int):pV v k=if k>16 then 513 else pL v.l k 1:=by cases v;rfl
mutual
def ahT:∀(v:aA) (k:Int),0<=k->k<=17->1<=pV v k/\pV v k<=513*(18-k)
 | .mk _ _ _ l _,k,h0,h1=>by
   unfold pV
   split
   ·omega
   have:=ahS l k 1 h0 (by omega) (by omega) (by omega);omega
def ahS:∀(l:List aA) (k n:Int),0<=k->k<=16->1<=n->n<=512+513*(17-k)->n<=pL l k n/\pL l k n<=512+513*(17-k)
 | [],k,n,_,_,h2,A=>by unfold pL;omega
 |v::r,k,n,h0,h1,h2,A=>by
  unfold pL;have hb:=ahT v (k+1) (by omega) (by omega)
  split
  ·have:=ahS r k (n+pV v (k+1)) h0 h1 (by omega) (by omega);omega
  omega
end
mutual
def T4:∀(v:aA) (k:Nat),v.gX=true->v.depth+k<=16->(pV v k<=512↔v.size<=512)/\(v.size<=512->pV v k=v.size)
 | .mk kd n s l r,k,hf,hd=>by
   simp only[gX,amo]at hf;unfold pV size;rw[ifN]
   by_cases hl:l=[]
   ·subst hl;simp[pL,bA]
   have I:kd=3:=by
    have:=hf.2;simp only[field,aA.k,aA.l]at this
    by_cases A:kd=3
    ·exact A
    simp[A,hl]at this
   simp only[depth,I,am5]at hd;have:=abd l k 1 hf.1 (by omega) (by omega);rw[show ((1:Nat):Int)=1 from rfl]at this;constructor
   ·rw[this.1]
   intro h;rw[this.2 (by omega)];omega
def abd:∀(l:List aA) (k n:Nat),nI l=true->kg l+(k+1)<=16\/l=[]->1<=n->(pL l k n<=512↔n+bA l<=512)/\(n+bA l<=512->pL l k n=n+bA l)
 | [],k,n,_,_,_=>by simp[pL,bA];omega
 |v::r,k,n,hf,hd,h1=>by
  simp only[nI,amo]at hf;simp only[kg,reduceCtorEq,or_false]at hd;have I:=T4 v (k+1) hf.1 (by omega);have hp:=v.QJ;unfold pL bA
  by_cases A:(n:Int)<=512
  ·rw[amu A]
   by_cases hs:v.size<=512
   ·have e:=I.2 hs;have:=abd r k (n+v.size) hf.2 (.inl (by omega)) (by omega);rw[show ((k:Int)+1)=((k+1:Nat):Int)by omega,e,show (n:Int)+v.size=((n+v.size:Nat):Int)by omega];rw[this.1];exact⟨by omega,fun h=>by rw[this.2 (by omega)];omega⟩
   have hb:=ahT v (k+1) (by omega) (by omega);have h2:¬pV v ((k:Int)+1)<=512:=(by have:=I.1;rw[show ((k:Int)+1)=((k+1:Nat):Int)by omega];omega);have J:=ahS r k (n+pV v (k+1)) (by omega) (by omega) (by omega) (by omega);exact⟨by omega,by omega⟩
  rw[amt A];exact⟨by omega,by omega⟩
end
end aA
def agi (v:aA):∀k:Int,0<=k->k<=17->v.ok->dZ pg mz [ak,ah] [v.ar,.z k] [ah] (·= .z (v.pV k)):=by
 induction v using aA.ind with|h v ih=>
 intro k h0 h1 I;refine Zv ?_;have loop:∀(rest:List aA) (i:Nat) (n:Int),k<=16->v.l.drop i=rest->1<=n->n<=512+513*(17-k)->aC pg mz [ah] (.cY (·= .z (aA.pL rest k n))) (u7 v.ar (.z k) n i):=by
  intro rest
  induction rest with
  |nil=>intro i n V hd h1 h2;have:=drop_nil hd;refine F9 ?_;simp[this,aA.pL];omega
  |cons x rest A=>intro i n V hd Y Z;obtain⟨h1,h2,J⟩:=aF hd;have O:=amn h1;have hb:=x.ahT (k+1) (by omega) (by omega);refine F9 ?_;simp[J,aR,bC h1,bL J I.len];refine⟨fun U=>?_,fun U=>by rw[aA.pL,ifN]⟩;rw[bM];refine⟨_,_,rfl,_,ih x O (k+1) (by omega) (by omega) (I.mem O),?_⟩;rintro _ rfl;simp;rw[bM,aA.pL,amu U];exact A _ _ V h2 (by omega) (by omega)
 simp[I.k];rw[aA.alu];refine⟨fun h=>by simp[h],fun h=>?_⟩;rw[ifN];exact loop _ 0 1 h rfl (by omega) (by omega)
namespace aA
mutual
def Wp:∀(v:aA) (k:Int),0<=k->k<=17->pV v k<=512->v.depth<=17-k
 | .mk kd n s l r,k,h0,h1,h=>by
   unfold pV at h
   split at h
   ·omega
   have:=Wk l k 1 h0 (by omega) (by omega) h;unfold depth
   split
   ·omega
   omega
def Wk:∀(l:List aA) (k n:Int),0<=k->k<=16->1<=n->pL l k n<=512->kg l<=16-k
 | [],k,n,_,_,_,_=>by unfold kg;omega
 |v::r,k,n,h0,h1,h2,h=>by
  unfold pL at h;have hb:=ahT v (k+1) (by omega) (by omega)
  split at h
  ·have hp:=ahS r k (n+pV v (k+1));have hd:=Wk r k (n+pV v (k+1)) h0 h1 (by omega) h;have A:pV v (k+1)<=512:=by
    by_cases I:n+pV v (k+1)<=512+513*(17-k)
    ·have:=hp h0 h1 (by omega) I;omega
    exfalso
    cases r with
    |nil=>simp only[pL]at h;omega
    |cons y q=>unfold pL at h;split at h<;>omega
   have:=Wp v (k+1) (by omega) (by omega) A;unfold kg;omega
  omega
end
end aA
def aik (v:aA):v.ok->v.depth<2^62->dZ pg oJ [ak] [v.ar] [ah] (·= .z v.depth):=by
 induction v using aA.ind with|h v ih=>
 intro U I;rw[aA.PG]at I ⊢;have loop:∀(rest:List aA) (i:Nat) (n:Int),v.k=3->v.l.drop i=rest->0<=n->n<2^62->aC pg oJ [ah] (.cY (·= .z (max n (aA.kg rest)+1))) (wY v.ar n i):=by
  intro rest
  induction rest with
  |nil=>intro i n _ hd A hn;have:=drop_nil hd;refine HT ?_;simp[this,aA.kg,apH A];exact⟨by omega,bM⟩
  |cons x rest O=>intro i n Y hd A hn;obtain⟨h1,h2,V⟩:=aF hd;have J:=amn h1;have Z:=aA.GB J;rw[amu Y]at I;refine HT ?_;simp[-gt_iff_lt,V,aR,bC h1,bL V U.len];refine⟨_,_,rfl,_,ih x J (U.mem J) (by omega),?_⟩;rintro d hd;rw[TQ];subst hd;have e:=O (i+1) (max n x.depth) Y h2 (by omega) (by omega);rw[show max (max n (x.depth:Int)) (aA.kg rest)=max n (aA.kg (x::rest))by rw[show aA.kg (x::rest)=max x.depth (aA.kg rest)from rfl];omega]at e;exact e
 refine acW ?_;simp[U.k];refine⟨fun h=>by rw[amt h];rfl,fun h=>?_⟩;rw[amu h];have:=loop v.l 0 0 h rfl (by omega) (by omega)
 rwa [show max (0:Int) (aA.kg v.l)+1=((aA.kg v.l+1:Nat):Int)by omega]at this
def aA.acv (v:aA)(h:v.pV 0<=512):v.fE=(decide (v.depth<=16)&&v.gX):=by
 unfold aA.fE
 by_cases hf:v.gX=true
 ·by_cases hd:v.depth<=16
  ·have:=(v.T4 0 hf (by omega)).1.1 h;simp[this]
  simp[hd]
 simp[hf]
def aA.Rf (v:aA)(h:¬v.pV 0<=512):v.fE=false:=by
 unfold aA.fE
 by_cases hf:v.gX=true
 ·by_cases hd:v.depth<=16
  ·have:=mt (v.T4 0 hf (by omega)).1.2 h;simp[this]
  simp[hd]
 simp[hf]
def Mq (v:aA)(A:v.ok):dZ pg rJ [ak] [v.ar] [aj] (·= .b v.fE):=by
 refine afQ ?_;simp;refine⟨_,_,rfl,_,agi v 0 (by omega) (by omega) A,?_⟩;rintro _ rfl;simp;refine⟨fun h=>?_,fun h=>v.Rf (by omega)⟩;have hd:=v.Wp 0 (by omega) (by omega) h;rw[v.acv h];refine⟨_,_,rfl,_,aik v A (by omega),?_⟩;rintro _ rfl;simp;refine⟨fun h=>⟨_,_,rfl,_,adl v A,?_⟩,fun h h2=>by omega⟩;rintro _ rfl;simp;omega
mutual
def aA.same:aA->aA->Bool
 | .mk k n s l r,b=>k==b.k&&n==b.n&&s==b.s&&r==b.r&&aA.C8 l b.l
def aA.C8:List aA->List aA->Bool
 | [],[]=>true
 |v::r,w::q=>aA.same v w&&aA.C8 r q
 |_,_=>false
end
mutual
def aA.K1:∀a b:aA,a.same b=true↔a=b
 | .mk k n s l r,.mk k' A s' l' I=>by simp only[aA.same,aA.k,aA.n,aA.s,aA.r,aA.l,amo,amY,aA.Mu l l',aA.mk.injEq];grind
def aA.Mu:∀a b:List aA,aA.C8 a b=true↔a=b
 | [],[]=>by simp[aA.C8]
 | [],_::_=>by simp[aA.C8]
 |_::_,[]=>by simp[aA.C8]
 |v::r,w::q=>by simp only[aA.C8,amo,aA.K1 v w,aA.Mu r q,aoS]
end
def abf (a:aA):∀b:aA,a.ok->b.ok->dZ pg iC [ak,ak] [a.ar,b.ar] [aj] (·= .b (a.same b)):=by
 induction a using aA.ind with|h a ih=>
 intro b V hb;have ea:a.same b=(a.k==b.k&&a.n==b.n&&a.s==b.s&&a.r==b.r&&aA.C8 a.l b.l):=by cases a;rfl
 have loop:∀(A rb:List aA) (i:Nat),a.l.drop i=A->b.l.drop i=rb->A.length=rb.length->aC pg iC [aj] (.cY (·= .b (aA.C8 A rb))) (yR a.ar b.ar i):=by
  intro A
  induction A with
  |nil=>intro rb i h1 h2 hl;have:=drop_nil h1;have:rb=[]:=(by simpa using hl.symm);subst this;refine KH ?_;simp[aA.C8];omega
  |cons x A O=>
   intro rb i h1 h2 hl
   cases rb with
   |nil=>simp at hl
   |cons y rb=>obtain⟨I,g2,Y⟩:=aF h1;obtain⟨U,k2,k3⟩:=aF h2;refine KH ?_;simp[Y,k3,aR,bC I,bC U,bL Y V.len];refine⟨_,_,rfl,_,ih x (amn I) y (V.mem (amn I)) (hb.mem (amn U)),?_⟩;rintro _ rfl;simp[aA.C8];exact⟨fun h=>by simp[h],fun h=>by rw[h];exact O _ _ g2 k2 (by simpa using hl)⟩
 refine acV ?_;rw[ea];simp;have J:∀{x y:List aA},x.length≠y.length->aA.C8 x y=false:=fun {x y} h=>by
  cases e:aA.C8 x y with
  |false=>rfl
  |true=>rw[(aA.Mu _ _).1 e]at h;exact absurd rfl h
 refine⟨fun h=>by simp[h],fun h1=>⟨fun h=>by simp[h],fun h2=>⟨fun h=>by simp[h],fun Z=>⟨fun h=>by simp[h],fun h4=>⟨fun h _ _ _ _=>J (x:=a.l) (y:=b.l) (by omega),fun h5=>?_⟩⟩⟩⟩⟩;simp[h1,h2,Z,h4];exact loop _ _ 0 rfl rfl (by omega)
end Go.Proofs
namespace Go.Proofs
open Go Go.PB
namespace Ex
mutual
def size:Ex->Nat
 | .mk _ _ _ l=>1+bA l
def bA:List Ex->Nat
 | []=>0
 |v::r=>size v+bA r
end
mutual
def ht:Ex->Nat
 | .mk _ _ _ l=>Ln l
def Ln:List Ex->Nat
 | []=>0
 |v::r=>max (ht v+1) (Ln r)
end
mutual
def G5:Ex->Nat
 | .mk k _ _ l=>if k≠3/\l.length=0 then 0 else q0 l+1
def q0:List Ex->Nat
 | []=>0
 |v::r=>max (G5 v) (q0 r)
end
def fN (v:Ex):v.size=1+bA v.l:=by cases v;rfl
def aa2 (v:Ex):v.ht=Ln v.l:=by cases v;rfl
def aaP (v:Ex):v.G5=if v.k≠3/\v.l.length=0 then 0 else q0 v.l+1:=by cases v;rfl
def fW:∀{l:List Ex} {x:Ex},x∈l->x.size<=bA l
 |v::r,x,h=>by
  unfold bA;rcases amz.1 h with rfl|h
  ·omega
  have:=fW h;omega
mutual
def aa1:∀v:Ex,v.ht<=v.G5
 | .mk k n s l=>by
   have:=VL l;simp only[ht,G5]
   split
   ·rename_i h;rw[am3.1 h.2];simp[Ln]
   omega
def VL:∀l:List Ex,Ln l<=q0 l+1
 | []=>by simp[Ln]
 |v::r=>by have:=aa1 v;have:=VL r;simp only[Ln,q0];omega
end
mutual
def Sp:∀v:Ex,v.G5<=v.size
 | .mk k n s l=>by have:=PF l;simp only[G5,size];split<;>omega
def PF:∀l:List Ex,q0 l<=bA l
 | []=>by simp[q0]
 |v::r=>by have:=Sp v;have:=PF r;simp only[q0,bA];omega
end
def YE:∀{l:List Ex} {x:Ex},x∈l->x.ht+1<=Ln l
 |v::r,x,h=>by
  unfold Ln;rcases amz.1 h with rfl|h
  ·omega
  have:=YE h;omega
def ok.len {v:Ex}(h:v.ok):v.l.length<2^63:=by rw[fe]at h;exact h.2.2.2.2.2.1
def ok.mem {v:Ex}(h:v.ok){x:Ex}(A:x∈v.l):x.ok:=by rw[fe]at h;exact h.2.2.2.2.2.2 x A
def ok.k {v:Ex}(h:v.ok):IntKind.i64.wrap v.k=v.k:=by rw[fe]at h;exact bM
def xB (v:Ex):Bool:=decide (v.size<=512)&&decide (v.G5<=16)
end Ex
def xX (s h:Nat)(k m:Int):Prop:=(k+h<=16/\s<=512->m=s)/\(¬(k+h<=16/\s<=512)->512<m)/\1<=m/\m<=513*s
def UD (v:Ex):∀k:Int,0<=k->k<=17->v.ok->v.size<2^40->dZ pg fT [aI,ah] [v.ar,.z k] [ah] (fun d=>d= .z (D.int d)/\xX v.size v.ht k (D.int d)):=by
 induction v using Ex.ind with|h v ih=>
 intro k h0 h1 Y hs;have a7:=v.fN;have loop:∀(rest:List Ex) (i:Nat) (n:Int),k<=16->v.l.drop i=rest->1<=n->n+513*Ex.bA rest<=513*v.size->(n+Ex.bA rest=v.size/\n<=512/\k+v.ht<=16/\v.size<=512\/¬(k+v.ht<=16/\v.size<=512)/\(n<=512->n+Ex.bA rest>512\/k+Ex.Ln rest>16))->
  aC pg fT [ah] (.cY fun d=>d= .z (D.int d)/\xX v.size v.ht k (D.int d)) (nM v.ar (.z k) n i):=by
  intro rest
  induction rest with
  |nil=>intro i n V hd h1 h2 I;have:=drop_nil hd;refine Am ?_;simp only[Ex.bA,Ex.Ln]at h2 I;simp[this,xX];omega
  |cons x rest U=>intro i n V hd a6 O A;obtain⟨h1,h2,I⟩:=aF hd;have J:=amn h1;have a8:=Ex.fW J;have Z:=Ex.YE J;have b1:=v.aa2;refine Am ?_;simp only[Ex.bA,Ex.Ln]at O A;simp[I,aR,bC h1,bL I Y.len];refine⟨fun hn=>?_,fun hn=>by simp only[xX];omega⟩;rw[bM];refine⟨_,_,rfl,_,ih x J (k+1) (by omega) (by omega) (Y.mem J) (by omega),?_⟩;rintro d ⟨_,hq⟩;obtain⟨q1,q2,q3,q4⟩:=hq;rw[bM];refine U _ _ V h2 (by omega) (by omega) ?_;rw[show ((max (x.ht+1) (Ex.Ln rest):Nat):Int)=max ((x.ht:Int)+1) (Ex.Ln rest)by omega]at A;omega
 refine Qm ?_;simp;refine⟨fun h=>by simp only[xX];have:=v.fN;omega,fun h=>loop v.l 0 1 h rfl (by omega) (by omega) ?_⟩;have:=v.aa2;omega
def Xe (v:Ex):v.ok->v.size<2^40->dZ pg gH [aI] [v.ar] [ah] (·= .z v.G5):=by
 induction v using Ex.ind with|h v ih=>
 intro O hs;have Y:=v.fN;have loop:∀(rest:List Ex) (i:Nat) (n:Int),v.l.drop i=rest->0<=n->n<2^40->aC pg gH [ah] (.cY (·= .z (max n (Ex.q0 rest)+1))) (lW v.ar n i):=by
  intro rest
  induction rest with
  |nil=>intro i n hd A Z;have:=drop_nil hd;refine Bw ?_;simp[this,Ex.q0,apH A];exact⟨by omega,bM⟩
  |cons x rest J=>intro i n hd A Z;obtain⟨h1,h2,U⟩:=aF hd;have I:=amn h1;have a6:=Ex.fW I;have V:=x.Sp;refine Bw ?_;simp[-gt_iff_lt,U,aR,bC h1,bL U O.len];refine⟨_,_,rfl,_,ih x I (O.mem I) (by omega),?_⟩;rintro d hd;rw[TQ];subst hd;have e:=J (i+1) (max n x.G5) h2 (by omega) (by omega);rw[show max (max n (x.G5:Int)) (Ex.q0 rest)=max n (Ex.q0 (x::rest))by rw[show Ex.q0 (x::rest)=max x.G5 (Ex.q0 rest)from rfl];omega]at e;exact e
 have e:=loop v.l 0 0 rfl (by omega) (by omega);rw[show max (0:Int) (Ex.q0 v.l)+1=((Ex.q0 v.l+1:Nat):Int)by omega]at e;refine Rv ?_;rw[v.aaP];simp[O.k];refine⟨fun h=>⟨fun h2=>by simp[h,h2],fun h2=>?_⟩,fun h=>?_⟩
 ·rw[amt (by simp[h2])];exact e
 rw[amt (by simp[h])];exact e
def Np (v:Ex)(I:v.ok)(hs:v.size<2^40):dZ pg rK [aI] [v.ar] [aj] (·= .b v.xB):=by
 refine Rw ?_;simp;refine⟨_,_,rfl,_,UD v 0 (by omega) (by omega) I hs,?_⟩;rintro d ⟨_,A⟩;simp only[xX]at A;obtain⟨O,V,U,J⟩:=A;have hd:=v.aa1;refine⟨fun h=>⟨_,_,rfl,_,Xe v I hs,?_⟩,fun h=>?_⟩
 ·rintro _ rfl;have:v.size<=512:=by omega
  simp[Ex.xB,this];omega
 simp[Ex.xB];omega
namespace St
mutual
def cnt:St->Nat
 | .mk _ _ _ _ _ _ _ th el co _=>1+dq th+dq el+dq co
def dq:List St->Nat
 | []=>0
 |v::r=>cnt v+dq r
end
mutual
def esz:St->Nat
 | .mk _ _ _ _ _ a b th el co wi=>a.size+b.size+wi.length+ml th+ml el+ml co
def ml:List St->Nat
 | []=>0
 |v::r=>esz v+ml r
end
mutual
def xB:St->Bool
 | .mk _ _ _ _ _ a b th el co wi=>decide (wi.length<=64)&&a.xB&&b.xB&&oe th&&oe el&&oe co
def oe:List St->Bool
 | []=>true
 |v::r=>xB v&&oe r
end
def Fl (v:St):v.cnt=1+dq v.th+dq v.el+dq v.co:=by cases v;rfl
def x7 (v:St):v.esz=v.a.size+v.b.size+v.wi.length+ml v.th+ml v.el+ml v.co:=by cases v;rfl
def aaX (v:St):v.xB=(decide (v.wi.length<=64)&&v.a.xB&&v.b.xB&&oe v.th&&oe v.el&&oe v.co):=by cases v;rfl
def GA:∀{l:List St} {x:St},x∈l->x.cnt<=dq l
 |v::r,x,h=>by
  unfold dq;rcases amz.1 h with rfl|h
  ·omega
  have:=GA h;omega
def Du:∀{l:List St} {x:St},x∈l->x.esz<=ml l
 |v::r,x,h=>by
  unfold ml;rcases amz.1 h with rfl|h
  ·omega
  have:=Du h;omega
def AT:∀l:List St,l.length<=dq l
 | []=>by simp[dq]
 |v::r=>by have:=AT r;have:=v.Fl;simp only[dq,amB];omega
def NS {M:List St->Prop}(h:∀l:List St,(∀x∈l,M x.th/\M x.el/\M x.co)->M l):∀l,M l:=by
 intro l;have key:∀x:St,M x.th/\M x.el/\M x.co:=fun x=>by
  induction x using St.ind with|h v h1 h2 I=>
  exact⟨h _ fun x A=>h1 x A,h _ fun x A=>h2 x A,h _ fun x A=>I x A⟩
 exact h l fun x _=>key x
def vl (l:List St):Prop:=l.length<2^63/\∀x∈l,x.ok
def vl.th {l:List St}(h:vl l){x:St}(A:x∈l):vl x.th/\vl x.el/\vl x.co/\x.a.ok/\x.b.ok/\x.wi.length<2^63:=by
 have:=(fe x).1 (h.2 x A);simp only[vl];grind
end St
def tI (n c m:Int):Prop:=(n+c<=512->m=n+c)/\(512<n+c->512<m)/\n<=m/\m<=n+c
def OA (l:List St):St.vl l->St.dq l<2^40->dZ pg fQ [aQ] [.r (l.map St.ar)] [ah] (fun d=>d= .z (D.int d)/\tI 0 (St.dq l) (D.int d)):=by
 induction l using St.NS with|h l ih=>
 intro hl hc;refine ac1 ?_;have loop:∀(rest:List St) (i:Nat) (n:Int),l.drop i=rest->0<=n->n+St.dq rest<=St.dq l->(n<=512->n+St.dq rest=St.dq l)->(512<n->512<St.dq l)->
  aC pg fQ [ah] (.cY fun d=>d= .z (D.int d)/\tI 0 (St.dq l) (D.int d)) (qO (.r (l.map St.ar)) n i):=by
  intro rest
  induction rest with
  |nil=>intro i n hd h0 h1 h2 h3;have:=drop_nil hd;refine KL ?_;simp only[St.dq]at h1 h2;simp[this,tI];omega
  |cons x rest A=>
   intro i n hd h0 h1 h2 h3;obtain⟨Z,J,g3⟩:=aF hd;have V:=amn Z;obtain⟨o1,o2,o3,_⟩:=hl.th V;obtain⟨i1,i2,i3⟩:=ih x V;have a7:=x.Fl;have a6:=St.GA V;simp only[St.dq]at h1 h2;refine KL ?_;simp[g3,aR,bC Z,bL g3 hl.1];refine⟨fun hn=>?_,fun hn=>by simp only[tI];omega⟩;refine⟨_,_,rfl,_,i1 o1 (by omega),?_⟩;rintro O ⟨_,q1⟩;simp only[tI]at q1;rw[bM (x:=n+1),bM (x:=n+1+D.int O)];refine⟨fun I=>?_,fun I=>?_⟩
   ·refine⟨_,_,rfl,_,i2 o2 (by omega),?_⟩;rintro Y ⟨_,q2⟩;simp only[tI]at q2;rw[bM (x:=n+1+D.int O+D.int Y)];refine⟨fun U=>?_,fun U=>?_⟩
    ·refine⟨_,_,rfl,_,i3 o3 (by omega),?_⟩;rintro d3 ⟨_,q3⟩;simp only[tI]at q3;rw[bM (x:=n+1+D.int O+D.int Y+D.int d3)];exact A _ _ J (by omega) (by omega) (by omega) (by omega)
    exact A _ _ J (by omega) (by omega) (by omega) (by omega)
   exact A _ _ J (by omega) (by omega) (by omega) (by omega)
 exact loop l 0 0 rfl (by omega) (by simp) (by intro;simp) (by omega)
def No (l:List St):St.vl l->St.ml l<2^40->dZ pg dk [aQ] [.r (l.map St.ar)] [aj] (·= .b (St.oe l)):=by
 induction l using St.NS with|h l ih=>
 intro hl hc;refine Ru ?_;have loop:∀(rest:List St) (i:Nat),l.drop i=rest->aC pg dk [aj] (.cY (·= .b (St.oe rest))) (qP (.r (l.map St.ar)) i):=by
  intro rest
  induction rest with
  |nil=>intro i hd;have:=drop_nil hd;refine C3 ?_;simp[this,St.oe];omega
  |cons x rest J=>intro i hd;obtain⟨O,g2,U⟩:=aF hd;have I:=amn O;obtain⟨o1,o2,V,oa,ob,ow⟩:=hl.th I;obtain⟨i1,i2,Y⟩:=ih x I;have a6:=x.x7;have Z:=St.Du I;have A:=x.aaX;refine C3 ?_;simp[U,aR,bC O,bL U hl.1,St.oe];refine⟨fun hw=>by simp[A];omega,fun hw=>⟨_,_,rfl,_,Np _ oa (by omega),?_⟩⟩;rintro _ rfl;simp;refine⟨fun h=>by simp[A,h],fun ha=>⟨_,_,rfl,_,Np _ ob (by omega),?_⟩⟩;rintro _ rfl;simp;refine⟨fun h=>by simp[A,h],fun hb=>⟨_,_,rfl,_,i1 o1 (by omega),?_⟩⟩;rintro _ rfl;simp;refine⟨fun h=>by simp[A,h],fun ht=>⟨_,_,rfl,_,i2 o2 (by omega),?_⟩⟩;rintro _ rfl;simp;refine⟨fun h=>by simp[A,h],fun he=>⟨_,_,rfl,_,Y V (by omega),?_⟩⟩;rintro _ rfl;simp;refine⟨fun h=>by simp[A,h],fun hc=>?_⟩;have e:=J _ g2;have:x.xB=true:=(by simp[A,ha,hb,ht,he,hc];omega);simpa [this]using e
 exact loop l 0 rfl
end Go.Proofs
namespace Go.Proofs
open Go Go.PB
def tc (v:aA)(p q:Int):Bool:=v.gX&&decide (v.depth<=q)&&decide (v.size<=p)
def Qt (v:aA)(p q:Int)(b:Bool)(I A:Int):Prop:=b=tc v p q/\(tc v p q=true->I=p-v.size/\A=q)
def adW (v:aA)(p q:Int)(d:D):Prop:=Qt v p q (d.af 0).bool (d.af 1).int (d.af 2).int
def bD {α:Type}{a b:α}:T.dV a (.ret b)↔a=b:=⟨fun h=>by cases h;rfl,fun h=>h▸ .ret⟩
def Au {v:aA}{p q:Int}:tc v p q=true↔v.gX=true/\(v.depth:Int)<=q/\(v.size:Int)<=p:=by simp[tc,apY]
def Jd {v:aA}{p q:Int}:tc v p q=false↔¬(v.gX=true/\(v.depth:Int)<=q/\(v.size:Int)<=p):=by rw[<-Au];simp
abbrev ak8 (p q:Int):List (Nat×aE):=[(0,.cells [.int .i64 p,.int .i64 q] qj false)]
def MA {v:aA}{p q A I:Int}{b:Bool}{ags:List BV}{L:List (Nat×aE)}:(tU.bK=some 1/\∃d,T.dV (.bool b,ak8 A I) (lg ags L d)/\adW v p q d)↔Qt v p q b A I:=by
 constructor
 ·rintro⟨_,d,h,J⟩;simp only[lg,bD,anC,BV.bool.injEq,aoS,aE.cells.injEq,BV.int.injEq,am1,amS]at h;obtain⟨rfl,rfl,rfl⟩:=h;exact J
 intro h;exact⟨rfl,.r [.b b,.z A,.z I],bD.2 rfl,h⟩
def adV {v:aA}{p q I A:Int}:Qt v p q false I A↔tc v p q=false:=by unfold Qt;grind
def akf (v:aA):∀p q:Int,v.ok->0<=p->p<1000->0<=q->q<1000->
 PH gg (yz v.ar p q) (yB v.ar p q) 1 lg (adW v p q):=by
 induction v using aA.ind with|h v ih=>
 intro p q hv d5 hp d4 hq;refine Um ?_;simp only[rk,aA.ek,aA.jP,aA.pR,aA.hI,aA.rB,amm,MA,adV];have hw:0<p->IntKind.i64.wrap (p-1)=p-1:=fun h=>bM;have a7:0<q->IntKind.i64.wrap (q-1)=q-1:=fun h=>bM;have hz:v.l.length=0->aA.bA v.l=0/\aA.nI v.l=true/\aA.kg v.l=0:=fun h=>by rw[am3.1 h];exact⟨rfl,rfl,rfl⟩
 have hs:=aA.fv v.l;have d0:=v.fN;have J:=v.PG;have b1:=v.qA;unfold aA.field at b1;simp;have hno:¬(v.size:Int)<=p->tc v p q=false:=fun h=>by simp[tc,h]
 refine⟨fun h=>hno (by omega),fun h=>?_⟩;rw[hw (by omega)];have b4:v.k≠3->(v.gX=(decide (v.l.length=0)&&v.field))->Qt v p q (decide (v.l.length=0)&&v.field) (p-1) q:=fun O Y=>by
  simp only[Qt,tc,Y,J,amt O]
  by_cases hl:v.l.length=0
  ·have h5:=hz hl;have:decide (((1+aA.bA v.l:Nat):Int)<=p)=true:=(by simp;omega);simp[hl,d0,h5]at*;grind
  simp[hl]
 have V:v.k≠3->(v.gX=(decide (v.l.length=0)&&v.field)):=fun O=>by
  rw[v.qA]
  by_cases hl:v.l.length=0
  ·simp[hl,(hz hl).2.1]
  simp only[hl,aA.field];grind
 have Z:v.k≠3->v.field=false->tc v p q=false:=fun O Y=>by simp[tc,V O,Y]
 have U:v.k≠3->(v.l=[]->v.field=true)->(v.l≠[]->v.field=false)->Qt v p q ((v.l.length:Int)==0) (p-1) q:=fun O Y h5=>by
  have:=b4 O (V O)
  by_cases hl:v.l=[]
  ·simpa [hl,Y hl]using this
  have d1:¬v.l.length=0:=by simpa using hl
  simp only[d1,h5 hl]at this;have e2:((v.l.length:Int)==0)=false:=by simpa using hl
  rw[e2];simpa [hl]using this
 unfold aA.field at Z U;refine⟨fun k0=>?_,fun k0=>⟨fun k1=>?_,fun k1=>⟨fun k2=>?_,fun k2=>⟨fun k4=>?_,fun k4=>⟨fun k3=>?_,fun k3=>?_⟩⟩⟩⟩⟩
 ·grind
 ·grind
 ·grind
 ·grind
 ·refine⟨fun h=>by simp[tc,J,k3];omega,fun d3=>⟨fun h=>hno (by omega),fun hl=>?_⟩⟩;rw[a7 (by omega)];have loop:∀(rest:List aA) (i:Nat) (I:Int),v.l.drop i=rest->0<=I->I<1000->
   (tc v p q=true↔aA.nI rest=true/\(aA.kg rest:Int)<=q-1/\(aA.bA rest:Int)<=I/\v.field=true)->I-aA.bA rest=p-v.size->
   aC pg gg [aj] (.bK 1 (lg (yz v.ar p q) (yB v.ar p q)) (adW v p q)) (lX v.ar p q i I (q-1)):=by
   intro rest
   induction rest with
   |nil=>
    intro i I hd h0 h1 A hn;have:=drop_nil hd;refine xN ?_;simp only[rk,aA.ek,aA.jP,aA.pR,aA.hI,aA.rB,amm,MA,adV];have e3:IntKind.i64.wrap (q-1+1)=q:=(by rw[bM];omega);simp only[aA.nI,aA.kg,aA.bA,aA.field,k3]at A hn;have a8:=Jd (v:=v) (p:=p) (q:=q);rw[<-Au,A]at a8;simp[e3,this,Qt];have e4:IntKind.i64.wrap q=q:=bM;simp at A
    grind
   |cons x rest d2=>
    intro i I hd h0 h1 A hn;obtain⟨g1,g2,g3⟩:=aF hd;have hx:=amn g1;refine xN ?_;simp only[rk,aA.ek,aA.jP,aA.pR,aA.hI,aA.rB,amm,MA,adV];simp[g3,aR,bC g1,bL g3 hv.len];refine⟨_,rfl,_,ih x hx I (q-1) (hv.mem hx) h0 h1 (by omega) (by omega),?_⟩;rintro d ⟨b6,a6⟩;rw[b6];simp only[aA.nI,aA.kg,aA.bA]at A hn;simp only[amo]at A;refine⟨fun h=>?_,fun h=>?_⟩
    ·rw[Jd]at h
     cases e:tc v p q with
     |false=>rfl
     |true=>rw[A]at e;exact absurd ⟨e.1.1,by omega,by omega⟩ h
    obtain⟨e1,e2⟩:=a6 h;rw[e1,e2];rw[Au]at h;refine d2 _ _ g2 (by omega) (by omega) ?_ (by omega);rw[A];simp only[h.1,am1];exact⟨fun a=>⟨a.1,by omega,by omega,a.2.2.2⟩,fun a=>⟨a.1,by omega,by omega,a.2.2.2⟩⟩
  refine loop v.l 0 (p-1) rfl (by omega) (by omega) ?_ (by omega);rw[Au,v.qA,J,amu k3];simp only[amo];exact⟨fun a=>⟨a.1.1,by omega,by omega,a.1.2⟩,fun a=>⟨⟨a.1,a.2.2.2⟩,by omega,by omega⟩⟩
 grind
end Go.Proofs
namespace Go.Proofs
open Go Go.PB
def aaa (v:aA):tc v 512 16=v.fE:=by
 have h1:=Au (v:=v) (p:=512) (q:=16);have h2:v.fE=true↔v.size<=512/\v.depth<=16/\v.gX=true:=by simp[aA.fE,apY]
 cases e:v.fE with
 |false=>rw[e]at h2;rw[Jd];exact fun h=>absurd (h2.2 ⟨by omega,by omega,h.1⟩) (by simp)
 |true=>rw[e]at h2;have:=h2.1 rfl;exact h1.2 ⟨this.2.2,by omega,by omega⟩
def aA.fM (v:aA):v.fE=true↔v.size<=512/\v.depth<=16/\v.gX=true:=by simp[aA.fE,apY]
def aA.afa (v:aA):Int:=if v.fE then v.size else 0
def adH (v:aA)(A:v.ok):dZ pg Bb [ak] [v.ar] [ah] (·= .z v.afa):=by
 refine WZ ?_;simp;refine⟨_,rfl,_,akf v 512 16 A (by omega) (by omega) (by omega) (by omega),?_⟩;rintro d ⟨h1,h2⟩;rw[aaa]at h1 h2;rw[h1];refine⟨fun h=>by simp[aA.afa,h],fun h=>?_⟩;have hs:=(aA.fM v).1 h;rw[(h2 h).1,show (512-(512-(v.size:Int)))=v.size by omega,bM];simp[aA.afa,h]
def QR (v:aA)(A:v.ok):dZ pg lF [ak] [v.ar] [aj] (·= .b v.fE):=by
 refine ah5 ?_;simp;refine⟨_,_,rfl,_,adH v A,?_⟩;rintro _ rfl;have:=v.QJ
 by_cases h:v.fE=true
 ·simp[aA.afa,h];omega
 simp[aA.afa,h]
def xT {α:Type}{l:List α}{i:Nat}{x:α}(h:i<l.length):(l.set i x).take (i+1)=l.take i++[x]:=by
 rw[aoq (by simpa using h),List.take_set_of_le (by omega)];simp
def bH {α:Type}{l:List α}{i:Nat}{x:α}(h:l[i]?=some x):l.take (i+1)=l.take i++[x]:=by
 obtain⟨h1,rfl⟩:=amw.1 h;rw[aoq h1]
def ajc (v:aA):v.ok->v.size<2^40->dZ pg sj [ak] [v.ar] [ak] (·=v.ar):=by
 induction v using aA.ind with|h v ih=>
 intro U hs;have a6:=aA.fv v.l;have Y:=v.fN;have loop:∀(rest:List aA) (i:Nat) (l:List D),v.l.drop i=rest->l.length=v.l.length->l.take i=(v.l.take i).map aA.ar->aC pg sj [ak] (.cY (·=v.ar)) (Bh v.ar i l):=by
  intro rest
  induction rest with
  |nil=>intro i l hd hl ht;have:=drop_nil hd;refine Nk ?_;rw[amv (by omega),amv (by omega)]at ht;simp[this,hl,ht];exact⟨by omega,(v.az).symm⟩
  |cons x rest O=>intro i l hd hl ht;obtain⟨A,Z,V⟩:=aF hd;have I:=amn A;have J:x.size<2^40:=(by have:=aA.fW I;omega);refine Nk ?_;simp[V,aR,bC A,bL V U.len,hl];refine⟨_,_,rfl,_,ih x I (U.mem I) J,?_⟩;rintro _ rfl;rw[eN];exact O _ _ Z (by simpa using hl) (by rw[xT (by omega),bH A,ht];simp)
 refine ah8 ?_;simp;refine⟨fun h=>by rw[v.az,h];rfl,fun h=>⟨fun h2=>loop _ 0 _ rfl (by simp) (by simp),?_⟩⟩;simp[vQ];omega
def abv (v:aA)(A:v.ok):dZ pg Ba [ak] [v.ar] [ak,bn] (·=if v.fE then .r [v.ar,.z 0]else .r [.r [.z 0,.z 0,.s [],.r [],.z 0],.z 2]):=by
 refine ah6 ?_;simp;refine⟨_,_,rfl,_,QR v A,?_⟩;rintro _ rfl;simp;refine fun h=>⟨_,_,rfl,_,ajc v A (by have:=(v.fM).1 h;omega),?_⟩;rintro _ rfl;simp[h]
end Go.Proofs
namespace Go.Proofs
open Go Go.PB
mutual
def aA.jA:aA->List Int
 | .mk k _ _ l r=>(if k=4 then [r]else [])++aA.dF l
def aA.dF:List aA->List Int
 | []=>[]
 |v::r=>aA.jA v++aA.dF r
end
def aA.UG (v:aA):v.jA=(if v.k=4 then [v.r]else [])++aA.dF v.l:=by cases v;rfl
def aA.agm (l:List aA):aA.dF l=l.flatMap aA.jA:=by induction l with|nil=>rfl|cons a r A=>simp[aA.dF,A]
mutual
def aA.C7:∀v:aA,v.jA.length<=v.size
 | .mk k n s l r=>by
   have:=aA.zG l;simp only[aA.jA,aA.size,ams]
   split<;>simp<;>omega
def aA.zG:∀l:List aA,(aA.dF l).length<=aA.bA l
 | []=>by simp[aA.dF,aA.bA]
 |v::r=>by have:=aA.C7 v;have:=aA.zG r;simp only[aA.dF,aA.bA,ams];omega
end
abbrev adX (v:aA)(CT:List Int)(d:D):Prop:=D.ae d=aY (CT++v.jA)
def S5 {v:aA}{CT:List Int}{ags:List BV}{L:List (Nat×aE)}{l:List D}{c:Nat}:
 (Fi.bK=some 1/\∃d,T.dV (.bool true,[(0,.cells [.hY 1 c true] dH false),(1,.bY bW l true)]) (xo ags L d)/\adX v CT d)↔c=l.length/\l=aY (CT++v.jA):=by
 constructor
 ·rintro⟨_,d,h,A⟩;simp only[xo,bD,anC,aoS,aE.cells.injEq,aE.bY.injEq,BV.hY.injEq,am1,amS]at h;obtain⟨rfl,rfl⟩:=h;exact⟨rfl,A⟩
 rintro⟨rfl,h⟩;exact⟨rfl,.r l,bD.2 rfl,h⟩
def akg (v:aA):∀(A:List D) (CT:List Int),v.ok->A.length+v.depth<1000->CT.length+v.size<2^30->v.gX=true->
 PH lG (Jm v.ar A (aY CT) CT.length) (Jq v.ar A (aY CT) CT.length) 1 xo (adX v CT):=by
 induction v using aA.ind with|h v ih=>
 intro A CT hv b1 a8 hf;have b6:=v.fN;refine afW ?_;have loop:∀(rest:List aA) (i:Nat) (o:List Int),v.l.drop i=rest->o++aA.dF rest=CT++v.jA->o.length+aA.bA rest<2^30->
  aC pg lG [aj] (.bK 1 (xo (Jm v.ar A (aY CT) CT.length) (Jq v.ar A (aY CT) CT.length)) (adX v CT)) (xE v.ar A (aY CT) CT.length o.length (aY o) i):=by
  intro rest
  induction rest with
  |nil=>intro i o hd ho I;have:=drop_nil hd;refine Nl ?_;simp[-List.map_append,this,S5];simp[aA.dF]at ho;exact⟨by omega,by rw[ho]⟩
  |cons x rest a7=>intro i o hd ho I;obtain⟨g1,g2,g3⟩:=aF hd;have O:=amn g1;refine Nl ?_;simp[-List.map_append,g3,aR,bC g1,bL g3 hv.len,aes];have b4:=aA.GB O;have Z:=hv.af hf O;have Y:=v.PG;have a6:=aA.aeL hf O;rw[amu a6]at Y;simp only[aA.bA]at I;have d0:=x.C7;refine⟨fun _=>⟨_,rfl,_,ih x O (A++[D.z i]) o (hv.mem O) (by simp;omega) (by omega) Z,?_⟩,by simp[bh];omega⟩;rintro d V;rw[V];have e:=a7 (i+1) (o++x.jA) g2 (by rw[anK];exact ho) (by simp;omega);simpa using e
 have hl:aA.bA v.l<2^30:=by omega
 have U:=v.UG;simp only[rk,aA.ek,aA.rB,S5,am2,anf,amm];refine⟨fun J=>⟨fun _=>?_,fun h=>?_⟩,fun J=>?_⟩
 ·have J:v.k=4:=by simpa using J
  rw[amu J]at U;have e:=loop v.l 0 (CT++[v.r]) rfl (by rw[U,anK]) (by simp;omega);simp at e;exact e
 ·simp[bh]at h;omega
 have J:¬v.k=4:=by simpa using J
 rw[amt J]at U;exact loop v.l 0 CT rfl (by rw[U];simp) (by omega)
def na {e:TypeId}{n:Nat}{l X:List D}(h1:n=l.length)(h2:l=X):∃d,T.dV (BV.hY 0 n true,[(0,aE.bY e l true)]) (T.ret (BV.hY 0 (D.ae d).length true,[(0,aE.bY e (D.ae d) true)]))/\D.ae d=X:=⟨.r l,by subst h1;exact .ret,h2⟩
def US (v:aA)(A:v.ok):PH xA (U5 v.ar) [] 0 dx (fun d=>D.ae d=aY (if v.fE then v.jA else [])):=by
 refine afV ?_;simp only[rk,aA.ek,eN];refine⟨_,_,_,rfl,QR v A,?_⟩;rintro _ rfl;simp only[D.bV];refine⟨fun h=>?_,fun h=>⟨rfl,na rfl (by simp[h])⟩⟩;have h2:=v.fM.1 h;refine⟨_,_,rfl,akg v [] [] A (by simp;omega) (by simp;omega) h2.2.2,?_⟩;rintro d hd;exact⟨rfl,na rfl (by rw[hd];simp[h])⟩
end Go.Proofs
namespace Go.Proofs
open Go Go.PB
def aA.ae (l:List aA):aA:= .mk 3 0 [] l 0
def aA.VW (l:List aA):(aA.ae l).ar= .r [.z 3,.z 0,.s [],.r (l.map aA.ar),.z 0]:=aA.az _
def SO {ags:List BV}{L:List (Nat×aE)}{b:Int}{Q:D->Prop}:(ln.bK=some 0/\∃d,T.dV (.int .i64 b,[]) (dy ags L d)/\Q (.z (D.int d)))↔Q (.z b):=by
 constructor
 ·rintro⟨_,d,h,A⟩;simp only[dy,bD,anC,BV.int.injEq,am1,amS]at h;rw[h];exact A
 intro h;exact⟨rfl,.z b,bD.2 rfl,h⟩
def aca (l:List aA)(hl:∀x∈l,x.ok)(U:l.length<2^63):
 PH dN (jb (l.map aA.ar)) [] 0 dy
  (fun d=>decide (0<=D.int (.z (D.int d)))=!l.all aA.fE):=by
 refine Kn ?_;have loop:∀(rest:List aA) (i:Nat),l.drop i=rest->
  aC pg dN [ah] (.bK 0 (dy (jb (l.map aA.ar)) []) fun d=>decide (0<=D.int (.z (D.int d)))=!rest.all aA.fE) (lJ (l.map aA.ar) i):=by
  intro rest
  induction rest with
  |nil=>intro i hd;have:=drop_nil hd;refine xI ?_;simp only[rk,amm,SO (Q:=fun d=>decide (0<=D.int d)=!List.all [] aA.fE)];simp[this];omega
  |cons x rest A=>intro i hd;obtain⟨I,O,J⟩:=aF hd;have V:=amn I;refine xI ?_;simp only[rk,amm,SO (Q:=fun d=>decide (0<=D.int d)=!List.all (x::rest) aA.fE)];simp[J,aR,bC I,bL J U];refine⟨_,_,rfl,_,QR x (hl x V),?_⟩;rintro _ rfl;simp;refine⟨fun h=> .inl h,fun h=>?_⟩;have:=A _ O;simp[h]at this ⊢;exact this
 exact loop l 0 rfl
def TD (l:List aA)(hl:∀x∈l,x.ok)(A:l.length<2^63):
 PH lv (jb (l.map aA.ar)) [] 0 bg
  (fun d=>D.bool d=!l.all aA.fE):=by
 refine FM ?_;simp only[rk];refine⟨_,_,rfl,aca l hl A,?_⟩;intro d hd;exact⟨rfl,.b _,bD.2 rfl,hd⟩
def alK (l:List aA)(hl:∀x∈l,x.ok)(A:l.length<2^63):dZ pg Om [dn] [.r (l.map aA.ar)] [aj] (·= .b (l.all aA.fE)):=by
 refine ah7 ?_;simp only[rk,D.aK];refine⟨_,_,rfl,TD l hl A,?_⟩;intro d hd;rw[hd];simp
def amg (l:List aA)(hl:∀x∈l,x.ok)(I:l.length<2^63):dZ pg LS [dn] [.r (l.map aA.ar)] [ak,bn]
 (·=if l.all aA.fE then (if (aA.ae l).fE then .r [(aA.ae l).ar,.z 0]else .r [.r [.z 0,.z 0,.s [],.r [],.z 0],.z 4])else .r [.r [.z 0,.z 0,.s [],.r [],.z 0],.z 2]):=by
 have A:(aA.ae l).ok:=by rw[aA.fe];exact⟨by simp[aA.ae,aA.k],by simp[aA.ae,aA.k],by simp[aA.ae,aA.n],by simp[aA.ae,aA.n],by simp[aA.ae,aA.s],I,by simp[aA.ae,aA.r],by simp[aA.ae,aA.r],hl⟩
 refine ajX ?_;simp only[rk,D.aK,<-aA.VW];refine⟨_,_,_,rfl,alK l hl I,?_⟩;rintro _ rfl;simp;refine⟨fun x h1 h2 J=>absurd (J x h1) (by simp[h2]),fun h=>?_⟩;rw[amu h];refine⟨_,_,rfl,_,QR _ A,?_⟩;rintro _ rfl;simp;refine fun h=>⟨_,_,rfl,_,ajc _ A (by have:=aA.fM _ |>.1 h;omega),?_⟩;rintro _ rfl;simp[h]
end Go.Proofs
namespace Go.Proofs
open Go Go.PB
namespace Wh
def aN (x:Wh):List aA:=x.v::(x.vs++x.ns.map fx.v)
def sz (x:Wh):Nat:=aA.bA x.aN+St.dq x.co+St.ml x.co
def ok.aN {x:Wh}(h:x.ok):∀v∈x.aN,v.ok:=by
 intro v hv;simp only[ok]at h;simp only[Wh.aN,amz,amO,anh]at hv;rcases hv with rfl|hv| ⟨n,A,rfl⟩
 ·exact h.2.2.2.2.1
 ·exact h.2.2.2.2.2.2.1 v hv
 exact((h.2.2.2.2.2.2.2.2.2.2.2.2.2.2.2.2.2.2.2.2) n A).2
def ok.co {x:Wh}(h:x.ok):St.vl x.co:=by
 simp only[ok]at h;exact⟨h.2.2.2.2.2.2.2.2.2.2.2.2.2.2.2.2.2.1,h.2.2.2.2.2.2.2.2.2.2.2.2.2.2.2.2.2.2.1⟩
def L3 (x:Wh):x.vs.length+x.ns.length<aA.bA x.aN:=by
 have:=aA.fv x.aN;have h:x.aN.length=1+x.vs.length+x.ns.length:=by simp[aN];omega
 omega
end Wh
def SN (x:Wh)(hs:x.sz<2^30):dZ pg jU [aU] [x.ar] [dn] (·= .r (x.aN.map aA.ar)):=by
 have Y:=x.L3;simp only[Wh.sz]at hs;have loop:∀(rest:List fx) (i:Nat) (o:List aA),x.ns.drop i=rest->o++rest.map fx.v=x.aN->aC pg jU [dn] (.cY (·= .r (x.aN.map aA.ar))) (sE x.ar o.length i (o.map aA.ar)):=by
  intro rest
  induction rest with
  |nil=>intro i o hd ho;have:=drop_nil hd;refine EB ?_;simp only[ank,ana]at ho;subst ho;simp[this];omega
  |cons n rest A=>intro i o hd ho;obtain⟨J,V,I⟩:=aF hd;have O:o.length<=x.aN.length:=(by rw[<-ho];simp);have U:x.aN.length=1+x.vs.length+x.ns.length:=(by simp[Wh.aN];omega);refine EB ?_;simp[-List.map_append,I,aR,bC J,bL I (n:=x.ns.length)];exact⟨fun _=>by simpa using A (i+1) (o++[n.v]) V (by simpa using ho),by simp[bh];omega⟩
 refine WY ?_;simp;refine⟨fun _=>?_,by simp[bh];omega⟩;have e:=loop x.ns 0 (x.v::x.vs) rfl (by simp[Wh.aN]);simpa [aoN]using e
def aip (v:aA):v.ok->v.size<2^30->v.gX=true->dZ pg oK [ak] [v.ar] [dH] (·= .r (aY v.jA)):=by
 induction v using aA.ind with|h v ih=>
 intro U hs hf;have a6:=v.fN;have A:=v.UG;have Z:=aA.C7 v;have loop:∀(rest:List aA) (i:Nat) (o:List Int),v.l.drop i=rest->o++aA.dF rest=v.jA->aC pg oK [dH] (.cY (·= .r (aY v.jA))) (xg v.ar o.length i (aY o)):=by
  intro rest
  induction rest with
  |nil=>intro i o hd ho;have:=drop_nil hd;refine Ic ?_;simp only[aA.dF,ana]at ho;subst ho;simp[this];omega
  |cons x rest O=>intro i o hd ho;obtain⟨V,g2,Y⟩:=aF hd;have I:=amn V;have a7:=aA.fW I;have J:=amZ List.length ho;simp only[aA.dF,ams]at J;refine Ic ?_;simp[-List.map_append,Y,aR,bC V,bL Y U.len];refine⟨_,_,rfl,_,ih x I (U.mem I) (by omega) (U.af hf I),?_⟩;rintro _ rfl;simp only[D.aK,amm];refine⟨fun _=>?_,by simp[bh];omega⟩;have e:=O (i+1) (o++x.jA) g2 (by simpa [aA.dF]using ho);simpa using e
 refine ac6 ?_;simp;refine⟨fun h=>?_,fun h=>?_⟩
 ·have:v.l=[]:=by rw[aA.qA]at hf;simp only[aA.field,h,amo]at hf;simp at hf;exact hf.2.1.2
  simp[A,h,this,aA.dF]
 exact loop v.l 0 [] rfl (by simp[A,h])
def aim (x:Wh)(hx:x.ok)(hs:x.sz<2^30)(hm:∀v∈x.aN,v.fE=true):PH tu (rq x.ar) [] 0 dx (fun d=>D.ae d=aY (aA.dF x.aN)):=by
 have J:x.aN.length<2^63:=by have:=aA.fv x.aN;simp only[Wh.sz]at hs;omega
 have a6:=aA.zG x.aN;have I:=hs;simp only[Wh.sz]at I;have loop:∀(rest:List aA) (i:Nat) (o:List Int),x.aN.drop i=rest->o++aA.dF rest=aA.dF x.aN->aC pg tu [dH] (.bK 0 (dx (rq x.ar) []) fun d=>D.ae d=aY (aA.dF x.aN)) (xc x.ar (x.aN.map aA.ar) o.length i (aY o)):=by
  intro rest
  induction rest with
  |nil=>intro i o hd ho;have:=drop_nil hd;refine HY ?_;simp only[aA.dF,ana]at ho;subst ho;have hn:¬(i:Int)<(x.aN.length:Int):=(by omega);simp only[rk,amm,hn,ani,amp,amy,amA,am1];refine⟨rfl,.r (aY (aA.dF x.aN)),?_,rfl⟩;rw[show (aA.dF x.aN).length=(aY (aA.dF x.aN)).length by simp];exact .ret
  |cons v rest U=>intro i o hd ho;obtain⟨Z,g2,g3⟩:=aF hd;have V:=amn Z;have a7:=aA.fW V;have O:=(aA.fM v).1 (hm v V);have A:=amZ List.length ho;simp only[aA.dF,ams]at A;have Y:(i:Int)<(x.aN.length:Int):=(by omega);have rm:bh 8 (o.length+v.jA.length)=true:=(by simp[bh];omega);refine HY ?_;simp only[rk,amm,Y,aR g3,bC Z,amq,eN,am2,amA,amx,amy,amS,anf,bL g3 J];refine⟨_,_,_,rfl,aip v (hx.aN v V) (by omega) O.2.2,?_⟩;rintro _ rfl;simp only[D.aK,amm,rm,amA,amx,amy,amS];have e:=U (i+1) (o++v.jA) g2 (by simpa [aA.dF]using ho);rw[ams,show aY (o++v.jA)=aY o++aY v.jA from am6]at e;exact e
 refine acZ ?_;simp only[rk,Wh.re];refine⟨_,_,_,rfl,SN x hs,?_⟩;rintro _ rfl;exact loop x.aN 0 [] rfl rfl
def Wh.xB (x:Wh):Bool:=decide (x.vs.length<=1024)&&decide (x.ns.length<=128)&&decide (St.dq x.co<=512)&&St.oe x.co&&x.aN.all aA.fE
def UC (x:Wh)(J:x.ok)(hs:x.sz<2^30):dZ pg j6 [aU] [x.ar] [aj] (·= .b x.xB):=by
 have I:x.aN.length<2^63:=by have:=aA.fv x.aN;simp only[Wh.sz]at hs;omega
 have A:=hs;simp only[Wh.sz]at A;have loop:∀(rest:List aA) (i:Nat),x.aN.drop i=rest->aC pg j6 [aj] (.cY (·= .b (rest.all aA.fE))) (wZ x.ar (x.aN.map aA.ar) i):=by
  intro rest
  induction rest with
  |nil=>intro i hd;have:=drop_nil hd;refine HU ?_;simp[this];omega
  |cons v rest O=>intro i hd;obtain⟨V,g2,Y⟩:=aF hd;have hv:=amn V;refine HU ?_;simp[Y,aR,bC V,bL Y I];refine⟨_,_,rfl,_,Mq v (J.aN v hv),?_⟩;rintro _ rfl;simp;refine⟨fun h=>by simp[h],fun h=>?_⟩;have e:=O (i+1) g2;simpa [h]using e
 refine acX ?_;simp;refine⟨fun h=>by simp[Wh.xB];omega,fun h=>⟨fun h2=>by simp[Wh.xB];omega,fun h2=>?_⟩⟩;refine⟨_,_,rfl,_,OA x.co J.co (by omega),?_⟩;rintro d ⟨_,hq⟩;simp only[tI]at hq;refine⟨fun Z=>by simp[Wh.xB];omega,fun Z=>?_⟩;refine⟨_,_,rfl,_,No x.co J.co (by omega),?_⟩;rintro _ rfl;simp;refine⟨fun U=>by simp[Wh.xB,U],fun U=>?_⟩;refine⟨_,_,rfl,_,SN x hs,?_⟩;rintro _ rfl;have e:=loop x.aN 0 rfl;have:x.xB=x.aN.all aA.fE:=by
  have h5:St.dq x.co<=512:=by omega
  have h6:x.vs.length<=1024:=by omega
  have h7:x.ns.length<=128:=by omega
  simp[Wh.xB,h6,h7,U,h5]
 rw[this];exact e
def Pt (l:List D)(h:l.length<2^30):PH lq (Jh l) [] 0 yC (fun d=>D.ae d=l):=by
 have A:bh 56 (0+l.length)=true:=by simp[bh];omega
 refine T5 ?_;simp only[rk,A,anJ,amA,amp,amx,amy,amS];exact⟨fun he=>⟨⟨rfl,na rfl (by simpa using he.symm)⟩,rfl,na (by simp) (by simp)⟩,fun _=>⟨rfl,na (by simp) (by simp)⟩⟩
def Pu (l:List D)(h:l.length<2^30):PH lu (Jj l) [] 0 yD (fun d=>D.ae d=l):=by
 have A:bh 256 (0+l.length)=true:=by simp[bh];omega
 refine T8 ?_;simp only[rk,A,anJ,amA,amp,amx,amy,amS];exact⟨fun he=>⟨⟨rfl,na rfl (by simpa using he.symm)⟩,rfl,na (by simp) (by simp)⟩,fun _=>⟨rfl,na (by simp) (by simp)⟩⟩
def Vu (l:List D)(h:l.length<2^30):PH rC (Hh l) [] 0 BG (fun d=>D.ae d=l):=by
 have A:bh 64 (0+l.length)=true:=by simp[bh];omega
 refine Rj ?_;simp only[rk,A,anJ,amA,amp,amx,amy,amS];exact⟨fun he=>⟨⟨rfl,na rfl (by simpa using he.symm)⟩,rfl,na (by simp) (by simp)⟩,fun _=>⟨rfl,na (by simp) (by simp)⟩⟩
def Yl (l:List D)(h:l.length<2^30):PH ua (Ji l) [] 0 Df (fun d=>D.ae d=l):=by
 have A:bh 80 (0+l.length)=true:=by simp[bh];omega
 refine T6 ?_;simp only[rk,A,anJ,amA,amp,amx,amy,amS];exact⟨fun he=>⟨⟨rfl,na rfl (by simpa using he.symm)⟩,rfl,na (by simp) (by simp)⟩,fun _=>⟨rfl,na (by simp) (by simp)⟩⟩
def JN (l:List D)(h:l.length<2^30):PH iX (EX l) [] 0 tK (fun d=>D.ae d=l):=by
 have A:bh 16 (0+l.length)=true:=by simp[bh];omega
 refine Qd ?_;simp only[rk,A,anJ,amA,amp,amx,amy,amS];exact⟨fun he=>⟨⟨rfl,na rfl (by simpa using he.symm)⟩,rfl,na (by simp) (by simp)⟩,fun _=>⟨rfl,na (by simp) (by simp)⟩⟩
def abS (l:List D)(h:l.length<2^30):PH xw (MF l) [] 0 dx (fun d=>D.ae d=l):=by
 have A:bh 8 (0+l.length)=true:=by simp[bh];omega
 refine Wr ?_;simp only[rk,A,anJ,amA,amp,amx,amy,amS];exact⟨fun he=>⟨⟨rfl,na rfl (by simpa using he.symm)⟩,rfl,na (by simp) (by simp)⟩,fun _=>⟨rfl,na (by simp) (by simp)⟩⟩
def abT (l:List D)(h:l.length<2^30):PH gu (MG l) [] 0 pD (fun d=>D.ae d=l):=by
 have A:bh 8 (0+l.length)=true:=by simp[bh];omega
 refine Ws ?_;simp only[rk,A,anJ,amA,amp,amx,amy,amS];exact⟨fun he=>⟨⟨rfl,na rfl (by simpa using he.symm)⟩,rfl,na (by simp) (by simp)⟩,fun _=>⟨rfl,na (by simp) (by simp)⟩⟩
def IK (l:List D)(h:l.length<2^30):PH gM (ga l) [] 0 tJ (fun d=>D.ae d=l):=by
 have A:bh 8 (0+l.length)=true:=by simp[bh];omega
 refine T7 ?_;simp only[rk,A,anJ,amA,amp,amx,amy,amS];exact⟨fun he=>⟨⟨rfl,na rfl (by simpa using he.symm)⟩,rfl,na (by simp) (by simp)⟩,fun _=>⟨rfl,na (by simp) (by simp)⟩⟩
end Go.Proofs
end
