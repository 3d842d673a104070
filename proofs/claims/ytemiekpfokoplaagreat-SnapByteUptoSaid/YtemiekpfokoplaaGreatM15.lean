import Derived.Test.YtemiekpfokoplaaGreatM10
set_option linter.all false
noncomputable section
namespace Go.Proofs
open Go Go.PB
def Xy (v:aJ)(hv:v.ok):iq pg wF [ao] [v.az] [aj] (·= .b v.field):=by
 refine QQ ?_
 simp[hv.k,aJ.field]
 grind
def Uk (v:aJ):v.ok->iq pg gJ [ao] [v.az] [aj] (·= .b v.ft):=by
 induction v using aJ.ind with|h v ih=>
 intro hv
 refine OF ?_
 have loop:∀(rest:List aJ) (i:Nat),v.l.drop i=rest->aC pg gJ [aj] (.kE (·= .b (aJ.kz rest&&v.field))) (qP v.az i):=by
  intro rest
  induction rest with
  |nil=>
   intro i hd
   have:=drop_nil hd
   refine BW ?_
   simp[this]
   exact⟨by omega,_,_,rfl,_,Xy v hv,by rintro _ rfl;simp[aJ.kz]⟩
  |cons x rest ihr=>
   intro i hd
   obtain⟨h1,h2,h3⟩:=aI hd
   have hx:=aeU h1
   refine BW ?_
   simp[h3,aY,bS h1,bO h3 hv.len]
   refine⟨_,_,rfl,_,ih x hx (hv.mem hx),?_⟩
   rintro _ rfl
   simp[aJ.kz]
   exact⟨fun h=>by simp[h],fun h=>by rw[h];exact ihr _ h2⟩
 simp only[rk]
 rw[aJ.pS]
 exact loop _ 0 rfl
end Go.Proofs
namespace Go.Proofs
open Go Go.PB
namespace aJ
mutual
def pV:aJ->Int->Int
 | .mk _ _ _ l _,k=>if k>16 then 513 else pL l k 1
def pL:List aJ->Int->Int->Int
 | [],_,n=>n
 |v::r,k,n=>if n<=512 then pL r k (n+pV v (k+1))else n
end
def aeb (v:aJ)(k:Int):pV v k=if k>16 then 513 else pL v.l k 1:=by cases v;rfl
mutual
def ZX:∀(v:aJ) (k:Int),0<=k->k<=17->1<=pV v k/\pV v k<=513*(18-k)
 | .mk _ _ _ l _,k,h0,h1=>by
   unfold pV
   split
   ·omega
   ·have:=ZW l k 1 h0 (by omega) (by omega) (by omega);omega
def ZW:∀(l:List aJ) (k n:Int),0<=k->k<=16->1<=n->n<=512+513*(17-k)->n<=pL l k n/\pL l k n<=512+513*(17-k)
 | [],k,n,_,_,h2,h3=>by unfold pL;omega
 |v::r,k,n,h0,h1,h2,h3=>by
  unfold pL
  have hb:=ZX v (k+1) (by omega) (by omega)
  split
  ·have:=ZW r k (n+pV v (k+1)) h0 h1 (by omega) (by omega);omega
  ·omega
end
mutual
def Mr:∀(v:aJ) (k:Nat),v.ft=true->v.depth+k<=16->(pV v k<=512↔v.size<=512)/\(v.size<=512->pV v k=v.size)
 | .mk kd n s l r,k,hf,hd=>by
   simp only[ft,aeV]at hf
   unfold pV size
   rw[aeX (by omega)]
   by_cases hl:l=[]
   ·subst hl;simp[pL,bI]
   ·have hk:kd=3:=by
     have:=hf.2
     simp only[field,aJ.k,aJ.l]at this
     by_cases h3:kd=3
     ·exact h3
     ·simp[h3,hl]at this
    simp only[depth,hk,afq]at hd
    have:=Sq l k 1 hf.1 (by omega) (by omega)
    rw[show ((1:Nat):Int)=1 from rfl]at this
    constructor
    ·rw[this.1]
    ·intro h;rw[this.2 (by omega)];omega
def Sq:∀(l:List aJ) (k n:Nat),kz l=true->hI l+(k+1)<=16\/l=[]->1<=n->(pL l k n<=512↔n+bI l<=512)/\(n+bI l<=512->pL l k n=n+bI l)
 | [],k,n,_,_,_=>by simp[pL,bI];omega
 |v::r,k,n,hf,hd,h1=>by
  simp only[kz,aeV]at hf
  simp only[hI,reduceCtorEq,or_false]at hd
  have hv:=Mr v (k+1) hf.1 (by omega)
  have hp:=v.J5
  unfold pL bI
  by_cases hn:(n:Int)<=512
  ·rw[aeZ hn]
   by_cases hs:v.size<=512
   ·have e:=hv.2 hs
    have:=Sq r k (n+v.size) hf.2 (.inl (by omega)) (by omega)
    rw[show ((k:Int)+1)=((k+1:Nat):Int)by omega,e,show (n:Int)+v.size=((n+v.size:Nat):Int)by omega]
    rw[this.1]
    exact⟨by omega,fun h=>by rw[this.2 (by omega)];omega⟩
   ·have hb:=ZX v (k+1) (by omega) (by omega)
    have h2:¬pV v ((k:Int)+1)<=512:=by
     have:=hv.1;rw[show ((k:Int)+1)=((k+1:Nat):Int)by omega];omega
    have hpl:=ZW r k (n+pV v (k+1)) (by omega) (by omega) (by omega) (by omega)
    exact⟨by omega,by omega⟩
  ·rw[aeX hn];exact⟨by omega,by omega⟩
end
end aJ
def Xz (v:aJ):∀k:Int,0<=k->k<=17->v.ok->iq pg jn [ao,ah] [v.az,.z k] [ah] (·= .z (v.pV k)):=by
 induction v using aJ.ind with|h v ih=>
 intro k h0 h1 hv
 refine QR ?_
 have loop:∀(rest:List aJ) (i:Nat) (n:Int),k<=16->v.l.drop i=rest->1<=n->n<=512+513*(17-k)->aC pg jn [ah] (.kE (·= .z (aJ.pL rest k n))) (qQ v.az (.z k) n i):=by
  intro rest
  induction rest with
  |nil=>
   intro i n hk hd h1 h2
   have:=drop_nil hd
   refine BX ?_
   simp[this,aJ.pL];omega
  |cons x rest ihr=>
   intro i n hk hd hn1 hn2
   obtain⟨h1,h2,h3⟩:=aI hd
   have hx:=aeU h1
   have hb:=x.ZX (k+1) (by omega) (by omega)
   refine BX ?_
   simp[h3,aY,bS h1,bO h3 hv.len]
   refine⟨fun hn=>?_,fun hn=>by rw[aJ.pL,aeX (by omega)]⟩
   rw[bL (by omega) (by omega)]
   refine⟨_,_,rfl,_,ih x hx (k+1) (by omega) (by omega) (hv.mem hx),?_⟩
   rintro _ rfl
   simp
   rw[bL (by omega) (by omega),aJ.pL,aeZ hn]
   exact ihr _ _ hk h2 (by omega) (by omega)
 simp[hv.k]
 rw[aJ.aeb]
 refine⟨fun h=>by simp[h],fun h=>?_⟩
 rw[aeX (by omega)]
 exact loop _ 0 1 h rfl (by omega) (by omega)
namespace aJ
mutual
def Oj:∀(v:aJ) (k:Int),0<=k->k<=17->pV v k<=512->v.depth<=17-k
 | .mk kd n s l r,k,h0,h1,h=>by
   unfold pV at h
   split at h
   ·omega
   ·have:=Oi l k 1 h0 (by omega) (by omega) h
    unfold depth
    split
    ·omega
    ·omega
def Oi:∀(l:List aJ) (k n:Int),0<=k->k<=16->1<=n->pL l k n<=512->hI l<=16-k
 | [],k,n,_,_,_,_=>by unfold hI;omega
 |v::r,k,n,h0,h1,h2,h=>by
  unfold pL at h
  have hb:=ZX v (k+1) (by omega) (by omega)
  split at h
  ·have hp:=ZW r k (n+pV v (k+1))
   have hd:=Oi r k (n+pV v (k+1)) h0 h1 (by omega) h
   have hv:pV v (k+1)<=512:=by
    by_cases hx:n+pV v (k+1)<=512+513*(17-k)
    ·have:=hp h0 h1 (by omega) hx;omega
    ·exfalso
     cases r with
     |nil=>simp only[pL]at h;omega
     |cons y q=>unfold pL at h;split at h<;>omega
   have:=Oj v (k+1) (by omega) (by omega) hv
   unfold hI
   omega
  ·omega
end
end aJ
def aai (v:aJ):v.ok->v.depth<2^62->iq pg lj [ao] [v.az] [ah] (·= .z v.depth):=by
 induction v using aJ.ind with|h v ih=>
 intro hv hd0
 rw[aJ.Jk]at hd0 ⊢
 have loop:∀(rest:List aJ) (i:Nat) (n:Int),v.k=3->v.l.drop i=rest->0<=n->n<2^62->aC pg lj [ah] (.kE (·= .z (max n (aJ.hI rest)+1))) (sD v.az n i):=by
  intro rest
  induction rest with
  |nil=>
   intro i n _ hd hn0 hn
   have:=drop_nil hd
   refine Dt ?_
   simp[this,aJ.hI,Int.max_eq_left hn0]
   exact⟨by omega,bL (by omega) (by omega)⟩
  |cons x rest ihr=>
   intro i n hk hd hn0 hn
   obtain⟨h1,h2,h3⟩:=aI hd
   have hx:=aeU h1
   have hdx:=aJ.CA hx
   rw[aeZ hk]at hd0
   refine Dt ?_
   simp[-gt_iff_lt,h3,aY,bS h1,bO h3 hv.len]
   refine⟨_,_,rfl,_,ih x hx (hv.mem hx) (by omega),?_⟩
   rintro d hd
   rw[Sf]
   subst hd
   have e:=ihr (i+1) (max n x.depth) hk h2 (by omega) (by omega)
   rw[show max (max n (x.depth:Int)) (aJ.hI rest)=max n (aJ.hI (x::rest))by rw[show aJ.hI (x::rest)=max x.depth (aJ.hI rest)from rfl];omega]at e
   exact e
 refine T0 ?_
 simp[hv.k]
 refine⟨fun h=>by rw[aeX h];rfl,fun h=>?_⟩
 rw[aeZ h]
 have:=loop v.l 0 0 h rfl (by omega) (by omega)
 rwa [show max (0:Int) (aJ.hI v.l)+1=((aJ.hI v.l+1:Nat):Int)by omega]at this
def aJ.TC (v:aJ)(h:v.pV 0<=512):v.fG=(decide (v.depth<=16)&&v.ft):=by
 unfold aJ.fG
 by_cases hf:v.ft=true
 ·by_cases hd:v.depth<=16
  ·have:=(v.Mr 0 hf (by omega)).1.1 h
   simp[this]
  ·simp[hd]
 ·simp[hf]
def aJ.Kn (v:aJ)(h:¬v.pV 0<=512):v.fG=false:=by
 unfold aJ.fG
 by_cases hf:v.ft=true
 ·by_cases hd:v.depth<=16
  ·have:=mt (v.Mr 0 hf (by omega)).1.2 h
   simp[this]
  ·simp[hd]
 ·simp[hf]
def JW (v:aJ)(hv:v.ok):iq pg kM [ao] [v.az] [aj] (·= .b v.fG):=by
 refine Xg ?_
 simp
 refine⟨_,_,rfl,_,Xz v 0 (by omega) (by omega) hv,?_⟩
 rintro _ rfl
 simp
 refine⟨fun h=>?_,fun h=>v.Kn (by omega)⟩
 have hd:=v.Oj 0 (by omega) (by omega) h
 rw[v.TC h]
 refine⟨_,_,rfl,_,aai v hv (by omega),?_⟩
 rintro _ rfl
 simp
 refine⟨fun h=>⟨_,_,rfl,_,Uk v hv,?_⟩,fun h h2=>by omega⟩
 rintro _ rfl
 simp
 omega
mutual
def aJ.same:aJ->aJ->Bool
 | .mk k n s l r,b=>k==b.k&&n==b.n&&s==b.s&&r==b.r&&aJ.zn l b.l
def aJ.zn:List aJ->List aJ->Bool
 | [],[]=>true
 |v::r,w::q=>aJ.same v w&&aJ.zn r q
 |_,_=>false
end
mutual
def aJ.J1:∀a b:aJ,a.same b=true↔a=b
 | .mk k n s l r,.mk k' n' s' l' r'=>by
   simp only[aJ.same,aJ.k,aJ.n,aJ.s,aJ.r,aJ.l,aeV,afv,aJ.GX l l',aJ.mk.injEq];grind
def aJ.GX:∀a b:List aJ,aJ.zn a b=true↔a=b
 | [],[]=>by simp[aJ.zn]
 | [],_::_=>by simp[aJ.zn]
 |_::_,[]=>by simp[aJ.zn]
 |v::r,w::q=>by simp only[aJ.zn,aeV,aJ.J1 v w,aJ.GX r q,ahd]
end
def aah (a:aJ):∀b:aJ,a.ok->b.ok->iq pg lg [ao,ao] [a.az,b.az] [aj] (·= .b (a.same b)):=by
 induction a using aJ.ind with|h a ih=>
 intro b ha hb
 have ea:a.same b=(a.k==b.k&&a.n==b.n&&a.s==b.s&&a.r==b.r&&aJ.zn a.l b.l):=by cases a;rfl
 have loop:∀(ra rb:List aJ) (i:Nat),a.l.drop i=ra->b.l.drop i=rb->ra.length=rb.length->aC pg lg [aj] (.kE (·= .b (aJ.zn ra rb))) (vm a.az b.az i):=by
  intro ra
  induction ra with
  |nil=>
   intro rb i h1 h2 hl
   have:=drop_nil h1
   have:rb=[]:=by simpa using hl.symm
   subst this
   refine FM ?_
   simp[aJ.zn];omega
  |cons x ra ihr=>
   intro rb i h1 h2 hl
   cases rb with
   |nil=>simp at hl
   |cons y rb=>
    obtain⟨g1,g2,g3⟩:=aI h1
    obtain⟨k1,k2,k3⟩:=aI h2
    refine FM ?_
    simp[g3,k3,aY,bS g1,bS k1,bO g3 ha.len]
    refine⟨_,_,rfl,_,ih x (aeU g1) y (ha.mem (aeU g1)) (hb.mem (aeU k1)),?_⟩
    rintro _ rfl
    simp[aJ.zn]
    exact⟨fun h=>by simp[h],fun h=>by rw[h];exact ihr _ _ g2 k2 (by simpa using hl)⟩
 refine TZ ?_
 rw[ea]
 simp
 have hne:∀{x y:List aJ},x.length≠y.length->aJ.zn x y=false:=fun {x y} h=>by
  cases e:aJ.zn x y with
  |false=>rfl
  |true=>rw[(aJ.GX _ _).1 e]at h;exact absurd rfl h
 refine⟨fun h=>by simp[h],fun h1=>⟨fun h=>by simp[h],fun h2=>⟨fun h=>by simp[h],fun h3=>⟨fun h=>by simp[h],fun h4=>⟨fun h _ _ _ _=>hne (x:=a.l) (y:=b.l) (by omega),fun h5=>?_⟩⟩⟩⟩⟩
 simp[h1,h2,h3,h4]
 exact loop _ _ 0 rfl rfl (by omega)
end Go.Proofs
namespace Go.Proofs
open Go Go.PB
namespace Ex
mutual
def size:Ex->Nat
 | .mk _ _ _ l=>1+bI l
def bI:List Ex->Nat
 | []=>0
 |v::r=>size v+bI r
end
mutual
def ht:Ex->Nat
 | .mk _ _ _ l=>Ju l
def Ju:List Ex->Nat
 | []=>0
 |v::r=>max (ht v+1) (Ju r)
end
mutual
def CW:Ex->Nat
 | .mk k _ _ l=>if k≠3/\l.length=0 then 0 else nN l+1
def nN:List Ex->Nat
 | []=>0
 |v::r=>max (CW v) (nN r)
end
def gj (v:Ex):v.size=1+bI v.l:=by cases v;rfl
def aa1 (v:Ex):v.ht=Ju v.l:=by cases v;rfl
def R5 (v:Ex):v.CW=if v.k≠3/\v.l.length=0 then 0 else nN v.l+1:=by cases v;rfl
def fh:∀{l:List Ex} {x:Ex},x∈l->x.size<=bI l
 |v::r,x,h=>by
  unfold bI
  rcases ae5.1 h with rfl|h
  ·omega
  ·have:=fh h;omega
mutual
def Se:∀v:Ex,v.ht<=v.CW
 | .mk k n s l=>by
   have:=NO l
   simp only[ht,CW]
   split
   ·rename_i h;rw[afr.1 h.2];simp[Ju]
   ·omega
def NO:∀l:List Ex,Ju l<=nN l+1
 | []=>by simp[Ju]
 |v::r=>by have:=Se v;have:=NO r;simp only[Ju,nN];omega
end
mutual
def K1:∀v:Ex,v.CW<=v.size
 | .mk k n s l=>by have:=Jj l;simp only[CW,size];split<;>omega
def Jj:∀l:List Ex,nN l<=bI l
 | []=>by simp[nN]
 |v::r=>by have:=K1 v;have:=Jj r;simp only[nN,bI];omega
end
def Wd:∀{l:List Ex} {x:Ex},x∈l->x.ht+1<=Ju l
 |v::r,x,h=>by
  unfold Ju
  rcases ae5.1 h with rfl|h
  ·omega
  ·have:=Wd h;omega
def ok.len {v:Ex}(h:v.ok):v.l.length<2^63:=by rw[lH]at h;exact h.2.2.2.2.2.1
def ok.mem {v:Ex}(h:v.ok){x:Ex}(hx:x∈v.l):x.ok:=by rw[lH]at h;exact h.2.2.2.2.2.2 x hx
def ok.k {v:Ex}(h:v.ok):IntKind.i64.wrap v.k=v.k:=by rw[lH]at h;exact bL (by omega) (by omega)
def tB (v:Ex):Bool:=decide (v.size<=512)&&decide (v.CW<=16)
end Ex
def Gj (s h:Nat)(k m:Int):Prop:=(k+h<=16/\s<=512->m=s)/\(¬(k+h<=16/\s<=512)->512<m)/\1<=m/\m<=513*s
def MP (v:Ex):∀k:Int,0<=k->k<=17->v.ok->v.size<2^40->iq pg dK [aE,ah] [v.az,.z k] [ah] (fun d=>d= .z (D.int d)/\Gj v.size v.ht k (D.int d)):=by
 induction v using Ex.ind with|h v ih=>
 intro k h0 h1 hv hs
 have hse:=v.gj
 have loop:∀(rest:List Ex) (i:Nat) (n:Int),k<=16->v.l.drop i=rest->1<=n->n+513*Ex.bI rest<=513*v.size->(n+Ex.bI rest=v.size/\n<=512/\k+v.ht<=16/\v.size<=512\/¬(k+v.ht<=16/\v.size<=512)/\(n<=512->n+Ex.bI rest>512\/k+Ex.Ju rest>16))->
  aC pg dK [ah] (.kE (fun d=>d= .z (D.int d)/\Gj v.size v.ht k (D.int d))) (kB v.az (.z k) n i):=by
  intro rest
  induction rest with
  |nil=>
   intro i n hk hd h1 h2 h3
   have:=drop_nil hd
   refine wN ?_
   simp only[Ex.bI,Ex.Ju]at h2 h3
   simp[this,Gj];omega
  |cons x rest ihr=>
   intro i n hk hd hn1 hn2 hn3
   obtain⟨h1,h2,h3⟩:=aI hd
   have hx:=aeU h1
   have hsx:=Ex.fh hx
   have hhx:=Ex.Wd hx
   have hhv:=v.aa1
   refine wN ?_
   simp only[Ex.bI,Ex.Ju]at hn2 hn3
   simp[h3,aY,bS h1,bO h3 hv.len]
   refine⟨fun hn=>?_,fun hn=>by simp only[Gj];omega⟩
   rw[bL (by omega) (by omega)]
   refine⟨_,_,rfl,_,ih x hx (k+1) (by omega) (by omega) (hv.mem hx) (by omega),?_⟩
   rintro d ⟨_,hq⟩
   obtain⟨q1,q2,q3,q4⟩:=hq
   rw[bL (by omega) (by omega)]
   refine ihr _ _ hk h2 (by omega) (by omega) ?_
   rw[show ((max (x.ht+1) (Ex.Ju rest):Nat):Int)=max ((x.ht:Int)+1) (Ex.Ju rest)by omega]at hn3
   omega
 refine JP ?_
 simp
 refine⟨fun h=>by simp only[Gj];have:=v.gj;omega,fun h=>loop v.l 0 1 h rfl (by omega) (by omega) ?_⟩
 have:=v.aa1
 omega
def OQ (v:Ex):v.ok->v.size<2^40->iq pg ez [aE] [v.az] [ah] (·= .z v.CW):=by
 induction v using Ex.ind with|h v ih=>
 intro hv hs
 have hse:=v.gj
 have loop:∀(rest:List Ex) (i:Nat) (n:Int),v.l.drop i=rest->0<=n->n<2^40->aC pg ez [ah] (.kE (·= .z (max n (Ex.nN rest)+1))) (mi v.az n i):=by
  intro rest
  induction rest with
  |nil=>
   intro i n hd hn0 hn
   have:=drop_nil hd
   refine xK ?_
   simp[this,Ex.nN,Int.max_eq_left hn0]
   exact⟨by omega,bL (by omega) (by omega)⟩
  |cons x rest ihr=>
   intro i n hd hn0 hn
   obtain⟨h1,h2,h3⟩:=aI hd
   have hx:=aeU h1
   have hsx:=Ex.fh hx
   have hdx:=x.K1
   refine xK ?_
   simp[-gt_iff_lt,h3,aY,bS h1,bO h3 hv.len]
   refine⟨_,_,rfl,_,ih x hx (hv.mem hx) (by omega),?_⟩
   rintro d hd
   rw[Sf]
   subst hd
   have e:=ihr (i+1) (max n x.CW) h2 (by omega) (by omega)
   rw[show max (max n (x.CW:Int)) (Ex.nN rest)=max n (Ex.nN (x::rest))by rw[show Ex.nN (x::rest)=max x.CW (Ex.nN rest)from rfl];omega]at e
   exact e
 have e:=loop v.l 0 0 rfl (by omega) (by omega)
 rw[show max (0:Int) (Ex.nN v.l)+1=((Ex.nN v.l+1:Nat):Int)by omega]at e
 refine Kx ?_
 rw[v.R5]
 simp[hv.k]
 refine⟨fun h=>⟨fun h2=>by simp[h,h2],fun h2=>?_⟩,fun h=>?_⟩
 ·rw[aeX (by simp[h2])];exact e
 ·rw[aeX (by simp[h])];exact e
def HE (v:Ex)(hv:v.ok)(hs:v.size<2^40):iq pg ll [aE] [v.az] [aj] (·= .b v.tB):=by
 refine Ky ?_
 simp
 refine⟨_,_,rfl,_,MP v 0 (by omega) (by omega) hv hs,?_⟩
 rintro d ⟨_,hq⟩
 simp only[Gj]at hq
 obtain⟨q1,q2,q3,q4⟩:=hq
 have hd:=v.Se
 refine⟨fun h=>⟨_,_,rfl,_,OQ v hv hs,?_⟩,fun h=>?_⟩
 ·rintro _ rfl
  have:v.size<=512:=by omega
  simp[Ex.tB,this];omega
 ·simp[Ex.tB];omega
namespace St
mutual
def cnt:St->Nat
 | .mk _ _ _ _ _ _ _ th el co _=>1+cS th+cS el+cS co
def cS:List St->Nat
 | []=>0
 |v::r=>cnt v+cS r
end
mutual
def Yw:St->Nat
 | .mk _ _ _ _ _ a b th el co wi=>a.size+b.size+wi.length+mF th+mF el+mF co
def mF:List St->Nat
 | []=>0
 |v::r=>Yw v+mF r
end
mutual
def tB:St->Bool
 | .mk _ _ _ _ _ a b th el co wi=>decide (wi.length<=64)&&a.tB&&b.tB&&kO th&&kO el&&kO co
def kO:List St->Bool
 | []=>true
 |v::r=>tB v&&kO r
end
def DP (v:St):v.cnt=1+cS v.th+cS v.el+cS v.co:=by cases v;rfl
def zU (v:St):v.Yw=v.a.size+v.b.size+v.wi.length+mF v.th+mF v.el+mF v.co:=by cases v;rfl
def R7 (v:St):v.tB=(decide (v.wi.length<=64)&&v.a.tB&&v.b.tB&&kO v.th&&kO v.el&&kO v.co):=by cases v;rfl
def EZ:∀{l:List St} {x:St},x∈l->x.cnt<=cS l
 |v::r,x,h=>by
  unfold cS
  rcases ae5.1 h with rfl|h
  ·omega
  ·have:=EZ h;omega
def zV:∀{l:List St} {x:St},x∈l->x.Yw<=mF l
 |v::r,x,h=>by
  unfold mF
  rcases ae5.1 h with rfl|h
  ·omega
  ·have:=zV h;omega
def xq:∀l:List St,l.length<=cS l
 | []=>by simp[cS]
 |v::r=>by have:=xq r;have:=v.DP;simp only[cS,ae9];omega
def Qs {M:List St->Prop}(h:∀l:List St,(∀x∈l,M x.th/\M x.el/\M x.co)->M l):∀l,M l:=by
 intro l
 have key:∀x:St,M x.th/\M x.el/\M x.co:=fun x=>by
  induction x using St.ind with|h v h1 h2 h3=>
  exact⟨h _ fun x hx=>h1 x hx,h _ fun x hx=>h2 x hx,h _ fun x hx=>h3 x hx⟩
 exact h l fun x _=>key x
def AW (l:List St):Prop:=l.length<2^63/\∀x∈l,x.ok
def AW.th {l:List St}(h:AW l){x:St}(hx:x∈l):AW x.th/\AW x.el/\AW x.co/\x.a.ok/\x.b.ok/\x.wi.length<2^63:=by
 have:=(lH x).1 (h.2 x hx)
 simp only[AW];grind
end St
def C9 (n c m:Int):Prop:=(n+c<=512->m=n+c)/\(512<n+c->512<m)/\n<=m/\m<=n+c
def Sv (l:List St):St.AW l->St.cS l<2^40->iq pg fp [bB] [.r (l.map St.az)] [ah] (fun d=>d= .z (D.int d)/\C9 0 (St.cS l) (D.int d)):=by
 induction l using St.Qs with|h l ih=>
 intro hl hc
 refine T4 ?_
 have loop:∀(rest:List St) (i:Nat) (n:Int),l.drop i=rest->0<=n->n+St.cS rest<=St.cS l->(n<=512->n+St.cS rest=St.cS l)->(512<n->512<St.cS l)->
  aC pg fp [ah] (.kE (fun d=>d= .z (D.int d)/\C9 0 (St.cS l) (D.int d))) (nE (.r (l.map St.az)) n i):=by
  intro rest
  induction rest with
  |nil=>
   intro i n hd h0 h1 h2 h3
   have:=drop_nil hd
   refine FP ?_
   simp only[St.cS]at h1 h2
   simp[this,C9];omega
  |cons x rest ihr=>
   intro i n hd h0 h1 h2 h3
   obtain⟨g1,g2,g3⟩:=aI hd
   have hx:=aeU g1
   obtain⟨o1,o2,o3,_⟩:=hl.th hx
   obtain⟨i1,i2,i3⟩:=ih x hx
   have hcx:=x.DP
   have hcm:=St.EZ hx
   simp only[St.cS]at h1 h2
   refine FP ?_
   simp[g3,aY,bS g1,bO g3 hl.1]
   refine⟨fun hn=>?_,fun hn=>by simp only[C9];omega⟩
   refine⟨_,_,rfl,_,i1 o1 (by omega),?_⟩
   rintro d1 ⟨_,q1⟩
   simp only[C9]at q1
   rw[bL (x:=n+1) (by omega) (by omega),bL (x:=n+1+D.int d1) (by omega) (by omega)]
   refine⟨fun hn1=>?_,fun hn1=>?_⟩
   ·refine⟨_,_,rfl,_,i2 o2 (by omega),?_⟩
    rintro d2 ⟨_,q2⟩
    simp only[C9]at q2
    rw[bL (x:=n+1+D.int d1+D.int d2) (by omega) (by omega)]
    refine⟨fun hn2=>?_,fun hn2=>?_⟩
    ·refine⟨_,_,rfl,_,i3 o3 (by omega),?_⟩
     rintro d3 ⟨_,q3⟩
     simp only[C9]at q3
     rw[bL (x:=n+1+D.int d1+D.int d2+D.int d3) (by omega) (by omega)]
     exact ihr _ _ g2 (by omega) (by omega) (by omega) (by omega)
    ·exact ihr _ _ g2 (by omega) (by omega) (by omega) (by omega)
   ·exact ihr _ _ g2 (by omega) (by omega) (by omega) (by omega)
 exact loop l 0 0 rfl (by omega) (by simp) (by intro;simp) (by omega)
def HD (l:List St):St.AW l->St.mF l<2^40->iq pg cm [bB] [.r (l.map St.az)] [aj] (·= .b (St.kO l)):=by
 induction l using St.Qs with|h l ih=>
 intro hl hc
 refine Kw ?_
 have loop:∀(rest:List St) (i:Nat),l.drop i=rest->aC pg cm [aj] (.kE (·= .b (St.kO rest))) (nF (.r (l.map St.az)) i):=by
  intro rest
  induction rest with
  |nil=>
   intro i hd
   have:=drop_nil hd
   refine zl ?_
   simp[this,St.kO];omega
  |cons x rest ihr=>
   intro i hd
   obtain⟨g1,g2,g3⟩:=aI hd
   have hx:=aeU g1
   obtain⟨o1,o2,o3,oa,ob,ow⟩:=hl.th hx
   obtain⟨i1,i2,i3⟩:=ih x hx
   have hcx:=x.zU
   have hcm:=St.zV hx
   have hfx:=x.R7
   refine zl ?_
   simp[g3,aY,bS g1,bO g3 hl.1,St.kO]
   refine⟨fun hw=>by simp[hfx];omega,fun hw=>⟨_,_,rfl,_,HE _ oa (by omega),?_⟩⟩
   rintro _ rfl
   simp
   refine⟨fun h=>by simp[hfx,h],fun ha=>⟨_,_,rfl,_,HE _ ob (by omega),?_⟩⟩
   rintro _ rfl
   simp
   refine⟨fun h=>by simp[hfx,h],fun hb=>⟨_,_,rfl,_,i1 o1 (by omega),?_⟩⟩
   rintro _ rfl
   simp
   refine⟨fun h=>by simp[hfx,h],fun ht=>⟨_,_,rfl,_,i2 o2 (by omega),?_⟩⟩
   rintro _ rfl
   simp
   refine⟨fun h=>by simp[hfx,h],fun he=>⟨_,_,rfl,_,i3 o3 (by omega),?_⟩⟩
   rintro _ rfl
   simp
   refine⟨fun h=>by simp[hfx,h],fun hc=>?_⟩
   have e:=ihr _ g2
   have:x.tB=true:=by simp[hfx,ha,hb,ht,he,hc];omega
   simpa [this]using e
 exact loop l 0 rfl
end Go.Proofs
namespace Go.Proofs
open Go Go.PB
def pA (v:aJ)(p q:Int):Bool:=v.ft&&decide (v.depth<=q)&&decide (v.size<=p)
def Qt (v:aJ)(p q:Int)(b:Bool)(n1 n2:Int):Prop:=b=pA v p q/\(pA v p q=true->n1=p-v.size/\n2=q)
def Vb (v:aJ)(p q:Int)(d:D):Prop:=Qt v p q (d.ae 0).bool (d.ae 1).int (d.ae 2).int
def aS {α:Type}{a b:α}:T.dm a (.ret b)↔a=b:=⟨fun h=>by cases h;rfl,fun h=>h▸ .ret⟩
def wS {v:aJ}{p q:Int}:pA v p q=true↔v.ft=true/\(v.depth:Int)<=q/\(v.size:Int)<=p:=by simp[pA,aio]
def Eb {v:aJ}{p q:Int}:pA v p q=false↔¬(v.ft=true/\(v.depth:Int)<=q/\(v.size:Int)<=p):=by rw[<-wS];simp
abbrev adP (p q:Int):List (Nat×ax):=[(0,.cells [.int .i64 p,.int .i64 q] gM false)]
def G2 {v:aJ}{p q n1 n2:Int}{b:Bool}{ags:List BV}{L:List (Nat×ax)}:(kn.bu=some 1/\∃d,T.dm (.bool b,adP n1 n2) (iO ags L d)/\Vb v p q d)↔Qt v p q b n1 n2:=by
 constructor
 ·rintro⟨_,d,h,hq⟩
  simp only[iO,aS,afQ,BV.bool.injEq,ahd,ax.cells.injEq,BV.int.injEq,afL,afm]at h
  obtain⟨rfl,rfl,rfl⟩:=h
  exact hq
 ·intro h;exact⟨rfl,.r [.b b,.z n1,.z n2],aS.2 rfl,h⟩
def Va {v:aJ}{p q n1 n2:Int}:Qt v p q false n1 n2↔pA v p q=false:=by unfold Qt;grind
def acB (v:aJ):∀p q:Int,v.ok->0<=p->p<1000->0<=q->q<1000->
 PH fF (uJ v.az p q) (uL v.az p q) 1 iO (Vb v p q):=by
 induction v using aJ.ind with|h v ih=>
 intro p q hv hp0 hp hq0 hq
 refine MG ?_
 simp only[rk,aJ.fA,aJ.wB,aJ.Hk,aJ.Bq,aJ.Dd,aeW,G2,Va]
 have hw:0<p->IntKind.i64.wrap (p-1)=p-1:=fun h=>bL (by omega) (by omega)
 have hw2:0<q->IntKind.i64.wrap (q-1)=q-1:=fun h=>bL (by omega) (by omega)
 have hz:v.l.length=0->aJ.bI v.l=0/\aJ.kz v.l=true/\aJ.hI v.l=0:=fun h=>by rw[afr.1 h];exact⟨rfl,rfl,rfl⟩
 have hs:=aJ.dx v.l
 have hsz:=v.gj
 have hdp:=v.Jk
 have hfs:=v.pS
 unfold aJ.field at hfs
 simp
 have hno:¬(v.size:Int)<=p->pA v p q=false:=fun h=>by simp[pA,h]
 refine⟨fun h=>hno (by omega),fun h=>?_⟩
 rw[hw (by omega)]
 have hlf:v.k≠3->(v.ft=(decide (v.l.length=0)&&v.field))->Qt v p q (decide (v.l.length=0)&&v.field) (p-1) q:=fun h3 h4=>by
  simp only[Qt,pA,h4,hdp,aeX h3]
  by_cases hl:v.l.length=0
  ·have h5:=hz hl;have:decide (((1+aJ.bI v.l:Nat):Int)<=p)=true:=by simp;omega
   simp[hl,hsz,h5]at*;grind
  ·simp[hl]
 have hf3:v.k≠3->(v.ft=(decide (v.l.length=0)&&v.field)):=fun h3=>by
  rw[v.pS]
  by_cases hl:v.l.length=0
  ·simp[hl,(hz hl).2.1]
  ·simp only[hl,aJ.field];grind
 have hlf2:v.k≠3->v.field=false->pA v p q=false:=fun h3 h4=>by simp[pA,hf3 h3,h4]
 have hlf3:v.k≠3->(v.l=[]->v.field=true)->(v.l≠[]->v.field=false)->Qt v p q ((v.l.length:Int)==0) (p-1) q:=fun h3 h4 h5=>by
  have:=hlf h3 (hf3 h3)
  by_cases hl:v.l=[]
  ·simpa [hl,h4 hl]using this
  ·have hl':¬v.l.length=0:=by simpa using hl
   simp only[hl',h5 hl]at this
   have e2:((v.l.length:Int)==0)=false:=by simpa using hl
   rw[e2];simpa [hl]using this
 unfold aJ.field at hlf2 hlf3
 refine⟨fun k0=>?_,fun k0=>⟨fun k1=>?_,fun k1=>⟨fun k2=>?_,fun k2=>⟨fun k4=>?_,fun k4=>⟨fun k3=>?_,fun k3=>?_⟩⟩⟩⟩⟩
 ·grind
 ·grind
 ·grind
 ·grind
 ·refine⟨fun h=>by simp[pA,hdp,k3];omega,fun hq1=>⟨fun h=>hno (by omega),fun hl=>?_⟩⟩
  rw[hw2 (by omega)]
  have loop:∀(rest:List aJ) (i:Nat) (n1:Int),v.l.drop i=rest->0<=n1->n1<1000->
   (pA v p q=true↔aJ.kz rest=true/\(aJ.hI rest:Int)<=q-1/\(aJ.bI rest:Int)<=n1/\v.field=true)->n1-aJ.bI rest=p-v.size->
   aC pg fF [aj] (.bu 1 (iO (uJ v.az p q) (uL v.az p q)) (Vb v p q)) (ja v.az p q i n1 (q-1)):=by
   intro rest
   induction rest with
   |nil=>
    intro i n1 hd h0 h1 hk hn
    have:=drop_nil hd
    refine tO ?_
    simp only[rk,aJ.fA,aJ.wB,aJ.Hk,aJ.Bq,aJ.Dd,aeW,G2,Va]
    have e3:IntKind.i64.wrap (q-1+1)=q:=by rw[bL (by omega) (by omega)];omega
    simp only[aJ.kz,aJ.hI,aJ.bI,aJ.field,k3]at hk hn
    have hk':=Eb (v:=v) (p:=p) (q:=q)
    rw[<-wS,hk]at hk'
    simp[e3,this,Qt]
    have e4:IntKind.i64.wrap q=q:=bL (by omega) (by omega)
    simp at hk
    grind
   |cons x rest ihr=>
    intro i n1 hd h0 h1 hk hn
    obtain⟨g1,g2,g3⟩:=aI hd
    have hx:=aeU g1
    refine tO ?_
    simp only[rk,aJ.fA,aJ.wB,aJ.Hk,aJ.Bq,aJ.Dd,aeW,G2,Va]
    simp[g3,aY,bS g1,bO g3 hv.len]
    refine⟨_,rfl,_,ih x hx n1 (q-1) (hv.mem hx) h0 h1 (by omega) (by omega),?_⟩
    rintro d ⟨hd1,hd2⟩
    rw[hd1]
    simp only[aJ.kz,aJ.hI,aJ.bI]at hk hn
    simp only[aeV]at hk
    refine⟨fun h=>?_,fun h=>?_⟩
    ·rw[Eb]at h
     cases e:pA v p q with
     |false=>rfl
     |true=>rw[hk]at e;exact absurd ⟨e.1.1,by omega,by omega⟩ h
    ·obtain⟨e1,e2⟩:=hd2 h
     rw[e1,e2]
     rw[wS]at h
     refine ihr _ _ g2 (by omega) (by omega) ?_ (by omega)
     rw[hk]
     simp only[h.1,afL]
     exact⟨fun a=>⟨a.1,by omega,by omega,a.2.2.2⟩,fun a=>⟨a.1,by omega,by omega,a.2.2.2⟩⟩
  refine loop v.l 0 (p-1) rfl (by omega) (by omega) ?_ (by omega)
  rw[wS,v.pS,hdp,aeZ k3]
  simp only[aeV]
  exact⟨fun a=>⟨a.1.1,by omega,by omega,a.1.2⟩,fun a=>⟨⟨a.1,a.2.2.2⟩,by omega,by omega⟩⟩
 ·grind
end Go.Proofs
namespace Go.Proofs
open Go Go.PB
def Rp (v:aJ):pA v 512 16=v.fG:=by
 have h1:=wS (v:=v) (p:=512) (q:=16)
 have h2:v.fG=true↔v.size<=512/\v.depth<=16/\v.ft=true:=by simp[aJ.fG,aio]
 cases e:v.fG with
 |false=>rw[e]at h2;rw[Eb];exact fun h=>absurd (h2.2 ⟨by omega,by omega,h.1⟩) (by simp)
 |true=>rw[e]at h2;have:=h2.1 rfl;exact h1.2 ⟨this.2.2,by omega,by omega⟩
def aJ.im (v:aJ):v.fG=true↔v.size<=512/\v.depth<=16/\v.ft=true:=by simp[aJ.fG,aio]
def aJ.Wr (v:aJ):Int:=if v.fG then v.size else 0
def UK (v:aJ)(hv:v.ok):iq pg tA [ao] [v.az] [ah] (·= .z v.Wr):=by
 refine OH ?_
 simp
 refine⟨_,rfl,_,acB v 512 16 hv (by omega) (by omega) (by omega) (by omega),?_⟩
 rintro d ⟨h1,h2⟩
 rw[Rp]at h1 h2
 rw[h1]
 refine⟨fun h=>by simp[aJ.Wr,h],fun h=>?_⟩
 have hs:=(aJ.im v).1 h
 rw[(h2 h).1,show (512-(512-(v.size:Int)))=v.size by omega,bL (by omega) (by omega)]
 simp[aJ.Wr,h]
def HQ (v:aJ)(hv:v.ok):iq pg eN [ao] [v.az] [aj] (·= .b v.fG):=by
 refine Z9 ?_
 simp
 refine⟨_,_,rfl,_,UK v hv,?_⟩
 rintro _ rfl
 have:=v.J5
 by_cases h:v.fG=true
 ·simp[aJ.Wr,h];omega
 ·simp[aJ.Wr,h]
def tT {α:Type}{l:List α}{i:Nat}{x:α}(h:i<l.length):(l.set i x).take (i+1)=l.take i++[x]:=by
 rw[agF (by simpa using h),List.take_set_of_le (by omega)];simp
def bn {α:Type}{l:List α}{i:Nat}{x:α}(h:l[i]?=some x):l.take (i+1)=l.take i++[x]:=by
 obtain⟨h1,rfl⟩:=ae1.1 h
 rw[agF h1]
def aa8 (v:aJ):v.ok->v.size<2^40->iq pg oR [ao] [v.az] [ao] (·=v.az):=by
 induction v using aJ.ind with|h v ih=>
 intro hv hs
 have hsl:=aJ.dx v.l
 have hse:=v.gj
 have loop:∀(rest:List aJ) (i:Nat) (l:List D),v.l.drop i=rest->l.length=v.l.length->l.take i=(v.l.take i).map aJ.az->aC pg oR [ao] (.kE (·=v.az)) (xC v.az i l):=by
  intro rest
  induction rest with
  |nil=>
   intro i l hd hl ht
   have:=drop_nil hd
   refine HA ?_
   rw[ae7 (by omega),ae7 (by omega)]at ht
   simp[this,hl,ht]
   exact⟨by omega,(v.ay).symm⟩
  |cons x rest ihr=>
   intro i l hd hl ht
   obtain⟨g1,g2,g3⟩:=aI hd
   have hx:=aeU g1
   have hsx:x.size<2^40:=by have:=aJ.fh hx;omega
   refine HA ?_
   simp[g3,aY,bS g1,bO g3 hv.len,hl]
   refine⟨_,_,rfl,_,ih x hx (hv.mem hx) hsx,?_⟩
   rintro _ rfl
   rw[ml]
   exact ihr _ _ g2 (by simpa using hl) (by rw[tT (by omega),bn g1,ht];simp)
 refine aac ?_
 simp
 refine⟨fun h=>by rw[v.ay,h];rfl,fun h=>⟨fun h2=>loop _ 0 _ rfl (by simp) (by simp),?_⟩⟩
 simp[rv];omega
def SJ (v:aJ)(hv:v.ok):iq pg vf [ao] [v.az] [ao,aX] (·=if v.fG then .r [v.az,.z 0]else .r [.r [.z 0,.z 0,.s [],.r [],.z 0],.z 2]):=by
 refine aaa ?_
 simp
 refine⟨_,_,rfl,_,HQ v hv,?_⟩
 rintro _ rfl
 simp
 refine fun h=>⟨_,_,rfl,_,aa8 v hv (by have:=(v.im).1 h;omega),?_⟩
 rintro _ rfl
 simp[h]
end Go.Proofs
namespace Go.Proofs
open Go Go.PB
mutual
def aJ.mq:aJ->List Int
 | .mk k _ _ l r=>(if k=4 then [r]else [])++aJ.cU l
def aJ.cU:List aJ->List Int
 | []=>[]
 |v::r=>aJ.mq v++aJ.cU r
end
def aJ.Sz (v:aJ):v.mq=(if v.k=4 then [v.r]else [])++aJ.cU v.l:=by cases v;rfl
def aJ.XE (l:List aJ):aJ.cU l=l.flatMap aJ.mq:=by induction l with|nil=>rfl|cons a r ih=>simp[aJ.cU,ih]
mutual
def aJ.B3:∀v:aJ,v.mq.length<=v.size
 | .mk k n s l r=>by
   have:=aJ.wc l
   simp only[aJ.mq,aJ.size,ae4]
   split<;>simp<;>omega
def aJ.wc:∀l:List aJ,(aJ.cU l).length<=aJ.bI l
 | []=>by simp[aJ.cU,aJ.bI]
 |v::r=>by
  have:=aJ.B3 v
  have:=aJ.wc r
  simp only[aJ.cU,aJ.bI,ae4];omega
end
abbrev Vc (v:aJ)(zi:List Int)(d:D):Prop:=D.aa d=ba (zi++v.mq)
def Lu {v:aJ}{zi:List Int}{ags:List BV}{L:List (Nat×ax)}{l:List D}{c:Nat}:
 (wy.bu=some 1/\∃d,T.dm (.bool true,[(0,.cells [.aV 1 c true] dS false),(1,.an bh l true)]) (sX ags L d)/\Vc v zi d)↔c=l.length/\l=ba (zi++v.mq):=by
 constructor
 ·rintro⟨_,d,h,hq⟩
  simp only[sX,aS,afQ,ahd,ax.cells.injEq,ax.an.injEq,BV.aV.injEq,afL,afm]at h
  obtain⟨rfl,rfl⟩:=h
  exact⟨rfl,hq⟩
 ·rintro⟨rfl,h⟩;exact⟨rfl,.r l,aS.2 rfl,h⟩
def acC (v:aJ):∀(pl:List D) (zi:List Int),v.ok->pl.length+v.depth<1000->zi.length+v.size<2^30->v.ft=true->
 PH kN (Es v.az pl (ba zi) zi.length) (EC v.az pl (ba zi) zi.length) 1 sX (Vc v zi):=by
 induction v using aJ.ind with|h v ih=>
 intro pl zi hv hpl hout hf
 have hse:=v.gj
 refine Xn ?_
 have loop:∀(rest:List aJ) (i:Nat) (o:List Int),v.l.drop i=rest->o++aJ.cU rest=zi++v.mq->o.length+aJ.bI rest<2^30->
  aC pg kN [aj] (.bu 1 (sX (Es v.az pl (ba zi) zi.length) (EC v.az pl (ba zi) zi.length)) (Vc v zi)) (tE v.az pl (ba zi) zi.length o.length (ba o) i):=by
  intro rest
  induction rest with
  |nil=>
   intro i o hd ho hlen
   have:=drop_nil hd
   refine HB ?_
   simp[-List.map_append,this,Lu]
   simp[aJ.cU]at ho
   exact⟨by omega,by rw[ho]⟩
  |cons x rest ihr=>
   intro i o hd ho hlen
   obtain⟨g1,g2,g3⟩:=aI hd
   have hx:=aeU g1
   refine HB ?_
   simp[-List.map_append,g3,aY,bS g1,bO g3 hv.len,VI]
   have hdx:=aJ.CA hx
   have hfx:=hv.ae hf hx
   have hdv:=v.Jk
   have hk3:=aJ.VZ hf hx
   rw[aeZ hk3]at hdv
   simp only[aJ.bI]at hlen
   have hxr:=x.B3
   refine⟨fun _=>⟨_,rfl,_,ih x hx (pl++[D.z i]) o (hv.mem hx) (by simp;omega) (by omega) hfx,?_⟩,by simp[bg];omega⟩
   rintro d hd2
   rw[hd2]
   have e:=ihr (i+1) (o++x.mq) g2 (by rw[ahm];exact ho) (by simp;omega)
   simpa using e
 have hl:aJ.bI v.l<2^30:=by omega
 have hr:=v.Sz
 simp only[rk,aJ.fA,aJ.Dd,Lu,aft,afB,aeW]
 refine⟨fun hk=>⟨fun _=>?_,fun h=>?_⟩,fun hk=>?_⟩
 ·have hk:v.k=4:=by simpa using hk
  rw[aeZ hk]at hr
  have e:=loop v.l 0 (zi++[v.r]) rfl (by rw[hr,ahm]) (by simp;omega)
  simp at e;exact e
 ·simp[bg]at h;omega
 ·have hk:¬v.k=4:=by simpa using hk
  rw[aeX hk]at hr
  exact loop v.l 0 zi rfl (by rw[hr];simp) (by omega)
def jR {e:TypeId}{n:Nat}{l X:List D}(h1:n=l.length)(h2:l=X):∃d,T.dm (BV.aV 0 n true,[(0,ax.an e l true)]) (T.ret (BV.aV 0 (D.aa d).length true,[(0,ax.an e (D.aa d) true)]))/\D.aa d=X:=⟨.r l,by subst h1;exact .ret,h2⟩
def Ka (v:aJ)(hv:v.ok):PH mI (Nf v.az) [] 0 Bd (fun d=>D.aa d=ba (if v.fG then v.mq else [])):=by
 refine Xl ?_
 simp only[rk,aJ.fA,ml]
 refine⟨_,_,_,rfl,HQ v hv,?_⟩
 rintro _ rfl
 simp only[D.cg]
 refine⟨fun h=>?_,fun h=>⟨rfl,jR rfl (by simp[h])⟩⟩
 have h2:=v.im.1 h
 refine⟨_,_,rfl,acC v [] [] hv (by simp;omega) (by simp;omega) h2.2.2,?_⟩
 rintro d hd
 exact⟨rfl,jR rfl (by rw[hd];simp[h])⟩
end Go.Proofs
namespace Go.Proofs
open Go Go.PB
def aJ.aa (l:List aJ):aJ:= .mk 3 0 [] l 0
def aJ.NX (l:List aJ):(aJ.aa l).az= .r [.z 3,.z 0,.s [],.r (l.map aJ.az),.z 0]:=aJ.ay _
def Lo {ags:List BV}{L:List (Nat×ax)}{b:Int}{Q:D->Prop}:(eC.bu=some 0/\∃d,T.dm (.int .i64 b,[]) (eB ags L d)/\Q (.z (D.int d)))↔Q (.z b):=by
 constructor
 ·rintro⟨_,d,h,hq⟩
  simp only[eB,aS,afQ,BV.int.injEq,afL,afm]at h
  rw[h];exact hq
 ·intro h;exact⟨rfl,.z b,aS.2 rfl,h⟩
def Tk (l:List aJ)(hl:∀x∈l,x.ok)(hn:l.length<2^63):
 PH dD (lJ (l.map aJ.az)) [] 0 eB
  (fun d=>decide (0<=D.int (.z (D.int d)))=!l.all aJ.fG):=by
 refine FB ?_
 have loop:∀(rest:List aJ) (i:Nat),l.drop i=rest->
  aC pg dD [ah] (.bu 0 (eB (lJ (l.map aJ.az)) []) (fun d=>decide (0<=D.int (.z (D.int d)))=!rest.all aJ.fG)) (iX (l.map aJ.az) i):=by
  intro rest
  induction rest with
  |nil=>
   intro i hd
   have:=drop_nil hd
   refine tI ?_
   simp only[rk,aeW,Lo (Q:=fun d=>decide (0<=D.int d)=!List.all [] aJ.fG)]
   simp[this];omega
  |cons x rest ihr=>
   intro i hd
   obtain⟨g1,g2,g3⟩:=aI hd
   have hx:=aeU g1
   refine tI ?_
   simp only[rk,aeW,Lo (Q:=fun d=>decide (0<=D.int d)=!List.all (x::rest) aJ.fG)]
   simp[g3,aY,bS g1,bO g3 hn]
   refine⟨_,_,rfl,_,HQ x (hl x hx),?_⟩
   rintro _ rfl
   simp
   refine⟨fun h=> .inl h,fun h=>?_⟩
   have:=ihr _ g2
   simp[h]at this ⊢;exact this
 exact loop l 0 rfl
def LW (l:List aJ)(hl:∀x∈l,x.ok)(hn:l.length<2^63):
 PH fL (sO (l.map aJ.az)) [] 0 my
  (fun d=>D.bool d=!l.all aJ.fG):=by
 refine BO ?_
 simp only[rk]
 refine⟨_,_,rfl,Tk l hl hn,?_⟩
 intro d hd
 exact⟨rfl,.b _,aS.2 rfl,hd⟩
def aem (l:List aJ)(hl:∀x∈l,x.ok)(hn:l.length<2^63):iq pg Fe [eQ] [.r (l.map aJ.az)] [aj] (·= .b (l.all aJ.fG)):=by
 refine aab ?_
 simp only[rk,D.bP]
 refine⟨_,_,rfl,LW l hl hn,?_⟩
 intro d hd
 rw[hd];simp
def aeO (l:List aJ)(hl:∀x∈l,x.ok)(hn:l.length<2^63):iq pg yd [eQ] [.r (l.map aJ.az)] [ao,aX]
 (·=if l.all aJ.fG then (if (aJ.aa l).fG then .r [(aJ.aa l).az,.z 0]else .r [.r [.z 0,.z 0,.s [],.r [],.z 0],.z 4])else .r [.r [.z 0,.z 0,.s [],.r [],.z 0],.z 2]):=by
 have hok:(aJ.aa l).ok:=by rw[aJ.lH];exact⟨by simp[aJ.aa,aJ.k],by simp[aJ.aa,aJ.k],by simp[aJ.aa,aJ.n],by simp[aJ.aa,aJ.n],by simp[aJ.aa,aJ.s],hn,by simp[aJ.aa,aJ.r],by simp[aJ.aa,aJ.r],hl⟩
 refine acn ?_
 simp only[rk,D.bP,<-aJ.NX]
 refine⟨_,_,_,rfl,aem l hl hn,?_⟩
 rintro _ rfl
 simp
 refine⟨fun x h1 h2 h3=>absurd (h3 x h1) (by simp[h2]),fun h=>?_⟩
 rw[aeZ h]
 refine⟨_,_,rfl,_,HQ _ hok,?_⟩
 rintro _ rfl
 simp
 refine fun h=>⟨_,_,rfl,_,aa8 _ hok (by have:=aJ.im _ |>.1 h;omega),?_⟩
 rintro _ rfl
 simp[h]
end Go.Proofs
namespace Go.Proofs
open Go Go.PB
namespace Wh
def aF (x:Wh):List aJ:=x.v::(x.vs++x.ns.map jV.v)
def sz (x:Wh):Nat:=aJ.bI x.aF+St.cS x.co+St.mF x.co
def ok.aF {x:Wh}(h:x.ok):∀v∈x.aF,v.ok:=by
 intro v hv
 simp only[ok]at h
 simp only[Wh.aF,ae5,afp,afy]at hv
 rcases hv with rfl|hv| ⟨n,hn,rfl⟩
 ·exact h.2.2.2.2.1
 ·exact h.2.2.2.2.2.2.1 v hv
 ·exact((h.2.2.2.2.2.2.2.2.2.2.2.2.2.2.2.2.2.2.2.2) n hn).2
def ok.co {x:Wh}(h:x.ok):St.AW x.co:=by
 simp only[ok]at h
 exact⟨h.2.2.2.2.2.2.2.2.2.2.2.2.2.2.2.2.2.1,h.2.2.2.2.2.2.2.2.2.2.2.2.2.2.2.2.2.2.1⟩
def JA (x:Wh):x.vs.length+x.ns.length<aJ.bI x.aF:=by
 have:=aJ.dx x.aF
 have h:x.aF.length=1+x.vs.length+x.ns.length:=by simp[aF];omega
 omega
end Wh
def Ll (x:Wh)(hs:x.sz<2^30):iq pg gK [aO] [x.az] [eQ] (·= .r (x.aF.map aJ.az)):=by
 have hls:=x.JA
 simp only[Wh.sz]at hs
 have loop:∀(rest:List jV) (i:Nat) (o:List aJ),x.ns.drop i=rest->o++rest.map jV.v=x.aF->aC pg gK [eQ] (.kE (·= .r (x.aF.map aJ.az))) (oV x.az o.length i (o.map aJ.az)):=by
  intro rest
  induction rest with
  |nil=>
   intro i o hd ho
   have:=drop_nil hd
   refine AN ?_
   simp only[aiB,afU]at ho
   subst ho
   simp[this]
   omega
  |cons n rest ihr=>
   intro i o hd ho
   obtain⟨g1,g2,g3⟩:=aI hd
   have hol:o.length<=x.aF.length:=by rw[<-ho];simp
   have hvl:x.aF.length=1+x.vs.length+x.ns.length:=by simp[Wh.aF];omega
   refine AN ?_
   simp[-List.map_append,g3,aY,bS g1,bO g3 (n:=x.ns.length) (by omega)]
   exact⟨fun _=>by simpa using ihr (i+1) (o++[n.v]) g2 (by simpa using ho),by simp[bg];omega⟩
 refine OG ?_
 simp
 refine⟨fun _=>?_,by simp[bg];omega⟩
 have e:=loop x.ns 0 (x.v::x.vs) rfl (by simp[Wh.aF])
 simpa [agR]using e
def aan (v:aJ):v.ok->v.size<2^30->v.ft=true->iq pg ln [ao] [v.az] [dS] (·= .r (ba v.mq)):=by
 induction v using aJ.ind with|h v ih=>
 intro hv hs hf
 have hse:=v.gj
 have hre:=v.Sz
 have hrl:=aJ.B3 v
 have loop:∀(rest:List aJ) (i:Nat) (o:List Int),v.l.drop i=rest->o++aJ.cU rest=v.mq->aC pg ln [dS] (.kE (·= .r (ba v.mq))) (sJ v.az o.length i (ba o)):=by
  intro rest
  induction rest with
  |nil=>
   intro i o hd ho
   have:=drop_nil hd
   refine Dz ?_
   simp only[aJ.cU,afU]at ho
   subst ho
   simp[this]
   omega
  |cons x rest ihr=>
   intro i o hd ho
   obtain⟨g1,g2,g3⟩:=aI hd
   have hx:=aeU g1
   have hsx:=aJ.fh hx
   have hol:=afg List.length ho
   simp only[aJ.cU,ae4]at hol
   refine Dz ?_
   simp[-List.map_append,g3,aY,bS g1,bO g3 hv.len]
   refine⟨_,_,rfl,_,ih x hx (hv.mem hx) (by omega) (hv.ae hf hx),?_⟩
   rintro _ rfl
   simp only[D.bP,aeW]
   refine⟨fun _=>?_,by simp[bg];omega⟩
   have e:=ihr (i+1) (o++x.mq) g2 (by simpa [aJ.cU]using ho)
   simpa using e
 refine T8 ?_
 simp
 refine⟨fun h=>?_,fun h=>?_⟩
 ·have:v.l=[]:=by
   rw[aJ.pS]at hf
   simp only[aJ.field,h,aeV]at hf
   simp at hf;exact hf.2.1.2
  simp[hre,h,this,aJ.cU]
 ·exact loop v.l 0 [] rfl (by simp[hre,h])
def aak (x:Wh)(hx:x.ok)(hs:x.sz<2^30)(hm:∀v∈x.aF,v.fG=true):PH pQ (B9 x.az) [] 0 yC (fun d=>D.aa d=ba (aJ.cU x.aF)):=by
 have hvl:x.aF.length<2^63:=by have:=aJ.dx x.aF;simp only[Wh.sz]at hs;omega
 have hrl:=aJ.wc x.aF
 have hs2:=hs
 simp only[Wh.sz]at hs2
 have loop:∀(rest:List aJ) (i:Nat) (o:List Int),x.aF.drop i=rest->o++aJ.cU rest=aJ.cU x.aF->aC pg pQ [dS] (.bu 0 (yC (B9 x.az) []) (fun d=>D.aa d=ba (aJ.cU x.aF))) (sI x.az (x.aF.map aJ.az) o.length i (ba o)):=by
  intro rest
  induction rest with
  |nil=>
   intro i o hd ho
   have:=drop_nil hd
   refine Dy ?_
   simp only[aJ.cU,afU]at ho
   subst ho
   have hn:¬(i:Int)<(x.aF.length:Int):=by omega
   simp only[rk,aeW,hn,age,ae0,afc,afe,afL]
   refine⟨rfl,.r (ba (aJ.cU x.aF)),?_,rfl⟩
   rw[show (aJ.cU x.aF).length=(ba (aJ.cU x.aF)).length by simp]
   exact .ret
  |cons v rest ihr=>
   intro i o hd ho
   obtain⟨g1,g2,g3⟩:=aI hd
   have hv:=aeU g1
   have hsx:=aJ.fh hv
   have hmv:=(aJ.im v).1 (hm v hv)
   have hol:=afg List.length ho
   simp only[aJ.cU,ae4]at hol
   have hcl:(i:Int)<(x.aF.length:Int):=by omega
   have rm:bg 8 (o.length+v.mq.length)=true:=by simp[bg];omega
   refine Dy ?_
   simp only[rk,aeW,hcl,aY g3,bS g1,ae2,ml,aft,afe,ae6,afc,afm,afB,bO g3 hvl]
   refine⟨_,_,_,rfl,aan v (hx.aF v hv) (by omega) hmv.2.2,?_⟩
   rintro _ rfl
   simp only[D.bP,aeW,rm,afe,ae6,afc,afm]
   have e:=ihr (i+1) (o++v.mq) g2 (by simpa [aJ.cU]using ho)
   rw[ae4,show ba (o++v.mq)=ba o++ba v.mq from afI]at e
   exact e
 refine T3 ?_
 simp only[rk,Wh.re]
 refine⟨_,_,_,rfl,Ll x hs,?_⟩
 rintro _ rfl
 exact loop x.aF 0 [] rfl rfl
def Wh.tB (x:Wh):Bool:=decide (x.vs.length<=1024)&&decide (x.ns.length<=128)&&decide (St.cS x.co<=512)&&St.kO x.co&&x.aF.all aJ.fG
def Ss (x:Wh)(hx:x.ok)(hs:x.sz<2^30):iq pg jM [aO] [x.az] [aj] (·= .b x.tB):=by
 have hvl:x.aF.length<2^63:=by have:=aJ.dx x.aF;simp only[Wh.sz]at hs;omega
 have hs2:=hs
 simp only[Wh.sz]at hs2
 have loop:∀(rest:List aJ) (i:Nat),x.aF.drop i=rest->aC pg jM [aj] (.kE (·= .b (rest.all aJ.fG))) (sE x.az (x.aF.map aJ.az) i):=by
  intro rest
  induction rest with
  |nil=>
   intro i hd
   have:=drop_nil hd
   refine Du ?_
   simp[this]
   omega
  |cons v rest ihr=>
   intro i hd
   obtain⟨g1,g2,g3⟩:=aI hd
   have hv:=aeU g1
   refine Du ?_
   simp[g3,aY,bS g1,bO g3 hvl]
   refine⟨_,_,rfl,_,JW v (hx.aF v hv),?_⟩
   rintro _ rfl
   simp
   refine⟨fun h=>by simp[h],fun h=>?_⟩
   have e:=ihr (i+1) g2
   simpa [h]using e
 refine T1 ?_
 simp
 refine⟨fun h=>by simp[Wh.tB];omega,fun h=>⟨fun h2=>by simp[Wh.tB];omega,fun h2=>?_⟩⟩
 refine⟨_,_,rfl,_,Sv x.co hx.co (by omega),?_⟩
 rintro d ⟨_,hq⟩
 simp only[C9]at hq
 refine⟨fun h3=>by simp[Wh.tB];omega,fun h3=>?_⟩
 refine⟨_,_,rfl,_,HD x.co hx.co (by omega),?_⟩
 rintro _ rfl
 simp
 refine⟨fun h4=>by simp[Wh.tB,h4],fun h4=>?_⟩
 refine⟨_,_,rfl,_,Ll x hs,?_⟩
 rintro _ rfl
 have e:=loop x.aF 0 rfl
 have:x.tB=x.aF.all aJ.fG:=by
  have h5:St.cS x.co<=512:=by omega
  have h6:x.vs.length<=1024:=by omega
  have h7:x.ns.length<=128:=by omega
  simp[Wh.tB,h6,h7,h4,h5]
 rw[this];exact e
def Jb (l:List D)(h:l.length<2^30):PH gA (Ei l) [] 0 uM (fun d=>D.aa d=l):=by
 have hr:bg 56 (0+l.length)=true:=by simp[bg];omega
 refine Ms ?_
 simp only[rk,hr,af2,afe,ae0,ae6,afc,afm]
 exact⟨fun he=>⟨⟨rfl,jR rfl (by simpa using he.symm)⟩,rfl,jR (by simp) (by simp)⟩,fun _=>⟨rfl,jR (by simp) (by simp)⟩⟩
def Jc (l:List D)(h:l.length<2^30):PH gB (El l) [] 0 uN (fun d=>D.aa d=l):=by
 have hr:bg 256 (0+l.length)=true:=by simp[bg];omega
 refine Mv ?_
 simp only[rk,hr,af2,afe,ae0,ae6,afc,afm]
 exact⟨fun he=>⟨⟨rfl,jR rfl (by simpa using he.symm)⟩,rfl,jR (by simp) (by simp)⟩,fun _=>⟨rfl,jR (by simp) (by simp)⟩⟩
def Nr (l:List D)(h:l.length<2^30):PH kW (C6 l) [] 0 x6 (fun d=>D.aa d=l):=by
 have hr:bg 64 (0+l.length)=true:=by simp[bg];omega
 refine Kr ?_
 simp only[rk,hr,af2,afe,ae0,ae6,afc,afm]
 exact⟨fun he=>⟨⟨rfl,jR rfl (by simpa using he.symm)⟩,rfl,jR (by simp) (by simp)⟩,fun _=>⟨rfl,jR (by simp) (by simp)⟩⟩
def P8 (l:List D)(h:l.length<2^30):PH nt (Ej l) [] 0 zA (fun d=>D.aa d=l):=by
 have hr:bg 80 (0+l.length)=true:=by simp[bg];omega
 refine Mt ?_
 simp only[rk,hr,af2,afe,ae0,ae6,afc,afm]
 exact⟨fun he=>⟨⟨rfl,jR rfl (by simpa using he.symm)⟩,rfl,jR (by simp) (by simp)⟩,fun _=>⟨rfl,jR (by simp) (by simp)⟩⟩
def EY (l:List D)(h:l.length<2^30):PH eE (A3 l) [] 0 qh (fun d=>D.aa d=l):=by
 have hr:bg 16 (0+l.length)=true:=by simp[bg];omega
 refine JM ?_
 simp only[rk,hr,af2,afe,ae0,ae6,afc,afm]
 exact⟨fun he=>⟨⟨rfl,jR rfl (by simpa using he.symm)⟩,rfl,jR (by simp) (by simp)⟩,fun _=>⟨rfl,jR (by simp) (by simp)⟩⟩
def S2 (l:List D)(h:l.length<2^30):PH pK (G5 l) [] 0 A9 (fun d=>D.aa d=l):=by
 have hr:bg 8 (0+l.length)=true:=by simp[bg];omega
 refine Ol ?_
 simp only[rk,hr,af2,afe,ae0,ae6,afc,afm]
 exact⟨fun he=>⟨⟨rfl,jR rfl (by simpa using he.symm)⟩,rfl,jR (by simp) (by simp)⟩,fun _=>⟨rfl,jR (by simp) (by simp)⟩⟩
def S4 (l:List D)(h:l.length<2^30):PH dC (G6 l) [] 0 mw (fun d=>D.aa d=l):=by
 have hr:bg 8 (0+l.length)=true:=by simp[bg];omega
 refine Om ?_
 simp only[rk,hr,af2,afe,ae0,ae6,afc,afm]
 exact⟨fun he=>⟨⟨rfl,jR rfl (by simpa using he.symm)⟩,rfl,jR (by simp) (by simp)⟩,fun _=>⟨rfl,jR (by simp) (by simp)⟩⟩
def DN (l:List D)(h:l.length<2^30):PH dN (Ek l) [] 0 qg (fun d=>D.aa d=l):=by
 have hr:bg 8 (0+l.length)=true:=by simp[bg];omega
 refine Mu ?_
 simp only[rk,hr,af2,afe,ae0,ae6,afc,afm]
 exact⟨fun he=>⟨⟨rfl,jR rfl (by simpa using he.symm)⟩,rfl,jR (by simp) (by simp)⟩,fun _=>⟨rfl,jR (by simp) (by simp)⟩⟩
end Go.Proofs
end
