import Derived.Test.YtdoajjnobfjkcaaGreatM10
set_option linter.all false
noncomputable section
namespace Go.Proofs
open Go Go.PB
def ZF (v:aE)(hv:v.ok):fk pg xr [av] [v.ax] [ai] (·= .b v.field):=by
 refine S2 ?_
 simp[hv.k,aE.field]
 grind
def WC (v:aE):v.ok->fk pg gQ [av] [v.ax] [ai] (·= .b v.eK):=by
 induction v using aE.GM with|h v ih=>
 intro hv
 refine Qq ?_
 have loop:∀(ah:List aE) (i:Nat),v.l.drop i=ah->ay pg gQ [ai] (.dQ (·= .b (aE.kU ah&&v.field))) (rF v.ax i):=by
  intro ah
  induction ah with
  |nil=>
   intro i hd
   have:=drop_nil hd
   refine Dd ?_
   simp[this]
   exact⟨by omega,_,_,rfl,_,ZF v hv,by rintro _ rfl;simp[aE.kU]⟩
  |cons x ah ihr=>
   intro i hd
   obtain⟨h1,h2,h3⟩:=aB hd
   have hx:=agY h1
   refine Dd ?_
   simp[h3,aU,bn h1,bo h3 hv.len]
   refine⟨_,_,rfl,_,ih x hx (hv.mem hx),?_⟩
   rintro _ rfl
   simp[aE.kU]
   exact⟨fun h=>by simp[h],fun h=>by rw[h];exact ihr _ h2⟩
 simp only[rk]
 rw[aE.nT]
 exact loop _ 0 rfl
end Go.Proofs
namespace Go.Proofs
open Go Go.PB
namespace aE
mutual
def pV:aE->Int->Int
 | .mk _ _ _ l _,k=>if k>16 then 513 else pL l k 1
def pL:List aE->Int->Int->Int
 | [],_,n=>n
 |v::r,k,n=>if n<=512 then pL r k (n+pV v (k+1))else n
end
def agf (v:aE)(k:Int):pV v k=if k>16 then 513 else pL v.l k 1:=by cases v;rfl
mutual
def abP:∀(v:aE) (k:Int),0<=k->k<=17->1<=pV v k/\pV v k<=513*(18-k)
 | .mk _ _ _ l _,k,h0,h1=>by
   unfold pV
   split
   ·omega
   ·have:=abO l k 1 h0 (by omega) (by omega) (by omega);omega
def abO:∀(l:List aE) (k n:Int),0<=k->k<=16->1<=n->n<=512+513*(17-k)->n<=pL l k n/\pL l k n<=512+513*(17-k)
 | [],k,n,_,_,h2,h3=>by unfold pL;omega
 |v::r,k,n,h0,h1,h2,h3=>by
  unfold pL
  have hb:=abP v (k+1) (by omega) (by omega)
  split
  ·have:=abO r k (n+pV v (k+1)) h0 h1 (by omega) (by omega);omega
  ·omega
end
mutual
def Oe:∀(v:aE) (k:Nat),v.eK=true->v.depth+k<=16->(pV v k<=512↔v.size<=512)/\(v.size<=512->pV v k=v.size)
 | .mk kd n s l r,k,hf,hd=>by
   simp only[eK,ag2]at hf
   unfold pV size
   rw[ag4 (by omega)]
   by_cases hl:l=[]
   ·subst hl;simp[pL,bB]
   ·have hk:kd=3:=by
     have:=hf.2
     simp only[field,aE.k,aE.l]at this
     by_cases h3:kd=3
     ·exact h3
     ·simp[h3,hl]at this
    simp only[depth,hk,ahz]at hd
    have:=Uy l k 1 hf.1 (by omega) (by omega)
    rw[show ((1:Nat):Int)=1 from rfl]at this
    constructor
    ·rw[this.1]
    ·intro h;rw[this.2 (by omega)];omega
def Uy:∀(l:List aE) (k n:Nat),kU l=true->hY l+(k+1)<=16\/l=[]->1<=n->(pL l k n<=512↔n+bB l<=512)/\(n+bB l<=512->pL l k n=n+bB l)
 | [],k,n,_,_,_=>by simp[pL,bB];omega
 |v::r,k,n,hf,hd,h1=>by
  simp only[kU,ag2]at hf
  simp only[hY,reduceCtorEq,ajk]at hd
  have hv:=Oe v (k+1) hf.1 (by omega)
  have hp:=v.Ln
  unfold pL bB
  by_cases hn:(n:Int)<=512
  ·rw[ag8 hn]
   by_cases hs:v.size<=512
   ·have e:=hv.2 hs
    have:=Uy r k (n+v.size) hf.2 (.inl (by omega)) (by omega)
    rw[show ((k:Int)+1)=((k+1:Nat):Int)by omega,e,show (n:Int)+v.size=((n+v.size:Nat):Int)by omega]
    rw[this.1]
    exact⟨by omega,fun h=>by rw[this.2 (by omega)];omega⟩
   ·have hb:=abP v (k+1) (by omega) (by omega)
    have h2:¬pV v ((k:Int)+1)<=512:=by
     have:=hv.1;rw[show ((k:Int)+1)=((k+1:Nat):Int)by omega];omega
    have hpl:=abO r k (n+pV v (k+1)) (by omega) (by omega) (by omega) (by omega)
    exact⟨by omega,by omega⟩
  ·rw[ag4 hn];exact⟨by omega,by omega⟩
end
end aE
def ZG (v:aE):∀k:Int,0<=k->k<=17->v.ok->fk pg jC [av,af] [v.ax,.z k] [af] (·= .z (v.pV k)):=by
 induction v using aE.GM with|h v ih=>
 intro k h0 h1 hv
 refine S4 ?_
 have loop:∀(ah:List aE) (i:Nat) (n:Int),k<=16->v.l.drop i=ah->1<=n->n<=512+513*(17-k)->ay pg jC [af] (.dQ (·= .z (aE.pL ah k n))) (rG v.ax (.z k) n i):=by
  intro ah
  induction ah with
  |nil=>
   intro i n hk hd h1 h2
   have:=drop_nil hd
   refine De ?_
   simp[this,aE.pL];omega
  |cons x ah ihr=>
   intro i n hk hd hn1 hn2
   obtain⟨h1,h2,h3⟩:=aB hd
   have hx:=agY h1
   have hb:=x.abP (k+1) (by omega) (by omega)
   refine De ?_
   simp[h3,aU,bn h1,bo h3 hv.len]
   refine⟨fun hn=>?_,fun hn=>by rw[aE.pL,ag4 (by omega)]⟩
   rw[bO (by omega) (by omega)]
   refine⟨_,_,rfl,_,ih x hx (k+1) (by omega) (by omega) (hv.mem hx),?_⟩
   rintro _ rfl
   simp
   rw[bO (by omega) (by omega),aE.pL,ag8 hn]
   exact ihr _ _ hk h2 (by omega) (by omega)
 simp[hv.k]
 rw[aE.agf]
 refine⟨fun h=>by simp[h],fun h=>?_⟩
 rw[ag4 (by omega)]
 exact loop _ 0 1 h rfl (by omega) (by omega)
namespace aE
mutual
def P3:∀(v:aE) (k:Int),0<=k->k<=17->pV v k<=512->v.depth<=17-k
 | .mk kd n s l r,k,h0,h1,h=>by
   unfold pV at h
   split at h
   ·omega
   ·have:=P2 l k 1 h0 (by omega) (by omega) h
    unfold depth
    split
    ·omega
    ·omega
def P2:∀(l:List aE) (k n:Int),0<=k->k<=16->1<=n->pL l k n<=512->hY l<=16-k
 | [],k,n,_,_,_,_=>by unfold hY;omega
 |v::r,k,n,h0,h1,h2,h=>by
  unfold pL at h
  have hb:=abP v (k+1) (by omega) (by omega)
  split at h
  ·have hp:=abO r k (n+pV v (k+1))
   have hd:=P2 r k (n+pV v (k+1)) h0 h1 (by omega) h
   have hv:pV v (k+1)<=512:=by
    by_cases hx:n+pV v (k+1)<=512+513*(17-k)
    ·have:=hp h0 h1 (by omega) hx;omega
    ·exfalso
     cases r with
     |nil=>simp only[pL]at h;omega
     |cons y q=>unfold pL at h;split at h<;>omega
   have:=P3 v (k+1) (by omega) (by omega) hv
   unfold hY
   omega
  ·omega
end
end aE
def ab9 (v:aE):v.ok->v.depth<2^62->fk pg mq [av] [v.ax] [af] (·= .z v.depth):=by
 induction v using aE.GM with|h v ih=>
 intro hv hd0
 rw[aE.Kx]at hd0 ⊢
 have loop:∀(ah:List aE) (i:Nat) (n:Int),v.k=3->v.l.drop i=ah->0<=n->n<2^62->ay pg mq [af] (.dQ (·= .z (max n (aE.hY ah)+1))) (tv v.ax n i):=by
  intro ah
  induction ah with
  |nil=>
   intro i n _ hd hn0 hn
   have:=drop_nil hd
   refine ES ?_
   simp[this,aE.hY,ake hn0]
   exact⟨by omega,bO (by omega) (by omega)⟩
  |cons x ah ihr=>
   intro i n hk hd hn0 hn
   obtain⟨h1,h2,h3⟩:=aB hd
   have hx:=agY h1
   have hdx:=aE.DU hx
   rw[ag8 hk]at hd0
   refine ES ?_
   simp[-gt_iff_lt,h3,aU,bn h1,bo h3 hv.len]
   refine⟨_,_,rfl,_,ih x hx (hv.mem hx) (by omega),?_⟩
   rintro d hd
   rw[N2]
   subst hd
   have e:=ihr (i+1) (max n x.depth) hk h2 (by omega) (by omega)
   rw[show max (max n (x.depth:Int)) (aE.hY ah)=max n (aE.hY (x::ah))by rw[show aE.hY (x::ah)=max x.depth (aE.hY ah)from rfl];omega]at e
   exact e
 refine V5 ?_
 simp[hv.k]
 refine⟨fun h=>by rw[ag4 h];rfl,fun h=>?_⟩
 rw[ag8 h]
 have:=loop v.l 0 0 h rfl (by omega) (by omega)
 rwa [show max (0:Int) (aE.hY v.l)+1=((aE.hY v.l+1:Nat):Int)by omega]at this
def aE.VB (v:aE)(h:v.pV 0<=512):v.cN=(decide (v.depth<=16)&&v.eK):=by
 unfold aE.cN
 by_cases hf:v.eK=true
 ·by_cases hd:v.depth<=16
  ·have:=(v.Oe 0 hf (by omega)).1.1 h
   simp[this]
  ·simp[hd]
 ·simp[hf]
def aE.LK (v:aE)(h:¬v.pV 0<=512):v.cN=false:=by
 unfold aE.cN
 by_cases hf:v.eK=true
 ·by_cases hd:v.depth<=16
  ·have:=mt (v.Oe 0 hf (by omega)).1.2 h
   simp[this]
  ·simp[hd]
 ·simp[hf]
def Iv (v:aE)(hv:v.ok):fk pg je [av] [v.ax] [ai] (·= .b v.cN):=by
 refine Ze ?_
 simp
 refine⟨_,_,rfl,_,ZG v 0 (by omega) (by omega) hv,?_⟩
 rintro _ rfl
 simp
 refine⟨fun h=>?_,fun h=>v.LK (by omega)⟩
 have hd:=v.P3 0 (by omega) (by omega) h
 rw[v.VB h]
 refine⟨_,_,rfl,_,ab9 v hv (by omega),?_⟩
 rintro _ rfl
 simp
 refine⟨fun h=>⟨_,_,rfl,_,WC v hv,?_⟩,fun h h2=>by omega⟩
 rintro _ rfl
 simp
 omega
mutual
def aE.same:aE->aE->Bool
 | .mk k n s l r,b=>k==b.k&&n==b.n&&s==b.s&&r==b.r&&aE.Ax l b.l
def aE.Ax:List aE->List aE->Bool
 | [],[]=>true
 |v::r,w::q=>aE.same v w&&aE.Ax r q
 |_,_=>false
end
mutual
def aE.Hq:∀a b:aE,a.same b=true↔a=b
 | .mk k n s l r,.mk k' n' s' l' r'=>by
   simp only[aE.same,aE.k,aE.n,aE.s,aE.r,aE.l,ag2,aht,aE.Iz l l',aE.mk.injEq];grind
def aE.Iz:∀a b:List aE,aE.Ax a b=true↔a=b
 | [],[]=>by simp[aE.Ax]
 | [],_::_=>by simp[aE.Ax]
 |_::_,[]=>by simp[aE.Ax]
 |v::r,w::q=>by simp only[aE.Ax,ag2,aE.Hq v w,aE.Iz r q,ai6]
end
def UB (a:aE):∀b:aE,a.ok->b.ok->fk pg fy [av,av] [a.ax,b.ax] [ai] (·= .b (a.same b)):=by
 induction a using aE.GM with|h a ih=>
 intro b ha hb
 have ea:a.same b=(a.k==b.k&&a.n==b.n&&a.s==b.s&&a.r==b.r&&aE.Ax a.l b.l):=by cases a;rfl
 have loop:∀(ra rb:List aE) (i:Nat),a.l.drop i=ra->b.l.drop i=rb->ra.length=rb.length->ay pg fy [ai] (.dQ (·= .b (aE.Ax ra rb))) (vV a.ax b.ax i):=by
  intro ra
  induction ra with
  |nil=>
   intro rb i h1 h2 hl
   have:=drop_nil h1
   have:rb=[]:=by simpa using hl.symm
   subst this
   refine Hd ?_
   simp[aE.Ax];omega
  |cons x ra ihr=>
   intro rb i h1 h2 hl
   cases rb with
   |nil=>simp at hl
   |cons y rb=>
    obtain⟨g1,g2,g3⟩:=aB h1
    obtain⟨k1,k2,k3⟩:=aB h2
    refine Hd ?_
    simp[g3,k3,aU,bn g1,bn k1,bo g3 ha.len]
    refine⟨_,_,rfl,_,ih x (agY g1) y (ha.mem (agY g1)) (hb.mem (agY k1)),?_⟩
    rintro _ rfl
    simp[aE.Ax]
    exact⟨fun h=>by simp[h],fun h=>by rw[h];exact ihr _ _ g2 k2 (by simpa using hl)⟩
 refine V4 ?_
 rw[ea]
 simp
 have hne:∀{x y:List aE},x.length≠y.length->aE.Ax x y=false:=fun {x y} h=>by
  cases e:aE.Ax x y with
  |false=>rfl
  |true=>rw[(aE.Iz _ _).1 e]at h;exact absurd rfl h
 refine⟨fun h=>by simp[h],fun h1=>⟨fun h=>by simp[h],fun h2=>⟨fun h=>by simp[h],fun h3=>⟨fun h=>by simp[h],fun h4=>⟨fun h _ _ _ _=>hne (x:=a.l) (y:=b.l) (by omega),fun h5=>?_⟩⟩⟩⟩⟩
 simp[h1,h2,h3,h4]
 exact loop _ _ 0 rfl rfl (by omega)
end Go.Proofs
namespace Go.Proofs
open Go Go.PB
namespace Ex
mutual
def size:Ex->Nat
 | .mk _ _ _ l=>1+bB l
def bB:List Ex->Nat
 | []=>0
 |v::r=>size v+bB r
end
mutual
def ht:Ex->Nat
 | .mk _ _ _ l=>AA l
def AA:List Ex->Nat
 | []=>0
 |v::r=>max (ht v+1) (AA r)
end
mutual
def Ej:Ex->Nat
 | .mk k _ _ l=>if k≠3/\l.length=0 then 0 else oG l+1
def oG:List Ex->Nat
 | []=>0
 |v::r=>max (Ej v) (oG r)
end
def eo (v:Ex):v.size=1+bB v.l:=by cases v;rfl
def Us (v:Ex):v.ht=AA v.l:=by cases v;rfl
def Uf (v:Ex):v.Ej=if v.k≠3/\v.l.length=0 then 0 else oG v.l+1:=by cases v;rfl
def eb:∀{l:List Ex} {x:Ex},x∈l->x.size<=bB l
 |v::r,x,h=>by
  unfold bB
  rcases ag9.1 h with rfl|h
  ·omega
  ·have:=eb h;omega
mutual
def Ur:∀v:Ex,v.ht<=v.Ej
 | .mk k n s l=>by
   have:=PA l
   simp only[ht,Ej]
   split
   ·rename_i h;rw[ahy.1 h.2];simp[AA]
   ·omega
def PA:∀l:List Ex,AA l<=oG l+1
 | []=>by simp[AA]
 |v::r=>by have:=Ur v;have:=PA r;simp only[AA,oG];omega
end
mutual
def MF:∀v:Ex,v.Ej<=v.size
 | .mk k n s l=>by have:=Kw l;simp only[Ej,size];split<;>omega
def Kw:∀l:List Ex,oG l<=bB l
 | []=>by simp[oG]
 |v::r=>by have:=MF v;have:=Kw r;simp only[oG,bB];omega
end
def Sn:∀{l:List Ex} {x:Ex},x∈l->x.ht+1<=AA l
 |v::r,x,h=>by
  unfold AA
  rcases ag9.1 h with rfl|h
  ·omega
  ·have:=Sn h;omega
def ok.len {v:Ex}(h:v.ok):v.l.length<2^63:=by rw[gL]at h;exact h.2.2.2.2.2.1
def ok.mem {v:Ex}(h:v.ok){x:Ex}(hx:x∈v.l):x.ok:=by rw[gL]at h;exact h.2.2.2.2.2.2 x hx
def ok.k {v:Ex}(h:v.ok):IntKind.i64.wrap v.k=v.k:=by rw[gL]at h;exact bO (by omega) (by omega)
def vl (v:Ex):Bool:=decide (v.size<=512)&&decide (v.Ej<=16)
end Ex
def vg (s h:Nat)(k m:Int):Prop:=(k+h<=16/\s<=512->m=s)/\(¬(k+h<=16/\s<=512)->512<m)/\1<=m/\m<=513*s
def OD (v:Ex):∀k:Int,0<=k->k<=17->v.ok->v.size<2^40->fk pg dJ [aG,af] [v.ax,.z k] [af] (fun d=>d= .z (D.int d)/\vg v.size v.ht k (D.int d)):=by
 induction v using Ex.GM with|h v ih=>
 intro k h0 h1 hv hs
 have hse:=v.eo
 have loop:∀(ah:List Ex) (i:Nat) (n:Int),k<=16->v.l.drop i=ah->1<=n->n+513*Ex.bB ah<=513*v.size->(n+Ex.bB ah=v.size/\n<=512/\k+v.ht<=16/\v.size<=512\/¬(k+v.ht<=16/\v.size<=512)/\(n<=512->n+Ex.bB ah>512\/k+Ex.AA ah>16))->
  ay pg dJ [af] (.dQ (fun d=>d= .z (D.int d)/\vg v.size v.ht k (D.int d))) (kY v.ax (.z k) n i):=by
  intro ah
  induction ah with
  |nil=>
   intro i n hk hd h1 h2 h3
   have:=drop_nil hd
   refine xF ?_
   simp only[Ex.bB,Ex.AA]at h2 h3
   simp[this,vg];omega
  |cons x ah ihr=>
   intro i n hk hd hn1 hn2 hn3
   obtain⟨h1,h2,h3⟩:=aB hd
   have hx:=agY h1
   have hsx:=Ex.eb hx
   have hhx:=Ex.Sn hx
   have hhv:=v.Us
   refine xF ?_
   simp only[Ex.bB,Ex.AA]at hn2 hn3
   simp[h3,aU,bn h1,bo h3 hv.len]
   refine⟨fun hn=>?_,fun hn=>by simp only[vg];omega⟩
   rw[bO (by omega) (by omega)]
   refine⟨_,_,rfl,_,ih x hx (k+1) (by omega) (by omega) (hv.mem hx) (by omega),?_⟩
   rintro d ⟨_,hq⟩
   obtain⟨q1,q2,q3,q4⟩:=hq
   rw[bO (by omega) (by omega)]
   refine ihr _ _ hk h2 (by omega) (by omega) ?_
   rw[show ((max (x.ht+1) (Ex.AA ah):Nat):Int)=max ((x.ht:Int)+1) (Ex.AA ah)by omega]at hn3
   omega
 refine K4 ?_
 simp
 refine⟨fun h=>by simp only[vg];have:=v.eo;omega,fun h=>loop v.l 0 1 h rfl (by omega) (by omega) ?_⟩
 have:=v.Us
 omega
def QK (v:Ex):v.ok->v.size<2^40->fk pg ez [aG] [v.ax] [af] (·= .z v.Ej):=by
 induction v using Ex.GM with|h v ih=>
 intro hv hs
 have hse:=v.eo
 have loop:∀(ah:List Ex) (i:Nat) (n:Int),v.l.drop i=ah->0<=n->n<2^40->ay pg ez [af] (.dQ (·= .z (max n (Ex.oG ah)+1))) (mL v.ax n i):=by
  intro ah
  induction ah with
  |nil=>
   intro i n hd hn0 hn
   have:=drop_nil hd
   refine yP ?_
   simp[this,Ex.oG,ake hn0]
   exact⟨by omega,bO (by omega) (by omega)⟩
  |cons x ah ihr=>
   intro i n hd hn0 hn
   obtain⟨h1,h2,h3⟩:=aB hd
   have hx:=agY h1
   have hsx:=Ex.eb hx
   have hdx:=x.MF
   refine yP ?_
   simp[-gt_iff_lt,h3,aU,bn h1,bo h3 hv.len]
   refine⟨_,_,rfl,_,ih x hx (hv.mem hx) (by omega),?_⟩
   rintro d hd
   rw[N2]
   subst hd
   have e:=ihr (i+1) (max n x.Ej) h2 (by omega) (by omega)
   rw[show max (max n (x.Ej:Int)) (Ex.oG ah)=max n (Ex.oG (x::ah))by rw[show Ex.oG (x::ah)=max x.Ej (Ex.oG ah)from rfl];omega]at e
   exact e
 have e:=loop v.l 0 0 rfl (by omega) (by omega)
 rw[show max (0:Int) (Ex.oG v.l)+1=((Ex.oG v.l+1:Nat):Int)by omega]at e
 refine LV ?_
 rw[v.Uf]
 simp[hv.k]
 refine⟨fun h=>⟨fun h2=>by simp[h,h2],fun h2=>?_⟩,fun h=>?_⟩
 ·rw[ag4 (by simp[h2])];exact e
 ·rw[ag4 (by simp[h])];exact e
def Jd (v:Ex)(hv:v.ok)(hs:v.size<2^40):fk pg mu [aG] [v.ax] [ai] (·= .b v.vl):=by
 refine LW ?_
 simp
 refine⟨_,_,rfl,_,OD v 0 (by omega) (by omega) hv hs,?_⟩
 rintro d ⟨_,hq⟩
 simp only[vg]at hq
 obtain⟨q1,q2,q3,q4⟩:=hq
 have hd:=v.Ur
 refine⟨fun h=>⟨_,_,rfl,_,QK v hv hs,?_⟩,fun h=>?_⟩
 ·rintro _ rfl
  have:v.size<=512:=by omega
  simp[Ex.vl,this];omega
 ·simp[Ex.vl];omega
namespace St
mutual
def cnt:St->Nat
 | .mk _ _ _ _ _ _ _ th el co _=>1+eu th+eu el+eu co
def eu:List St->Nat
 | []=>0
 |v::r=>cnt v+eu r
end
mutual
def esz:St->Nat
 | .mk _ _ _ _ _ a b th el co wi=>a.size+b.size+wi.length+lv th+lv el+lv co
def lv:List St->Nat
 | []=>0
 |v::r=>esz v+lv r
end
mutual
def vl:St->Bool
 | .mk _ _ _ _ _ a b th el co wi=>decide (wi.length<=64)&&a.vl&&b.vl&&lC th&&lC el&&lC co
def lC:List St->Bool
 | []=>true
 |v::r=>vl v&&lC r
end
def HT (v:St):v.cnt=1+eu v.th+eu v.el+eu v.co:=by cases v;rfl
def xk (v:St):v.esz=v.a.size+v.b.size+v.wi.length+lv v.th+lv v.el+lv v.co:=by cases v;rfl
def Uk (v:St):v.vl=(decide (v.wi.length<=64)&&v.a.vl&&v.b.vl&&lC v.th&&lC v.el&&lC v.co):=by cases v;rfl
def JP:∀{l:List St} {x:St},x∈l->x.cnt<=eu l
 |v::r,x,h=>by
  unfold eu
  rcases ag9.1 h with rfl|h
  ·omega
  ·have:=JP h;omega
def DX:∀{l:List St} {x:St},x∈l->x.esz<=lv l
 |v::r,x,h=>by
  unfold lv
  rcases ag9.1 h with rfl|h
  ·omega
  ·have:=DX h;omega
def Cy:∀l:List St,l.length<=eu l
 | []=>by simp[eu]
 |v::r=>by have:=Cy r;have:=v.HT;simp only[eu,ahv];omega
def N1 {M:List St->Prop}(h:∀l:List St,(∀x∈l,M x.th/\M x.el/\M x.co)->M l):∀l,M l:=by
 intro l
 have key:∀x:St,M x.th/\M x.el/\M x.co:=fun x=>by
  induction x using St.GM with|h v h1 h2 h3=>
  exact⟨h _ fun x hx=>h1 x hx,h _ fun x hx=>h2 x hx,h _ fun x hx=>h3 x hx⟩
 exact h l fun x _=>key x
def Ag (l:List St):Prop:=l.length<2^63/\∀x∈l,x.ok
def Ag.th {l:List St}(h:Ag l){x:St}(hx:x∈l):Ag x.th/\Ag x.el/\Ag x.co/\x.a.ok/\x.b.ok/\x.wi.length<2^63:=by
 have:=(gL x).1 (h.2 x hx)
 simp only[Ag];grind
end St
def Et (n c m:Int):Prop:=(n+c<=512->m=n+c)/\(512<n+c->512<m)/\n<=m/\m<=n+c
def UD (l:List St):St.Ag l->St.eu l<2^40->fk pg fB [bK] [.r (l.map St.ax)] [af] (fun d=>d= .z (D.int d)/\Et 0 (St.eu l) (D.int d)):=by
 induction l using St.N1 with|h l ih=>
 intro hl hc
 refine Wa ?_
 have loop:∀(ah:List St) (i:Nat) (n:Int),l.drop i=ah->0<=n->n+St.eu ah<=St.eu l->(n<=512->n+St.eu ah=St.eu l)->(512<n->512<St.eu l)->
  ay pg fB [af] (.dQ (fun d=>d= .z (D.int d)/\Et 0 (St.eu l) (D.int d))) (oh (.r (l.map St.ax)) n i):=by
  intro ah
  induction ah with
  |nil=>
   intro i n hd h0 h1 h2 h3
   have:=drop_nil hd
   refine Hh ?_
   simp only[St.eu]at h1 h2
   simp[this,Et];omega
  |cons x ah ihr=>
   intro i n hd h0 h1 h2 h3
   obtain⟨g1,g2,g3⟩:=aB hd
   have hx:=agY g1
   obtain⟨o1,o2,o3,_⟩:=hl.th hx
   obtain⟨i1,i2,i3⟩:=ih x hx
   have hcx:=x.HT
   have hcm:=St.JP hx
   simp only[St.eu]at h1 h2
   refine Hh ?_
   simp[g3,aU,bn g1,bo g3 hl.1]
   refine⟨fun hn=>?_,fun hn=>by simp only[Et];omega⟩
   refine⟨_,_,rfl,_,i1 o1 (by omega),?_⟩
   rintro d1 ⟨_,q1⟩
   simp only[Et]at q1
   rw[bO (x:=n+1) (by omega) (by omega),bO (x:=n+1+D.int d1) (by omega) (by omega)]
   refine⟨fun hn1=>?_,fun hn1=>?_⟩
   ·refine⟨_,_,rfl,_,i2 o2 (by omega),?_⟩
    rintro d2 ⟨_,q2⟩
    simp only[Et]at q2
    rw[bO (x:=n+1+D.int d1+D.int d2) (by omega) (by omega)]
    refine⟨fun hn2=>?_,fun hn2=>?_⟩
    ·refine⟨_,_,rfl,_,i3 o3 (by omega),?_⟩
     rintro d3 ⟨_,q3⟩
     simp only[Et]at q3
     rw[bO (x:=n+1+D.int d1+D.int d2+D.int d3) (by omega) (by omega)]
     exact ihr _ _ g2 (by omega) (by omega) (by omega) (by omega)
    ·exact ihr _ _ g2 (by omega) (by omega) (by omega) (by omega)
   ·exact ihr _ _ g2 (by omega) (by omega) (by omega) (by omega)
 exact loop l 0 0 rfl (by omega) (by simp) (by intro;simp) (by omega)
def Jc (l:List St):St.Ag l->St.lv l<2^40->fk pg cw [bK] [.r (l.map St.ax)] [ai] (·= .b (St.lC l)):=by
 induction l using St.N1 with|h l ih=>
 intro hl hc
 refine LU ?_
 have loop:∀(ah:List St) (i:Nat),l.drop i=ah->ay pg cw [ai] (.dQ (·= .b (St.lC ah))) (om (.r (l.map St.ax)) i):=by
  intro ah
  induction ah with
  |nil=>
   intro i hd
   have:=drop_nil hd
   refine Aq ?_
   simp[this,St.lC];omega
  |cons x ah ihr=>
   intro i hd
   obtain⟨g1,g2,g3⟩:=aB hd
   have hx:=agY g1
   obtain⟨o1,o2,o3,oa,ob,ow⟩:=hl.th hx
   obtain⟨i1,i2,i3⟩:=ih x hx
   have hcx:=x.xk
   have hcm:=St.DX hx
   have hfx:=x.Uk
   refine Aq ?_
   simp[g3,aU,bn g1,bo g3 hl.1,St.lC]
   refine⟨fun hw=>by simp[hfx];omega,fun hw=>⟨_,_,rfl,_,Jd _ oa (by omega),?_⟩⟩
   rintro _ rfl
   simp
   refine⟨fun h=>by simp[hfx,h],fun ha=>⟨_,_,rfl,_,Jd _ ob (by omega),?_⟩⟩
   rintro _ rfl
   simp
   refine⟨fun h=>by simp[hfx,h],fun hb=>⟨_,_,rfl,_,i1 o1 (by omega),?_⟩⟩
   rintro _ rfl
   simp
   refine⟨fun h=>by simp[hfx,h],fun ht=>⟨_,_,rfl,_,i2 o2 (by omega),?_⟩⟩
   rintro _ rfl
   simp
   refine⟨fun h=>by simp[hfx,h],fun he=>⟨_,_,rfl,_,i3 o3 (by omega),?_⟩⟩
   rintro _ rfl
   simp
   refine⟨fun h=>by simp[hfx,h],fun hc=>?_⟩
   have e:=ihr _ g2
   have:x.vl=true:=by simp[hfx,ha,hb,ht,he,hc];omega
   simpa [this]using e
 exact loop l 0 rfl
end Go.Proofs
namespace Go.Proofs
open Go Go.PB
def qi (v:aE)(p q:Int):Bool:=v.eK&&decide (v.depth<=q)&&decide (v.size<=p)
def Qt (v:aE)(p q:Int)(b:Bool)(n1 n2:Int):Prop:=b=qi v p q/\(qi v p q=true->n1=p-v.size/\n2=q)
def Xp (v:aE)(p q:Int)(d:D):Prop:=Qt v p q (d.aa 0).bool (d.aa 1).int (d.aa 2).int
def bm {α:Type}{a b:α}:T.dy a (.ret b)↔a=b:=⟨fun h=>by cases h;rfl,fun h=>h▸ .ret⟩
def xK {v:aE}{p q:Int}:qi v p q=true↔v.eK=true/\(v.depth:Int)<=q/\(v.size:Int)<=p:=by simp[qi,aj9]
def FF {v:aE}{p q:Int}:qi v p q=false↔¬(v.eK=true/\(v.depth:Int)<=q/\(v.size:Int)<=p):=by rw[<-xK];simp
abbrev afT (p q:Int):List (Nat×aI):=[(0,.cells [.int .i64 p,.int .i64 q] gW false)]
def IE {v:aE}{p q n1 n2:Int}{b:Bool}{ags:List BV}{L:List (Nat×aI)}:(kN.bx=some 1/\∃d,T.dy (.bool b,afT n1 n2) (iW ags L d)/\Xp v p q d)↔Qt v p q b n1 n2:=by
 constructor
 ·rintro⟨_,d,h,hq⟩
  simp only[iW,bm,ah3,BV.bool.injEq,ai6,aI.cells.injEq,BV.int.injEq,ahk,ahf]at h
  obtain⟨rfl,rfl,rfl⟩:=h
  exact hq
 ·intro h;exact⟨rfl,.r [.b b,.z n1,.z n2],bm.2 rfl,h⟩
def Xo {v:aE}{p q n1 n2:Int}:Qt v p q false n1 n2↔qi v p q=false:=by unfold Qt;grind
def aeF (v:aE):∀p q:Int,v.ok->0<=p->p<1000->0<=q->q<1000->
 PH fI (vF v.ax p q) (vG v.ax p q) 1 iW (Xp v p q):=by
 induction v using aE.GM with|h v ih=>
 intro p q hv hp0 hp hq0 hq
 refine Oo ?_
 simp only[rk,aE.cU,aE.lu,aE.BD,aE.vA,aE.BC,agV,IE,Xo]
 have hw:0<p->IntKind.i64.wrap (p-1)=p-1:=fun h=>bO (by omega) (by omega)
 have hw2:0<q->IntKind.i64.wrap (q-1)=q-1:=fun h=>bO (by omega) (by omega)
 have hz:v.l.length=0->aE.bB v.l=0/\aE.kU v.l=true/\aE.hY v.l=0:=fun h=>by rw[ahy.1 h];exact⟨rfl,rfl,rfl⟩
 have hs:=aE.dx v.l
 have hsz:=v.eo
 have hdp:=v.Kx
 have hfs:=v.nT
 unfold aE.field at hfs
 simp
 have hno:¬(v.size:Int)<=p->qi v p q=false:=fun h=>by simp[qi,h]
 refine⟨fun h=>hno (by omega),fun h=>?_⟩
 rw[hw (by omega)]
 have hlf:v.k≠3->(v.eK=(decide (v.l.length=0)&&v.field))->Qt v p q (decide (v.l.length=0)&&v.field) (p-1) q:=fun h3 h4=>by
  simp only[Qt,qi,h4,hdp,ag4 h3]
  by_cases hl:v.l.length=0
  ·have h5:=hz hl;have:decide (((1+aE.bB v.l:Nat):Int)<=p)=true:=by simp;omega
   simp[hl,hsz,h5]at*;grind
  ·simp[hl]
 have hf3:v.k≠3->(v.eK=(decide (v.l.length=0)&&v.field)):=fun h3=>by
  rw[v.nT]
  by_cases hl:v.l.length=0
  ·simp[hl,(hz hl).2.1]
  ·simp only[hl,aE.field];grind
 have hlf2:v.k≠3->v.field=false->qi v p q=false:=fun h3 h4=>by simp[qi,hf3 h3,h4]
 have hlf3:v.k≠3->(v.l=[]->v.field=true)->(v.l≠[]->v.field=false)->Qt v p q ((v.l.length:Int)==0) (p-1) q:=fun h3 h4 h5=>by
  have:=hlf h3 (hf3 h3)
  by_cases hl:v.l=[]
  ·simpa [hl,h4 hl]using this
  ·have hl':¬v.l.length=0:=by simpa using hl
   simp only[hl',h5 hl]at this
   have e2:((v.l.length:Int)==0)=false:=by simpa using hl
   rw[e2];simpa [hl]using this
 unfold aE.field at hlf2 hlf3
 refine⟨fun k0=>?_,fun k0=>⟨fun k1=>?_,fun k1=>⟨fun k2=>?_,fun k2=>⟨fun k4=>?_,fun k4=>⟨fun k3=>?_,fun k3=>?_⟩⟩⟩⟩⟩
 ·grind
 ·grind
 ·grind
 ·grind
 ·refine⟨fun h=>by simp[qi,hdp,k3];omega,fun hq1=>⟨fun h=>hno (by omega),fun hl=>?_⟩⟩
  rw[hw2 (by omega)]
  have loop:∀(ah:List aE) (i:Nat) (n1:Int),v.l.drop i=ah->0<=n1->n1<1000->
   (qi v p q=true↔aE.kU ah=true/\(aE.hY ah:Int)<=q-1/\(aE.bB ah:Int)<=n1/\v.field=true)->n1-aE.bB ah=p-v.size->
   ay pg fI [ai] (.bx 1 (iW (vF v.ax p q) (vG v.ax p q)) (Xp v p q)) (jn v.ax p q i n1 (q-1)):=by
   intro ah
   induction ah with
   |nil=>
    intro i n1 hd h0 h1 hk hn
    have:=drop_nil hd
    refine u9 ?_
    simp only[rk,aE.cU,aE.lu,aE.BD,aE.vA,aE.BC,agV,IE,Xo]
    have e3:IntKind.i64.wrap (q-1+1)=q:=by rw[bO (by omega) (by omega)];omega
    simp only[aE.kU,aE.hY,aE.bB,aE.field,k3]at hk hn
    have hk':=FF (v:=v) (p:=p) (q:=q)
    rw[<-xK,hk]at hk'
    simp[e3,this,Qt]
    have e4:IntKind.i64.wrap q=q:=bO (by omega) (by omega)
    simp at hk
    grind
   |cons x ah ihr=>
    intro i n1 hd h0 h1 hk hn
    obtain⟨g1,g2,g3⟩:=aB hd
    have hx:=agY g1
    refine u9 ?_
    simp only[rk,aE.cU,aE.lu,aE.BD,aE.vA,aE.BC,agV,IE,Xo]
    simp[g3,aU,bn g1,bo g3 hv.len]
    refine⟨_,rfl,_,ih x hx n1 (q-1) (hv.mem hx) h0 h1 (by omega) (by omega),?_⟩
    rintro d ⟨hd1,hd2⟩
    rw[hd1]
    simp only[aE.kU,aE.hY,aE.bB]at hk hn
    simp only[ag2]at hk
    refine⟨fun h=>?_,fun h=>?_⟩
    ·rw[FF]at h
     cases e:qi v p q with
     |false=>rfl
     |true=>rw[hk]at e;exact absurd ⟨e.1.1,by omega,by omega⟩ h
    ·obtain⟨e1,e2⟩:=hd2 h
     rw[e1,e2]
     rw[xK]at h
     refine ihr _ _ g2 (by omega) (by omega) ?_ (by omega)
     rw[hk]
     simp only[h.1,ahk]
     exact⟨fun a=>⟨a.1,by omega,by omega,a.2.2.2⟩,fun a=>⟨a.1,by omega,by omega,a.2.2.2⟩⟩
  refine loop v.l 0 (p-1) rfl (by omega) (by omega) ?_ (by omega)
  rw[xK,v.nT,hdp,ag8 k3]
  simp only[ag2]
  exact⟨fun a=>⟨a.1.1,by omega,by omega,a.1.2⟩,fun a=>⟨⟨a.1,a.2.2.2⟩,by omega,by omega⟩⟩
 ·grind
end Go.Proofs
namespace Go.Proofs
open Go Go.PB
def TI (v:aE):qi v 512 16=v.cN:=by
 have h1:=xK (v:=v) (p:=512) (q:=16)
 have h2:v.cN=true↔v.size<=512/\v.depth<=16/\v.eK=true:=by simp[aE.cN,aj9]
 cases e:v.cN with
 |false=>rw[e]at h2;rw[FF];exact fun h=>absurd (h2.2 ⟨by omega,by omega,h.1⟩) (by simp)
 |true=>rw[e]at h2;have:=h2.1 rfl;exact h1.2 ⟨this.2.2,by omega,by omega⟩
def aE.cW (v:aE):v.cN=true↔v.size<=512/\v.depth<=16/\v.eK=true:=by simp[aE.cN,aj9]
def aE.YC (v:aE):Int:=if v.cN then v.size else 0
def W1 (v:aE)(hv:v.ok):fk pg uQ [av] [v.ax] [af] (·= .z v.YC):=by
 refine Qu ?_
 simp
 refine⟨_,rfl,_,aeF v 512 16 hv (by omega) (by omega) (by omega) (by omega),?_⟩
 rintro d ⟨h1,h2⟩
 rw[TI]at h1 h2
 rw[h1]
 refine⟨fun h=>by simp[aE.YC,h],fun h=>?_⟩
 have hs:=(aE.cW v).1 h
 rw[(h2 h).1,show (512-(512-(v.size:Int)))=v.size by omega,bO (by omega) (by omega)]
 simp[aE.YC,h]
def Lt (v:aE)(hv:v.ok):fk pg fH [av] [v.ax] [ai] (·= .b v.cN):=by
 refine abZ ?_
 simp
 refine⟨_,_,rfl,_,W1 v hv,?_⟩
 rintro _ rfl
 have:=v.Ln
 by_cases h:v.cN=true
 ·simp[aE.YC,h];omega
 ·simp[aE.YC,h]
def Az {α:Type}{l:List α}{i:Nat}{x:α}(h:i<l.length):(l.set i x).take (i+1)=l.take i++[x]:=by
 rw[aiS (by simpa using h),List.take_set_of_le (by omega)];simp
def aQ {α:Type}{l:List α}{i:Nat}{x:α}(h:l[i]?=some x):l.take (i+1)=l.take i++[x]:=by
 obtain⟨h1,rfl⟩:=aha.1 h
 rw[aiS h1]
def ade (v:aE):v.ok->v.size<2^40->fk pg pK [av] [v.ax] [av] (·=v.ax):=by
 induction v using aE.GM with|h v ih=>
 intro hv hs
 have hsl:=aE.dx v.l
 have hse:=v.eo
 have loop:∀(ah:List aE) (i:Nat) (l:List D),v.l.drop i=ah->l.length=v.l.length->l.take i=(v.l.take i).map aE.ax->ay pg pK [av] (.dQ (·=v.ax)) (yC v.ax i l):=by
  intro ah
  induction ah with
  |nil=>
   intro i l hd hl ht
   have:=drop_nil hd
   refine I9 ?_
   rw[ag5 (by omega),ag5 (by omega)]at ht
   simp[this,hl,ht]
   exact⟨by omega,(v.aD).symm⟩
  |cons x ah ihr=>
   intro i l hd hl ht
   obtain⟨g1,g2,g3⟩:=aB hd
   have hx:=agY g1
   have hsx:x.size<2^40:=by have:=aE.eb hx;omega
   refine I9 ?_
   simp[g3,aU,bn g1,bo g3 hv.len,hl]
   refine⟨_,_,rfl,_,ih x hx (hv.mem hx) hsx,?_⟩
   rintro _ rfl
   rw[lK]
   exact ihr _ _ g2 (by simpa using hl) (by rw[Az (by omega),aQ g1,ht];simp)
 refine ab2 ?_
 simp
 refine⟨fun h=>by rw[v.aD,h];rfl,fun h=>⟨fun h2=>loop _ 0 _ rfl (by simp) (by simp),?_⟩⟩
 simp[rZ];omega
def aab (v:aE)(hv:v.ok):fk pg A6 [av] [v.ax] [av,aM] (·=if v.cN then .r [v.ax,.z 0]else .r [.r [.z 0,.z 0,.s [],.r [],.z 0],.z 2]):=by
 refine ab0 ?_
 simp
 refine⟨_,_,rfl,_,Lt v hv,?_⟩
 rintro _ rfl
 simp
 refine fun h=>⟨_,_,rfl,_,ade v hv (by have:=(v.cW).1 h;omega),?_⟩
 rintro _ rfl
 simp[h]
end Go.Proofs
namespace Go.Proofs
open Go Go.PB
mutual
def aE.dt:aE->List Int
 | .mk k _ _ l r=>(if k=4 then [r]else [])++aE.bD l
def aE.bD:List aE->List Int
 | []=>[]
 |v::r=>aE.dt v++aE.bD r
end
def aE.OF (v:aE):v.dt=(if v.k=4 then [v.r]else [])++aE.bD v.l:=by cases v;rfl
def aE.xG (l:List aE):aE.bD l=l.flatMap aE.dt:=by induction l with|nil=>rfl|cons a r ih=>simp[aE.bD,ih]
mutual
def aE.Av:∀v:aE,v.dt.length<=v.size
 | .mk k n s l r=>by
   have:=aE.gj l
   simp only[aE.dt,aE.size,ahc]
   split<;>simp<;>omega
def aE.gj:∀l:List aE,(aE.bD l).length<=aE.bB l
 | []=>by simp[aE.bD,aE.bB]
 |v::r=>by
  have:=aE.Av v
  have:=aE.gj r
  simp only[aE.bD,aE.bB,ahc];omega
end
abbrev Xq (v:aE)(Ai:List Int)(d:D):Prop:=D.ae d=aw (Ai++v.dt)
def M9 {v:aE}{Ai:List Int}{ags:List BV}{L:List (Nat×aI)}{l:List D}{c:Nat}:
 (xg.bx=some 1/\∃d,T.dy (.bool true,[(0,.cells [.aZ 1 c true] aW false),(1,.ak aA l true)]) (tU ags L d)/\Xq v Ai d)↔c=l.length/\l=aw (Ai++v.dt):=by
 constructor
 ·rintro⟨_,d,h,hq⟩
  simp only[tU,bm,ah3,ai6,aI.cells.injEq,aI.ak.injEq,BV.aZ.injEq,ahk,ahf]at h
  obtain⟨rfl,rfl⟩:=h
  exact⟨rfl,hq⟩
 ·rintro⟨rfl,h⟩;exact⟨rfl,.r l,bm.2 rfl,h⟩
def aeG (v:aE):∀(pl:List D) (Ai:List Int),v.ok->pl.length+v.depth<1000->Ai.length+v.size<2^30->v.eK=true->
 PH lB (FQ v.ax pl (aw Ai) Ai.length) (FV v.ax pl (aw Ai) Ai.length) 1 tU (Xq v Ai):=by
 induction v using aE.GM with|h v ih=>
 intro pl Ai hv hpl hout hf
 have hse:=v.eo
 refine Zm ?_
 have loop:∀(ah:List aE) (i:Nat) (o:List Int),v.l.drop i=ah->o++aE.bD ah=Ai++v.dt->o.length+aE.bB ah<2^30->
  ay pg lB [ai] (.bx 1 (tU (FQ v.ax pl (aw Ai) Ai.length) (FV v.ax pl (aw Ai) Ai.length)) (Xq v Ai)) (uX v.ax pl (aw Ai) Ai.length o.length (aw o) i):=by
  intro ah
  induction ah with
  |nil=>
   intro i o hd ho hlen
   have:=drop_nil hd
   refine Ja ?_
   simp[-List.map_append,this,M9]
   simp[aE.bD]at ho
   exact⟨by omega,by rw[ho]⟩
  |cons x ah ihr=>
   intro i o hd ho hlen
   obtain⟨g1,g2,g3⟩:=aB hd
   have hx:=agY g1
   refine Ja ?_
   simp[-List.map_append,g3,aU,bn g1,bo g3 hv.len,X2]
   have hdx:=aE.DU hx
   have hfx:=hv.aa hf hx
   have hdv:=v.Kx
   have hk3:=aE.Yd hf hx
   rw[ag8 hk3]at hdv
   simp only[aE.bB]at hlen
   have hxr:=x.Av
   refine⟨fun _=>⟨_,rfl,_,ih x hx (pl++[D.z i]) o (hv.mem hx) (by simp;omega) (by omega) hfx,?_⟩,by simp[aO];omega⟩
   rintro d hd2
   rw[hd2]
   have e:=ihr (i+1) (o++x.dt) g2 (by rw[aij];exact ho) (by simp;omega)
   simpa using e
 have hl:aE.bB v.l<2^30:=by omega
 have hr:=v.OF
 simp only[rk,aE.cU,aE.BC,M9,ahg,ah0,agV]
 refine⟨fun hk=>⟨fun _=>?_,fun h=>?_⟩,fun hk=>?_⟩
 ·have hk:v.k=4:=by simpa using hk
  rw[ag8 hk]at hr
  have e:=loop v.l 0 (Ai++[v.r]) rfl (by rw[hr,aij]) (by simp;omega)
  simp at e;exact e
 ·simp[aO]at h;omega
 ·have hk:¬v.k=4:=by simpa using hk
  rw[ag4 hk]at hr
  exact loop v.l 0 Ai rfl (by rw[hr];simp) (by omega)
def ka {e:TypeId}{n:Nat}{l X:List D}(h1:n=l.length)(h2:l=X):∃d,T.dy (BV.aZ 0 n true,[(0,aI.ak e l true)]) (T.ret (BV.aZ 0 (D.ae d).length true,[(0,aI.ak e (D.ae d) true)]))/\D.ae d=X:=⟨.r l,by subst h1;exact .ret,h2⟩
def FG (v:aE)(hv:v.ok):PH jf (O5 v.ax) [] 0 zB (fun d=>D.ae d=aw (if v.cN then v.dt else [])):=by
 refine Zl ?_
 simp only[rk,aE.cU,lK]
 refine⟨_,_,_,rfl,Lt v hv,?_⟩
 rintro _ rfl
 simp only[D.bz]
 refine⟨fun h=>?_,fun h=>⟨rfl,ka rfl (by simp[h])⟩⟩
 have h2:=v.cW.1 h
 refine⟨_,_,rfl,aeG v [] [] hv (by simp;omega) (by simp;omega) h2.2.2,?_⟩
 rintro d hd
 exact⟨rfl,ka rfl (by rw[hd];simp[h])⟩
end Go.Proofs
namespace Go.Proofs
open Go Go.PB
def aE.ae (l:List aE):aE:= .mk 3 0 [] l 0
def aE.PJ (l:List aE):(aE.ae l).ax= .r [.z 3,.z 0,.s [],.r (l.map aE.ax),.z 0]:=aE.aD _
def M1 {ags:List BV}{L:List (Nat×aI)}{b:Int}{Q:D->Prop}:(eE.bx=some 0/\∃d,T.dy (.int .i64 b,[]) (eD ags L d)/\Q (.z (D.int d)))↔Q (.z b):=by
 constructor
 ·rintro⟨_,d,h,hq⟩
  simp only[eD,bm,ah3,BV.int.injEq,ahk,ahf]at h
  rw[h];exact hq
 ·intro h;exact⟨rfl,.z b,bm.2 rfl,h⟩
def Vl (l:List aE)(hl:∀x∈l,x.ok)(hn:l.length<2^63):
 PH dB (mG (l.map aE.ax)) [] 0 eD
  (fun d=>decide (0<=D.int (.z (D.int d)))=!l.all aE.cN):=by
 refine G2 ?_
 have loop:∀(ah:List aE) (i:Nat),l.drop i=ah->
  ay pg dB [af] (.bx 0 (eD (mG (l.map aE.ax)) []) (fun d=>decide (0<=D.int (.z (D.int d)))=!ah.all aE.cN)) (jh (l.map aE.ax) i):=by
  intro ah
  induction ah with
  |nil=>
   intro i hd
   have:=drop_nil hd
   refine u0 ?_
   simp only[rk,agV,M1 (Q:=fun d=>decide (0<=D.int d)=!List.all [] aE.cN)]
   simp[this];omega
  |cons x ah ihr=>
   intro i hd
   obtain⟨g1,g2,g3⟩:=aB hd
   have hx:=agY g1
   refine u0 ?_
   simp only[rk,agV,M1 (Q:=fun d=>decide (0<=D.int d)=!List.all (x::ah) aE.cN)]
   simp[g3,aU,bn g1,bo g3 hn]
   refine⟨_,_,rfl,_,Lt x (hl x hx),?_⟩
   rintro _ rfl
   simp
   refine⟨fun h=> .inl h,fun h=>?_⟩
   have:=ihr _ g2
   simp[h]at this ⊢;exact this
 exact loop l 0 rfl
def NQ (l:List aE)(hl:∀x∈l,x.ok)(hn:l.length<2^63):
 PH fR (tJ (l.map aE.ax)) [] 0 mS
  (fun d=>D.bool d=!l.all aE.cN):=by
 refine CY ?_
 simp only[rk]
 refine⟨_,_,rfl,Vl l hl hn,?_⟩
 intro d hd
 exact⟨rfl,.b _,bm.2 rfl,hd⟩
def agq (l:List aE)(hl:∀x∈l,x.ok)(hn:l.length<2^63):fk pg GF [dE] [.r (l.map aE.ax)] [ai] (·= .b (l.all aE.cN)):=by
 refine ab1 ?_
 simp only[rk,D.bE]
 refine⟨_,_,rfl,NQ l hl hn,?_⟩
 intro d hd
 rw[hd];simp
def agQ (l:List aE)(hl:∀x∈l,x.ok)(hn:l.length<2^63):fk pg zi [dE] [.r (l.map aE.ax)] [av,aM]
 (·=if l.all aE.cN then (if (aE.ae l).cN then .r [(aE.ae l).ax,.z 0]else .r [.r [.z 0,.z 0,.s [],.r [],.z 0],.z 4])else .r [.r [.z 0,.z 0,.s [],.r [],.z 0],.z 2]):=by
 have hok:(aE.ae l).ok:=by rw[aE.gL];exact⟨by simp[aE.ae,aE.k],by simp[aE.ae,aE.k],by simp[aE.ae,aE.n],by simp[aE.ae,aE.n],by simp[aE.ae,aE.s],hn,by simp[aE.ae,aE.r],by simp[aE.ae,aE.r],hl⟩
 refine aet ?_
 simp only[rk,D.bE,<-aE.PJ]
 refine⟨_,_,_,rfl,agq l hl hn,?_⟩
 rintro _ rfl
 simp
 refine⟨fun x h1 h2 h3=>absurd (h3 x h1) (by simp[h2]),fun h=>?_⟩
 rw[ag8 h]
 refine⟨_,_,rfl,_,Lt _ hok,?_⟩
 rintro _ rfl
 simp
 refine fun h=>⟨_,_,rfl,_,ade _ hok (by have:=aE.cW _ |>.1 h;omega),?_⟩
 rintro _ rfl
 simp[h]
end Go.Proofs
namespace Go.Proofs
open Go Go.PB
namespace Wh
def aJ (x:Wh):List aE:=x.v::(x.vs++x.ns.map ga.v)
def sz (x:Wh):Nat:=aE.bB x.aJ+St.eu x.co+St.lv x.co
def ok.aJ {x:Wh}(h:x.ok):∀v∈x.aJ,v.ok:=by
 intro v hv
 simp only[ok]at h
 simp only[Wh.aJ,ag9,ahd,ahp]at hv
 rcases hv with rfl|hv| ⟨n,hn,rfl⟩
 ·exact h.2.2.2.2.1
 ·exact h.2.2.2.2.2.2.1 v hv
 ·exact((h.2.2.2.2.2.2.2.2.2.2.2.2.2.2.2.2.2.2.2.2) n hn).2
def ok.co {x:Wh}(h:x.ok):St.Ag x.co:=by
 simp only[ok]at h
 exact⟨h.2.2.2.2.2.2.2.2.2.2.2.2.2.2.2.2.2.1,h.2.2.2.2.2.2.2.2.2.2.2.2.2.2.2.2.2.2.1⟩
def Ft (x:Wh):x.vs.length+x.ns.length<aE.bB x.aJ:=by
 have:=aE.dx x.aJ
 have h:x.aJ.length=1+x.vs.length+x.ns.length:=by simp[aJ];omega
 omega
end Wh
def aE.Bw:∀(a b:List aE),aE.bB (a++b)=aE.bB a+aE.bB b
 | [],b=>by simp[aE.bB]
 |v::r,b=>by simp only[aia,aE.bB,aE.Bw r b];omega
def MZ (x:Wh)(hs:x.sz<2^30):fk pg gS [aH] [x.ax] [dE] (·= .r (x.aJ.map aE.ax)):=by
 have hls:=x.Ft
 simp only[Wh.sz]at hs
 have loop:∀(ah:List ga) (i:Nat) (o:List aE),x.ns.drop i=ah->o++ah.map ga.v=x.aJ->ay pg gS [dE] (.dQ (·= .r (x.aJ.map aE.ax))) (pT x.ax o.length i (o.map aE.ax)):=by
  intro ah
  induction ah with
  |nil=>
   intro i o hd ho
   have:=drop_nil hd
   refine BS ?_
   simp only[ajp,ahM]at ho
   subst ho
   simp[this]
   omega
  |cons n ah ihr=>
   intro i o hd ho
   obtain⟨g1,g2,g3⟩:=aB hd
   have hol:o.length<=x.aJ.length:=by rw[<-ho];simp
   have hvl:x.aJ.length=1+x.vs.length+x.ns.length:=by simp[Wh.aJ];omega
   refine BS ?_
   simp[-List.map_append,g3,aU,bn g1,bo g3 (n:=x.ns.length) (by omega)]
   exact⟨fun _=>by simpa using ihr (i+1) (o++[n.v]) g2 (by simpa using ho),by simp[aO];omega⟩
 refine Qr ?_
 simp
 refine⟨fun _=>?_,by simp[aO];omega⟩
 have e:=loop x.ns 0 (x.v::x.vs) rfl (by simp[Wh.aJ])
 simpa [ajq]using e
def ace (v:aE):v.ok->v.size<2^30->v.eK=true->fk pg mw [av] [v.ax] [aW] (·= .r (aw v.dt)):=by
 induction v using aE.GM with|h v ih=>
 intro hv hs hf
 have hse:=v.eo
 have hre:=v.OF
 have hrl:=aE.Av v
 have loop:∀(ah:List aE) (i:Nat) (o:List Int),v.l.drop i=ah->o++aE.bD ah=v.dt->ay pg mw [aW] (.dQ (·= .r (aw v.dt))) (tF v.ax o.length i (aw o)):=by
  intro ah
  induction ah with
  |nil=>
   intro i o hd ho
   have:=drop_nil hd
   refine E1 ?_
   simp only[aE.bD,ahM]at ho
   subst ho
   simp[this]
   omega
  |cons x ah ihr=>
   intro i o hd ho
   obtain⟨g1,g2,g3⟩:=aB hd
   have hx:=agY g1
   have hsx:=aE.eb hx
   have hol:=ahE List.length ho
   simp only[aE.bD,ahc]at hol
   refine E1 ?_
   simp[-List.map_append,g3,aU,bn g1,bo g3 hv.len]
   refine⟨_,_,rfl,_,ih x hx (hv.mem hx) (by omega) (hv.aa hf hx),?_⟩
   rintro _ rfl
   simp only[D.bE,agV]
   refine⟨fun _=>?_,by simp[aO];omega⟩
   have e:=ihr (i+1) (o++x.dt) g2 (by simpa [aE.bD]using ho)
   simpa using e
 refine Wf ?_
 simp
 refine⟨fun h=>?_,fun h=>?_⟩
 ·have:v.l=[]:=by
   rw[aE.nT]at hf
   simp only[aE.field,h,ag2]at hf
   simp at hf;exact hf.2.1.2
  simp[hre,h,this,aE.bD]
 ·exact loop v.l 0 [] rfl (by simp[hre,h])
def JZ (x:Wh)(hx:x.ok)(hs:x.sz<2^30)(hm:∀v∈x.aJ,v.cN=true):PH fA (Dr x.ax) [] 0 qm (fun d=>D.ae d=aw (aE.bD x.aJ)):=by
 have hvl:x.aJ.length<2^63:=by have:=aE.dx x.aJ;simp only[Wh.sz]at hs;omega
 have hrl:=aE.gj x.aJ
 have hs2:=hs
 simp only[Wh.sz]at hs2
 have loop:∀(ah:List aE) (i:Nat) (o:List Int),x.aJ.drop i=ah->o++aE.bD ah=aE.bD x.aJ->ay pg fA [aW] (.bx 0 (qm (Dr x.ax) []) (fun d=>D.ae d=aw (aE.bD x.aJ))) (tB x.ax (x.aJ.map aE.ax) o.length i (aw o)):=by
  intro ah
  induction ah with
  |nil=>
   intro i o hd ho
   have:=drop_nil hd
   refine EX ?_
   simp only[aE.bD,ahM]at ho
   subst ho
   have hn:¬(i:Int)<(x.aJ.length:Int):=by omega
   simp only[rk,agV,hn,ahj,agZ,ag1,ag3,ahk]
   refine⟨rfl,.r (aw (aE.bD x.aJ)),?_,rfl⟩
   rw[show (aE.bD x.aJ).length=(aw (aE.bD x.aJ)).length by simp]
   exact .ret
  |cons v ah ihr=>
   intro i o hd ho
   obtain⟨g1,g2,g3⟩:=aB hd
   have hv:=agY g1
   have hsx:=aE.eb hv
   have hmv:=(aE.cW v).1 (hm v hv)
   have hol:=ahE List.length ho
   simp only[aE.bD,ahc]at hol
   have hcl:(i:Int)<(x.aJ.length:Int):=by omega
   have rm:aO 8 (o.length+v.dt.length)=true:=by simp[aO];omega
   refine EX ?_
   simp only[rk,agV,hcl,aU g3,bn g1,ag6,lK,ahg,ag3,ag0,ag1,ahf,ah0,bo g3 hvl]
   refine⟨_,_,_,rfl,ace v (hx.aJ v hv) (by omega) hmv.2.2,?_⟩
   rintro _ rfl
   simp only[D.bE,agV,rm,ag3,ag0,ag1,ahf]
   have e:=ihr (i+1) (o++v.dt) g2 (by simpa [aE.bD]using ho)
   rw[ahc,show aw (o++v.dt)=aw o++aw v.dt from ahr]at e
   exact e
 refine V8 ?_
 simp only[rk,Wh.re]
 refine⟨_,_,_,rfl,MZ x hs,?_⟩
 rintro _ rfl
 exact loop x.aJ 0 [] rfl rfl
def Wh.vl (x:Wh):Bool:=decide (x.vs.length<=1024)&&decide (x.ns.length<=128)&&decide (St.eu x.co<=512)&&St.lC x.co&&x.aJ.all aE.cN
def aca (x:Wh)(hx:x.ok)(hs:x.sz<2^30):fk pg qD [aH] [x.ax] [ai] (·= .b x.vl):=by
 have hvl:x.aJ.length<2^63:=by have:=aE.dx x.aJ;simp only[Wh.sz]at hs;omega
 have hs2:=hs
 simp only[Wh.sz]at hs2
 have loop:∀(ah:List aE) (i:Nat),x.aJ.drop i=ah->ay pg qD [ai] (.dQ (·= .b (ah.all aE.cN))) (tw x.ax (x.aJ.map aE.ax) i):=by
  intro ah
  induction ah with
  |nil=>
   intro i hd
   have:=drop_nil hd
   refine ET ?_
   simp[this]
   omega
  |cons v ah ihr=>
   intro i hd
   obtain⟨g1,g2,g3⟩:=aB hd
   have hv:=agY g1
   refine ET ?_
   simp[g3,aU,bn g1,bo g3 hvl]
   refine⟨_,_,rfl,_,Iv v (hx.aJ v hv),?_⟩
   rintro _ rfl
   simp
   refine⟨fun h=>by simp[h],fun h=>?_⟩
   have e:=ihr (i+1) g2
   simpa [h]using e
 refine V6 ?_
 simp
 refine⟨fun h=>by simp[Wh.vl];omega,fun h=>⟨fun h2=>by simp[Wh.vl];omega,fun h2=>?_⟩⟩
 refine⟨_,_,rfl,_,UD x.co hx.co (by omega),?_⟩
 rintro d ⟨_,hq⟩
 simp only[Et]at hq
 refine⟨fun h3=>by simp[Wh.vl];omega,fun h3=>?_⟩
 refine⟨_,_,rfl,_,Jc x.co hx.co (by omega),?_⟩
 rintro _ rfl
 simp
 refine⟨fun h4=>by simp[Wh.vl,h4],fun h4=>?_⟩
 refine⟨_,_,rfl,_,MZ x hs,?_⟩
 rintro _ rfl
 have e:=loop x.aJ 0 rfl
 have:x.vl=x.aJ.all aE.cN:=by
  have h5:St.eu x.co<=512:=by omega
  have h6:x.vs.length<=1024:=by omega
  have h7:x.ns.length<=128:=by omega
  simp[Wh.vl,h6,h7,h4,h5]
 rw[this];exact e
def R4 (l:List D)(h:l.length<2^30):PH nN (FK l) [] 0 AI (fun d=>D.ae d=l):=by
 have hr:aO 56 (0+l.length)=true:=by simp[aO];omega
 refine Of ?_
 simp only[rk,hr,aib,ag3,agZ,ag0,ag1,ahf]
 exact⟨fun he=>⟨⟨rfl,ka rfl (by simpa using he.symm)⟩,rfl,ka (by simp) (by simp)⟩,fun _=>⟨rfl,ka (by simp) (by simp)⟩⟩
def R6 (l:List D)(h:l.length<2^30):PH nP (FN l) [] 0 AK (fun d=>D.ae d=l):=by
 have hr:aO 256 (0+l.length)=true:=by simp[aO];omega
 refine Oi ?_
 simp only[rk,hr,aib,ag3,agZ,ag0,ag1,ahf]
 exact⟨fun he=>⟨⟨rfl,ka rfl (by simpa using he.symm)⟩,rfl,ka (by simp) (by simp)⟩,fun _=>⟨rfl,ka (by simp) (by simp)⟩⟩
def Pm (l:List D)(h:l.length<2^30):PH mj (Es l) [] 0 y8 (fun d=>D.ae d=l):=by
 have hr:aO 64 (0+l.length)=true:=by simp[aO];omega
 refine LN ?_
 simp only[rk,hr,aib,ag3,agZ,ag0,ag1,ahf]
 exact⟨fun he=>⟨⟨rfl,ka rfl (by simpa using he.symm)⟩,rfl,ka (by simp) (by simp)⟩,fun _=>⟨rfl,ka (by simp) (by simp)⟩⟩
def R5 (l:List D)(h:l.length<2^30):PH nO (FL l) [] 0 AJ (fun d=>D.ae d=l):=by
 have hr:aO 80 (0+l.length)=true:=by simp[aO];omega
 refine Og ?_
 simp only[rk,hr,aib,ag3,agZ,ag0,ag1,ahf]
 exact⟨fun he=>⟨⟨rfl,ka rfl (by simpa using he.symm)⟩,rfl,ka (by simp) (by simp)⟩,fun _=>⟨rfl,ka (by simp) (by simp)⟩⟩
def NO (l:List D)(h:l.length<2^30):PH jT (Ca l) [] 0 w9 (fun d=>D.ae d=l):=by
 have hr:aO 16 (0+l.length)=true:=by simp[aO];omega
 refine K0 ?_
 simp only[rk,hr,aib,ag3,agZ,ag0,ag1,ahf]
 exact⟨fun he=>⟨⟨rfl,ka rfl (by simpa using he.symm)⟩,rfl,ka (by simp) (by simp)⟩,fun _=>⟨rfl,ka (by simp) (by simp)⟩⟩
def MA (l:List D)(h:l.length<2^30):PH i9 (IH l) [] 0 xU (fun d=>D.ae d=l):=by
 have hr:aO 8 (0+l.length)=true:=by simp[aO];omega
 refine P4 ?_
 simp only[rk,hr,aib,ag3,agZ,ag0,ag1,ahf]
 exact⟨fun he=>⟨⟨rfl,ka rfl (by simpa using he.symm)⟩,rfl,ka (by simp) (by simp)⟩,fun _=>⟨rfl,ka (by simp) (by simp)⟩⟩
def U3 (l:List D)(h:l.length<2^30):PH fQ (II l) [] 0 qk (fun d=>D.ae d=l):=by
 have hr:aO 8 (0+l.length)=true:=by simp[aO];omega
 refine P5 ?_
 simp only[rk,hr,aib,ag3,agZ,ag0,ag1,ahf]
 exact⟨fun he=>⟨⟨rfl,ka rfl (by simpa using he.symm)⟩,rfl,ka (by simp) (by simp)⟩,fun _=>⟨rfl,ka (by simp) (by simp)⟩⟩
def Kq (l:List D)(h:l.length<2^30):PH gH (FM l) [] 0 vH (fun d=>D.ae d=l):=by
 have hr:aO 8 (0+l.length)=true:=by simp[aO];omega
 refine Oh ?_
 simp only[rk,hr,aib,ag3,agZ,ag0,ag1,ahf]
 exact⟨fun he=>⟨⟨rfl,ka rfl (by simpa using he.symm)⟩,rfl,ka (by simp) (by simp)⟩,fun _=>⟨rfl,ka (by simp) (by simp)⟩⟩
end Go.Proofs
end
