import Derived.Test.YtdoajjnobfjkcaaGreatM18
set_option linter.all false
noncomputable section
namespace Go.Proofs
open Go Go.PB
section
def Wh.zero:Wh:=⟨0,0,.zero,[],0,0,0,0,0,false,[],[]⟩
def aV.at (t:aV)(r:Int):Wh:=(t.get r).getD Wh.zero
def aV.ak (t:aV):List D:=t.map fun p=>D.r [.z p.1,p.2.ax]
@[simp] def aV.va (t:aV):t.ak.length=t.length:=by simp[aV.ak]
def aV.N3 (t:aV)(r:Int):t.kind r=(t.at r).k:=by
 unfold aV.kind aV.at;cases t.get r<;>rfl
def aV.ok (t:aV):Prop:=∀p∈t,p.2.ok
def aV.np {t:aV}{r:Int}{x:Wh}(h:t.get r=some x):(r,x)∈t:=by
 induction t with
 |nil=>cases h
 |cons p q ih=>
  simp only[aV.get]at h
  split at h
  ·rename_i e;cases h;subst e;exact ahT
  ·exact ahB _ (ih h)
def Wh.p6:Wh.zero.ok:=by
 have:=aE.p6
 simp[Wh.ok,Wh.zero,this]
def aV.ok.at {t:aV}(h:t.ok)(r:Int):(t.at r).ok:=by
 unfold aV.at
 cases e:t.get r with
 |none=>exact Wh.p6
 |some x=>exact h _ (aV.np e)
def Wh.ok.wk {x:Wh}(h:x.ok):IntKind.i64.wrap x.k=x.k:=by simp only[Wh.ok]at h;exact aaf h.1 h.2.1
structure Fe (R:RS)(w:Wo):Prop where
 pa:R.pa=aw w.pa
 cu:R.cu=w.cu.map D.b
 th:R.th=w.th.ak
 la:R.la=w.la
 ma:R.ma=aw w.ma
def yS {t:aV}{i:Nat}{p:Int×Wh}(h:t[i]?=some p):D.at t.ak i= .r [.z p.1,p.2.ax]:=bn h
section
variable {R:RS} {w:Wo} (hR:Fe R w) (hn:w.th.length<2^62)
include hR hn
def FZ (r:Int):PH eG (JD R r) (Rm R) 1 pH (fun d=>D.aa d 0=(w.th.at r).ax/\(d.aa 1).bool=(w.th.get r).isSome):=by
 have loop:∀(ah:aV) (i:Nat),w.th.drop i=ah->ay pg eG [aH,ai] (.bx 1 (pH (JD R r) (Rm R)) (fun d=>D.aa d 0=(ah.at r).ax/\(d.aa 1).bool=(ah.get r).isSome)) (Bc R r i):=by
  intro ah
  induction ah with
  |nil=>
   intro i hd
   have:=drop_nil hd
   refine K6 ?_
   simp only[rk,hR.th,aV.va]
   refine⟨fun h=>by simp at h;omega,fun _=>⟨rfl,.r [Wh.zero.ax,.b false],?_,rfl,rfl⟩⟩
   refine bm.2 ?_
   kernel_rfl
  |cons p ah ih=>
   intro i hd
   obtain⟨g1,g2,g3⟩:=aB hd
   refine K6 ?_
   simp only[rk,hR.th,aV.va,ag6,yS g1,aU g3,bo g3 (n:=w.th.length) (by omega)]
   refine⟨fun _=>⟨fun _=>⟨fun _=>⟨fun h=>⟨rfl,.r [p.2.ax,.b true],.ret,?_⟩,fun h=>?_⟩,fun h=>by simp at h;omega⟩,fun h=>by simp at h⟩,fun h=>by simp at h;omega⟩
   ·have h:p.1=r:=by simpa [D.aa,D.at]using h
    have e:aV.get (p::ah) r=some p.2:=by simp[aV.get,h]
    exact⟨by rw[aV.at,e];rfl,by rw[e];rfl⟩
   ·have h:¬p.1=r:=by simpa [D.aa,D.at]using h
    have e:aV.get (p::ah) r=aV.get ah r:=by simp[aV.get,h]
    have:=ih (i+1) g2
    rw[aV.at,e];exact this
 exact abQ (loop w.th 0 rfl)
def Nj (ht:w.th.ok)(r:Int):PH nQ (Ml R r) (Rm R) 1 zu (fun d=>D.int d=w.th.kind r):=by
 refine VL ?_
 simp only[rk]
 refine⟨_,_,rfl,FZ hR hn r,?_⟩
 rintro d ⟨h1,h2⟩
 rw[h1]
 simp only[Wh.cU,(ht.at r).wk]
 exact⟨rfl,B3 (aV.N3 _ _).symm⟩
def aV.oD (t:aV):Nat->Int->Option Int
 |0,_=>none
 |n+1,r=>match t.get r with|none=>some 0|some x=>if x.k=14 then some x.set else if x.k=15\/x.k=16 then aV.oD t n x.of else some (B9 x.k)
def TU (ht:w.th.ok):∀(n:Nat) (r a:Int),w.th.oD n r=some a->PH ml (HE R r) (Rm R) 1 wx (fun d=>D.int d=a):=by
 intro n
 induction n with
 |zero=>intro r a h;simp[aV.oD]at h
 |succ n ih=>
  intro r a h
  refine VI ?_
  simp only[rk]
  refine⟨_,_,rfl,FZ hR hn r,?_⟩
  rintro d ⟨h1,h2⟩
  rw[h1,h2]
  simp only[aV.oD]at h
  cases hg:w.th.get r with
  |none=>
   simp only[hg]at h
   exact⟨fun _=>⟨rfl,B3 (by simpa using h)⟩,fun hx=>by simp at hx⟩
  |some x=>
   have hat:w.th.at r=x:=by simp[aV.at,hg]
   simp only[hg]at h
   rw[hat]
   have hx:x.ok:=by have:=ht.at r;rwa [hat]at this
   simp only[Wh.cU,hx.wk,Wh.i7,Wh.di,ahU,aip,agZ,ag1,ag3,ahk,aht,ahe,aic]
   have lf:∀v:Int,(x.k≠14->x.k≠15->x.k≠16->B9 x.k=v)->x.k≠14->x.k≠15->x.k≠16->zH.bx=some 1/\∃d,T.dy (BV.int .u8 v,Rm R) (wx (HE R r) (Rm R) d)/\D.int d=a:=fun v hv n14 n15 n16=>by
    rw[ag4 n14,ag4 (by omega)]at h
    exact⟨rfl,B3 (by rw[<-hv n14 n15 n16];simpa using h)⟩
   refine⟨fun k=>lf _ (by intros;simp[B9,k]) (by omega) (by omega) (by omega),fun k1=>⟨fun k=>lf _ (by intros;simp[B9,k]) (by omega) (by omega) (by omega),fun k2=>⟨fun k=>lf _ (by intros;simp[B9,k]) (by omega) (by omega) (by omega),fun k3=>⟨fun k=>lf _ (by intros;simp[B9,k]) (by omega) (by omega) (by omega),fun k4=>⟨fun k=>lf _ (by intros;simp[B9,k]) (by omega) (by omega) (by omega),fun k5=>⟨fun k=>lf _ (by intros;simp[B9,k]) (by omega) (by omega) (by omega),fun k6=>⟨fun k=>lf _ (by intros;simp[B9,k]) (by omega) (by omega) (by omega),fun k7=>⟨fun k=>lf _ (by intros;simp[B9,k]) (by omega) (by omega) (by omega),fun k8=>?_⟩⟩⟩⟩⟩⟩⟩⟩
   refine⟨fun k=>lf _ (by intros;simp[B9,k]) (by omega) (by omega) (by omega),fun k9=>⟨fun k=>lf _ (by intros;simp[B9,k]) (by omega) (by omega) (by omega),fun k10=>⟨fun k=>lf _ (by intros;simp[B9,k]) (by omega) (by omega) (by omega),fun k11=>⟨fun k=>lf _ (by intros;simp[B9,k]) (by omega) (by omega) (by omega),fun k12=>⟨fun k=>?_,fun Jv=>⟨fun k=>?_,fun Ez=>⟨fun k=>?_,fun Ss=>lf _ (by intros;simp[B9, *]) Jv Ez Ss⟩⟩⟩⟩⟩⟩⟩
   ·rw[ag8 k]at h;exact⟨rfl,B3 (by simpa using h)⟩
   ·rw[ag4 (by omega),ag8 (by omega)]at h
    refine⟨_,_,rfl,ih x.of a h,?_⟩
    intro d2 hd2
    exact⟨rfl,B3 hd2⟩
   ·rw[ag4 (by omega),ag8 (by omega)]at h
    refine⟨_,_,rfl,ih x.of a h,?_⟩
    intro d2 hd2
    exact⟨rfl,B3 hd2⟩
def aV.qe (t:aV)(r k o:Int)(b:Bool):Bool:=t.any fun p=>decide (p.1≠r/\p.2.k=k/\(if b then p.2.km=o else p.2.of=o))
def Ka (ht:w.th.ok)(r k o:Int)(b:Bool):PH ia (wV R r k o b) (Rm R) 1 su (fun d=>D.bool d=w.th.qe r k o b):=by
 have loop:∀(ah:aV) (i:Nat),w.th.drop i=ah->ay pg ia [ai] (.bx 1 (su (wV R r k o b) (Rm R)) (fun d=>D.bool d=ah.qe r k o b)) (po R r k o b i):=by
  intro ah
  induction ah with
  |nil=>
   intro i hd
   have:=drop_nil hd
   refine EI ?_
   simp only[rk,hR.th,aV.va]
   exact⟨fun h=>by simp at h;omega,fun _=>⟨rfl,vP rfl⟩⟩
  |cons p ah ih=>
   intro i hd
   obtain⟨g1,g2,g3⟩:=aB hd
   have hp:=ht p (agY g1)
   refine EI ?_
   have e1:D.aa (.r [.z p.1,p.2.ax]) 0= .z p.1:=rfl
   have e2:D.aa (.r [.z p.1,p.2.ax]) 1=p.2.ax:=rfl
   simp only[rk,hR.th,aV.va,ag6,yS g1,aU g3,bo g3 (n:=w.th.length) (by omega),e1,e2,D.bV,Wh.cU,Wh.di,Wh.gg,hp.wk,aiI,ahV,aht,ahe,aic]
   have nx:¬(p.1≠r/\p.2.k=k/\(if b then p.2.km=o else p.2.of=o))->ay pg ia [ai] (.bx 1 (su (wV R r k o b) (Rm R)) (fun d=>D.bool d=aV.qe (p::ah) r k o b)) (po R r k o b ((i+1:Nat):Int)):=fun h=>by
    have e:aV.qe (p::ah) r k o b=aV.qe ah r k o b:=by simp only[aV.qe,List.any_cons,h,ahj,ai7]
    rw[e];exact ih (i+1) g2
   have Nd:(p.1≠r/\p.2.k=k/\(if b then p.2.km=o else p.2.of=o))->aV.qe (p::ah) r k o b=true:=fun h=>by simp only[aV.qe,List.any_cons,decide_eq_true h,akb]
   refine⟨fun _=>⟨fun _=>⟨fun _=>⟨fun a=>⟨fun c=>⟨fun hb=>⟨fun ho=>⟨rfl,vP (Nd ⟨a,c,by rw[ag8 hb];exact ho⟩).symm⟩,fun ho=>nx fun h=>?_⟩,fun hb=>⟨fun ho=>⟨rfl,vP (Nd ⟨a,c,by rw[ag4 (by simp[hb])];exact ho⟩).symm⟩,fun ho=>nx fun h=>?_⟩⟩,fun c=>nx fun h=>c h.2.1⟩,fun a=>nx fun h=>h.1 a⟩,fun h=>by simp at h;omega⟩,fun h=>by simp at h⟩,fun h=>by simp at h;omega⟩
   ·rw[ag8 hb]at h;exact ho h.2.2
   ·rw[ag4 (by simp[hb])]at h;exact ho h.2.2
 exact SH (loop w.th 0 rfl)
end
def aev (l:List Int)(hl:l.length<2^30):PH uN (Cf (aw l)) [] 0 zA (fun d=>D.bool d=oJ l):=by
 have no:¬oJ l=true->∃d,T.dy (BV.tuple [.nA,.int .i64 71],([]:List (Nat×aI))) (zA (Cf (aw l)) [] d)/\D.bool d=oJ l:=fun h=>⟨.b false,.ff rfl .ret,by simpa using h⟩
 have loop:∀(ah:List Int) (i:Nat),l.length<16->i<=l.length->l.drop i=ah->(∀(j:Nat) (x:Int),j<i->l[j]?=some x->0<=x/\x<=j)->
  ay pg uN [bP,aM] (.bx 0 (zA (Cf (aw l)) []) (fun d=>D.bool d=oJ l)) (vW (aw l) i i (aw (l.take i))):=by
  intro ah
  induction ah with
  |nil=>
   intro i h16 hle hd hp
   have hi:=drop_nil hd
   have hok:oJ l=true:=(qF l).2 ⟨h16,fun j x hj=>hp j x (by have:=(aha.1 hj).1;omega) hj⟩
   refine He ?_
   rw[bO (x:=((aw l).length:Int)+1) (by simp;omega) (by simp;omega)]
   simp only[rk,agV]
   refine⟨fun h=>by simp at h;omega,fun _=>⟨rfl,.b true,.tt rfl ?_,hok.symm⟩⟩
   have hil:i=l.length:=by omega
   subst hil
   have e1:((l.length:Int)+1).toNat=(aw l).length+1:=by simp
   rw[aif,e1,show l.length=(aw l).length by simp]
   exact .ret
  |cons x ah ih=>
   intro i h16 hle hd hp
   obtain⟨g1,g2,g3⟩:=aB hd
   refine He ?_
   simp only[rk,agV,ag6,aU g3,bn (f:=D.z) g1,bo g3 (n:=l.length) (by omega),D.bV,agW,agX]
   refine⟨fun _=>⟨fun _=>⟨fun h=>⟨rfl,no fun a=>by have:=((qF l).1 a).2 i x g1;omega⟩,fun h=>⟨fun h2=>⟨rfl,no fun a=>by have:=((qF l).1 a).2 i x g1;omega⟩,fun h2=>⟨fun _=>?_,fun hr=>?_⟩⟩⟩,fun h=>by simp at h⟩,fun h=>by omega⟩
   ·rw[zo g1]
    refine ih (i+1) h16 (by omega) g2 fun j y hj hy=>?_
    by_cases e:j=i
    ·subst e;rw[g1]at hy;cases hy;omega
    ·exact hp j y (by omega) hy
   ·simp[aO]at hr;omega
 refine Zf ?_
 simp only[rk,agV]
 refine⟨fun h=>⟨rfl,no fun a=>by have:=((qF l).1 a).1;simp at h;omega⟩,fun h=>⟨fun _=>⟨fun _=>loop l 0 (by simp at h;omega) (by omega) rfl (by intros;omega),fun h2=>?_⟩,fun h2=>?_⟩⟩
 ·simp[rZ]at h2;omega
 ·rw[bO (by omega) (by omega)]at h2;simp[rZ]at h2;omega
end
section
def RO (a b:Int):(a==b)=decide (a=b):=rfl
def dR (k:Int):Bool:=decide (k=14\/k=15\/k=16)
def OP (k:Int):fk pg sV [lO] [.z k] [ai] (·= .b (dR k)):=by
 refine Wq ?_
 simp only[rk,D.bV,aht,ahe,aic,dR]
 exact⟨fun h=>by simp[h],fun h=>⟨fun h2=>by simp[h2],fun h2=>by simp[h,h2,RO]⟩⟩
def qf (k:Int):fk pg gJ [af] [.z k] [ai] (·= .b (dR k)):=by
 refine On ?_
 simp only[rk,D.bV,aht,ahe,aic,dR]
 exact⟨fun h=>by simp[h],fun h=>⟨fun h2=>by simp[h2],fun h2=>by simp[h,h2,RO]⟩⟩
def sC (k:Int):Bool:=decide (k=6\/k=7\/k=9\/k=11)||dR k
def Rn (k:Int):fk pg qd [lO] [.z k] [ai] (·= .b (sC k)):=by
 refine S7 ?_
 simp only[rk,D.bV,aht,ahe,aic,sC]
 refine⟨fun h=>by simp[h],fun h=>⟨fun h2=>by simp[h2],fun h2=>⟨fun h3=>by simp[h3],fun h3=>⟨fun h4=>by simp[h4],fun h4=>⟨_,_,_,rfl,OP k,?_⟩⟩⟩⟩⟩
 rintro _ rfl
 simp[h,h2,h3,h4]
def qS (k:Int):Bool:=decide (k=15\/k=16)
def Rl (k:Int):fk pg ik [lO] [.z k] [ai] (·= .b (qS k)):=by
 refine S6 ?_
 simp only[rk,D.bV,aht,ahe,aic,qS]
 exact⟨fun h=>by simp[h],fun h=>by simp[h,RO]⟩
def js (a b:Int):Int:=IntKind.u8.wrap ((BitVec.ofInt 8 a &&& ~~~ BitVec.ofInt 8 b).toNat:Int)
def Jn (a b:Int):IntKind.u8.wrap ((BitVec.ofInt 8 a &&& ~~~ BitVec.ofInt 8 b).toNat:Int)=js a b:=rfl
def gX.get (t:gX)(o s:Int):Option Int:=match t with| []=>none|p::q=>if p.1=(o,s)then some p.2 else gX.get q o s
def D.Yc (a b c d:Int):D.A5 (.r [.z a,.z b]) (.r [.z c,.z d])=decide ((a,b)=(c,d)):=by
 unfold D.A5
 by_cases h:(a,b)=(c,d)
 ·cases h;simp
 ·simp at h;simpa using h
def gX.ep (t:gX)(o s:Int):D.ep t.ax (.r [.z o,.z s])=(t.get o s).map D.z:=by
 induction t with
 |nil=>rfl
 |cons p q ih=>
  simp only[gX.ax,ahJ,D.ep,D.Yc,gX.get]
  by_cases h:p.1=(o,s)
  ·simp[h]
  ·simp only[h,ahj,ahN];exact ih
@[simp] def gX.cS (t:gX)(o s:Int):D.cS t.ax (.r [.z o,.z s])=(t.get o s).isSome:=by simp[D.cS,gX.ep]
def gX.val {t:gX}{o s r:Int}(h:t.get o s=some r):D.val t.ax (.r [.z o,.z s])= .z r:=by simp[D.val,gX.ep,h]
def gX.set (t:gX)(o s r:Int):gX:=match t with| []=>[]|p::q=>if p.1=(o,s)then (p.1,r)::gX.set q o s r else p::gX.set q o s r
def gX.fE (t:gX)(o s r:Int):D.fE t.ax (.r [.z o,.z s]) (.z r)=(t.set o s r).ax:=by
 induction t with
 |nil=>rfl
 |cons p q ih=>
  simp only[gX.ax,ahJ,D.fE,D.Yc,gX.set]at ih ⊢
  by_cases h:p.1=(o,s)
  ·simp[h,ih]
  ·simp[h,ih]
def gX.put (t:gX)(o s r:Int):gX:=if (t.get o s).isSome then t.set o s r else t++[((o,s),r)]
def gX.Ba (t u:gX)(o s:Int):gX.get (t++u) o s=(t.get o s).or (u.get o s):=by
 induction t with
 |nil=>simp[gX.get]
 |cons p q ih=>simp only[aia,gX.get];split<;>simp_all
def gX.Bb (t:gX)(o s r o' s':Int):(t.set o s r).get o' s'=if (o',s')=(o,s)then (t.get o s).map fun _=>r else t.get o' s':=by
 induction t with
 |nil=>simp[gX.set,gX.get]
 |cons p q ih=>
  simp only[gX.set,gX.get]
  by_cases h:p.1=(o,s)
  ·rw[ag8 h]
   simp only[gX.get]
   by_cases h2:p.1=(o',s')
   ·have e:(o',s')=(o,s):=by rw[<-h2,h]
    simp[h2,e]
   ·have e:¬(o',s')=(o,s):=fun e=>h2 (by rw[h,e])
    rw[ag4 h2,ih,ag4 e,ag4 e,ag4 h2]
  ·rw[ag4 h]
   simp only[gX.get]
   by_cases h2:p.1=(o',s')
   ·have e:¬(o',s')=(o,s):=fun e=>h (by rw[h2,e])
    rw[ag8 h2,ag4 e,ag8 h2]
   ·rw[ag4 h2,ih,ag4 h,ag4 h2]
def gX.fe (t:gX)(o s r o' s':Int):(t.put o s r).get o' s'=if (o',s')=(o,s)then some r else t.get o' s':=by
 unfold gX.put
 by_cases h:(t.get o s).isSome
 ·rw[ag8 h,gX.Bb]
  obtain⟨q,hq⟩:=ahw.1 h
  simp[hq]
 ·rw[ag4 h,gX.Ba]
  simp only[ahw,not_exists]at h
  by_cases e:(o',s')=(o,s)
  ·cases e
   rw[ag8 rfl]
   cases hg:t.get o s with
   |none=>simp[gX.get]
   |some q=>exact absurd hg (h q)
  ·rw[ag4 e]
   have:gX.get [((o,s),r)] o' s'=none:=by simp[gX.get];intro h1 h2;exact e (by rw[h1,h2])
   rw[this];simp
section
variable {W:WS} {w:Wo} (hW:zC W w)
include hW
def Wo.B5 (w:Wo)(r:Int)(x:Wh)(a:Int):Bool:=
 if x.k=6 then decide (w.th.kind x.of=5/\(w.th.at x.of).h=x.h)&&!w.th.Ah r 6 x.of
 else if x.k=7 then decide (w.th.kind x.of=5/\(w.th.at x.of).h=x.h)
 else if x.k=9 then decide (w.th.kind x.of=8/\(w.th.at x.of).h=x.h)
 else if x.k=11 then decide (w.th.kind x.of=10/\(w.th.at x.of).h=x.h)&&!w.th.Ah r 11 x.of
 else if x.k=15 then decide (w.th.kind x.km=13/\(w.th.at x.km).h=x.h/\(w.th.get x.of).isSome=true/\(w.th.at x.km).of=r)
 else if x.k=16 then decide (w.th.kind x.km=3/\(w.th.at x.km).h=x.h/\(w.th.get x.of).isSome=true)
 else if x.k=13 then decide (x.of=0\/w.th.kind x.of=15/\(w.th.at x.of).km=r)
 else if x.k=14 then decide ((w.th.get x.of).isSome=true/\w.th.kind x.of≠14/\x.set≠a/\js x.set a=0/\(w.fa.get x.of x.set=none\/w.fa.get x.of x.set=some r))
 else true
def Xw (h1:w.th.one)(r:Int)(x:Wh)(a:Int)(ha:x.k=14->∃n,w.th.xd n x.of 63=some a):
 PH pc (J3 W r x.ax) (Wm W) 3 Ci (fun d=>D.bool d=w.B5 r x a):=by
 have res:∀v,v=w.B5 r x a->Cw.bx=some 3/\∃d,T.dy (BV.bool v,Wm W) (Ci (J3 W r x.ax) (Wm W) d)/\D.bool d=w.B5 r x a:=fun v hv=>⟨rfl,vP hv⟩
 have vat:∀q,(w.th.get q).isSome=true->D.val w.th.ax (.z q)=(w.th.at q).ax:=fun q hq=>by
  obtain⟨y,hy⟩:=ahw.1 hq
  rw[aV.val hy];simp[aV.at,hy]
 have kis:∀q k,w.th.kind q=k->k≠0->(w.th.get q).isSome=true:=fun q k h hk=>by
  unfold aV.kind at h
  cases hg:w.th.get q with
  |none=>rw[hg]at h;exact absurd h.symm hk
  |some y=>rfl
 refine Y3 ?_
 simp only[rk,hW.th,hW.fa,aV.cS,gX.cS,Wh.cU,Wh.mH,Wh.di,Wh.gg,Wh.i7,Jn,aht,ahe,aiI,ahV,aic]
 refine⟨fun hk=>⟨_,_,rfl,zd hW x.of,?_⟩,fun n6=>⟨fun hk=>⟨_,_,rfl,zd hW x.of,?_⟩,fun n7=>⟨fun hk=>⟨_,_,rfl,zd hW x.of,?_⟩,fun n9=>⟨fun hk=>⟨_,_,rfl,zd hW x.of,?_⟩,fun n11=>⟨fun hk=>⟨_,_,rfl,zd hW x.km,?_⟩,fun n15=>⟨fun hk=>⟨_,_,rfl,zd hW x.km,?_⟩,fun n16=>⟨fun hk=>⟨fun h0=>?_,fun h0=>⟨_,_,rfl,zd hW x.of,?_⟩⟩,fun n13=>⟨fun hk=>?_,fun n14=>?_⟩⟩⟩⟩⟩⟩⟩⟩
 ·intro d hd
  rw[hd]
  refine⟨fun h5=>⟨fun his=>⟨fun hh=>⟨_,_,rfl,TY hW h1 r 6 x.of,?_⟩,fun hh=>res _ ?_⟩,fun his=>?_⟩,fun h5=>res _ ?_⟩
  ·intro d2 hd2
   rw[vat _ his,Wh.mH]at hh
   exact res _ (by rw[hd2];simp[Wo.B5,hk,h5,hh])
  ·rw[vat _ his,Wh.mH]at hh
   simp[Wo.B5,hk,h5,hh]
  ·rw[kis _ _ h5 (by decide)]at his;cases his
  ·simp[Wo.B5,hk,h5]
 ·intro d hd
  rw[hd]
  refine⟨fun h5=>⟨fun his=>res _ ?_,fun his=>?_⟩,fun h5=>res _ ?_⟩
  ·rw[vat _ his,Wh.mH];simp[Wo.B5,hk,h5,RO]
  ·rw[kis _ _ h5 (by decide)]at his;cases his
  ·simp[Wo.B5,hk,h5]
 ·intro d hd
  rw[hd]
  refine⟨fun h5=>⟨fun his=>res _ ?_,fun his=>?_⟩,fun h5=>res _ ?_⟩
  ·rw[vat _ his,Wh.mH];simp[Wo.B5,hk,h5,RO]
  ·rw[kis _ _ h5 (by decide)]at his;cases his
  ·simp[Wo.B5,hk,h5]
 ·intro d hd
  rw[hd]
  refine⟨fun h5=>⟨fun his=>⟨fun hh=>⟨_,_,rfl,TY hW h1 r 11 x.of,?_⟩,fun hh=>res _ ?_⟩,fun his=>?_⟩,fun h5=>res _ ?_⟩
  ·intro d2 hd2
   rw[vat _ his,Wh.mH]at hh
   exact res _ (by rw[hd2];simp[Wo.B5,hk,h5,hh])
  ·rw[vat _ his,Wh.mH]at hh
   simp[Wo.B5,hk,h5,hh]
  ·rw[kis _ _ h5 (by decide)]at his;cases his
  ·simp[Wo.B5,hk,h5]
 ·intro d hd
  rw[hd]
  refine⟨fun h5=>⟨fun his=>⟨fun hh=>⟨_,_,rfl,Co hW x.of,?_⟩,fun hh=>res _ ?_⟩,fun his=>?_⟩,fun h5=>res _ ?_⟩
  ·intro d2 hd2
   rw[hd2]
   rw[vat _ his,Wh.mH]at hh
   refine⟨fun ho=>res _ ?_,fun ho=>res _ ?_⟩
   ·rw[vat _ his,Wh.di];simp[Wo.B5,hk,h5,hh,ho,RO]
   ·simp[Wo.B5,hk,h5,hh,ho]
  ·rw[vat _ his,Wh.mH]at hh
   simp[Wo.B5,hk,h5,hh]
  ·rw[kis _ _ h5 (by decide)]at his;cases his
  ·simp[Wo.B5,hk,h5]
 ·intro d hd
  rw[hd]
  refine⟨fun h5=>⟨fun his=>⟨fun hh=>⟨_,_,rfl,Co hW x.of,?_⟩,fun hh=>res _ ?_⟩,fun his=>?_⟩,fun h5=>res _ ?_⟩
  ·intro d2 hd2
   rw[vat _ his,Wh.mH]at hh
   exact res _ (by rw[hd2];simp[Wo.B5,hk,h5,hh])
  ·rw[vat _ his,Wh.mH]at hh
   simp[Wo.B5,hk,h5,hh]
  ·rw[kis _ _ h5 (by decide)]at his;cases his
  ·simp[Wo.B5,hk,h5]
 ·exact res _ (by simp[Wo.B5,hk,h0])
 ·intro d hd
  rw[hd]
  refine⟨fun h5=>⟨fun his=>res _ ?_,fun his=>?_⟩,fun h5=>res _ ?_⟩
  ·rw[vat _ his,Wh.gg];simp[Wo.B5,hk,h5,h0,RO]
  ·rw[kis _ _ h5 (by decide)]at his;cases his
  ·simp[Wo.B5,hk,h5,h0]
 ·obtain⟨n,hn⟩:=ha hk
  refine⟨_,_,rfl,RE hW x.of a n hn,?_⟩
  intro d hd
  rw[hd]
  have hfa:∀q,w.fa.get x.of x.set=some q->D.int (D.val w.fa.ax (.r [.z x.of,.z x.set]))=q:=fun q hq=>by rw[gX.val hq];rfl
  refine⟨fun hf=>⟨_,_,rfl,Co hW x.of,?_⟩,fun hf=>⟨_,_,rfl,Co hW x.of,?_⟩⟩
  ·intro d2 hd2
   rw[hd2]
   obtain⟨q,hq⟩:=ahw.1 hf
   refine⟨fun his=>⟨_,_,rfl,zd hW x.of,?_⟩,fun his=>res _ (by simp[Wo.B5,hk,his])⟩
   intro d3 hd3
   rw[hd3,hfa q hq]
   refine⟨fun a1=>⟨fun a2=>⟨fun a3=>res _ ?_,fun a3=>res _ ?_⟩,fun a2=>res _ ?_⟩,fun a1=>res _ ?_⟩
   ·by_cases e:q=r<;>simp[Wo.B5,hk,his,hq,a1,a2,a3,e]
   ·simp[Wo.B5,hk,his,hq,a1,a2,a3]
   ·simp[Wo.B5,hk,his,hq,a1,a2]
   ·simp[Wo.B5,hk,his,hq,a1]
  ·intro d2 hd2
   rw[hd2]
   have hq:w.fa.get x.of x.set=none:=by simpa using hf
   refine⟨fun his=>⟨_,_,rfl,zd hW x.of,?_⟩,fun his=>res _ (by simp[Wo.B5,hk,his])⟩
   intro d3 hd3
   rw[hd3]
   refine⟨fun a1=>⟨fun a2=>⟨fun a3=>res _ ?_,fun a3=>res _ ?_⟩,fun a2=>res _ ?_⟩,fun a1=>res _ ?_⟩
   ·simp[Wo.B5,hk,his,hq,a1,a2,a3]
   ·simp[Wo.B5,hk,his,hq,a1,a2,a3]
   ·simp[Wo.B5,hk,his,hq,a1,a2]
   ·simp[Wo.B5,hk,his,hq,a1]
 ·exact res _ (by simp[Wo.B5,n6,n7,n9,n11,n15,n16,n13,n14])
def Wo.idx (w:Wo)(r:Int)(x:Wh):gX:=if x.k=14 then w.fa.put x.of x.set r else w.fa
def TW (r:Int)(x:Wh)(hx:w.th.get r=some x):PH sQ (HF W r) (Wm W) 3 zw (fun d=>cn (D.aa d 0)=(w.idx r x).ax):=by
 have res:∀(m:List (D×D)) (st:List Nat) (c:Nat),m=(w.idx r x).ax->zJ.bx=some 3/\∃d,T.dy (BV.tuple [],Wm (WS.mk W.pa W.cu W.th W.st W.ck m st c W.la W.ma)) (zw (HF W r) (Wm W) d)/\cn (D.aa d 0)=(w.idx r x).ax:=fun m st c hm=>by
  refine⟨rfl,.r [i5 m,i6 st,.z c],bm.2 ?_,?_⟩
  ·simp only[D.aa,D.bE,D.at,aiA,aiM,dh,nb,na]
   rfl
  ·simp only[D.aa,D.bE,D.at,aiA,dh];exact hm
 have e1:D.val W.th (.z r)=x.ax:=by rw[hW.th];exact aV.val hx
 have e2:D.cS W.th (.z r)=true:=by rw[hW.th];simp[hx]
 refine VP ?_
 simp only[rk,e1,e2,hW.fa,gX.cS,gX.fE,Wh.cU,Wh.di,Wh.i7,aht,ahe,aic,ag3,ag0,ag1,ahf]
 refine⟨fun hk=>⟨fun hh=>res _ _ _ ?_,fun hh=>res _ _ _ ?_⟩,fun hk=>?_⟩
 ·simp[Wo.idx,hk,gX.put,hh]
 ·simp[Wo.idx,hk,gX.put,hh,gX.ax]
 ·have:=res W.fa W.sf W.cf (by simp[Wo.idx,hk,hW.fa])
  exact this
end
end
section
def aV.chain (t:aV):Nat->Int->Bool
 |0,r=>match t.get r with|none=>false|some x=>!dR x.k
 |n+1,r=>match t.get r with|none=>false|some x=>if dR x.k then aV.chain t n x.of else true
def aV.R1 {t:aV}:∀{n:Nat} {r:Int},t.chain n r=true->∀s,∃a,t.xd (n+1) r s=some a:=by
 intro n
 induction n with
 |zero=>
  intro r h s
  simp only[aV.chain]at h
  cases hg:t.get r with
  |none=>rw[hg]at h;cases h
  |some x=>
   simp only[hg,ahl,dR,agX]at h
   refine⟨mP (mP 63 s) (B9 x.k),?_⟩
   simp only[aV.xd,hg]
   rw[ag4 (by omega),ag4 (by omega)]
 |succ n ih=>
  intro r h s
  simp only[aV.chain]at h
  rw[aV.xd]
  cases hg:t.get r with
  |none=>rw[hg]at h;cases h
  |some x=>
   simp only[hg]at h ⊢
   by_cases hw:dR x.k=true
   ·rw[ag8 hw]at h
    by_cases h14:x.k=14
    ·rw[ag8 h14];exact ih h _
    ·rw[ag4 h14,ag8 (by simp[dR]at hw;omega)];exact ih h _
   ·simp only[dR,agW]at hw
    rw[ag4 (by omega),ag4 (by omega)]
    exact⟨_,rfl⟩
def aV.ab (t:aV)(r:Int):Int:=(t.xd (t.length+1) r 63).getD 0
def aV.acB {t:aV}{r:Int}(h:t.chain t.length r=true):t.xd (t.length+1) r 63=some (t.ab r):=by
 obtain⟨a,ha⟩:=aV.R1 h 63
 simp[aV.ab,ha]
def aV.X1 {t:aV}{n:Nat}{r:Int}{x:Wh}(hg:t.get r=some x)(hw:dR x.k=true)(h:t.chain n r=true):0<n/\t.chain (n-1) x.of=true:=by
 cases n with
 |zero=>simp[aV.chain,hg,hw]at h
 |succ n=>simp only[aV.chain,hg,ag8 hw]at h;exact⟨by omega,h⟩
def aV.R2 {t:aV}:∀{n:Nat} {r:Int},t.chain n r=true->t.chain (n+1) r=true:=by
 intro n
 induction n with
 |zero=>
  intro r h
  simp only[aV.chain]at h ⊢
  cases hg:t.get r with
  |none=>rw[hg]at h;cases h
  |some x=>simp only[hg]at h ⊢;simp at h;simp[h]
 |succ n ih=>
  intro r h
  rw[aV.chain]at h ⊢
  cases hg:t.get r with
  |none=>rw[hg]at h;cases h
  |some x=>
   simp only[hg]at h ⊢
   by_cases hw:dR x.k=true
   ·rw[ag8 hw]at h ⊢;exact ih h
   ·rw[ag4 hw]
def aV.Pk {t:aV}{n m:Nat}{r:Int}(h:n<=m)(hc:t.chain n r=true):t.chain m r=true:=by
 induction h with
 |refl=>exact hc
 |step _ ih=>exact aV.R2 ih
def aV.S1 (t:aV)(x:Wh):Bool:=t.CW x&&(!sC x.k||(t.get x.of).isSome)&&(!qS x.k||(t.get x.km).isSome)&&(decide (¬(x.k=13/\x.of≠0))||(t.get x.of).isSome)
def aV.JW (t:aV)(r:Int)(x:Wh)(a:Int):Bool:=
 if x.k=6 then decide (t.kind x.of=5/\(t.at x.of).h=x.h)&&!t.Ah r 6 x.of
 else if x.k=7 then decide (t.kind x.of=5/\(t.at x.of).h=x.h)
 else if x.k=9 then decide (t.kind x.of=8/\(t.at x.of).h=x.h)
 else if x.k=11 then decide (t.kind x.of=10/\(t.at x.of).h=x.h)&&!t.Ah r 11 x.of
 else if x.k=15 then decide (t.kind x.km=13/\(t.at x.km).h=x.h/\(t.get x.of).isSome=true/\(t.at x.km).of=r)
 else if x.k=16 then decide (t.kind x.km=3/\(t.at x.km).h=x.h/\(t.get x.of).isSome=true)
 else if x.k=13 then decide (x.of=0\/t.kind x.of=15/\(t.at x.of).km=r)
 else if x.k=14 then decide ((t.get x.of).isSome=true/\t.kind x.of≠14/\x.set≠a/\js x.set a=0)
 else true
def gX.Idx (f:gX)(t:aV):Prop:=∀o s r,f.get o s=some r↔∃x,t.get r=some x/\x.k=14/\x.of=o/\x.set=s
def Wo.aep {w:Wo}(hi:w.fa.Idx w.th){r:Int}{x:Wh}(hx:w.th.get r=some x)(a:Int):w.B5 r x a=w.th.JW r x a:=by
 unfold Wo.B5 aV.JW
 by_cases h:x.k=14
 ·have:=(hi x.of x.set r).2 ⟨x,hx,h,rfl,rfl⟩
  simp[h,this]
 ·simp[h]
def aV.S3 (t:aV):Prop:=∀r q x y,t.get r=some x->t.get q=some y->x.k=14->y.k=14->x.of=y.of->x.set=y.set->r=q
def aV.Kf (t:aV):Prop:=(∀r x,t.get r=some x->t.S1 x=true/\t.chain t.length r=true)/\t.S3/\∀r x,t.get r=some x->t.JW r x (t.ab x.of)=true
structure aV.BY (t:aV):Prop where
 one:t.one
 len:t.length<2^40
 ok:∀r x,t.get r=some x->x.ok
 sz:∀r x,t.get r=some x->x.sz<2^30
 cN:∀r x,t.get r=some x->∀v∈x.aJ,v.cN=true
section
variable {W:WS} {w:Wo} (hW:zC W w)
include hW
def iH (t:aV)(d:D):Prop:=((d.aa 0).bool=true↔t.Kf)/\(t.Kf->∃f:gX,cn (D.aa d 1)=f.ax/\f.Idx t)
def aay (hg:w.th.BY)(hf:w.fa=[]):PH cY (cp W) (Wm W) 3 ca (iH w.th):=by
 have h1:=hg.one
 have hlen:=hg.len
 have cS:∀(b:Bool) (m:List (D×D)) (st:List Nat) (c:Nat),T.dy (BV.bool b,Wm (WS.mk W.pa W.cu W.th W.st W.ck m st c W.la W.ma)) (ca (cp W) (Wm W) (.r [.b b,i5 m,i6 st,.z c])):=fun b m st c=>by
  refine bm.2 ?_
  simp only[D.aa,D.bE,D.at,aiA,aiM,dh,nb,na,D.bz]
  rfl
 have no:¬w.th.Kf->∀(m:List (D×D)) (st:List Nat) (c:Nat),bQ.bx=some 3/\∃d,T.dy (BV.bool false,Wm (WS.mk W.pa W.cu W.th W.st W.ck m st c W.la W.ma)) (ca (cp W) (Wm W) d)/\iH w.th d:=fun h m st c=>⟨rfl,_,cS false m st c,⟨fun a=>(by cases a),fun a=>(h a).elim⟩,fun a=>(h a).elim⟩
 have eH:∀q,D.cS W.th (.z q)=(w.th.get q).isSome:=fun q=>by rw[hW.th];simp
 have eV:∀{q:Int} {x:Wh},w.th.get q=some x->D.val W.th (.z q)=x.ax:=fun h=>by rw[hW.th];exact aV.val h
 have memk:∀r x,w.th.get r=some x->r∈w.th.map (·.1):=fun r x hx=>aV.ri.1 (by simp[hx])
 have loop3:∀(f:gX) (st:List Nat) (c:Nat),f.Idx w.th->(∀r x,w.th.get r=some x->w.th.S1 x=true/\w.th.chain w.th.length r=true)->w.th.S3->
  ay pg cY [ai] (.bx 3 (ca (cp W) (Wm W)) (iH w.th)) (py W (aw []) f.ax st c):=by
  intro f st c hi s1 s3
  have hW2:zC (WS.mk W.pa W.cu W.th W.st W.ck f.ax st c W.la W.ma) {w with fa:=f}:=⟨hW.pa,hW.cu,hW.th,rfl,hW.la,hW.ma⟩
  refine mB (M:=fun l=>(∀r x,w.th.get r=some x->r∈l->w.th.JW r x (w.th.ab x.of)=true)->ay pg cY [ai] (.bx 3 (ca (cp W) (Wm W)) (iH w.th)) (py W (aw l) f.ax st c)) (w.th.map (·.1)) (fun l hl hnd ih hs=>?_) (by simp)
  refine L4 (yL hW (fun hall=>?_) fun n hn1 hn2=>?_)
  ·refine⟨rfl,_,cS true f.ax st c,?_⟩
   have:w.th.Kf:=⟨s1,s3,fun r x hx=>hs r x hx (hall _ (aV.np hx))⟩
   exact⟨⟨fun _=>this,fun _=>rfl⟩,fun _=>⟨f,dh _,hi⟩⟩
  ·obtain⟨x,hx⟩:=ahw.1 (aV.ri.2 hn1)
   have hlc:=s1 n x hx
   simp only[rk,eH,hx,ahU,eV hx,D.bV,ag0,ag1,ag3,ahf]
   refine⟨_,_,rfl,Xw hW2 (by exact h1) n x (w.th.ab x.of) ?_,?_⟩
   ·intro h14
    have hw:dR x.k=true:=by simp[dR,h14]
    obtain⟨k1,k2⟩:=aV.X1 hx hw hlc.2
    exact⟨_,aV.acB (t:=w.th) (aV.Pk (show w.th.length-1<=w.th.length by omega) k2)⟩
   ·intro d hd
    rw[hd,Wo.aep (w:={w with fa:=f}) hi hx]
    refine⟨fun h=>no (fun a=>?_) _ _ _,fun h=>?_⟩
    ·have:=a.2.2 n x hx
     rw[this]at h;cases h
    ·refine ih n hn1 hn2 fun r y hy hr=>?_
     rcases ag9.1 hr with rfl|hr
     ·rw[hx]at hy;cases hy;simpa using h
     ·exact hs r y hy hr
 have loop2:(∀r x,w.th.get r=some x->w.th.S1 x=true/\w.th.chain w.th.length r=true)->∀(st:List Nat) (c:Nat),
  ay pg cY [ai] (.bx 3 (ca (cp W) (Wm W)) (iH w.th)) (nY W (gX.ax []) st c (aw [])):=by
  intro s1 st c
  have key:=mB (M:=fun l=>∀(f:gX) (st:List Nat) (c:Nat),(∀o s r,f.get o s=some r↔r∈l/\∃x,w.th.get r=some x/\x.k=14/\x.of=o/\x.set=s)->
   (∀r q x y,r∈l->q∈l->w.th.get r=some x->w.th.get q=some y->x.k=14->y.k=14->x.of=y.of->x.set=y.set->r=q)->
   ay pg cY [ai] (.bx 3 (ca (cp W) (Wm W)) (iH w.th)) (nY W f.ax st c (aw l))) (w.th.map (·.1)) (fun l hl hnd ih f st c hi hu=>?_)
  ·exact key [] st c (by simp[gX.get]) (by simp)
  ·have hW2:zC (WS.mk W.pa W.cu W.th W.st W.ck f.ax st c W.la W.ma) {w with fa:=f}:=⟨hW.pa,hW.cu,hW.th,rfl,hW.la,hW.ma⟩
   refine Oz (yL hW (fun hall=>?_) fun n hn1 hn2=>?_)
   ·have hin:∀r x,w.th.get r=some x->r∈l:=fun r x hx=>hall _ (aV.np hx)
    refine loop3 f st c (fun o s r=>?_) s1 fun r q x y hx hy=>hu r q x y (hin r x hx) (hin q y hy) hx hy
    rw[hi]
    exact⟨fun a=>a.2,fun a=>⟨by obtain⟨x,hx,_⟩:=a;exact hin r x hx,a⟩⟩
   ·obtain⟨x,hx⟩:=ahw.1 (aV.ri.2 hn1)
    simp only[rk,eH,hx,ahU,eV hx,D.bV,Wh.cU,Wh.di,Wh.i7,gX.cS,ag0,ag1,ag3,ahf,aht,ahe,aic]
    refine⟨fun h14=>⟨fun hh=>no (fun a=>?_) _ _ _,fun hh=>?_⟩,fun h14=>?_⟩
    ·obtain⟨q,hq⟩:=ahw.1 hh
     obtain⟨hql,y,hy,y14,e1,e2⟩:=(hi _ _ _).1 hq
     have:=a.2.1 q n y x hy hx y14 h14 e1 e2
     exact hn2 (this▸hql)
    ·have hnone:f.get x.of x.set=none:=by simpa using hh
     refine⟨_,_,rfl,TW hW2 n x hx,?_⟩
     intro d hd
     rw[hd]
     have e:=ih n hn1 hn2 (f.put x.of x.set n) (cK (D.aa d 1)) (cJ (D.aa d 2)) (fun o s r=>?_) (fun r q y z hr hq hy hz y14 z14 e1 e2=>?_)
     ·have e2:Wo.idx {w with fa:=f} n x=f.put x.of x.set n:=by simp[Wo.idx,h14]
      rw[e2];exact e
     ·rw[gX.fe]
      by_cases e:(o,s)=(x.of,x.set)
      ·rw[ag8 e]
       cases e
       constructor
       ·intro h;cases h;exact⟨by simp,x,hx,h14,rfl,rfl⟩
       ·rintro⟨hr,y,hy,y14,e1,e2⟩
        rcases ag9.1 hr with rfl|hr
        ·rfl
        ·have:=(hi x.of x.set r).2 ⟨hr,y,hy,y14,e1,e2⟩
         rw[hnone]at this;cases this
      ·rw[ag4 e,hi]
       constructor
       ·rintro⟨hr,b⟩;exact⟨by simp[hr],b⟩
       ·rintro⟨hr,y,hy,y14,e1,e2⟩
        rcases ag9.1 hr with rfl|hr
        ·rw[hx]at hy;cases hy;exact absurd (by rw[e1,e2]) e
        ·exact⟨hr,y,hy,y14,e1,e2⟩
     ·have lem:∀q z,q∈l->w.th.get q=some z->z.k=14->z.of=x.of->z.set=x.set->False:=fun q z hq hz z14 e1 e2=>by
       have:=(hi x.of x.set q).2 ⟨hq,z,hz,z14,e1,e2⟩
       rw[hnone]at this;cases this
      rcases ag9.1 hr with rfl|hr1
      ·rw[hx]at hy;cases hy
       rcases ag9.1 hq with rfl|hq1
       ·rfl
       ·exact(lem q z hq1 hz z14 e1.symm e2.symm).elim
      ·rcases ag9.1 hq with rfl|hq1
       ·rw[hx]at hz;cases hz
        exact(lem r y hr1 hy y14 e1 e2).elim
       ·exact hu r q y z hr1 hq1 hy hz y14 z14 e1 e2
    ·refine ih n hn1 hn2 f st c (fun o s r=>?_) (fun r q y z hr hq hy hz y14 z14 e1 e2=>?_)
     ·rw[hi]
      constructor
      ·rintro⟨hr,b⟩;exact⟨by simp[hr],b⟩
      ·rintro⟨hr,y,hy,y14,e1,e2⟩
       rcases ag9.1 hr with rfl|hr
       ·rw[hx]at hy;cases hy;exact absurd y14 h14
       ·exact⟨hr,y,hy,y14,e1,e2⟩
     ·rcases ag9.1 hr with rfl|hr
      ·rw[hx]at hy;cases hy;exact absurd y14 h14
      ·rcases ag9.1 hq with rfl|hq
       ·rw[hx]at hz;cases hz;exact absurd z14 h14
       ·exact hu r q y z hr hq hy hz y14 z14 e1 e2
 have loop1:ay pg cY [ai] (.bx 3 (ca (cp W) (Wm W)) (iH w.th)) (nX W (D.ct W.th) W.st W.ck (aw [])):=by
  refine mB (M:=fun l=>(∀r x,w.th.get r=some x->r∈l->w.th.S1 x=true/\w.th.chain w.th.length r=true)->ay pg cY [ai] (.bx 3 (ca (cp W) (Wm W)) (iH w.th)) (nX W (D.ct W.th) W.st W.ck (aw l))) (w.th.map (·.1)) (fun l hl hnd ih hs=>?_) (by simp)
  refine Oy (yL hW (fun hall=>?_) fun n hn1 hn2=>?_)
  ·have e:=loop2 (fun r x hx=>hs r x hx (hall _ (aV.np hx))) W.sf W.cf
   rw[hW.fa,hf];exact e
  ·obtain⟨x,hx⟩:=ahw.1 (aV.ri.2 hn1)
   have noS:w.th.S1 x=false->bQ.bx=some 3/\∃d,T.dy (BV.bool false,Wm W) (ca (cp W) (Wm W) d)/\iH w.th d:=fun h=>no (fun a=>by rw[(a.1 n x hx).1]at h;cases h) W.fa W.sf W.cf
   have chain:w.th.S1 x=true->∀(m j:Nat) (q:Int),m+j=w.th.length->(w.th.get q).isSome=true->w.th.chain m q=w.th.chain w.th.length n->ay pg cY [ai] (.bx 3 (ca (cp W) (Wm W)) (iH w.th)) (db W q (D.ct W.th) W.st W.ck (aw (n::l)) j):=by
    intro hS m
    have hwl:W.th.length=w.th.length:=by rw[hW.th];simp[aV.ax]
    have noC:w.th.chain w.th.length n=false->bQ.bx=some 3/\∃d,T.dy (BV.bool false,Wm W) (ca (cp W) (Wm W) d)/\iH w.th d:=fun h=>no (fun a=>by rw[(a.1 n x hx).2]at h;cases h) W.fa W.sf W.cf
    have Nd:w.th.chain w.th.length n=true->ay pg cY [ai] (.bx 3 (ca (cp W) (Wm W)) (iH w.th)) (nX W (D.ct W.th) W.st W.ck (aw (n::l))):=fun h=>by
     refine ih n hn1 hn2 fun r y hy hr=>?_
     rcases ag9.1 hr with rfl|hr
     ·rw[hx]at hy;cases hy;exact⟨hS,h⟩
     ·exact hs r y hy hr
    induction m with
    |zero=>
     intro j q hj hq hc
     obtain⟨y,hy⟩:=ahw.1 hq
     simp only[aV.chain,hy]at hc
     refine BH ?_
     simp only[rk,eH,hy,ahU,eV hy,Wh.cU,Wh.di,ag0,ag1,ag3,ahf,hwl,agW,agX]
     refine⟨_,_,_,rfl,OP y.k,?_⟩
     rintro _ rfl
     rw[bO (x:=(j:Int)+1) (by omega) (by omega)]
     simp only[D.bz]
     exact⟨fun hw=>⟨fun _=>noC (by rw[<-hc,hw];rfl),fun h=>by omega⟩,fun hw=>Nd (by rw[<-hc,hw];rfl)⟩
    |succ m ihm=>
     intro j q hj hq hc
     obtain⟨y,hy⟩:=ahw.1 hq
     simp only[aV.chain,hy]at hc
     refine BH ?_
     simp only[rk,eH,hy,ahU,eV hy,Wh.cU,Wh.di,ag0,ag1,ag3,ahf,hwl,agW,agX]
     refine⟨_,_,_,rfl,OP y.k,?_⟩
     rintro _ rfl
     rw[bO (x:=(j:Int)+1) (by omega) (by omega)]
     simp only[D.bz]
     refine⟨fun hw=>⟨fun _=>by omega,fun _=>⟨_,_,rfl,Co hW y.of,?_⟩⟩,fun hw=>Nd (by rw[<-hc,ag4 (by simp[hw])])⟩
     intro d hd
     rw[hd]
     rw[ag8 hw]at hc
     refine⟨fun h=>noC ?_,fun h=>?_⟩
     ·have hno:w.th.get y.of=none:=by simpa using h
      rw[<-hc];cases m<;>simp[aV.chain,hno]
     ·have:=ihm (j+1) y.of (by omega) (by simpa using h) hc
      simpa using this
   have chain0:w.th.S1 x=true->ay pg cY [ai] (.bx 3 (ca (cp W) (Wm W)) (iH w.th)) (db W n (D.ct W.th) W.st W.ck (.z n::aw l) 0):=fun h=>chain h w.th.length 0 n rfl (by simp[hx]) rfl
   simp only[rk,eH,hx,ahU,eV hx,D.bV,Wh.cU,Wh.di,Wh.gg,ag0,ag1,ag3,ahf,aht,ahe,aiI,ahV,aic]
   refine⟨_,_,rfl,TX hW x (hg.ok n x hx) (hg.sz n x hx) (hg.cN n x hx),?_⟩
   intro d1 hd1
   rw[hd1]
   refine⟨fun h=>noS (by simp at h;simp[aV.S1,h]),fun a1=>?_⟩
   have a1:w.th.CW x=true:=by simpa using a1
   refine⟨_,_,_,rfl,Rn x.k,?_⟩
   rintro _ rfl
   simp only[D.bz]
   have byp:(!sC x.k||(w.th.get x.of).isSome)=true->∃ts rs Q',Dl bQ.cz ik=some (ts,rs)/\fk pg ik ts [.z x.k] rs Q'/\∀d,Q' d->
    (D.bool d=true->∃R Q',FD bQ.bL cH=some R/\BZ pg cH [.aP 0 0,.int .i64 x.km] (Wm W) 3 (R [.aP 0 0,.int .i64 x.km] (Wm W)) Q'/\∀d,Q' d->
      ((!D.bool d)=true->bQ.bx=some 3/\∃d,T.dy (BV.bool false,Wm W) (ca (cp W) (Wm W) d)/\iH w.th d)/\((!D.bool d)=false->(x.k=13->(¬x.of=0->∃R Q',FD bQ.bL cH=some R/\BZ pg cH [.aP 0 0,.int .i64 x.of] (Wm W) 3 (R [.aP 0 0,.int .i64 x.of] (Wm W)) Q'/\∀d,Q' d->
      ((!D.bool d)=true->bQ.bx=some 3/\∃d,T.dy (BV.bool false,Wm W) (ca (cp W) (Wm W) d)/\iH w.th d)/\((!D.bool d)=false->ay pg bQ.f bQ.rs (.bx 3 (ca (cp W) (Wm W)) (iH w.th)) (db W n (D.ct W.th) W.st W.ck (.z n::aw l) 0)))/\
        (x.of=0->ay pg bQ.f bQ.rs (.bx 3 (ca (cp W) (Wm W)) (iH w.th)) (db W n (D.ct W.th) W.st W.ck (.z n::aw l) 0)))/\
        (¬x.k=13->ay pg bQ.f bQ.rs (.bx 3 (ca (cp W) (Wm W)) (iH w.th)) (db W n (D.ct W.th) W.st W.ck (.z n::aw l) 0))))/\
    (D.bool d=false->(x.k=13->(¬x.of=0->∃R Q',FD bQ.bL cH=some R/\BZ pg cH [.aP 0 0,.int .i64 x.of] (Wm W) 3 (R [.aP 0 0,.int .i64 x.of] (Wm W)) Q'/\∀d,Q' d->
      ((!D.bool d)=true->bQ.bx=some 3/\∃d,T.dy (BV.bool false,Wm W) (ca (cp W) (Wm W) d)/\iH w.th d)/\((!D.bool d)=false->ay pg bQ.f bQ.rs (.bx 3 (ca (cp W) (Wm W)) (iH w.th)) (db W n (D.ct W.th) W.st W.ck (.z n::aw l) 0)))/\
        (x.of=0->ay pg bQ.f bQ.rs (.bx 3 (ca (cp W) (Wm W)) (iH w.th)) (db W n (D.ct W.th) W.st W.ck (.z n::aw l) 0)))/\
        (¬x.k=13->ay pg bQ.f bQ.rs (.bx 3 (ca (cp W) (Wm W)) (iH w.th)) (db W n (D.ct W.th) W.st W.ck (.z n::aw l) 0))):=by
    intro a2
    refine⟨_,_,_,rfl,Rl x.k,?_⟩
    rintro _ rfl
    simp only[D.bz]
    refine⟨fun hb=>⟨_,_,rfl,Co hW x.km,?_⟩,fun hb=>?_⟩
    ·intro d hd
     rw[hd]
     refine⟨fun h=>noS (by simp at h;simp[aV.S1,hb,h]),fun h=>?_⟩
     have a3:(!qS x.k||(w.th.get x.km).isSome)=true:=by simp at h;simp[h]
     refine⟨fun hk=>⟨fun ho=>⟨_,_,rfl,Co hW x.of,?_⟩,fun ho=>chain0 ?_⟩,fun hk=>chain0 ?_⟩
     ·intro d hd
      rw[hd]
      refine⟨fun h=>noS (by simp at h;simp[aV.S1,hk,ho,h]),fun h=>chain0 ?_⟩
      rw[aV.S1,a1,a2,a3];simp at h;simp[h]
     ·rw[aV.S1,a1,a2,a3];simp[ho]
     ·rw[aV.S1,a1,a2,a3];simp[hk]
    ·have a3:(!qS x.k||(w.th.get x.km).isSome)=true:=by simp[hb]
     refine⟨fun hk=>⟨fun ho=>⟨_,_,rfl,Co hW x.of,?_⟩,fun ho=>chain0 ?_⟩,fun hk=>chain0 ?_⟩
     ·intro d hd
      rw[hd]
      refine⟨fun h=>noS (by simp at h;simp[aV.S1,hk,ho,h]),fun h=>chain0 ?_⟩
      rw[aV.S1,a1,a2,a3];simp at h;simp[h]
     ·rw[aV.S1,a1,a2,a3];simp[ho]
     ·rw[aV.S1,a1,a2,a3];simp[hk]
   refine⟨fun ho=>⟨_,_,rfl,Co hW x.of,?_⟩,fun ho=>byp (by simp[ho])⟩
   intro d hd
   rw[hd]
   exact⟨fun h=>noS (by simp at h;simp[aV.S1,ho,h]),fun h=>byp (by simp at h;simp[h])⟩
 exact VS loop1
end
end
end Go.Proofs
end
