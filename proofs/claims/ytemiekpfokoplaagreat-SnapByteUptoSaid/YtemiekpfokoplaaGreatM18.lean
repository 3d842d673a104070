import Derived.Test.YtemiekpfokoplaaGreatM17
set_option linter.all false
noncomputable section
namespace Go.Proofs
open Go Go.PB
section
def PM (a b:Int):(a==b)=decide (a=b):=rfl
def eo (k:Int):Bool:=decide (k=14\/k=15\/k=16)
def M0 (k:Int):iq pg r7 [q8] [.z k] [aj] (·= .b (eo k)):=by
 refine Uf ?_
 simp only[rk,D.df,afv,afd,agq,eo]
 exact⟨fun h=>by simp[h],fun h=>⟨fun h2=>by simp[h2],fun h2=>by simp[h,h2,PM]⟩⟩
def px (k:Int):iq pg gD [ah] [.z k] [aj] (·= .b (eo k)):=by
 refine MF ?_
 simp only[rk,D.df,afv,afd,agq,eo]
 exact⟨fun h=>by simp[h],fun h=>⟨fun h2=>by simp[h2],fun h2=>by simp[h,h2,PM]⟩⟩
def wu (k:Int):Bool:=decide (k=6\/k=7\/k=9\/k=11)||eo k
def X4 (k:Int):iq pg wH [q8] [.z k] [aj] (·= .b (wu k)):=by
 refine QU ?_
 simp only[rk,D.df,afv,afd,agq,wu]
 refine⟨fun h=>by simp[h],fun h=>⟨fun h2=>by simp[h2],fun h2=>⟨fun h3=>by simp[h3],fun h3=>⟨fun h4=>by simp[h4],fun h4=>⟨_,_,_,rfl,M0 k,?_⟩⟩⟩⟩⟩
 rintro _ rfl
 simp[h,h2,h3,h4]
def uc (k:Int):Bool:=decide (k=15\/k=16)
def X3 (k:Int):iq pg mK [q8] [.z k] [aj] (·= .b (uc k)):=by
 refine QT ?_
 simp only[rk,D.df,afv,afd,agq,uc]
 exact⟨fun h=>by simp[h],fun h=>by simp[h,PM]⟩
def kG (a b:Int):Int:=IntKind.u8.wrap ((BitVec.ofInt 8 a &&& ~~~ BitVec.ofInt 8 b).toNat:Int)
def HS (a b:Int):IntKind.u8.wrap ((BitVec.ofInt 8 a &&& ~~~ BitVec.ofInt 8 b).toNat:Int)=kG a b:=rfl
def kb.get (t:kb)(o s:Int):Option Int:=match t with| []=>none|p::q=>if p.1=(o,s)then some p.2 else kb.get q o s
def D.VX (a b c d:Int):D.AA (.r [.z a,.z b]) (.r [.z c,.z d])=decide ((a,b)=(c,d)):=by
 unfold D.AA
 by_cases h:(a,b)=(c,d)
 ·cases h;simp
 ·simp at h;simpa using h
def kb.eu (t:kb)(o s:Int):D.eu t.az (.r [.z o,.z s])=(t.get o s).map D.z:=by
 induction t with
 |nil=>rfl
 |cons p q ih=>
  simp only[kb.az,afP,D.eu,D.VX,kb.get]
  by_cases h:p.1=(o,s)
  ·simp[h]
  ·simp only[h,age,afS];exact ih
@[simp] def kb.fv (t:kb)(o s:Int):D.fv t.az (.r [.z o,.z s])=(t.get o s).isSome:=by simp[D.fv,kb.eu]
def kb.val {t:kb}{o s r:Int}(h:t.get o s=some r):D.val t.az (.r [.z o,.z s])= .z r:=by simp[D.val,kb.eu,h]
def kb.set (t:kb)(o s r:Int):kb:=match t with| []=>[]|p::q=>if p.1=(o,s)then (p.1,r)::kb.set q o s r else p::kb.set q o s r
def kb.jP (t:kb)(o s r:Int):D.jP t.az (.r [.z o,.z s]) (.z r)=(t.set o s r).az:=by
 induction t with
 |nil=>rfl
 |cons p q ih=>
  simp only[kb.az,afP,D.jP,D.VX,kb.set]at ih ⊢
  by_cases h:p.1=(o,s)
  ·simp[h,ih]
  ·simp[h,ih]
def kb.put (t:kb)(o s r:Int):kb:=if (t.get o s).isSome then t.set o s r else t++[((o,s),r)]
def kb.zZ (t u:kb)(o s:Int):kb.get (t++u) o s=(t.get o s).or (u.get o s):=by
 induction t with
 |nil=>simp[kb.get]
 |cons p q ih=>simp only[af8,kb.get];split<;>simp_all
def kb.z6 (t:kb)(o s r o' s':Int):(t.set o s r).get o' s'=if (o',s')=(o,s)then (t.get o s).map fun _=>r else t.get o' s':=by
 induction t with
 |nil=>simp[kb.set,kb.get]
 |cons p q ih=>
  simp only[kb.set,kb.get]
  by_cases h:p.1=(o,s)
  ·rw[aeZ h]
   simp only[kb.get]
   by_cases h2:p.1=(o',s')
   ·have e:(o',s')=(o,s):=by rw[<-h2,h]
    simp[h2,e]
   ·have e:¬(o',s')=(o,s):=fun e=>h2 (by rw[h,e])
    rw[aeX h2,ih,aeX e,aeX e,aeX h2]
  ·rw[aeX h]
   simp only[kb.get]
   by_cases h2:p.1=(o',s')
   ·have e:¬(o',s')=(o,s):=fun e=>h (by rw[h2,e])
    rw[aeZ h2,aeX e,aeZ h2]
   ·rw[aeX h2,ih,aeX h,aeX h2]
def kb.fe (t:kb)(o s r o' s':Int):(t.put o s r).get o' s'=if (o',s')=(o,s)then some r else t.get o' s':=by
 unfold kb.put
 by_cases h:(t.get o s).isSome
 ·rw[aeZ h,kb.z6]
  obtain⟨q,hq⟩:=afl.1 h
  simp[hq]
 ·rw[aeX h,kb.zZ]
  simp only[afl,not_exists]at h
  by_cases e:(o',s')=(o,s)
  ·cases e
   rw[aeZ rfl]
   cases hg:t.get o s with
   |none=>simp[kb.get]
   |some q=>exact absurd hg (h q)
  ·rw[aeX e]
   have:kb.get [((o,s),r)] o' s'=none:=by simp[kb.get];intro h1 h2;exact e (by rw[h1,h2])
   rw[this];simp
section
variable {W:WS} {w:Wo} (hW:Gl W w)
include hW
def Wo.A2 (w:Wo)(r:Int)(x:Wh)(a:Int):Bool:=
 if x.k=6 then decide (w.th.kind x.of=5/\(w.th.at x.of).h=x.h)&&!w.th.zh r 6 x.of
 else if x.k=7 then decide (w.th.kind x.of=5/\(w.th.at x.of).h=x.h)
 else if x.k=9 then decide (w.th.kind x.of=8/\(w.th.at x.of).h=x.h)
 else if x.k=11 then decide (w.th.kind x.of=10/\(w.th.at x.of).h=x.h)&&!w.th.zh r 11 x.of
 else if x.k=15 then decide (w.th.kind x.jj=13/\(w.th.at x.jj).h=x.h/\(w.th.get x.of).isSome=true/\(w.th.at x.jj).of=r)
 else if x.k=16 then decide (w.th.kind x.jj=3/\(w.th.at x.jj).h=x.h/\(w.th.get x.of).isSome=true)
 else if x.k=13 then decide (x.of=0\/w.th.kind x.of=15/\(w.th.at x.of).jj=r)
 else if x.k=14 then decide ((w.th.get x.of).isSome=true/\w.th.kind x.of≠14/\x.set≠a/\kG x.set a=0/\(w.fa.get x.of x.set=none\/w.fa.get x.of x.set=some r))
 else true
theorem abg (h1:w.th.one)(r:Int)(x:Wh)(a:Int)(ha:x.k=14->∃n,w.th.x7 n x.of 63=some a):
 PH Bw (IN W r x.az) (Wm W) 3 EF (fun d=>D.bool d=w.A2 r x a):=by
 have res:∀v,v=w.A2 r x a->Bm.bu=some 3/\∃d,T.dm (BV.bool v,Wm W) (EF (IN W r x.az) (Wm W) d)/\D.bool d=w.A2 r x a:=fun v hv=>⟨rfl,BF hv⟩
 have vat:∀q,(w.th.get q).isSome=true->D.val w.th.az (.z q)=(w.th.at q).az:=fun q hq=>by
  obtain⟨y,hy⟩:=afl.1 hq
  rw[aQ.val hy];simp[aQ.at,hy]
 have kis:∀q k,w.th.kind q=k->k≠0->(w.th.get q).isSome=true:=fun q k h hk=>by
  unfold aQ.kind at h
  cases hg:w.th.get q with
  |none=>rw[hg]at h;exact absurd h.symm hk
  |some y=>rfl
 refine W9 ?_
 simp only[rk,hW.th,hW.fa,aQ.fv,kb.fv,Wh.fA,Wh.qu,Wh.kr,Wh.qt,Wh.oN,HS,afv,afd,agB,afF,agq]
 refine⟨fun hk=>⟨_,_,rfl,zG hW x.of,?_⟩,fun n6=>⟨fun hk=>⟨_,_,rfl,zG hW x.of,?_⟩,fun n7=>⟨fun hk=>⟨_,_,rfl,zG hW x.of,?_⟩,fun n9=>⟨fun hk=>⟨_,_,rfl,zG hW x.of,?_⟩,fun n11=>⟨fun hk=>⟨_,_,rfl,zG hW x.jj,?_⟩,fun n15=>⟨fun hk=>⟨_,_,rfl,zG hW x.jj,?_⟩,fun n16=>⟨fun hk=>⟨fun h0=>?_,fun h0=>⟨_,_,rfl,zG hW x.of,?_⟩⟩,fun n13=>⟨fun hk=>?_,fun n14=>?_⟩⟩⟩⟩⟩⟩⟩⟩
 ·intro d hd
  rw[hd]
  refine⟨fun h5=>⟨fun his=>⟨fun hh=>⟨_,_,rfl,RJ hW h1 r 6 x.of,?_⟩,fun hh=>res _ ?_⟩,fun his=>?_⟩,fun h5=>res _ ?_⟩
  ·intro d2 hd2
   rw[vat _ his,Wh.qu]at hh
   exact res _ (by rw[hd2];simp[Wo.A2,hk,h5,hh])
  ·rw[vat _ his,Wh.qu]at hh
   simp[Wo.A2,hk,h5,hh]
  ·rw[kis _ _ h5 (by decide)]at his;cases his
  ·simp[Wo.A2,hk,h5]
 ·intro d hd
  rw[hd]
  refine⟨fun h5=>⟨fun his=>res _ ?_,fun his=>?_⟩,fun h5=>res _ ?_⟩
  ·rw[vat _ his,Wh.qu];simp[Wo.A2,hk,h5,PM]
  ·rw[kis _ _ h5 (by decide)]at his;cases his
  ·simp[Wo.A2,hk,h5]
 ·intro d hd
  rw[hd]
  refine⟨fun h5=>⟨fun his=>res _ ?_,fun his=>?_⟩,fun h5=>res _ ?_⟩
  ·rw[vat _ his,Wh.qu];simp[Wo.A2,hk,h5,PM]
  ·rw[kis _ _ h5 (by decide)]at his;cases his
  ·simp[Wo.A2,hk,h5]
 ·intro d hd
  rw[hd]
  refine⟨fun h5=>⟨fun his=>⟨fun hh=>⟨_,_,rfl,RJ hW h1 r 11 x.of,?_⟩,fun hh=>res _ ?_⟩,fun his=>?_⟩,fun h5=>res _ ?_⟩
  ·intro d2 hd2
   rw[vat _ his,Wh.qu]at hh
   exact res _ (by rw[hd2];simp[Wo.A2,hk,h5,hh])
  ·rw[vat _ his,Wh.qu]at hh
   simp[Wo.A2,hk,h5,hh]
  ·rw[kis _ _ h5 (by decide)]at his;cases his
  ·simp[Wo.A2,hk,h5]
 ·intro d hd
  rw[hd]
  refine⟨fun h5=>⟨fun his=>⟨fun hh=>⟨_,_,rfl,Gm hW x.of,?_⟩,fun hh=>res _ ?_⟩,fun his=>?_⟩,fun h5=>res _ ?_⟩
  ·intro d2 hd2
   rw[hd2]
   rw[vat _ his,Wh.qu]at hh
   refine⟨fun ho=>res _ ?_,fun ho=>res _ ?_⟩
   ·rw[vat _ his,Wh.kr];simp[Wo.A2,hk,h5,hh,ho,PM]
   ·simp[Wo.A2,hk,h5,hh,ho]
  ·rw[vat _ his,Wh.qu]at hh
   simp[Wo.A2,hk,h5,hh]
  ·rw[kis _ _ h5 (by decide)]at his;cases his
  ·simp[Wo.A2,hk,h5]
 ·intro d hd
  rw[hd]
  refine⟨fun h5=>⟨fun his=>⟨fun hh=>⟨_,_,rfl,Gm hW x.of,?_⟩,fun hh=>res _ ?_⟩,fun his=>?_⟩,fun h5=>res _ ?_⟩
  ·intro d2 hd2
   rw[vat _ his,Wh.qu]at hh
   exact res _ (by rw[hd2];simp[Wo.A2,hk,h5,hh])
  ·rw[vat _ his,Wh.qu]at hh
   simp[Wo.A2,hk,h5,hh]
  ·rw[kis _ _ h5 (by decide)]at his;cases his
  ·simp[Wo.A2,hk,h5]
 ·exact res _ (by simp[Wo.A2,hk,h0])
 ·intro d hd
  rw[hd]
  refine⟨fun h5=>⟨fun his=>res _ ?_,fun his=>?_⟩,fun h5=>res _ ?_⟩
  ·rw[vat _ his,Wh.qt];simp[Wo.A2,hk,h5,h0,PM]
  ·rw[kis _ _ h5 (by decide)]at his;cases his
  ·simp[Wo.A2,hk,h5,h0]
 ·obtain⟨n,hn⟩:=ha hk
  refine⟨_,_,rfl,Vh hW x.of a n hn,?_⟩
  intro d hd
  rw[hd]
  have hfa:∀q,w.fa.get x.of x.set=some q->D.int (D.val w.fa.az (.r [.z x.of,.z x.set]))=q:=fun q hq=>by rw[kb.val hq];rfl
  refine⟨fun hf=>⟨_,_,rfl,Gm hW x.of,?_⟩,fun hf=>⟨_,_,rfl,Gm hW x.of,?_⟩⟩
  ·intro d2 hd2
   rw[hd2]
   obtain⟨q,hq⟩:=afl.1 hf
   refine⟨fun his=>⟨_,_,rfl,zG hW x.of,?_⟩,fun his=>res _ (by simp[Wo.A2,hk,his])⟩
   intro d3 hd3
   rw[hd3,hfa q hq]
   refine⟨fun a1=>⟨fun a2=>⟨fun a3=>res _ ?_,fun a3=>res _ ?_⟩,fun a2=>res _ ?_⟩,fun a1=>res _ ?_⟩
   ·by_cases e:q=r<;>simp[Wo.A2,hk,his,hq,a1,a2,a3,e]
   ·simp[Wo.A2,hk,his,hq,a1,a2,a3]
   ·simp[Wo.A2,hk,his,hq,a1,a2]
   ·simp[Wo.A2,hk,his,hq,a1]
  ·intro d2 hd2
   rw[hd2]
   have hq:w.fa.get x.of x.set=none:=by simpa using hf
   refine⟨fun his=>⟨_,_,rfl,zG hW x.of,?_⟩,fun his=>res _ (by simp[Wo.A2,hk,his])⟩
   intro d3 hd3
   rw[hd3]
   refine⟨fun a1=>⟨fun a2=>⟨fun a3=>res _ ?_,fun a3=>res _ ?_⟩,fun a2=>res _ ?_⟩,fun a1=>res _ ?_⟩
   ·simp[Wo.A2,hk,his,hq,a1,a2,a3]
   ·simp[Wo.A2,hk,his,hq,a1,a2,a3]
   ·simp[Wo.A2,hk,his,hq,a1,a2]
   ·simp[Wo.A2,hk,his,hq,a1]
 ·exact res _ (by simp[Wo.A2,n6,n7,n9,n11,n15,n16,n13,n14])
def Wo.idx (w:Wo)(r:Int)(x:Wh):kb:=if x.k=14 then w.fa.put x.of x.set r else w.fa
theorem RI (r:Int)(x:Wh)(hx:w.th.get r=some x):PH rY (Ge W r) (Wm W) 3 yz (fun d=>gu (D.ae d 0)=(w.idx r x).az):=by
 have res:∀(m:List (D×D)) (st:List Nat) (c:Nat),m=(w.idx r x).az->yK.bu=some 3/\∃d,T.dm (BV.tuple [],Wm (WS.mk W.pa W.cu W.th W.st W.ck m st c W.la W.ma)) (yz (Ge W r) (Wm W) d)/\gu (D.ae d 0)=(w.idx r x).az:=fun m st c hm=>by
  refine⟨rfl,.r [NB m,NC st,.z c],aS.2 ?_,?_⟩
  ·simp only[D.ae,D.bP,D.at,af4,agl,s8,E1,E0]
   rfl
  ·simp only[D.ae,D.bP,D.at,af4,s8];exact hm
 have e1:D.val W.th (.z r)=x.az:=by rw[hW.th];exact aQ.val hx
 have e2:D.fv W.th (.z r)=true:=by rw[hW.th];simp[hx]
 refine TM ?_
 simp only[rk,e1,e2,hW.fa,kb.fv,kb.jP,Wh.fA,Wh.kr,Wh.oN,afv,afd,agq,afe,ae6,afc,afm]
 refine⟨fun hk=>⟨fun hh=>res _ _ _ ?_,fun hh=>res _ _ _ ?_⟩,fun hk=>?_⟩
 ·simp[Wo.idx,hk,kb.put,hh]
 ·simp[Wo.idx,hk,kb.put,hh,kb.az]
 ·have:=res W.fa W.sf W.cf (by simp[Wo.idx,hk,hW.fa])
  exact this
end
end
section
def aQ.chain (t:aQ):Nat->Int->Bool
 |0,r=>match t.get r with|none=>false|some x=>!eo x.k
 |n+1,r=>match t.get r with|none=>false|some x=>if eo x.k then aQ.chain t n x.of else true
def aQ.P5 {t:aQ}:∀{n:Nat} {r:Int},t.chain n r=true->∀s,∃a,t.x7 (n+1) r s=some a:=by
 intro n
 induction n with
 |zero=>
  intro r h s
  simp only[aQ.chain]at h
  cases hg:t.get r with
  |none=>rw[hg]at h;cases h
  |some x=>
   simp only[hg,afu,eo,aeS]at h
   refine⟨pY (pY 63 s) (CV x.k),?_⟩
   simp only[aQ.x7,hg]
   rw[aeX (by omega),aeX (by omega)]
 |succ n ih=>
  intro r h s
  simp only[aQ.chain]at h
  rw[aQ.x7]
  cases hg:t.get r with
  |none=>rw[hg]at h;cases h
  |some x=>
   simp only[hg]at h ⊢
   by_cases hw:eo x.k=true
   ·rw[aeZ hw]at h
    by_cases h14:x.k=14
    ·rw[aeZ h14];exact ih h _
    ·rw[aeX h14,aeZ (by simp[eo]at hw;omega)];exact ih h _
   ·simp only[eo,aeT]at hw
    rw[aeX (by omega),aeX (by omega)]
    exact⟨_,rfl⟩
def aQ.ab (t:aQ)(r:Int):Int:=(t.x7 (t.length+1) r 63).getD 0
def aQ.aaJ {t:aQ}{r:Int}(h:t.chain t.length r=true):t.x7 (t.length+1) r 63=some (t.ab r):=by
 obtain⟨a,ha⟩:=aQ.P5 h 63
 simp[aQ.ab,ha]
def aQ.VG {t:aQ}{n:Nat}{r:Int}{x:Wh}(hg:t.get r=some x)(hw:eo x.k=true)(h:t.chain n r=true):0<n/\t.chain (n-1) x.of=true:=by
 cases n with
 |zero=>simp[aQ.chain,hg,hw]at h
 |succ n=>simp only[aQ.chain,hg,aeZ hw]at h;exact⟨by omega,h⟩
def aQ.P6 {t:aQ}:∀{n:Nat} {r:Int},t.chain n r=true->t.chain (n+1) r=true:=by
 intro n
 induction n with
 |zero=>
  intro r h
  simp only[aQ.chain]at h ⊢
  cases hg:t.get r with
  |none=>rw[hg]at h;cases h
  |some x=>simp only[hg]at h ⊢;simp at h;simp[h]
 |succ n ih=>
  intro r h
  rw[aQ.chain]at h ⊢
  cases hg:t.get r with
  |none=>rw[hg]at h;cases h
  |some x=>
   simp only[hg]at h ⊢
   by_cases hw:eo x.k=true
   ·rw[aeZ hw]at h ⊢;exact ih h
   ·rw[aeX hw]
def aQ.Nq {t:aQ}{n m:Nat}{r:Int}(h:n<=m)(hc:t.chain n r=true):t.chain m r=true:=by
 induction h with
 |refl=>exact hc
 |step _ ih=>exact aQ.P6 ih
def aQ.S1 (t:aQ)(x:Wh):Bool:=t.Fp x&&(!wu x.k||(t.get x.of).isSome)&&(!uc x.k||(t.get x.jj).isSome)&&(decide (¬(x.k=13/\x.of≠0))||(t.get x.of).isSome)
def aQ.PC (t:aQ)(r:Int)(x:Wh)(a:Int):Bool:=
 if x.k=6 then decide (t.kind x.of=5/\(t.at x.of).h=x.h)&&!t.zh r 6 x.of
 else if x.k=7 then decide (t.kind x.of=5/\(t.at x.of).h=x.h)
 else if x.k=9 then decide (t.kind x.of=8/\(t.at x.of).h=x.h)
 else if x.k=11 then decide (t.kind x.of=10/\(t.at x.of).h=x.h)&&!t.zh r 11 x.of
 else if x.k=15 then decide (t.kind x.jj=13/\(t.at x.jj).h=x.h/\(t.get x.of).isSome=true/\(t.at x.jj).of=r)
 else if x.k=16 then decide (t.kind x.jj=3/\(t.at x.jj).h=x.h/\(t.get x.of).isSome=true)
 else if x.k=13 then decide (x.of=0\/t.kind x.of=15/\(t.at x.of).jj=r)
 else if x.k=14 then decide ((t.get x.of).isSome=true/\t.kind x.of≠14/\x.set≠a/\kG x.set a=0)
 else true
def kb.Idx (f:kb)(t:aQ):Prop:=∀o s r,f.get o s=some r↔∃x,t.get r=some x/\x.k=14/\x.of=o/\x.set=s
def Wo.aci {w:Wo}(hi:w.fa.Idx w.th){r:Int}{x:Wh}(hx:w.th.get r=some x)(a:Int):w.A2 r x a=w.th.PC r x a:=by
 unfold Wo.A2 aQ.PC
 by_cases h:x.k=14
 ·have:=(hi x.of x.set r).2 ⟨x,hx,h,rfl,rfl⟩
  simp[h,this]
 ·simp[h]
def aQ.S3 (t:aQ):Prop:=∀r q x y,t.get r=some x->t.get q=some y->x.k=14->y.k=14->x.of=y.of->x.set=y.set->r=q
def aQ.IZ (t:aQ):Prop:=(∀r x,t.get r=some x->t.S1 x=true/\t.chain t.length r=true)/\t.S3/\∀r x,t.get r=some x->t.PC r x (t.ab x.of)=true
structure aQ.zw (t:aQ):Prop where
 one:t.one
 len:t.length<2^40
 ok:∀r x,t.get r=some x->x.ok
 sz:∀r x,t.get r=some x->x.sz<2^30
 fG:∀r x,t.get r=some x->∀v∈x.aF,v.fG=true
section
variable {W:WS} {w:Wo} (hW:Gl W w)
include hW
def iz (t:aQ)(d:D):Prop:=((d.ae 0).bool=true↔t.IZ)/\(t.IZ->∃f:kb,gu (D.ae d 1)=f.az/\f.Idx t)
theorem YD (hg:w.th.zw)(hf:w.fa=[]):PH cP (cj W) (Wm W) 3 b7 (iz w.th):=by
 have h1:=hg.one
 have hlen:=hg.len
 have fv:∀(b:Bool) (m:List (D×D)) (st:List Nat) (c:Nat),T.dm (BV.bool b,Wm (WS.mk W.pa W.cu W.th W.st W.ck m st c W.la W.ma)) (b7 (cj W) (Wm W) (.r [.b b,NB m,NC st,.z c])):=fun b m st c=>by
  refine aS.2 ?_
  simp only[D.ae,D.bP,D.at,af4,agl,s8,E1,E0,D.cg]
  rfl
 have no:¬w.th.IZ->∀(m:List (D×D)) (st:List Nat) (c:Nat),bR.bu=some 3/\∃d,T.dm (BV.bool false,Wm (WS.mk W.pa W.cu W.th W.st W.ck m st c W.la W.ma)) (b7 (cj W) (Wm W) d)/\iz w.th d:=fun h m st c=>⟨rfl,_,fv false m st c,⟨fun a=>(by cases a),fun a=>(h a).elim⟩,fun a=>(h a).elim⟩
 have eH:∀q,D.fv W.th (.z q)=(w.th.get q).isSome:=fun q=>by rw[hW.th];simp
 have eV:∀{q:Int} {x:Wh},w.th.get q=some x->D.val W.th (.z q)=x.az:=fun h=>by rw[hW.th];exact aQ.val h
 have memk:∀r x,w.th.get r=some x->r∈w.th.map (·.1):=fun r x hx=>aQ.mO.1 (by simp[hx])
 have loop3:∀(f:kb) (st:List Nat) (c:Nat),f.Idx w.th->(∀r x,w.th.get r=some x->w.th.S1 x=true/\w.th.chain w.th.length r=true)->w.th.S3->
  aC pg cP [aj] (.bu 3 (b7 (cj W) (Wm W)) (iz w.th)) (ot W (ba []) f.az st c):=by
  intro f st c hi s1 s3
  have hW2:Gl (WS.mk W.pa W.cu W.th W.st W.ck f.az st c W.la W.ma) {w with fa:=f}:=⟨hW.pa,hW.cu,hW.th,rfl,hW.la,hW.ma⟩
  refine sd (M:=fun l=>(∀r x,w.th.get r=some x->r∈l->w.th.PC r x (w.th.ab x.of)=true)->aC pg cP [aj] (.bu 3 (b7 (cj W) (Wm W)) (iz w.th)) (ot W (ba l) f.az st c)) (w.th.map (·.1)) (fun l hl hnd ih hs=>?_) (by simp)
  refine KA (Am hW (fun hall=>?_) fun n hn1 hn2=>?_)
  ·refine⟨rfl,_,fv true f.az st c,?_⟩
   have:w.th.IZ:=⟨s1,s3,fun r x hx=>hs r x hx (hall _ (aQ.qG hx))⟩
   exact⟨⟨fun _=>this,fun _=>rfl⟩,fun _=>⟨f,s8 _,hi⟩⟩
  ·obtain⟨x,hx⟩:=afl.1 (aQ.mO.2 hn1)
   have hlc:=s1 n x hx
   simp only[rk,eH,hx,afY,eV hx,D.df,ae6,afc,afe,afm]
   refine⟨_,_,rfl,abg hW2 (by exact h1) n x (w.th.ab x.of) ?_,?_⟩
   ·intro h14
    have hw:eo x.k=true:=by simp[eo,h14]
    obtain⟨k1,k2⟩:=aQ.VG hx hw hlc.2
    exact⟨_,aQ.aaJ (t:=w.th) (aQ.Nq (show w.th.length-1<=w.th.length by omega) k2)⟩
   ·intro d hd
    rw[hd,Wo.aci (w:={w with fa:=f}) hi hx]
    refine⟨fun h=>no (fun a=>?_) _ _ _,fun h=>?_⟩
    ·have:=a.2.2 n x hx
     rw[this]at h;cases h
    ·refine ih n hn1 hn2 fun r y hy hr=>?_
     rcases ae5.1 hr with rfl|hr
     ·rw[hx]at hy;cases hy;simpa using h
     ·exact hs r y hy hr
 have loop2:(∀r x,w.th.get r=some x->w.th.S1 x=true/\w.th.chain w.th.length r=true)->∀(st:List Nat) (c:Nat),
  aC pg cP [aj] (.bu 3 (b7 (cj W) (Wm W)) (iz w.th)) (nB W (kb.az []) st c (ba [])):=by
  intro s1 st c
  have key:=sd (M:=fun l=>∀(f:kb) (st:List Nat) (c:Nat),(∀o s r,f.get o s=some r↔r∈l/\∃x,w.th.get r=some x/\x.k=14/\x.of=o/\x.set=s)->
   (∀r q x y,r∈l->q∈l->w.th.get r=some x->w.th.get q=some y->x.k=14->y.k=14->x.of=y.of->x.set=y.set->r=q)->
   aC pg cP [aj] (.bu 3 (b7 (cj W) (Wm W)) (iz w.th)) (nB W f.az st c (ba l))) (w.th.map (·.1)) (fun l hl hnd ih f st c hi hu=>?_)
  ·exact key [] st c (by simp[kb.get]) (by simp)
  ·have hW2:Gl (WS.mk W.pa W.cu W.th W.st W.ck f.az st c W.la W.ma) {w with fa:=f}:=⟨hW.pa,hW.cu,hW.th,rfl,hW.la,hW.ma⟩
   refine MN (Am hW (fun hall=>?_) fun n hn1 hn2=>?_)
   ·have hin:∀r x,w.th.get r=some x->r∈l:=fun r x hx=>hall _ (aQ.qG hx)
    refine loop3 f st c (fun o s r=>?_) s1 fun r q x y hx hy=>hu r q x y (hin r x hx) (hin q y hy) hx hy
    rw[hi]
    exact⟨fun a=>a.2,fun a=>⟨by obtain⟨x,hx,_⟩:=a;exact hin r x hx,a⟩⟩
   ·obtain⟨x,hx⟩:=afl.1 (aQ.mO.2 hn1)
    simp only[rk,eH,hx,afY,eV hx,D.df,Wh.fA,Wh.kr,Wh.oN,kb.fv,ae6,afc,afe,afm,afv,afd,agq]
    refine⟨fun h14=>⟨fun hh=>no (fun a=>?_) _ _ _,fun hh=>?_⟩,fun h14=>?_⟩
    ·obtain⟨q,hq⟩:=afl.1 hh
     obtain⟨hql,y,hy,y14,e1,e2⟩:=(hi _ _ _).1 hq
     have:=a.2.1 q n y x hy hx y14 h14 e1 e2
     exact hn2 (this▸hql)
    ·have hnone:f.get x.of x.set=none:=by simpa using hh
     refine⟨_,_,rfl,RI hW2 n x hx,?_⟩
     intro d hd
     rw[hd]
     have e:=ih n hn1 hn2 (f.put x.of x.set n) (hG (D.ae d 1)) (hC (D.ae d 2)) (fun o s r=>?_) (fun r q y z hr hq hy hz y14 z14 e1 e2=>?_)
     ·have e2:Wo.idx {w with fa:=f} n x=f.put x.of x.set n:=by simp[Wo.idx,h14]
      rw[e2];exact e
     ·rw[kb.fe]
      by_cases e:(o,s)=(x.of,x.set)
      ·rw[aeZ e]
       cases e
       constructor
       ·intro h;cases h;exact⟨by simp,x,hx,h14,rfl,rfl⟩
       ·rintro⟨hr,y,hy,y14,e1,e2⟩
        rcases ae5.1 hr with rfl|hr
        ·rfl
        ·have:=(hi x.of x.set r).2 ⟨hr,y,hy,y14,e1,e2⟩
         rw[hnone]at this;cases this
      ·rw[aeX e,hi]
       constructor
       ·rintro⟨hr,b⟩;exact⟨by simp[hr],b⟩
       ·rintro⟨hr,y,hy,y14,e1,e2⟩
        rcases ae5.1 hr with rfl|hr
        ·rw[hx]at hy;cases hy;exact absurd (by rw[e1,e2]) e
        ·exact⟨hr,y,hy,y14,e1,e2⟩
     ·have lem:∀q z,q∈l->w.th.get q=some z->z.k=14->z.of=x.of->z.set=x.set->False:=fun q z hq hz z14 e1 e2=>by
       have:=(hi x.of x.set q).2 ⟨hq,z,hz,z14,e1,e2⟩
       rw[hnone]at this;cases this
      rcases ae5.1 hr with rfl|hr1
      ·rw[hx]at hy;cases hy
       rcases ae5.1 hq with rfl|hq1
       ·rfl
       ·exact(lem q z hq1 hz z14 e1.symm e2.symm).elim
      ·rcases ae5.1 hq with rfl|hq1
       ·rw[hx]at hz;cases hz
        exact(lem r y hr1 hy y14 e1 e2).elim
       ·exact hu r q y z hr1 hq1 hy hz y14 z14 e1 e2
    ·refine ih n hn1 hn2 f st c (fun o s r=>?_) (fun r q y z hr hq hy hz y14 z14 e1 e2=>?_)
     ·rw[hi]
      constructor
      ·rintro⟨hr,b⟩;exact⟨by simp[hr],b⟩
      ·rintro⟨hr,y,hy,y14,e1,e2⟩
       rcases ae5.1 hr with rfl|hr
       ·rw[hx]at hy;cases hy;exact absurd y14 h14
       ·exact⟨hr,y,hy,y14,e1,e2⟩
     ·rcases ae5.1 hr with rfl|hr
      ·rw[hx]at hy;cases hy;exact absurd y14 h14
      ·rcases ae5.1 hq with rfl|hq
       ·rw[hx]at hz;cases hz;exact absurd z14 h14
       ·exact hu r q y z hr hq hy hz y14 z14 e1 e2
 have loop1:aC pg cP [aj] (.bu 3 (b7 (cj W) (Wm W)) (iz w.th)) (nA W (D.cX W.th) W.st W.ck (ba [])):=by
  refine sd (M:=fun l=>(∀r x,w.th.get r=some x->r∈l->w.th.S1 x=true/\w.th.chain w.th.length r=true)->aC pg cP [aj] (.bu 3 (b7 (cj W) (Wm W)) (iz w.th)) (nA W (D.cX W.th) W.st W.ck (ba l))) (w.th.map (·.1)) (fun l hl hnd ih hs=>?_) (by simp)
  refine MM (Am hW (fun hall=>?_) fun n hn1 hn2=>?_)
  ·have e:=loop2 (fun r x hx=>hs r x hx (hall _ (aQ.qG hx))) W.sf W.cf
   rw[hW.fa,hf];exact e
  ·obtain⟨x,hx⟩:=afl.1 (aQ.mO.2 hn1)
   have noS:w.th.S1 x=false->bR.bu=some 3/\∃d,T.dm (BV.bool false,Wm W) (b7 (cj W) (Wm W) d)/\iz w.th d:=fun h=>no (fun a=>by rw[(a.1 n x hx).1]at h;cases h) W.fa W.sf W.cf
   have chain:w.th.S1 x=true->∀(m j:Nat) (q:Int),m+j=w.th.length->(w.th.get q).isSome=true->w.th.chain m q=w.th.chain w.th.length n->aC pg cP [aj] (.bu 3 (b7 (cj W) (Wm W)) (iz w.th)) (cV W q (D.cX W.th) W.st W.ck (ba (n::l)) j):=by
    intro hS m
    have hwl:W.th.length=w.th.length:=by rw[hW.th];simp[aQ.az]
    have noC:w.th.chain w.th.length n=false->bR.bu=some 3/\∃d,T.dm (BV.bool false,Wm W) (b7 (cj W) (Wm W) d)/\iz w.th d:=fun h=>no (fun a=>by rw[(a.1 n x hx).2]at h;cases h) W.fa W.sf W.cf
    have Ip:w.th.chain w.th.length n=true->aC pg cP [aj] (.bu 3 (b7 (cj W) (Wm W)) (iz w.th)) (nA W (D.cX W.th) W.st W.ck (ba (n::l))):=fun h=>by
     refine ih n hn1 hn2 fun r y hy hr=>?_
     rcases ae5.1 hr with rfl|hr
     ·rw[hx]at hy;cases hy;exact⟨hS,h⟩
     ·exact hs r y hy hr
    induction m with
    |zero=>
     intro j q hj hq hc
     obtain⟨y,hy⟩:=afl.1 hq
     simp only[aQ.chain,hy]at hc
     refine AI ?_
     simp only[rk,eH,hy,afY,eV hy,Wh.fA,Wh.kr,ae6,afc,afe,afm,hwl,aeT,aeS]
     refine⟨_,_,_,rfl,M0 y.k,?_⟩
     rintro _ rfl
     rw[bL (x:=(j:Int)+1) (by omega) (by omega)]
     simp only[D.cg]
     exact⟨fun hw=>⟨fun _=>noC (by rw[<-hc,hw];rfl),fun h=>by omega⟩,fun hw=>Ip (by rw[<-hc,hw];rfl)⟩
    |succ m ihm=>
     intro j q hj hq hc
     obtain⟨y,hy⟩:=afl.1 hq
     simp only[aQ.chain,hy]at hc
     refine AI ?_
     simp only[rk,eH,hy,afY,eV hy,Wh.fA,Wh.kr,ae6,afc,afe,afm,hwl,aeT,aeS]
     refine⟨_,_,_,rfl,M0 y.k,?_⟩
     rintro _ rfl
     rw[bL (x:=(j:Int)+1) (by omega) (by omega)]
     simp only[D.cg]
     refine⟨fun hw=>⟨fun _=>by omega,fun _=>⟨_,_,rfl,Gm hW y.of,?_⟩⟩,fun hw=>Ip (by rw[<-hc,aeX (by simp[hw])])⟩
     intro d hd
     rw[hd]
     rw[aeZ hw]at hc
     refine⟨fun h=>noC ?_,fun h=>?_⟩
     ·have hno:w.th.get y.of=none:=by simpa using h
      rw[<-hc];cases m<;>simp[aQ.chain,hno]
     ·have:=ihm (j+1) y.of (by omega) (by simpa using h) hc
      simpa using this
   have chain0:w.th.S1 x=true->aC pg cP [aj] (.bu 3 (b7 (cj W) (Wm W)) (iz w.th)) (cV W n (D.cX W.th) W.st W.ck (.z n::ba l) 0):=fun h=>chain h w.th.length 0 n rfl (by simp[hx]) rfl
   simp only[rk,eH,hx,afY,eV hx,D.df,Wh.fA,Wh.kr,Wh.qt,ae6,afc,afe,afm,afv,afd,agB,afF,agq]
   refine⟨_,_,rfl,YC hW x (hg.ok n x hx) (hg.sz n x hx) (hg.fG n x hx),?_⟩
   intro d1 hd1
   rw[hd1]
   refine⟨fun h=>noS (by simp at h;simp[aQ.S1,h]),fun a1=>?_⟩
   have a1:w.th.Fp x=true:=by simpa using a1
   refine⟨_,_,_,rfl,X4 x.k,?_⟩
   rintro _ rfl
   simp only[D.cg]
   have byp:(!wu x.k||(w.th.get x.of).isSome)=true->∃ts rs Q',HG bR.cK mK=some (ts,rs)/\iq pg mK ts [.z x.k] rs Q'/\∀d,Q' d->
    (D.bool d=true->∃R Q',D8 bR.bD dz=some R/\pj pg dz [.aG 0 0,.int .i64 x.jj] (Wm W) 3 (R [.aG 0 0,.int .i64 x.jj] (Wm W)) Q'/\∀d,Q' d->
      ((!D.bool d)=true->bR.bu=some 3/\∃d,T.dm (BV.bool false,Wm W) (b7 (cj W) (Wm W) d)/\iz w.th d)/\((!D.bool d)=false->(x.k=13->(¬x.of=0->∃R Q',D8 bR.bD dz=some R/\pj pg dz [.aG 0 0,.int .i64 x.of] (Wm W) 3 (R [.aG 0 0,.int .i64 x.of] (Wm W)) Q'/\∀d,Q' d->
      ((!D.bool d)=true->bR.bu=some 3/\∃d,T.dm (BV.bool false,Wm W) (b7 (cj W) (Wm W) d)/\iz w.th d)/\((!D.bool d)=false->aC pg bR.f bR.rs (.bu 3 (b7 (cj W) (Wm W)) (iz w.th)) (cV W n (D.cX W.th) W.st W.ck (.z n::ba l) 0)))/\
        (x.of=0->aC pg bR.f bR.rs (.bu 3 (b7 (cj W) (Wm W)) (iz w.th)) (cV W n (D.cX W.th) W.st W.ck (.z n::ba l) 0)))/\
        (¬x.k=13->aC pg bR.f bR.rs (.bu 3 (b7 (cj W) (Wm W)) (iz w.th)) (cV W n (D.cX W.th) W.st W.ck (.z n::ba l) 0))))/\
    (D.bool d=false->(x.k=13->(¬x.of=0->∃R Q',D8 bR.bD dz=some R/\pj pg dz [.aG 0 0,.int .i64 x.of] (Wm W) 3 (R [.aG 0 0,.int .i64 x.of] (Wm W)) Q'/\∀d,Q' d->
      ((!D.bool d)=true->bR.bu=some 3/\∃d,T.dm (BV.bool false,Wm W) (b7 (cj W) (Wm W) d)/\iz w.th d)/\((!D.bool d)=false->aC pg bR.f bR.rs (.bu 3 (b7 (cj W) (Wm W)) (iz w.th)) (cV W n (D.cX W.th) W.st W.ck (.z n::ba l) 0)))/\
        (x.of=0->aC pg bR.f bR.rs (.bu 3 (b7 (cj W) (Wm W)) (iz w.th)) (cV W n (D.cX W.th) W.st W.ck (.z n::ba l) 0)))/\
        (¬x.k=13->aC pg bR.f bR.rs (.bu 3 (b7 (cj W) (Wm W)) (iz w.th)) (cV W n (D.cX W.th) W.st W.ck (.z n::ba l) 0))):=by
    intro a2
    refine⟨_,_,_,rfl,X3 x.k,?_⟩
    rintro _ rfl
    simp only[D.cg]
    refine⟨fun hb=>⟨_,_,rfl,Gm hW x.jj,?_⟩,fun hb=>?_⟩
    ·intro d hd
     rw[hd]
     refine⟨fun h=>noS (by simp at h;simp[aQ.S1,hb,h]),fun h=>?_⟩
     have a3:(!uc x.k||(w.th.get x.jj).isSome)=true:=by simp at h;simp[h]
     refine⟨fun hk=>⟨fun ho=>⟨_,_,rfl,Gm hW x.of,?_⟩,fun ho=>chain0 ?_⟩,fun hk=>chain0 ?_⟩
     ·intro d hd
      rw[hd]
      refine⟨fun h=>noS (by simp at h;simp[aQ.S1,hk,ho,h]),fun h=>chain0 ?_⟩
      rw[aQ.S1,a1,a2,a3];simp at h;simp[h]
     ·rw[aQ.S1,a1,a2,a3];simp[ho]
     ·rw[aQ.S1,a1,a2,a3];simp[hk]
    ·have a3:(!uc x.k||(w.th.get x.jj).isSome)=true:=by simp[hb]
     refine⟨fun hk=>⟨fun ho=>⟨_,_,rfl,Gm hW x.of,?_⟩,fun ho=>chain0 ?_⟩,fun hk=>chain0 ?_⟩
     ·intro d hd
      rw[hd]
      refine⟨fun h=>noS (by simp at h;simp[aQ.S1,hk,ho,h]),fun h=>chain0 ?_⟩
      rw[aQ.S1,a1,a2,a3];simp at h;simp[h]
     ·rw[aQ.S1,a1,a2,a3];simp[ho]
     ·rw[aQ.S1,a1,a2,a3];simp[hk]
   refine⟨fun ho=>⟨_,_,rfl,Gm hW x.of,?_⟩,fun ho=>byp (by simp[ho])⟩
   intro d hd
   rw[hd]
   exact⟨fun h=>noS (by simp at h;simp[aQ.S1,ho,h]),fun h=>byp (by simp at h;simp[h])⟩
 exact TP loop1
end
end
section
def Wh.Lv (x:Wh):Bool:=wu x.k||decide (x.k=13/\x.of≠0)
def aQ.xH (t:aQ)(r:Int)(x:Wh):Bool:=t.all fun p=>decide (p.1=r\/p.2.k≠14\/p.2.of≠x.of\/p.2.set≠x.set)
def aQ.uD (t:aQ)(r:Int)(x:Wh)(a:Int):Bool:=
 if x.k=6 then decide (t.kind x.of=5/\(t.at x.of).h=x.h)&&!t.pw r 6 x.of false
 else if x.k=7 then decide (t.kind x.of=5/\(t.at x.of).h=x.h)
 else if x.k=9 then decide (t.kind x.of=8/\(t.at x.of).h=x.h)
 else if x.k=11 then decide (t.kind x.of=10/\(t.at x.of).h=x.h)&&!t.pw r 11 x.of false
 else if x.k=13 then decide (x.of=0\/t.kind x.of=15/\(t.at x.of).jj=r)
 else if x.k=15 then decide (t.kind x.jj=13/\(t.at x.jj).h=x.h)&&(!t.pw r 15 x.jj true&&decide (r=0\/(t.at x.jj).of=r))
 else if x.k=16 then decide (t.kind x.jj=3/\(t.at x.jj).h=x.h)
 else if x.k=14 then decide (t.kind x.of≠14/\kG x.set a=0/\x.set≠a)&&t.xH r x
 else true
def aQ.ki (t:aQ)(r:Int)(x:Wh)(a:Int):Int:=
 if (aJ.cU x.aF).any (fun q=>decide (t.kind q=0))then 5
 else if (x.Lv&&(t.get x.of).isNone)||(uc x.k&&(t.get x.jj).isNone)then 5
 else if t.uD r x a then 0 else 70
section
variable {R:RS} {w:Wo} (hR:YB R w) (hn:w.th.length<2^62)
include hR hn
theorem Vd (ht:w.th.ok)(r:Int)(x:Wh)(a:Int)(hx:x.ok)(hs:x.sz<2^30)(hm:∀v∈x.aF,v.fG=true)(hk:1<=x.k/\x.k<=16)(ha:x.k=14->∃n,w.th.nM n x.of=some a):
 PH eG (jf R r x.az) (Rm R) 1 gV (fun d=>D.int d=w.th.ki r x a):=by
 have hrl:=aJ.wc x.aF
 have hs2:=hs
 simp only[Wh.sz]at hs2
 have res:∀v,v=w.th.ki r x a->gl.bu=some 1/\∃d,T.dm (BV.int .i64 v,Rm R) (gV (jf R r x.az) (Rm R) d)/\D.int d=w.th.ki r x a:=fun v hv=>⟨rfl,CY hv⟩
 have loop2:x.k=14->((aJ.cU x.aF).any (fun q=>decide (w.th.kind q=0))=false)->(w.th.get x.of).isSome=true->∀(rest:aQ) (i:Nat) (b:Bool),w.th.drop i=rest->(b&&rest.xH r x)=w.th.uD r x a->
  aC pg eG [aX] (.bu 1 (gV (jf R r x.az) (Rm R)) (fun d=>D.int d=w.th.ki r x a)) (dt R r x.az b i):=by
  intro k14 hrefs hof rest
  have hE:w.th.ki r x a=if w.th.uD r x a then 0 else 70:=by
   have e1:(w.th.get x.of).isNone=false:=by simpa [Option.isNone_eq_false_iff]using hof
   simp[aQ.ki,hrefs,e1,uc,k14]
  induction rest with
  |nil=>
   intro i b hd hb
   have:=drop_nil hd
   refine qW ?_
   simp only[rk,hR.th,aQ.tQ]
   refine⟨fun h=>by simp at h;omega,fun _=>⟨fun h=>res _ ?_,fun h=>res _ ?_⟩⟩
   ·rw[hE,<-hb];simp at h;simp[h]
   ·rw[hE,<-hb];simp at h;simp[h,aQ.xH]
  |cons p rest ih=>
   intro i b hd hb
   obtain⟨g1,g2,g3⟩:=aI hd
   have hp:=ht p (aeU g1)
   have e1:D.ae (.r [.z p.1,p.2.az]) 0= .z p.1:=rfl
   have e2:D.ae (.r [.z p.1,p.2.az]) 1=p.2.az:=rfl
   refine qW ?_
   simp only[rk,hR.th,aQ.tQ,ae2,CL g1,aY g3,bO g3 (n:=w.th.length) (by omega),e1,e2,D.df,Wh.fA,Wh.kr,Wh.oN,hp.wk,agB,afF,afv,afd,agq]
   have hnf:aQ.xH (p::rest) r x=(decide (p.1=r\/p.2.k≠14\/p.2.of≠x.of\/p.2.set≠x.set)&&aQ.xH rest r x):=rfl
   rw[hnf]at hb
   refine⟨fun _=>⟨fun hb1=>⟨fun _=>⟨fun _=>⟨fun c1=>ih (i+1) true g2 ?_,fun c1=>⟨fun c2=>ih (i+1) true g2 ?_,fun c2=>⟨fun c3=>ih (i+1) true g2 ?_,fun c3=>ih (i+1) _ g2 ?_⟩⟩⟩,fun h=>by simp at h;omega⟩,fun h=>by simp at h⟩,fun hb1=>res _ ?_⟩,fun h=>by simp at h;omega⟩
   ·rw[<-hb,hb1];simp[c1]
   ·rw[<-hb,hb1];simp[c2]
   ·rw[<-hb,hb1];simp[c3]
   ·rw[<-hb,hb1];by_cases c4:p.2.set=x.set<;>simp[c1,c2,c3,c4]
   ·rw[hE,<-hb];simp[hb1]
 have hkk:(x.k=1\/x.k=2\/x.k=3\/x.k=4\/x.k=5\/x.k=8\/x.k=10\/x.k=12)\/x.k=6\/x.k=7\/x.k=9\/x.k=11\/x.k=13\/x.k=14\/x.k=15\/x.k=16:=by omega
 have tail:((aJ.cU x.aF).any (fun q=>decide (w.th.kind q=0))=false)->((x.Lv&&(w.th.get x.of).isNone)||(uc x.k&&(w.th.get x.jj).isNone))=false->
  aC pg eG [aX] (.bu 1 (gV (jf R r x.az) (Rm R)) (fun d=>D.int d=w.th.ki r x a)) (uf R r x.az (w.th.at x.of).az (w.th.at x.jj).az):=by
  intro hrefs hw
  have hE:w.th.ki r x a=if w.th.uD r x a then 0 else 70:=by simp only[aQ.ki,hrefs,hw];simp
  have wkk:∀q,IntKind.i64.wrap (w.th.kind q)=w.th.kind q:=fun q=>by rw[aQ.Mc];exact(ht.at q).wk
  refine Ij ?_
  simp only[rk,wkk,Wh.fA,Wh.qu,Wh.kr,Wh.qt,Wh.oN,hx.wk,(ht.at x.of).wk,(ht.at x.jj).wk,HS,<-aQ.Mc]
  rcases hkk with hk|hk|hk|hk|hk|hk|hk|hk|hk
  ·have n6:¬x.k=6:=by omega
   have n7:¬x.k=7:=by omega
   have n9:¬x.k=9:=by omega
   have n11:¬x.k=11:=by omega
   have n13:¬x.k=13:=by omega
   have n14:¬x.k=14:=by omega
   have n15:¬x.k=15:=by omega
   have n16:¬x.k=16:=by omega
   simp[n6,n7,n9,n11,n13,n14,n15,n16]
   exact res _ (by rw[hE];simp[aQ.uD,n6,n7,n9,n11,n13,n14,n15,n16])
  ·simp[-exists_and_left,hk]
   refine⟨fun h5=>⟨fun h6=>⟨_,_,rfl,IS hR hn ht r 6 x.of false,?_⟩,fun h6=>res _ ?_⟩,fun h5=>res _ ?_⟩
   ·intro d hd
    rw[hd]
    exact⟨fun h7=>res _ (by rw[hE];simp[aQ.uD,hk,h5,h6,h7]),fun h7=>res _ (by rw[hE];simp[aQ.uD,hk,h5,h6,h7])⟩
   ·rw[hE];simp[aQ.uD,hk,h5,h6]
   ·rw[hE];simp[aQ.uD,hk,h5]
  ·simp[hk]
   exact⟨fun h5=>⟨fun h6=>res _ (by rw[hE];simp[aQ.uD,hk,h5,h6]),fun h6=>res _ (by rw[hE];simp[aQ.uD,hk,h5,h6])⟩,fun h5=>res _ (by rw[hE];simp[aQ.uD,hk,h5])⟩
  ·simp[hk]
   exact⟨fun h5=>⟨fun h6=>res _ (by rw[hE];simp[aQ.uD,hk,h5,h6]),fun h6=>res _ (by rw[hE];simp[aQ.uD,hk,h5,h6])⟩,fun h5=>res _ (by rw[hE];simp[aQ.uD,hk,h5])⟩
  ·simp[-exists_and_left,hk]
   refine⟨fun h5=>⟨fun h6=>⟨_,_,rfl,IS hR hn ht r 11 x.of false,?_⟩,fun h6=>res _ ?_⟩,fun h5=>res _ ?_⟩
   ·intro d hd
    rw[hd]
    exact⟨fun h7=>res _ (by rw[hE];simp[aQ.uD,hk,h5,h6,h7]),fun h7=>res _ (by rw[hE];simp[aQ.uD,hk,h5,h6,h7])⟩
   ·rw[hE];simp[aQ.uD,hk,h5,h6]
   ·rw[hE];simp[aQ.uD,hk,h5]
  ·simp[hk]
   exact⟨fun h0=>res _ (by rw[hE];simp[aQ.uD,hk,h0]),fun h0=>⟨fun h5=>⟨fun h6=>res _ (by rw[hE];simp[aQ.uD,hk,h0,h5,h6]),fun h6=>res _ (by rw[hE];simp[aQ.uD,hk,h0,h5,h6])⟩,fun h5=>res _ (by rw[hE];simp[aQ.uD,hk,h0,h5])⟩⟩
  ·obtain⟨m,hm2⟩:=ha hk
   have hof:(w.th.get x.of).isSome=true:=by
    simp only[Wh.Lv,wu,eo,hk]at hw
    cases h:w.th.get x.of with
    |none=>rw[h]at hw;simp at hw
    |some y=>rfl
   have l2:=loop2 hk hrefs hof
   simp[-exists_and_left,hk]
   refine⟨_,_,rfl,RF hR hn ht m x.of a hm2,?_⟩
   intro d hd
   rw[hd]
   refine⟨fun h5=>⟨fun h6=>l2 _ 0 _ rfl ?_,fun h6=>l2 _ 0 _ rfl ?_⟩,fun h5=>l2 _ 0 _ rfl ?_⟩
   ·by_cases e:x.set=a<;>simp[aQ.uD,hk,h5,h6,e]
   ·simp[aQ.uD,hk,h5,h6]
   ·simp[aQ.uD,hk,h5]
  ·simp[-exists_and_left,hk]
   refine⟨fun h5=>⟨fun h6=>⟨_,_,rfl,IS hR hn ht r 15 x.jj true,?_⟩,fun h6=>res _ ?_⟩,fun h5=>res _ ?_⟩
   ·intro d hd
    rw[hd]
    exact⟨fun h7=>⟨fun h0=>res _ (by rw[hE];subst h0;simp[aQ.uD,hk,h5,h6,h7]),fun h0=>⟨fun h8=>res _ (by rw[hE];simp[aQ.uD,hk,h5,h6,h7,h0,h8]),fun h8=>res _ (by rw[hE];simp[aQ.uD,hk,h5,h6,h7,h0,h8])⟩⟩,fun h7=>res _ (by rw[hE];simp[aQ.uD,hk,h5,h6,h7])⟩
   ·rw[hE];simp[aQ.uD,hk,h5,h6]
   ·rw[hE];simp[aQ.uD,hk,h5]
  ·simp[hk]
   exact⟨fun h5=>⟨fun h6=>res _ (by rw[hE];simp[aQ.uD,hk,h5,h6]),fun h6=>res _ (by rw[hE];simp[aQ.uD,hk,h5,h6])⟩,fun h5=>res _ (by rw[hE];simp[aQ.uD,hk,h5])⟩
 have loop:∀(rest:List Int) (i:Nat),(aJ.cU x.aF).drop i=rest->((aJ.cU x.aF).any (fun q=>decide (w.th.kind q=0))=rest.any (fun q=>decide (w.th.kind q=0)))->
  aC pg eG [aX] (.bu 1 (gV (jf R r x.az) (Rm R)) (fun d=>D.int d=w.th.ki r x a)) (sB R r x.az (aJ.cU x.aF).length (ba (aJ.cU x.aF)) i):=by
  intro rest
  induction rest with
  |nil=>
   intro i hd hrefs
   have hi:=drop_nil hd
   refine Dn ?_
   simp only[List.any_nil]at hrefs
   simp only[rk,aeW]
   refine⟨fun h=>by simp at h;omega,fun _=>?_⟩
   simp only[Wh.fA,Wh.kr,Wh.qt,hx.wk]
   refine⟨_,_,rfl,Nh hR hn x.of,?_⟩
   rintro d1 ⟨h1,h2⟩
   refine⟨_,_,rfl,Nh hR hn x.jj,?_⟩
   rintro d2 ⟨h3,h4⟩
   rw[h1,h2,h3,h4]
   have r5:((x.Lv&&(w.th.get x.of).isNone)||(uc x.k&&(w.th.get x.jj).isNone))=true->gl.bu=some 1/\∃d,T.dm (BV.int .i64 5,Rm R) (gV (jf R r x.az) (Rm R) d)/\D.int d=w.th.ki r x a:=fun h=>res _ (by simp only[aQ.ki,hrefs,h];simp)
   have tl:=tail hrefs
   have iso:∀o:Option Wh,o.isNone=!o.isSome:=fun o=>by cases o<;>rfl
   simp only[iso,Wh.Lv,wu,uc]at r5 tl
   rcases hkk with hk|hk|hk|hk|hk|hk|hk|hk|hk
   ·have n6:¬x.k=6:=by omega
    have n7:¬x.k=7:=by omega
    have n9:¬x.k=9:=by omega
    have n11:¬x.k=11:=by omega
    have n13:¬x.k=13:=by omega
    have n14:¬x.k=14:=by omega
    have n15:¬x.k=15:=by omega
    have n16:¬x.k=16:=by omega
    simp[-exists_and_left,eo,n6,n7,n9,n11,n13,n14,n15,n16]at r5 tl ⊢
    refine⟨_,_,_,rfl,px x.k,?_⟩
    rintro _ rfl
    have e1:eo x.k=false:=by simp[eo,n14,n15,n16]
    simp[e1]
    exact tl
   ·simp[hk]at r5 tl ⊢
    exact⟨r5,tl⟩
   ·simp[hk]at r5 tl ⊢
    exact⟨r5,tl⟩
   ·simp[hk]at r5 tl ⊢
    exact⟨r5,tl⟩
   ·simp[hk]at r5 tl ⊢
    exact⟨r5,tl⟩
   ·simp[-exists_and_left,eo,hk]at r5 tl ⊢
    refine⟨_,_,_,rfl,px 13,?_⟩
    rintro _ rfl
    simp[eo]
    refine⟨fun h0=>⟨fun h=>r5 h0 h,fun h=>tl fun _=>h⟩,fun h0=>tl fun h=>absurd h0 h⟩
   ·simp[-exists_and_left,eo,hk]at r5 tl ⊢
    refine⟨_,_,_,rfl,px 14,?_⟩
    rintro _ rfl
    simp[eo]
    exact⟨r5,tl⟩
   ·simp[-exists_and_left,eo,hk]at r5 tl ⊢
    refine⟨_,_,_,rfl,px 15,?_⟩
    rintro _ rfl
    simp[eo]
    exact⟨fun h=>r5 (.inl h),fun h=>⟨fun h2=>r5 (.inr h2),fun h2=>tl h h2⟩⟩
   ·simp[-exists_and_left,eo,hk]at r5 tl ⊢
    refine⟨_,_,_,rfl,px 16,?_⟩
    rintro _ rfl
    simp[eo]
    exact⟨fun h=>r5 (.inl h),fun h=>⟨fun h2=>r5 (.inr h2),fun h2=>tl h h2⟩⟩
  |cons q rest ih=>
   intro i hd hrefs
   obtain⟨g1,g2,g3⟩:=aI hd
   refine Dn ?_
   simp only[rk,aeW,ae2,bS (f:=D.z) g1,aY g3,bO g3 (n:=(aJ.cU x.aF).length) (by omega),D.df]
   refine⟨fun _=>⟨fun _=>⟨fun _=>⟨_,_,rfl,RG hR hn ht q,?_⟩,fun h=>by simp at h;omega⟩,fun h=>by simp at h⟩,fun h=>by simp at h;omega⟩
   intro d hd2
   rw[hd2]
   refine⟨fun h=>res _ ?_,fun h=>ih (i+1) g2 ?_⟩
   ·have h:w.th.kind q=0:=by simpa using h
    simp[aQ.ki,hrefs,h]
   ·have h:¬w.th.kind q=0:=by simpa using h
    rw[hrefs];simp[h]
 refine QL ?_
 simp only[rk,Wh.re]
 refine⟨_,_,rfl,aak x hx hs hm,?_⟩
 intro d hd
 rw[hd,aeW]
 exact loop _ 0 rfl rfl
end
end
section
def aQ.iu (t:aQ):Nat->Int->List Int
 |0,_=>[]
 |n+1,r=>match t.get r with|none=>[]|some x=>r::(if eo x.k then aQ.iu t n x.of else [])
def aQ.Pr (t:aQ):∀(n:Nat) (r:Int),(t.iu n r).length<=n:=by
 intro n
 induction n with
 |zero=>intro r;simp[aQ.iu]
 |succ n ih=>
  intro r
  simp only[aQ.iu]
  cases t.get r with
  |none=>simp
  |some x=>
   simp only[ae9]
   split
   ·have:=ih x.of;omega
   ·simp
def ZF:∀a:Nat,a<64->0<a->(IntKind.u8.wrap ((BitVec.ofInt 8 (a:Int) &&& BitVec.ofInt 8 (IntKind.u8.wrap ((a:Int)-1))).toNat:Int)).toNat<a/\0<=IntKind.u8.wrap ((BitVec.ofInt 8 (a:Int) &&& BitVec.ofInt 8 (IntKind.u8.wrap ((a:Int)-1))).toNat:Int)/\
 JR (IntKind.u8.wrap ((BitVec.ofInt 8 (a:Int) &&& BitVec.ofInt 8 (IntKind.u8.wrap ((a:Int)-1))).toNat:Int)).toNat+1=JR a:=by decide+kernel
section
variable {R:RS} {w:Wo} (hR:YB R w)
include hR
theorem abf (ht:w.th.ok)(hn:w.th.length<2^40)(r:Int):PH s9 (A4 R r) (Rm R) 1 yx (fun d=>D.aa d=ba (w.th.iu (w.th.length+1) r)):=by
 have hlen:=aQ.Pr w.th (w.th.length+1) r
 have leaf:∀l:List Int,l=w.th.iu (w.th.length+1) r->wx.bu=some 1/\∃d,T.dm (BV.aV 1 l.length true,[(0,ax.cells [.aV 2 R.pa.length true,.aV 3 R.cu.length true,.aV 4 R.th.length true,.int .i64 R.la,.aV 5 R.ma.length true] bp false),(1,.an bh (ba l) true),(2,.an ah R.pa true),(3,.an aj R.cu true),(4,.an bQ R.th true),(5,.an ah R.ma true)]) (yx (A4 R r) (Rm R) d)/\D.aa d=ba (w.th.iu (w.th.length+1) r):=by
  rintro l rfl
  refine⟨rfl,.r (ba _),?_,rfl⟩
  rw[show ∀l:List Int,l.length=(ba l).length from fun l=>by simp]
  exact .ret
 have hL:R.th.length=w.th.length:=by rw[hR.th];simp
 have loop:∀(m k:Nat) (q:Int) (pre:List Int),m+k=w.th.length+1->pre++w.th.iu m q=w.th.iu (w.th.length+1) r->
  aC pg s9 [dS] (.bu 1 (yx (A4 R r) (Rm R)) (fun d=>D.aa d=ba (w.th.iu (w.th.length+1) r))) (xy R r q pre.length k (ba pre)):=by
  intro m
  induction m with
  |zero=>
   intro k q pre hk hp
   refine Hw ?_
   simp only[rk,aeT,aeS]
   exact⟨fun h=>by omega,fun _=>leaf pre (by simpa [aQ.iu]using hp)⟩
  |succ m ih=>
   intro k q pre hk hp
   have hpl:=afg List.length hp
   simp only[ae4]at hpl
   refine Hw ?_
   simp only[rk,aeT,aeS]
   refine⟨fun _=>⟨_,_,rfl,Nh hR (by omega) q,?_⟩,fun h=>by omega⟩
   rintro d ⟨h1,h2⟩
   rw[h1,h2]
   cases hg:w.th.get q with
   |none=>exact⟨fun _=>leaf pre (by simpa [aQ.iu,hg]using hp),fun h=>by simp at h⟩
   |some x=>
    have hat:w.th.at q=x:=by simp[aQ.at,hg]
    have hx:x.ok:=by have:=ht.at q;rwa [hat]at this
    rw[hat]
    simp only[Wh.fA,Wh.kr,hx.wk,afY,agI,ae0,afc,afe,afL]
    have hw1:w.th.iu (m+1) q=q::(if eo x.k then w.th.iu m x.of else []):=by simp only[aQ.iu,hg]
    rw[hw1]at hp hpl
    simp only[ae9]at hpl
    refine⟨fun _=>⟨_,_,_,rfl,px x.k,?_⟩,fun h=>by simp[bg]at h;omega⟩
    rintro _ rfl
    simp only[D.cg,afu,afO]
    refine⟨fun hw=>?_,fun hw=>?_⟩
    ·rw[hw]at hp
     have:=leaf (pre++[q]) (by simpa using hp)
     simpa using this
    ·rw[aeZ hw]at hp
     have e:=ih (k+1) x.of (pre++[q]) (by omega) (by simpa using hp)
     rw[bL (by omega) (by omega)]
     simpa using e
 exact W4 (loop (w.th.length+1) 0 r [] rfl rfl)
theorem Ve (ht:w.th.ok)(h1:w.th.one)(hn:w.th.length<2^40)(ab:Int->Int)(hab:∀r x,w.th.get r=some x->x.k≠14->(∃n,w.th.nM n r=some (ab r))/\0<=ab r/\ab r<64):
 PH gp (pf R) (Rm R) 1 mz (fun d=>D.int d=q7 (w.th.ov ab) (w.th.map (·.1))):=by
 have hL:R.th.length=w.th.length:=by rw[hR.th];simp
 have loop:∀(rest:aQ) (i:Nat) (s:Int),w.th.drop i=rest->s+q7 (w.th.ov ab) (rest.map (·.1))=q7 (w.th.ov ab) (w.th.map (·.1))->-(i:Int)<=s->s<=63*i->
  aC pg gp [ah] (.bu 1 (mz (pf R) (Rm R)) (fun d=>D.int d=q7 (w.th.ov ab) (w.th.map (·.1)))) (oo R s i):=by
  intro rest
  induction rest with
  |nil=>
   intro i s hd hs b1 b2
   have:=drop_nil hd
   refine Dq ?_
   simp only[rk,hL]
   exact⟨fun h=>by simp at h;omega,fun _=>⟨rfl,CY (by simpa [q7]using hs)⟩⟩
  |cons p rest ih=>
   intro i s hd hs b1 b2
   obtain⟨g1,g2,g3⟩:=aI hd
   have hmem:=aeU g1
   have hp:=ht p hmem
   have hget:w.th.get p.1=some p.2:=(aQ.sA h1).2 hmem
   have hs2:q7 (w.th.ov ab) ((p::rest).map (·.1))=w.th.ov ab p.1+q7 (w.th.ov ab) (rest.map (·.1)):=rfl
   rw[hs2]at hs
   have hmb:=QI w.th ab p.1
   have hv:w.th.ov ab p.1=if p.2.k=14 then-1 else 2^JR (ab p.1).toNat-1:=by simp only[aQ.ov,hget]
   have e1:D.ae (.r [.z p.1,p.2.az]) 0= .z p.1:=rfl
   have e2:D.ae (.r [.z p.1,p.2.az]) 1=p.2.az:=rfl
   refine Dq ?_
   have hat:D.at R.th i= .r [.z p.1,p.2.az]:=by rw[hR.th];exact CL g1
   simp only[rk,hL,ae2,hat,aY g3,e1,e2,D.df,Wh.fA,hp.wk,afv,afd,agq]
   refine⟨fun _=>⟨fun _=>⟨fun _=>⟨fun hk=>?_,fun hk=>?_⟩,fun h=>by simp at h;omega⟩,fun h=>by simp at h⟩,fun h=>by simp at h;omega⟩
   ·rw[aeZ hk]at hv
    rw[bL (x:=s-1) (by omega) (by omega),bO g3 (n:=w.th.length) (by omega)]
    exact ih (i+1) (s-1) g2 (by omega) (by omega) (by omega)
   ·rw[aeX hk]at hv
    obtain⟨⟨m,hm⟩,a0,a1⟩:=hab p.1 p.2 hget hk
    refine⟨_,_,rfl,RF hR (by omega) ht m p.1 (ab p.1) hm,?_⟩
    ·intro d hd2
     rw[hd2]
     have inner:∀(a:Nat),a<64->∀(j:Nat),2^j*2^JR a=2^JR (ab p.1).toNat->j+JR a<=6->aC pg gp [ah] (.bu 1 (mz (pf R) (Rm R)) (fun d=>D.int d=q7 (w.th.ov ab) (w.th.map (·.1)))) (nw R a s i ((2^j:Nat):Int)):=by
      intro a
      induction a using Nat.strongRecOn with
      |_ a iha=>
       intro ha j hj hj6
       have hpw:∀j,j<=6->(2^j:Nat)<=64:=fun j hj=>by
        have:j=0\/j=1\/j=2\/j=3\/j=4\/j=5\/j=6:=by omega
        rcases this with rfl|rfl|rfl|rfl|rfl|rfl|rfl<;>decide
       have hj64:=hpw j (by omega)
       have hjI:((2^j:Nat):Int)<=64:=by exact_mod_cast hj64
       have hj0:0<=((2^j:Nat):Int):=Int.natCast_nonneg _
       refine GU ?_
       simp only[rk,aeT,aeS]
       refine⟨fun h=>?_,fun h=>?_⟩
       ·obtain⟨l1,l2,l3⟩:=ZF a ha (by omega)
        generalize IntKind.u8.wrap ((BitVec.ofInt 8 (a:Int) &&& BitVec.ofInt 8 (IntKind.u8.wrap ((a:Int)-1))).toNat:Int)=b at l1 l2 l3 ⊢
        have hb:b=(b.toNat:Int):=by omega
        have e:=iha b.toNat l1 (by omega) (j+1) (by rw[<-hj,<-l3,ahG,ahG];grind) (by omega)
        rw[bL (x:=2*((2^j:Nat):Int)) (by omega) (by omega)]
        have e5:(2*((2^j:Nat):Int))=((2^(j+1):Nat):Int):=by rw[ahG];omega
        rw[e5,hb]
        exact e
       ·have h0:a=0:=by omega
        subst h0
        have e6:2^j=2^JR (ab p.1).toNat:=by simpa [JR]using hj
        rw[e6]at hj64 ⊢
        have e7:(((2^JR (ab p.1).toNat:Nat):Int))=2^JR (ab p.1).toNat:=by simp
        rw[bL (x:=s+_) (by omega) (by omega),bL (by omega) (by omega),bO g3 (n:=w.th.length) (by omega)]
        exact ih (i+1) _ g2 (by omega) (by omega) (by omega)
     have e:=inner (ab p.1).toNat (by omega) 0 (by simp) (by have:=QY (ab p.1).toNat;omega)
     have e8:((ab p.1).toNat:Int)=ab p.1:=by omega
     rw[e8]at e
     exact e
 exact QN (loop w.th 0 0 rfl (by simp) (by omega) (by omega))
end
end
end Go.Proofs
end
