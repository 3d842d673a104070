import Derived.Test.YtdoajjnobfjkcaaGreatM23
set_option linter.all false
noncomputable section
open Go.IntKind renaming wrap→wp
namespace Go.Proofs
open Go Go.PB
namespace St
mutual
def aed:St->List St
 | .mk op nm sc ab wh a b th el co wi=> .mk op nm sc ab wh a b th el co wi::(bT th++bT el++bT co)
def bT:List St->List St
 | []=>[]
 |v::r=>aed v++bT r
end
def JS (v:St):v.aed=v::(bT v.th++bT v.el++bT v.co):=by cases v;rfl
def A9 (v:St)(r:List St):bT (v::r)=v.aed++bT r:=rfl
def MJ:bT []=[]:=rfl
def rj.of {s:St}(h:s.ok)(h2:s.esz<2^30):s.rj:=by
 have e:=s.xk
 have o:=(gL s).1 h
 exact⟨h,h2,by omega,o.2.2.2.2.2.2.2.2.2.2.2.2.2.2.2.2.2⟩
def Vg {l:List St}(h:Ag l)(hs:lv l<2^30):∀x∈bT l,x.rj:=by
 induction l using St.N1 with|h l ih=>
 have key:∀ah:List St,(∀x∈ah,x∈l)->lv ah<=lv l->∀x∈bT ah,x.rj:=by
  intro ah
  induction ah with
  |nil=>intro _ _ x hx;cases hx
  |cons v r ihr=>
   intro hm he x hx
   simp only[lv]at he
   have hv:=hm v (by simp)
   obtain⟨o1,o2,o3,_⟩:=h.th hv
   obtain⟨i1,i2,i3⟩:=ih v hv
   have e:=v.xk
   rw[A9,JS,ahd,ag9,ahd,ahd]at hx
   rcases hx with (rfl| (hx|hx)|hx)|hx
   ·exact rj.of (h.2 _ hv) (by omega)
   ·exact i1 o1 (by omega) x hx
   ·exact i2 o2 (by omega) x hx
   ·exact i3 o3 (by omega) x hx
   ·exact ihr (fun y hy=>hm y (by simp[hy])) (by omega) x hx
 exact key l (fun x hx=>hx) (aho _)
end St
def kf:Int->List St->Option (Int×Int)
 |_,[]=>none
 |n,s::r=>if n=512 then some (512,4)else if s.CV=false then some (n,160)else kf (n+1) r
def HC (n:Int)(a b:List St):kf n (a++b)=match kf n a with|some x=>some x|none=>kf (n+a.length) b:=by
 induction a generalizing n with
 |nil=>simp[kf]
 |cons s r ih=>
  simp only[aia,kf]
  by_cases h:n=512
  ·simp[h]
  ·by_cases h2:s.CV=false
   ·simp[h,h2]
   ·rw[ag4 h,ag4 h2,ag4 h,ag4 h2,ih (n+1)]
    rw[show n+1+(r.length:Int)=n+((s::r).length:Nat)by simp;omega]
def TP {n:Int}{l:List St}(h:kf n l=none)(hn:n<=512):n+l.length<=512:=by
 induction l generalizing n with
 |nil=>simpa using hn
 |cons s r ih=>
  simp only[kf]at h
  by_cases h1:n=512
  ·simp[h1]at h
  ·rw[ag4 h1]at h
   by_cases h2:s.CV=false
   ·simp[h2]at h
   ·rw[ag4 h2]at h
    have:=ih h (by omega)
    simp only[ahv];omega
def Rt (l:List St)(n a:Int)(b:Bool)(n' a' e':Int):Prop:=match kf n l with
 |none=>b=true/\n'=n+l.length/\a'=a/\e'=0
 |some (p,e)=>b=false/\a'=p/\e'=e
def aek (l:List St):∀(dp n a:Int),0<=n->n<=512->St.Ag l->St.lv l<2^30->
 PH jd (tM (l.map St.ax) dp n a 0) (tQ (l.map St.ax) dp n a 0) 3 oY
  (fun d=>Rt (St.bT l) n a (d.aa 0).bool (d.aa 1).int (d.aa 2).int (d.aa 3).int):=by
 induction l using St.N1 with|h l ih=>
 intro dp n a h0 h1 hl hs
 have leaf:∀(F:List St) (n' a':Int) (b:Bool) (m1 m2 m3:Int),Rt F n' a' b m1 m2 m3->∃d,T.dy (BV.bool b,[(0,aI.cells [.int .i64 m1] af false),(1,aI.cells [.int .i64 m2] af false),(2,aI.cells [.int .i64 m3] aM false)]) (oY (tM (l.map St.ax) dp n a 0) (tQ (l.map St.ax) dp n a 0) d)/\Rt F n' a' (d.aa 0).bool (d.aa 1).int (d.aa 2).int (d.aa 3).int:=
  fun F n' a' b m1 m2 m3 h=>⟨.r [.b b,.z m1,.z m2,.z m3],.ret,h⟩
 have key:∀(ah:List St) (i:Nat) (m:Int),l.drop i=ah->0<=m->m<=512->
  ay pg jd [ai] (.bx 3 (oY (tM (l.map St.ax) dp n a 0) (tQ (l.map St.ax) dp n a 0)) (fun d=>Rt (St.bT ah) m a (d.aa 0).bool (d.aa 1).int (d.aa 2).int (d.aa 3).int)) (yz (l.map St.ax) dp n a 0 i m a 0):=by
  intro ah
  induction ah with
  |nil=>
   intro i m hd m0 m1
   have:=drop_nil hd
   refine I6 ?_
   simp only[rk,agV,agW,agX]
   exact⟨fun h=>by omega,fun _=>⟨rfl,leaf _ _ _ _ _ _ _ (by simp[Rt,St.bT,kf])⟩⟩
  |cons x ah ihr=>
   intro i m hd m0 m1
   obtain⟨g1,g2,g3⟩:=aB hd
   have hx:=agY g1
   obtain⟨o1,o2,o3,_⟩:=hl.th hx
   obtain⟨i1,i2,i3⟩:=ih x hx
   have hxe:=x.xk
   have hxm:=St.DX hx
   have hgood:=St.rj.of (hl.2 x hx) (by omega)
   have hF:St.bT (x::ah)=x::(St.bT x.th++St.bT x.el++St.bT x.co++St.bT ah):=by rw[St.A9,St.JS];rfl
   refine I6 ?_
   simp only[rk,agV,ag6,bn g1,aU g3,St.re,St.kQ,St.CC,St.iI,aht,ahe,aic,agW,agX,ahl,ahq]
   rw[bO (x:=m+1) (by omega) (by omega)]
   refine⟨fun _=>⟨fun _=>⟨fun h=>by omega,fun _=>⟨fun h=>?_,fun hm=>⟨_,_,_,rfl,afR x hgood,?_⟩⟩⟩,fun h=>by simp at h⟩,fun h=>by omega⟩
   ·refine⟨rfl,leaf _ _ _ _ _ _ _ ?_⟩
    rw[hF];simp[Rt,kf,h]
   rintro _ rfl
   rw[x.abE]
   simp only[D.bz]
   refine⟨fun h=>⟨rfl,leaf _ _ _ _ _ _ _ ?_⟩,fun h=>⟨fun h=>absurd trivial h,fun _=>?_⟩⟩
   ·rw[hF];simp[Rt,kf,hm,h]
   have hsc:∀(b:Bool) (n' a' e':Int),Rt (St.bT (x::ah)) m a b n' a' e'↔Rt (St.bT x.th++St.bT x.el++St.bT x.co++St.bT ah) (m+1) a b n' a' e':=by
    intro b n' a' e'
    have hm':¬m=512:=hm
    have h':¬x.CV=false:=by rw[h];simp
    rw[hF];unfold Rt;simp only[kf,hm',h',ahN]
    cases kf (m+1) (St.bT x.th++St.bT x.el++St.bT x.co++St.bT ah)with
    |none=>
     simp only[ahv]
     exact⟨fun g=>⟨g.1,by have:=g.2.1;omega,g.2.2⟩,fun g=>⟨g.1,by have:=g.2.1;omega,g.2.2⟩⟩
    |some p=>rfl
   have inner:∀(q:Nat) (blocks:List (List St)) (m2:Int) (j:Nat),j+blocks.length=3->([x.th,x.el,x.co]:List (List St)).drop j=blocks->0<=m2->m2<=512->
    ay pg jd [ai] (.bx 3 (oY (tM (l.map St.ax) dp n a 0) (tQ (l.map St.ax) dp n a 0)) (fun d=>Rt ((blocks.map St.bT).flatten++St.bT ah) m2 a (d.aa 0).bool (d.aa 1).int (d.aa 2).int (d.aa 3).int)) (rz (l.map St.ax) dp n a 0 j m2 a 0 i [.r (x.th.map St.ax),.r (x.el.map St.ax),.r (x.co.map St.ax)]):=by
    intro q blocks
    induction blocks with
    |nil=>
     intro m2 j hj hb p0 p1
     have hj:j=3:=by simpa using hj
     subst hj
     refine C2 ?_
     simp only[rk,agW,agX]
     refine⟨fun h=>by omega,fun _=>?_⟩
     rw[bo g3 hl.1]
     exact ihr (i+1) m2 g2 p0 p1
    |cons bk bs ihb=>
     intro m2 j hj hb p0 p1
     simp only[ahv]at hj
     have hj3:j<3:=by omega
     obtain⟨b1,b2,b3⟩:=aB hb
     have hbk:∀(dp2:Int),PH jd (tM (bk.map St.ax) dp2 m2 a 0) (tQ (bk.map St.ax) dp2 m2 a 0) 3 oY (fun d=>Rt (St.bT bk) m2 a (d.aa 0).bool (d.aa 1).int (d.aa 2).int (d.aa 3).int):=by
      intro dp2
      rcases j with _|_|_|j
      ·simp only[ail,ahi]at b1;subst b1;exact i1 dp2 m2 a p0 p1 o1 (by omega)
      ·simp only[ah2,aik,ail,ahi]at b1;subst b1;exact i2 dp2 m2 a p0 p1 o2 (by omega)
      ·simp only[ah2,Nat.reduceAdd,aik,ail,ahi]at b1;subst b1;exact i3 dp2 m2 a p0 p1 o3 (by omega)
      ·omega
     have hat:D.ae (D.at [.r (x.th.map St.ax),.r (x.el.map St.ax),.r (x.co.map St.ax)] j)=bk.map St.ax:=by
      rcases j with _|_|_|j
      ·simp only[ail,ahi]at b1;subst b1;rfl
      ·simp only[ah2,aik,ail,ahi]at b1;subst b1;rfl
      ·simp only[ah2,Nat.reduceAdd,aik,ail,ahi]at b1;subst b1;rfl
      ·omega
     refine C2 ?_
     simp only[rk,ag6,hat,aU hj3,ahv,aix,agW,agX,ahl,ahq]
     refine⟨fun _=>⟨fun _=>⟨fun _=>⟨_,_,rfl,hbk _,?_⟩,fun h=>by omega⟩,fun h=>by simp at h⟩,fun h=>by omega⟩
     intro d hq
     have hfl:((bk::bs).map St.bT).flatten++St.bT ah=St.bT bk++((bs.map St.bT).flatten++St.bT ah):=by simp
     rw[hfl]
     simp only[Rt]at hq
     cases hsb:kf m2 (St.bT bk)with
     |some p=>
      rw[hsb]at hq
      obtain⟨q1,q2,q3⟩:=hq
      refine⟨fun _=>⟨rfl,leaf _ _ _ _ _ _ _ ?_⟩,fun h=>by rw[q1]at h;cases h⟩
      simp only[Rt,HC,hsb]
      exact⟨trivial,q2,q3⟩
     |none=>
      rw[hsb]at hq
      obtain⟨q1,q2,q3,q4⟩:=hq
      have hle:=TP hsb p1
      refine⟨fun h=>(by rw[q1]at h;cases h),fun _=>?_⟩
      rw[q2,q3,q4,bo hj3 (by omega)]
      have e:=ihb (m2+(St.bT bk).length) (j+1) (by omega) b2 (by omega) hle
      refine e.xA fun d hd=>?_
      unfold Rt at hd ⊢
      rw[HC,hsb]
      simp only
      cases hs2:kf (m2+((St.bT bk).length:Int)) ((bs.map St.bT).flatten++St.bT ah)with
      |some p=>rw[hs2]at hd;exact hd
      |none=>
       rw[hs2]at hd
       refine⟨hd.1,?_,hd.2.2⟩
       rw[hd.2.1];simp only[ahc];omega
   have e:=inner 0 [x.th,x.el,x.co] (m+1) 0 rfl rfl (by omega) (by omega)
   refine e.xA fun d hd=>?_
   rw[hsc]
   simpa [aij]using hd
 exact Zb (key l 0 n rfl h0 h1)
def Pl (l:List St):Int×Int:=(kf 0 (St.bT l)).getD (0,0)
def aby (l:List St)(hl:St.Ag l)(hs:St.lv l<2^30):fk pg zW [bK] [.r (l.map St.ax)] [af,aM] (·= .r [.z (Pl l).1,.z (Pl l).2]):=by
 refine VX ?_
 simp only[rk,D.bE]
 refine⟨_,_,rfl,aek l 0 0 0 (by omega) (by omega) hl hs,?_⟩
 intro d hd
 unfold Rt at hd
 unfold Pl
 cases h:kf 0 (St.bT l)with
 |none=>rw[h]at hd;rw[hd.2.2.1,hd.2.2.2];rfl
 |some p=>rw[h]at hd;rw[hd.2.1,hd.2.2];rfl
def abz (l:List St)(hl:St.Ag l)(hs:St.lv l<2^30):fk pg zX [bK] [.r (l.map St.ax)] [aM] (·= .z (Pl l).2):=by
 refine VY ?_
 simp only[rk,D.bE]
 refine⟨_,_,_,rfl,aby l hl hs,?_⟩
 rintro _ rfl
 rfl
def yG (l:List St):Bool:=(Pl l).2==0
def afQ (l:List St)(hl:St.Ag l)(hs:St.lv l<2^30):fk pg GB [bK] [.r (l.map St.ax)] [ai] (·= .b (yG l)):=by
 refine abW ?_
 simp only[rk,D.bE]
 refine⟨_,_,_,rfl,abz l hl hs,?_⟩
 rintro _ rfl
 rfl
def oA (l:List D):List D:=l.map fun r=>D.aa r 2
def hI {α:Type}(n:Nat)(a b:List α):((a.take n)++b).take n=(a++b).take n:=by
 by_cases h:n<=a.length
 ·rw[aie (by simp;omega),aie h,ajW,Nat.min_self]
 ·rw[ag5 (by omega:a.length<=n)]
def Ld (l:List St):∀(dp:Int) (rT:Bool) (w:List D),w.length<=513->l.length<2^62->(∀x∈St.bT l,x.th.length<2^62/\x.el.length<2^62/\x.co.length<2^62)->
 PH df (sa (l.map St.ax) dp rT w) (AG (l.map St.ax) dp rT w) 0 kH
  (fun d=>oA (D.ae d)=(oA w++(St.bT l).map St.ax).take 513):=by
 induction l using St.N1 with|h l ih=>
 intro dp rT w hw hl hf
 have key:∀(ah:List St) (i:Nat) (cur:List D),l.drop i=ah->cur.length<=513->(∀x∈St.bT ah,x.th.length<2^62/\x.el.length<2^62/\x.co.length<2^62)->
  ay pg df [cM] (.bx 0 (kH (sa (l.map St.ax) dp rT w) (AG (l.map St.ax) dp rT w)) (fun d=>oA (D.ae d)=(oA cur++(St.bT ah).map St.ax).take 513)) (tq (l.map St.ax) dp rT w cur.length i cur):=by
  intro ah
  induction ah with
  |nil=>
   intro i cur hd hc hf
   have:=drop_nil hd
   refine EM ?_
   simp only[rk,agV,agW,agX]
   refine⟨fun h=>by omega,fun _=>⟨rfl,.r cur,.ret,?_⟩⟩
   simp only[D.bE,St.MJ,ajp,ahM]
   rw[ag5 (by simp[oA];exact hc)]
  |cons x ah ihr=>
   intro i cur hd hc hf
   obtain⟨g1,g2,g3⟩:=aB hd
   have hx:=agY g1
   obtain⟨i1,i2,i3⟩:=ih x hx
   have hF:St.bT (x::ah)=x::(St.bT x.th++St.bT x.el++St.bT x.co++St.bT ah):=by rw[St.A9,St.JS];rfl
   rw[hF]at hf ⊢
   have hfx:=hf x (by simp)
   have f1:∀y∈St.bT x.th,_:=fun y hy=>hf y (by simp[hy])
   have f2:∀y∈St.bT x.el,_:=fun y hy=>hf y (by simp[hy])
   have f3:∀y∈St.bT x.co,_:=fun y hy=>hf y (by simp[hy])
   have f4:∀y∈St.bT ah,_:=fun y hy=>hf y (by simp[hy])
   refine EM ?_
   simp only[rk,agV,ag6,bn g1,aU g3,St.re,St.kQ,St.CC,St.iI,agW,agX,ag2,ai9]
   refine⟨fun _=>⟨fun h5=>⟨fun _=>⟨fun _=>?_,fun h=>?_⟩,fun h=>by simp at h⟩,fun h5=>⟨rfl,.r cur,.ret,?_⟩⟩,fun h=>by omega⟩
   ·have hc5:cur.length<=512:=by omega
    have e0:∀(ll:List D),ll.length<=513->∀d:D,oA (D.ae d)=ll.take 513->(D.ae d).length<=513:=fun ll _ d h=>by
     have:=ahE List.length h
     simp only[oA,agV,ahx]at this
     omega
    have len:∀(ll:List D) (d:D),oA (D.ae d)=ll.take 513->(D.ae d).length<=513:=fun ll d h=>by
     have:=ahE List.length h
     simp only[oA,agV,ahx]at this
     omega
    have w1:(cur++[D.r [D.z dp,D.b rT,x.ax]]).length=cur.length+1:=by simp
    have c1:=i1 (wp .i64 (dp+1)) rT (cur++[.r [.z dp,.b rT,x.ax]]) (by omega) hfx.1 f1
    simp only[sa,w1]at c1
    refine⟨_,_,rfl,c1,?_⟩
    intro d0 h0
    refine⟨_,_,rfl,i2 _ rT _ (len _ _ h0) hfx.2.1 f2,?_⟩
    intro d1 h1
    refine⟨_,_,rfl,i3 _ true _ (len _ _ h1) hfx.2.2 f3,?_⟩
    intro d2 h2
    rw[bo g3 (by omega)]
    refine(ihr (i+1) (D.ae d2) g2 (len _ _ h2) f4).xA fun d hd=>?_
    rw[hd,h2,hI,h1,aij,hI,h0,aij,aij,hI]
    congr 1
    have:oA (cur++[.r [.z dp,.b rT,x.ax]])=oA cur++[x.ax]:=by simp[oA,D.aa,D.at]
    rw[this]
    simp
   ·rcases h with h|h
    ·exact absurd trivial h
    ·simp[aO]at h;omega
   ·have h6:cur.length=513:=by omega
    simp only[D.bE]
    rw[aie (by simp[oA];omega),ag5 (by simp[oA];omega)]
 exact SS (key l 0 w rfl hw hf)
def Td (l:List St)(dp:Int)(rT:Bool)(hl:l.length<2^62)(hf:∀x∈St.bT l,x.th.length<2^62/\x.el.length<2^62/\x.co.length<2^62):
 PH df (s7 (l.map St.ax) dp rT) [] 0 kH
  (fun d=>(d.aa 0).bool=false/\oA (d.aa 1).ae=((St.bT l).map St.ax).take 513):=by
 have key:∀(ah:List St) (i:Nat) (cur:List D),l.drop i=ah->cur.length<=513->(∀x∈St.bT ah,x.th.length<2^62/\x.el.length<2^62/\x.co.length<2^62)->
  ay pg pf [cM] (.bx 0 (y9 (s7 (l.map St.ax) dp rT) []) (fun d=>(d.aa 0).bool=false/\oA (d.aa 1).ae=(oA cur++(St.bT ah).map St.ax).take 513)) (oe (l.map St.ax) dp rT cur.length i cur):=by
  intro ah
  induction ah with
  |nil=>
   intro i cur hd hc hf
   have:=drop_nil hd
   refine Am ?_
   simp only[rk,agV,agW,agX]
   refine⟨fun h=>by omega,fun _=>⟨rfl,.r [.b false,.r cur],.ff rfl .ret,rfl,?_⟩⟩
   show oA cur=_
   simp only[St.MJ,ajp,ahM]
   rw[ag5 (by simp[oA];exact hc)]
  |cons x ah ihr=>
   intro i cur hd hc hf
   obtain⟨g1,g2,g3⟩:=aB hd
   have hx:=agY g1
   obtain⟨i1,i2,i3⟩:_/\_/\_:=⟨Ld x.th,Ld x.el,Ld x.co⟩
   have hF:St.bT (x::ah)=x::(St.bT x.th++St.bT x.el++St.bT x.co++St.bT ah):=by rw[St.A9,St.JS];rfl
   rw[hF]at hf ⊢
   have hfx:=hf x (by simp)
   have f1:∀y∈St.bT x.th,_:=fun y hy=>hf y (by simp[hy])
   have f2:∀y∈St.bT x.el,_:=fun y hy=>hf y (by simp[hy])
   have f3:∀y∈St.bT x.co,_:=fun y hy=>hf y (by simp[hy])
   have f4:∀y∈St.bT ah,_:=fun y hy=>hf y (by simp[hy])
   refine Am ?_
   simp only[rk,agV,ag6,bn g1,aU g3,St.re,St.kQ,St.CC,St.iI,agW,agX,ag2,ai9]
   refine⟨fun _=>⟨fun h5=>⟨fun _=>⟨fun _=>?_,fun h=>?_⟩,fun h=>by simp at h⟩,fun h5=>⟨rfl,.r [.b false,.r cur],.ff rfl .ret,rfl,?_⟩⟩,fun h=>by omega⟩
   ·have hc5:cur.length<=512:=by omega
    have e0:∀(ll:List D),ll.length<=513->∀d:D,oA (D.ae d)=ll.take 513->(D.ae d).length<=513:=fun ll _ d h=>by
     have:=ahE List.length h
     simp only[oA,agV,ahx]at this
     omega
    have len:∀(ll:List D) (d:D),oA (D.ae d)=ll.take 513->(D.ae d).length<=513:=fun ll d h=>by
     have:=ahE List.length h
     simp only[oA,agV,ahx]at this
     omega
    have w1:(cur++[D.r [D.z dp,D.b rT,x.ax]]).length=cur.length+1:=by simp
    have c1:=i1 (wp .i64 (dp+1)) rT (cur++[.r [.z dp,.b rT,x.ax]]) (by omega) hfx.1 f1
    simp only[sa,w1]at c1
    refine⟨_,_,rfl,c1,?_⟩
    intro d0 h0
    refine⟨_,_,rfl,i2 _ rT _ (len _ _ h0) hfx.2.1 f2,?_⟩
    intro d1 h1
    refine⟨_,_,rfl,i3 _ true _ (len _ _ h1) hfx.2.2 f3,?_⟩
    intro d2 h2
    rw[bo g3 (by omega)]
    refine(ihr (i+1) (D.ae d2) g2 (len _ _ h2) f4).xA fun d hd=>⟨hd.1,?_⟩
    rw[hd.2,h2,hI,h1,aij,hI,h0,aij,aij,hI]
    congr 1
    have:oA (cur++[.r [.z dp,.b rT,x.ax]])=oA cur++[x.ax]:=by simp[oA,D.aa,D.at]
    rw[this]
    simp
   ·rcases h with h|h
    ·exact absurd trivial h
    ·simp[aO]at h;omega
   ·have h6:cur.length=513:=by omega
    show oA cur=_
    rw[aie (by simp[oA];omega),ag5 (by simp[oA];omega)]
 have e:=key l 0 [] rfl (by simp) hf
 simp only[oA,ajp,aiE]at e
 exact LQ e
def Zx (l:List St)(hl:l.length<2^62)(hf:∀x∈St.bT l,x.th.length<2^62/\x.el.length<2^62/\x.co.length<2^62):fk pg xn [bK] [.r (l.map St.ax)] [cM] (fun d=>d= .r (D.ae d)/\oA (D.ae d)=((St.bT l).map St.ax).take 513):=by
 refine SN ?_
 simp only[rk,D.bE]
 refine⟨_,_,rfl,Td l 0 false hl hf,?_⟩
 rintro d ⟨h1,h2⟩
 refine⟨fun h=>(by rw[h1]at h;cases h),fun _=>⟨fun _=>⟨trivial,h2⟩,fun h=>by simp at h⟩⟩
def Wv (l:List St)(hl:St.Ag l)(hs:St.lv l<2^30):fk pg ku [bK] [.r (l.map St.ax)] [af,aM] (·= .r [.z (Pl l).1,.z (Pl l).2]):=by
 have hgood:=St.Vg hl hs
 have hlen:=St.ue l
 refine Qi ?_
 simp only[rk,D.bE]
 refine⟨_,_,_,rfl,Zx l (by omega) (fun x hx=>by have:=(hgood x hx).Yw;omega),?_⟩
 rintro d ⟨_,hd⟩
 generalize D.ae d=ak at hd
 have hfl:ak.length=min 513 (St.bT l).length:=by
  have:=ahE List.length hd
  simpa [oA]using this
 have hat:∀i (h:i<(St.bT l).length),i<ak.length->D.aa (D.at ak i) 2=(St.bT l)[i].ax:=fun i h h2=>by
  have e1:(oA ak)[i]?=some (D.aa (D.at ak i) 2):=by simp[oA,D.at,List.getD,h2]
  rw[hd,aiJ (by omega)]at e1
  simp[h]at e1
  exact e1.symm
 generalize hF:St.bT l=F at hgood hfl hat
 have key:∀(m i:Nat),m+i=min 512 F.length->kf 0 F=kf i (F.drop i)->ay pg ku [af,aM] (.dQ (·= .r [.z (Pl l).1,.z (Pl l).2])) (rA (.r (l.map St.ax)) ak i):=by
  intro m
  induction m with
  |zero=>
   intro i hi hw
   refine C4 ?_
   have c1:∀h:i<512,kf 0 F=none:=fun h=>by
    rw[hw,akc (by omega)];rfl
   have c2:ak.length>512->kf 0 F=some (512,4):=fun h=>by
    rw[hw,aiG (by omega)]
    simp only[kf]
    rw[ag8 (by omega)]
   have c3:¬ak.length>512->kf 0 F=none:=fun h=>by
    rw[hw,akc (by omega)];rfl
   have e:Pl l=(kf 0 F).getD (0,0):=by unfold Pl;rw[hF]
   have tl:((((ak.length:Nat):Int)>512)->(D.r [D.z 512,D.z 4])= .r [.z (Pl l).1,.z (Pl l).2])/\(¬(((ak.length:Nat):Int)>512)->(D.r [D.z 0,D.z 0])= .r [.z (Pl l).1,.z (Pl l).2]):=
    ⟨fun h=>by rw[e,c2 (by omega)];rfl,fun h=>by rw[e,c3 (by omega)];rfl⟩
   simp only[rk,agW,agX]
   refine⟨fun h=>⟨fun h2=>by omega,fun h2=>tl⟩,fun h=>tl⟩
  |succ m ih=>
   intro i hi hw
   have hi2:i<F.length:=by omega
   have hi3:i<ak.length:=by omega
   have hg:=hgood F[i] (ajo hi2)
   have e:Pl l=(kf 0 F).getD (0,0):=by unfold Pl;rw[hF]
   rw[aiG hi2]at hw
   simp only[kf]at hw
   rw[ag4 (by omega)]at hw
   refine C4 ?_
   simp only[rk,ag6,hat i hi2 hi3,aU hi3,St.re,agW,agX,ahl,ahq]
   refine⟨fun _=>⟨fun _=>⟨fun _=>⟨_,_,_,rfl,Zw _ hg,?_⟩,fun h=>by simp at h⟩,fun h=>by omega⟩,fun h=>by omega⟩
   rintro _ rfl
   simp only[D.bz]
   refine⟨fun h=>?_,fun h=>?_⟩
   ·rw[ag8 h]at hw
    rw[e,hw];rfl
   ·rw[bo hi3 (by omega)]
    rw[ag4 (by rw[h];simp)]at hw
    exact ih (i+1) (by omega) hw
 exact key (min 512 F.length) 0 (by omega) rfl
def ab6 (l:List St)(hl:St.Ag l)(hs:St.lv l<2^30):fk pg zZ [bK] [.r (l.map St.ax)] [ai] (·= .b (yG l)):=by
 refine V1 ?_
 simp only[rk,D.bE]
 refine⟨_,_,_,rfl,Wv l hl hs,?_⟩
 rintro _ rfl
 rfl
section
abbrev j9 (l:List Int)(v:D):List (D×D):=l.map fun r=>(D.z r,v)
def PZ (l:List Int)(v:D)(r:Int):D.ep (j9 l v) (.z r)=if r∈l then some v else none:=by
 induction l with
 |nil=>rfl
 |cons a q ih=>
  simp only[j9,ahJ,D.Iq,D.Ui]
  by_cases h:a=r
  ·simp[h]
  ·simp only[h,ahj,ag9,Ne.symm h,akO];exact ih
@[simp] def gC (l:List Int)(v:D)(r:Int):D.cS (j9 l v) (.z r)=decide (r∈l):=by
 simp only[D.cS,PZ];by_cases h:r∈l<;>simp[h]
def rM {l:List Int}{r:Int}(v:D)(h:r∈l):D.val (j9 l v) (.z r)=v:=by simp[D.val,PZ,h]
def D5 (l:List Int)(v:D)(r:Int):j9 l v++[(.z r,v)]=j9 (l++[r]) v:=by simp[j9]
def KR {m:List (D×D)}{k v:D}(h:D.cS m k=true):D.cS (D.fE m k v) k=true:=by
 have:=D.ny (v:=v) m h
 simp[D.cS,this]
def KS {m:List (D×D)}{k v:D}(h:D.cS m k=true):D.val (D.fE m k v) k=v:=by
 have:=D.ny (v:=v) m h
 simp[D.val,this]
structure Su.vx (s:Su):Prop where
 ok:s.ok
 co:St.lv s.co<2^30
 ns:s.ns.length<2^30
 se:s.se.length<2^30
 sz:∀n∈s.ns,n.v.size<2^30
 nz:aE.bB (s.ns.map ga.v)+1<2^30
def Wl.xw (x:Wl)(s:Su)(r:Int):Bool:=(x.an.get r).isSome&&decide (r∈s.se)
def Wl.cN (x:Wl)(s:Su):Bool:=
 decide (0<=s.si/\s.si<=x.pa.length)&&yG s.co&&dk s.ns&&(decide s.se.Nodup&&s.se.all fun r=>decide (1<=r/\r<=x.la))&&s.ns.all fun n=>n.v.dt.all (x.xw s)
def Wl.cW (x:Wl)(s:Su):x.cN s=true↔(0<=s.si/\s.si<=x.pa.length)/\yG s.co=true/\dk s.ns=true/\(s.se.Nodup/\∀r∈s.se,1<=r/\r<=x.la)/\∀n∈s.ns,∀r∈n.v.dt,x.xw s r=true:=by
 simp only[Wl.cN,ag2,agW,ahG,aj9]
def Bm {l:List ga}(h:dk l=true):∀n∈l,n.v.cN=true:=fun n hn=>by
 simp only[dk,ag2,ahG]at h
 exact(h.1.2 n hn).2
def aE.Sz {v:aE}(h:v.cN=true):v.eK=true:=by simp only[aE.cN,ag2]at h;exact h.2
def I2 {l:List Int}{i:Nat}{a:Int}(h:l[i]?=some a)(hn:l.Nodup):a∉l.take i:=by
 intro hm
 obtain⟨j,hj⟩:=akj.1 hm
 have hj2:=(aha.1 hj).1
 rw[ahx]at hj2
 rw[ahL,ag8 (by omega)]at hj
 have hi:=(aha.1 h).1
 have h1:l[i]?=l[j]?:=by rw[h,hj]
 have:=(aje hi hn).1 h1
 omega
def GZ {l:List Int}{i:Nat}{a:Int}(h:l[i]?=some a)(hm:a∈l.take i):¬l.Nodup:=fun hn=>I2 h hn hm
section
variable {W:WS} {w:Wo} (hW:zC W w)
include hW
theorem aeB (h:w.ma.length≠0):PH CH (O3 W) (Wm W) 3 Kc (fun d=>D.bool d=false):=by
 refine Zj ?_
 simp only[rk]
 refine⟨_,_,rfl,xY hW,?_⟩
 intro d hd
 exact⟨rfl,vP (by rw[hd];exact beq_false_of_ne (by omega))⟩
theorem aeC (s:Int):PH CI (O4 W s) (Wm W) 3 Kd (fun d=>D.bool d=decide (0<=s/\s<w.ma.length)):=by
 refine Zk ?_
 simp only[rk,agW,agX]
 refine⟨fun h=>⟨_,_,rfl,xY hW,?_⟩,fun h=>⟨rfl,vP (by simp;omega)⟩⟩
 intro d hd
 exact⟨rfl,vP (by rw[hd];simp;omega)⟩
end
section
variable {W:WS} {R:RS} {x:Wl} {f:gX} (hi:x.OU) (hla:∀e∈x.th,e.r<=x.la)
include hi hla
theorem acr (hW:zC W (x.wo f))(s:Su)(hs:s.vx):PH eS (jJ W s.ax) (Wm W) 3 iK (fun d=>D.int d=if x.cN s then 0 else 190):=by
 have hok:=hs.ok
 have hns:=hs.ns
 have hse:=hs.se
 have hisla:∀r,(x.an.get r).isSome=true->r<=x.la:=fun r h=>by
  obtain⟨y,hy⟩:=ahw.1 h
  have:=aV.np hy
  simp only[Wl.an,ahp]at this
  obtain⟨e,he,h1⟩:=this
  cases h1;exact hla e he
 have no:¬x.cN s=true->jS.bx=some 3/\∃d,T.dy (BV.int .i64 190,Wm W) (iK (jJ W s.ax) (Wm W) d)/\D.int d=if x.cN s then 0 else 190:=fun h=>⟨rfl,B3 (by rw[ag4 h])⟩
 have is:=fun r=>Co hW r
 have loop3:∀(n:ga) (j:Nat) (st:List Nat) (c:Nat),s.ns[j]?=some n->j<s.ns.length->n.v.dt.length<2^40->
  ((∀r∈n.v.dt,x.xw s r=true)->ay pg eS [aM] (.bx 3 (iK (jJ W s.ax) (Wm W)) (fun d=>D.int d=if x.cN s then 0 else 190)) (pC W s.ax (j9 s.se (.z 1)) st c ((j+1:Nat):Int)))->
  ∀(ah:List Int) (i:Nat),n.v.dt.drop i=ah->(∀r∈n.v.dt.take i,x.xw s r=true)->
  ay pg eS [aM] (.bx 3 (iK (jJ W s.ax) (Wm W)) (fun d=>D.int d=if x.cN s then 0 else 190)) (oq W s.ax n.v.dt.length n.v.dt.length (aw n.v.dt) (j9 s.se (.z 1)) st c i j):=by
  intro n j st c hj hjl hrl done ah
  induction ah with
  |nil=>
   intro i hd hall
   have hil:=drop_nil hd
   rw[ag5 hil]at hall
   refine Au ?_
   have hn:¬(i:Int)<(n.v.dt.length:Int):=by omega
   simp only[rk,hn,ahj,agZ,ag1,ag3,ahk,bo hjl (by omega)]
   exact done hall
  |cons a ah ih=>
   intro i hd hall
   obtain⟨g1,g2,g3⟩:=aB hd
   refine Au ?_
   have hcl:(i:Int)<(n.v.dt.length:Int):=by omega
   have hat:D.at (aw n.v.dt) i= .z a:=bn g1
   simp only[rk,hcl,hat,aU g3,D.bV,ag6,agV,g3,ahg,ag3,ag0,ag1,ahf,gC,bo g3 (by omega)]
   refine⟨_,_,rfl,is a,?_⟩
   intro d hd
   rw[hd]
   have bad:x.xw s a=false->¬x.cN s=true:=fun hh hm=>by
    have:=((x.cW s).1 hm).2.2.2.2 n (agY hj) a (agY g1)
    rw[hh]at this;cases this
   refine⟨fun h=>no (bad ?_),fun h=>⟨fun h2=>⟨fun h3=>?_,fun h3=>?_⟩,fun h2=>no (bad ?_)⟩⟩
   ·simp only[Wl.xw];simp at h;simp[h]
   ·rw[rM _ (by simpa using h2)]at h3;simp at h3
   ·refine ih (i+1) g2 fun r hr=>?_
    rw[aQ g1]at hr
    rcases ahd.1 hr with hr|hr
    ·exact hall r hr
    ·rw[ahb]at hr;subst hr
     simp at h h2
     simp[Wl.xw,h,h2]
   ·simp only[Wl.xw];simp at h2;simp[h2]
 have loop2:∀(ah:List ga) (j:Nat) (st:List Nat) (c:Nat),(0<=s.si/\s.si<=x.pa.length)->yG s.co=true->dk s.ns=true->(s.se.Nodup/\∀r∈s.se,1<=r/\r<=x.la)->s.ns.drop j=ah->(∀n∈s.ns.take j,∀r∈n.v.dt,x.xw s r=true)->
  ay pg eS [aM] (.bx 3 (iK (jJ W s.ax) (Wm W)) (fun d=>D.int d=if x.cN s then 0 else 190)) (pC W s.ax (j9 s.se (.z 1)) st c j):=by
  intro ah
  induction ah with
  |nil=>
   intro j st c k1 k2 k3 k4 hd hall
   have hil:=drop_nil hd
   rw[ag5 hil]at hall
   refine E4 ?_
   have hn:¬(j:Int)<(s.ns.length:Int):=by omega
   simp only[rk,Su.fv,agV,hn,ahj,agZ,ag1,ag3,ahk]
   exact⟨rfl,B3 (by rw[ag8 ((x.cW s).2 ⟨k1,k2,k3,k4,hall⟩)])⟩
  |cons n ah ih=>
   intro j st c k1 k2 k3 k4 hd hall
   obtain⟨g1,g2,g3⟩:=aB hd
   have hm:=agY g1
   refine E4 ?_
   have hcl:(j:Int)<(s.ns.length:Int):=by omega
   have hat:D.at (s.ns.map ga.ax) j=n.ax:=bn g1
   have hvm:=Bm k3 n hm
   simp only[rk,Su.fv,agV,hcl,hat,ga.mI,aU g3,ag6,ahg,ag3,ag0,ag1,ahf]
   refine⟨_,_,rfl,FG n.v (hok.2.2.2.2.2.1 n hm).2,?_⟩
   intro d hd
   rw[ag8 hvm]at hd
   rw[hd]
   have hrl:n.v.dt.length<2^40:=by
    have:=aE.Av n.v;have:=hs.sz n hm;omega
   simp only[agV]
   refine loop3 n j st c g1 g3 hrl (fun hh=>ih (j+1) st c k1 k2 k3 k4 g2 fun n' hn'=>?_) n.v.dt 0 rfl (by simp)
   rw[aQ g1]at hn'
   rcases ahd.1 hn' with hn'|hn'
   ·exact hall n' hn'
   ·rw[ahb]at hn';subst hn';exact hh
 have loop1:∀(ah:List Int) (i:Nat) (st:List Nat) (c:Nat),(0<=s.si/\s.si<=x.pa.length)->yG s.co=true->dk s.ns=true->s.se.drop i=ah->((s.se.take i).Nodup/\∀r∈s.se.take i,1<=r/\r<=x.la)->
  ay pg eS [aM] (.bx 3 (iK (jJ W s.ax) (Wm W)) (fun d=>D.int d=if x.cN s then 0 else 190)) (my W s.ax i (j9 (s.se.take i) (.z 1)) st c):=by
  intro ah
  induction ah with
  |nil=>
   intro i st c k1 k2 k3 hd hall
   have hil:=drop_nil hd
   rw[ag5 hil]at hall ⊢
   refine E3 ?_
   have hn:¬(i:Int)<(s.se.length:Int):=by omega
   simp only[rk,Su.HZ,agV,hn,ahj,agZ,ag1,ag3,ahk]
   exact loop2 s.ns 0 st c k1 k2 k3 hall rfl (by simp)
  |cons a ah ih=>
   intro i st c k1 k2 k3 hd hall
   obtain⟨g1,g2,g3⟩:=aB hd
   have hm:=agY g1
   refine E3 ?_
   have hcl:(i:Int)<(s.se.length:Int):=by omega
   have hat:D.at (aw s.se) i= .z a:=bn g1
   have bad:a∈s.se.take i->¬x.cN s=true:=fun hh hmm=>GZ g1 hh ((x.cW s).1 hmm).2.2.2.1.1
   have bad2:¬(1<=a/\a<=x.la)->¬x.cN s=true:=fun hh hmm=>hh (((x.cW s).1 hmm).2.2.2.1.2 a hm)
   simp only[rk,Su.HZ,agV,hcl,hat,aU g3,D.bV,ag6,ahg,ag3,ag0,ag1,ahf,gC,agW,agX,bo g3 (by omega)]
   refine⟨fun hin=>⟨fun _=>no (bad hin),fun _=>⟨_,_,rfl,is a,?_⟩⟩,fun hin=>⟨fun h1=>no (bad2 (by omega)),fun h1=>⟨_,_,rfl,is a,?_⟩⟩⟩
   ·intro d hd
    have hh:D.cS (j9 (s.se.take i) (.z 1)) (.z a)=true:=(gC _ _ _).trans (decide_eq_true hin)
    simp only[KR hh,KS hh,rM _ hin,D.bV,ag3,ag0,ag1,ahf]
    have e2:IntKind.i64.wrap ((1:Int)+1)=2:=by rw[bO (by omega) (by omega)];rfl
    rw[e2]
    refine⟨fun _=>⟨_,_,rfl,Nn hi hW,?_⟩,fun _=>⟨fun _=>no (bad hin),fun h=>absurd h (by omega)⟩⟩
    intro d2 hd2
    exact⟨fun _=>no (bad hin),fun _=>⟨fun _=>no (bad hin),fun h=>absurd h (by omega)⟩⟩
   ·intro d hd
    have e1:j9 (s.se.take i) (.z 1)++[(D.z a,D.z 1)]=j9 (s.se.take (i+1)) (.z 1):=by rw[aQ g1];exact D5 _ _ _
    have hin2:a∈s.se.take (i+1):=by rw[aQ g1];simp
    simp only[e1,gC,hin2,rM _ hin2,D.bV,ahg,ag3,ag0,ag1,ahf,aj4,akp,aj3,ahk]
    have go:a<=x.la->ay pg eS [aM] (.bx 3 (iK (jJ W s.ax) (Wm W)) (fun d=>D.int d=if x.cN s then 0 else 190)) (my W s.ax ((i+1:Nat):Int) (j9 (s.se.take (i+1)) (.z 1)) (st++[c]) (c+1)):=fun hal=>by
     refine ih (i+1) _ _ k1 k2 k3 g2 ?_
     rw[aQ g1]
     refine⟨ah5.2 ⟨hall.1,by simp,fun p hp q hq=>?_⟩,fun r hr=>?_⟩
     ·rw[ahb]at hq;subst hq;rintro rfl;exact hin hp
     ·rcases ahd.1 hr with hr|hr
      ·exact hall.2 r hr
      ·rw[ahb]at hr;subst hr;exact⟨by omega,hal⟩
    refine⟨fun hb=>⟨_,_,rfl,Nn hi hW,?_⟩,fun hb=>go (hisla a (by rw[<-hd];simpa using hb))⟩
    intro d2 hd2
    subst hd2
    rw[Wl.CD]
    exact⟨fun h2=>no (bad2 (by omega)),fun h2=>go (by omega)⟩
 have hma:=hi.GO
 refine Wk ?_
 simp only[rk,Su.X8,Su.iI,Su.fv]
 refine⟨_,_,rfl,aeB hW (by show x.ma.length≠0;omega),?_⟩
 intro d0 hd0
 rw[hd0]
 refine⟨fun h=>(by cases h),fun _=>⟨_,_,rfl,aeC hW s.si,?_⟩⟩
 intro d1 hd1
 rw[hd1]
 refine⟨fun h=>no fun hm=>?_,fun h=>⟨_,_,_,rfl,afQ s.co ⟨hok.2.2.1,hok.2.2.2.1⟩ hs.co,?_⟩⟩
 ·have:=((x.cW s).1 hm).1
  simp at h;omega
 intro d2 hd2
 subst hd2
 refine⟨fun h2=>no fun hm=>?_,fun h2=>⟨_,_,_,rfl,Sv s.ns (by omega) hok.2.2.2.2.2.1,?_⟩⟩
 ·have:=((x.cW s).1 hm).2.1
  simp[this]at h2
 intro d3 hd3
 subst hd3
 refine⟨fun h3=>no fun hm=>?_,fun h3=>?_⟩
 ·have:=((x.cW s).1 hm).2.2.1
  simp[this]at h3
 ·refine loop1 s.se 0 [] 0 ?_ (by simpa using h2) (by simpa using h3) rfl (by simp)
  simp at h;omega
end
end
section
def IU (d:D)(w:Wh)(h:d=w.ax):(D.r [.z (d.aa 0).int,.z (d.aa 1).int,.r [.z (D.int (D.aa (D.aa d 2) 0)),.z (D.int (D.aa (D.aa d 2) 1)),.s (D.b8 (D.aa (D.aa d 2) 2)),.r (D.ae (D.aa (D.aa d 2) 3)),.z (D.int (D.aa (D.aa d 2) 4))],.r (d.aa 3).ae,.z (d.aa 4).int,.z (d.aa 5).int,.z (d.aa 6).int,.z (d.aa 7).int,.z (d.aa 8).int,.b (d.aa 9).bool,.r (d.aa 10).ae,.r (d.aa 11).ae])=w.ax:=by
 subst h
 simp only[Wh.cU,Wh.mH,Wh.mI,Wh.sP,Wh.lu,Wh.zf,Wh.di,Wh.gg,Wh.i7,Wh.o0,Wh.iI,Wh.fv,aE.cU,aE.lu,aE.BD,aE.vA,aE.BC]
 rw[Wh.aD,aE.aD]
section
variable {R:RS} {x:Wl} (hi:x.OU)
include hi
set_option maxRecDepth 10000 in
theorem TV (hR:Fe R x.ro)(hok:∀p∈x.pa,-2^63<=p/\p<2^63):PH iN (wt R) (Rm R) 1 ss (·=x.ax):=by
 have hma:=hi.GO
 have hpa:=hi.par
 have hcu:(iD x.pa.length x.cu).length=x.pa.length:=by simp
 have hth:=hi.th
 have htl:x.an.ak.length=x.th.length:=by simp[aV.ak,Wl.an]
 have loop2:∀(ah:List En) (i:Nat),x.th.drop i=ah->i<=x.th.length->ay pg iN [bu] (.bx 1 (ss (wt R) (Rm R)) (·=x.ax))
  (tj R x.pa.length x.cu.length (aw x.pa) (aw x.cu) i i ((x.th.take i).map En.ax)):=by
  intro ah
  induction ah with
  |nil=>
   intro i hd hil
   have hl:=drop_nil hd
   have hil:i=x.th.length:=by omega
   subst hil
   refine EG ?_
   rw[aif]
   have r1:aO 8 (0+x.ma.length)=true:=by simp[aO];omega
   simp only[rk,hR.th,hR.ma,htl,agV,ahg,ag3,ag0,ag1,ahf,aj4,ahj,agZ,ahk,aho,aif,r1,ahI,aiE,ah2,ahx,Nat.min_self,<-List.map_take]
   have r2:aO 8 x.ma.length=true:=by simp[aO];omega
   simp only[r2,ahI,ag3,ag0,ag1,ahf]
   refine⟨rfl,x.ax,?_,rfl⟩
   rw[Wl.aD,hR.la]
   exact .ret
  |cons e ah ih=>
   intro i hd hil
   obtain⟨g1,g2,g3⟩:=aB hd
   obtain⟨w1,w2,w3⟩:=hi.w e (agY g1)
   refine EG ?_
   have hat:D.at x.an.ak i= .r [.z e.r,e.w.ax]:=yS (p:=(e.r,e.w)) (by simp[Wl.an,g1])
   have hf1:D.aa (D.r [.z e.r,e.w.ax]) 1=e.w.ax:=rfl
   have hf0:D.aa (D.r [.z e.r,e.w.ax]) 0= .z e.r:=rfl
   have hcl:(i:Int)<(x.th.length:Int):=by omega
   have hr:aO 200 (i+1)=true:=by simp[aO];omega
   simp only[rk,hR.th,htl,hcl,hat,hf1,hf0,aU g3,D.bV,ag6,agV,g3,ahg,ag3,ag0,ag1,ahf,ahx,aiF (akJ g3),hr,ahI,bo g3 (by omega),IU e.w.ax e.w rfl]
   refine⟨_,_,_,rfl,Tf e.w w1 w2,?_⟩
   intro d hd
   rw[IU d e.w hd]
   have:=ih (i+1) g2 (by omega)
   rw[<-zo (f:=En.ax) g1]at this
   exact this
 have loop1:∀(ah:List Bool) (i:Nat),(iD x.pa.length x.cu).drop i=ah->i<=x.pa.length->ay pg iN [bu] (.bx 1 (ss (wt R) (Rm R)) (·=x.ax))
  (rq R i i (kC 1 ((iD x.pa.length x.cu).take i)).length (aw (x.pa.take i)) (aw (kC 1 ((iD x.pa.length x.cu).take i)))):=by
  intro ah
  induction ah with
  |nil=>
   intro i hd hil
   have hl:=drop_nil hd
   have hil:i=x.pa.length:=by omega
   subst hil
   refine G4 ?_
   rw[aif,ag5 (l:=iD x.pa.length x.cu) (by omega),U7 hi.Pr hi.cut]
   simp only[rk,hR.pa,agV,aj4,ahj,agZ,ag1,ag3,ahk]
   exact loop2 x.th 0 rfl (by omega)
  |cons b ah ih=>
   intro i hd hil
   obtain⟨g1,g2,g3⟩:=aB hd
   have g3':i<x.pa.length:=by omega
   obtain⟨p,hp⟩:∃p,x.pa[i]?=some p:=⟨_,ag7 g3'⟩
   refine G4 ?_
   have hat:D.at ((iD x.pa.length x.cu).map D.b) i= .b b:=bn g1
   have hap:D.at (aw x.pa) i= .z p:=bn hp
   have hcl:(i:Int)<(x.pa.length:Int):=by omega
   have:=ih (i+1) g2 (by omega)
   rw[Rf g1 1]at this
   have hy:=Nf ((iD x.pa.length x.cu).take i) 1
   rw[ahx]at hy
   have r1:aO 8 (i+1)=true:=by simp[aO];omega
   have r2:aO 8 ((kC 1 ((iD x.pa.length x.cu).take i)).length+1)=true:=by simp[aO];omega
   have e1:aw (x.pa.take i)++[D.z p]=aw (x.pa.take (i+1)):=by rw[aQ hp];simp
   have e2:(1:Int)+(i:Int)=((i+1:Nat):Int):=by omega
   simp only[rk,hR.pa,hR.cu,hcu,agV,hcl,hat,hap,aU g3',aU g3,g3,g3',D.bz,D.bV,ag6,ahg,ag3,ag0,ag1,ahf,r1,r2,ahI,bo g3' (by omega),ahx,aiF (akJ g3'),e1]
   rw[e2]at this
   refine⟨fun hb=>?_,fun hb=>?_⟩
   ·subst hb;simpa using this
   ·subst hb;simpa using this
 refine VM ?_
 simp only[rk]
 exact loop1 _ 0 rfl (by omega)
end
end
section
section
variable {R:RS} {x:Wl} (hi:x.OU)
include hi
theorem ZC (hR:Fe R x.ro)(s:Int):PH xp (J5 R s) (Rm R) 1 Fb (fun d=>D.bool d=decide (0<=s/\s<=x.pa.length)):=by
 refine SW ?_
 simp only[rk,hR.pa,agV,agW,agX]
 exact⟨fun h=>⟨rfl,vP (by simp;omega)⟩,fun h=>⟨rfl,vP (by simp;omega)⟩⟩
noncomputable abbrev aav (x:Wl)(R:RS)(s:Su):mR:= .bx 1 (ql (sb R s.ax) (Rm R)) (fun d=>D.bool d=x.cN s)
theorem ab8 (hR:Fe R x.ro)(s:Su)(hs:s.vx)(hlen:s.se.length<=524288):PH fx (sb R s.ax) (Rm R) 1 ql (fun d=>D.bool d=x.cN s):=by
 have hok:=hs.ok
 have hns:=hs.ns
 have hse:=hs.se
 have hthl:x.an.length<2^62:=by have:=hi.th;simp[Wl.an];omega
 have no:¬x.cN s=true->jP.bx=some 1/\∃d,T.dy (BV.bool false,Rm R) (ql (sb R s.ax) (Rm R) d)/\D.bool d=x.cN s:=fun h=>⟨rfl,vP (by simpa using h)⟩
 have HO:=fun r=>FZ hR hthl r
 have loop3:∀(n:ga) (j:Nat) (st:List Nat) (c:Nat),s.ns[j]?=some n->j<s.ns.length->n.v.dt.length<2^40->
  ((∀r∈n.v.dt,x.xw s r=true)->ay pg fx [ai] (aav x R s) (pA R s.ax (j9 s.se (.b true)) st c ((j+1:Nat):Int)))->
  ∀(ah:List Int) (i:Nat),n.v.dt.drop i=ah->(∀r∈n.v.dt.take i,x.xw s r=true)->
  ay pg fx [ai] (aav x R s) (pP R s.ax (aw n.v.dt) (j9 s.se (.b true)) st c i j):=by
  intro n j st c hj hjl hrl done ah
  induction ah with
  |nil=>
   intro i hd hall
   have hil:=drop_nil hd
   rw[ag5 hil]at hall
   refine BL ?_
   have hn:¬(i:Int)<(n.v.dt.length:Int):=by omega
   simp only[rk,agV,hn,ahj,agZ,ag1,ag3,ahk,bo hjl (by omega)]
   exact done hall
  |cons a ah ih=>
   intro i hd hall
   obtain⟨g1,g2,g3⟩:=aB hd
   refine BL ?_
   have hcl:(i:Int)<(n.v.dt.length:Int):=by omega
   have hat:D.at (aw n.v.dt) i= .z a:=bn g1
   simp only[rk,hcl,hat,aU g3,D.bV,ag6,agV,g3,ahg,ag3,ag0,ag1,ahf,gC,bo g3 (by omega)]
   refine⟨_,_,rfl,HO a,?_⟩
   intro d hd
   rw[hd.2]
   have bad:x.xw s a=false->¬x.cN s=true:=fun hh hm=>by
    have:=((x.cW s).1 hm).2.2.2.2 n (agY hj) a (agY g1)
    rw[hh]at this;cases this
   refine⟨fun h=>no (bad ?_),fun h=>⟨fun h2=>⟨fun h3=>?_,fun h3=>?_⟩,fun h2=>no (bad ?_)⟩⟩
   ·simp only[Wl.xw];simp at h;simp[h]
   ·rw[rM _ (by simpa using h2)]at h3;simp at h3
   ·refine ih (i+1) g2 fun r hr=>?_
    rw[aQ g1]at hr
    rcases ahd.1 hr with hr|hr
    ·exact hall r hr
    ·rw[ahb]at hr;subst hr
     simp at h h2
     simp[Wl.xw,h,h2]
   ·simp only[Wl.xw];simp at h2;simp[h2]
 have loop2:∀(ah:List ga) (j:Nat) (st:List Nat) (c:Nat),(0<=s.si/\s.si<=x.pa.length)->yG s.co=true->dk s.ns=true->(s.se.Nodup/\∀r∈s.se,1<=r/\r<=x.la)->s.ns.drop j=ah->(∀n∈s.ns.take j,∀r∈n.v.dt,x.xw s r=true)->
  ay pg fx [ai] (aav x R s) (pA R s.ax (j9 s.se (.b true)) st c j):=by
  intro ah
  induction ah with
  |nil=>
   intro j st c k1 k2 k3 k4 hd hall
   have hil:=drop_nil hd
   rw[ag5 hil]at hall
   refine EP ?_
   have hn:¬(j:Int)<(s.ns.length:Int):=by omega
   simp only[rk,Su.fv,agV,hn,ahj,agZ,ag1,ag3,ahk]
   exact⟨rfl,vP ((x.cW s).2 ⟨k1,k2,k3,k4,hall⟩).symm⟩
  |cons n ah ih=>
   intro j st c k1 k2 k3 k4 hd hall
   obtain⟨g1,g2,g3⟩:=aB hd
   have hm:=agY g1
   refine EP ?_
   have hcl:(j:Int)<(s.ns.length:Int):=by omega
   have hat:D.at (s.ns.map ga.ax) j=n.ax:=bn g1
   have hvm:=Bm k3 n hm
   simp only[rk,Su.fv,agV,hcl,hat,ga.mI,lK,aU g3,ag6,ahg,ag3,ag0,ag1,ahf]
   refine⟨_,_,_,rfl,ZB n.v (hok.2.2.2.2.2.1 n hm).2 (hs.sz n hm) (aE.Sz hvm),?_⟩
   intro d hd
   rw[hd,D.bE]
   have hrl:n.v.dt.length<2^40:=by
    have:=aE.Av n.v;have:=hs.sz n hm;omega
   refine loop3 n j st c g1 g3 hrl (fun hh=>ih (j+1) st c k1 k2 k3 k4 g2 fun n' hn'=>?_) n.v.dt 0 rfl (by simp)
   rw[aQ g1]at hn'
   rcases ahd.1 hn' with hn'|hn'
   ·exact hall n' hn'
   ·rw[ahb]at hn';subst hn';exact hh
 have loop1:∀(ah:List Int) (i:Nat) (st:List Nat) (c:Nat),(0<=s.si/\s.si<=x.pa.length)->yG s.co=true->dk s.ns=true->s.se.drop i=ah->((s.se.take i).Nodup/\∀r∈s.se.take i,1<=r/\r<=x.la)->
  ay pg fx [ai] (aav x R s) (pz R s.ax i (j9 (s.se.take i) (.b true)) st c):=by
  intro ah
  induction ah with
  |nil=>
   intro i st c k1 k2 k3 hd hall
   have hil:=drop_nil hd
   rw[ag5 hil]at hall ⊢
   refine EO ?_
   have hn:¬(i:Int)<(s.se.length:Int):=by omega
   simp only[rk,Su.HZ,agV,hn,ahj,agZ,ag1,ag3,ahk]
   exact loop2 s.ns 0 st c k1 k2 k3 hall rfl (by simp)
  |cons a ah ih=>
   intro i st c k1 k2 k3 hd hall
   obtain⟨g1,g2,g3⟩:=aB hd
   have hm:=agY g1
   refine EO ?_
   have hcl:(i:Int)<(s.se.length:Int):=by omega
   have hat:D.at (aw s.se) i= .z a:=bn g1
   have bad:a∈s.se.take i->¬x.cN s=true:=fun hh hmm=>GZ g1 hh ((x.cW s).1 hmm).2.2.2.1.1
   have bad2:¬(1<=a/\a<=x.la)->¬x.cN s=true:=fun hh hmm=>hh (((x.cW s).1 hmm).2.2.2.1.2 a hm)
   simp only[rk,hR.la,Su.HZ,agV,hcl,hat,aU g3,D.bV,ag6,ahg,ag3,ag0,ag1,ahf,gC,agW,agX,bo g3 (by omega)]
   refine⟨fun h1=>no (bad2 (by omega)),fun h1=>⟨fun h2=>no (bad2 (by omega)),fun h2=>⟨fun hin=>⟨fun _=>no (bad hin),fun h3=>?_⟩,fun hin=>?_⟩⟩⟩
   ·rw[rM _ hin]at h3;simp at h3
   ·have e1:j9 (s.se.take i) (.b true)++[(D.z a,D.b true)]=j9 (s.se.take (i+1)) (.b true):=by rw[aQ g1];exact D5 _ _ _
    rw[e1]
    refine ih (i+1) _ _ k1 k2 k3 g2 ?_
    rw[aQ g1]
    refine⟨ah5.2 ⟨hall.1,by simp,fun p hp q hq=>?_⟩,fun r hr=>?_⟩
    ·rw[ahb]at hq;subst hq;rintro rfl;exact hin hp
    ·rcases ahd.1 hr with hr|hr
     ·exact hall.2 r hr
     ·rw[ahb]at hr;subst hr;exact⟨by omega,by omega⟩
 refine V3 ?_
 simp only[rk,Su.X8,Su.iI,Su.fv,Su.HZ]
 refine⟨_,_,rfl,ZC hi hR s.si,?_⟩
 intro d1 hd1
 rw[hd1]
 refine⟨fun h=>no fun hm=>?_,fun h=>⟨_,_,_,rfl,ab6 s.co ⟨hok.2.2.1,hok.2.2.2.1⟩ hs.co,?_⟩⟩
 ·have:=((x.cW s).1 hm).1
  simp at h;omega
 intro d2 hd2
 subst hd2
 refine⟨fun h2=>no fun hm=>?_,fun h2=>⟨_,_,_,rfl,OB s.ns (by omega) hok.2.2.2.2.2.1,?_⟩⟩
 ·have:=((x.cW s).1 hm).2.1
  simp[this]at h2
 intro d3 hd3
 subst hd3
 refine⟨fun h3=>no fun hm=>?_,fun h3=>⟨fun h4=>?_,fun h4=>?_⟩⟩
 ·have:=((x.cW s).1 hm).2.2.1
  simp[this]at h3
 ·simp at h4;omega
 ·refine loop1 s.se 0 [] 0 ?_ (by simpa using h2) (by simpa using h3) rfl (by simp)
  simp at h;omega
end
end
section
def aE.wm (a b:List aE):aE.bD (a++b)=aE.bD a++aE.bD b:=by simp[aE.xG]
def mF (l:List ga):List Int:=aE.bD (l.map ga.v)
def VG (l:List ga)(n:ga):mF (l++[n])=mF l++n.v.dt:=by simp[mF,aE.wm,aE.bD]
def VH (l:List ga)(i:Nat):(mF (l.take i)).length<=aE.bB (l.map ga.v):=by
 have h1:=aE.gj ((l.take i).map ga.v)
 have h2:aE.bB ((l.take i).map ga.v)<=aE.bB (l.map ga.v):=by
  conv=>rhs;rw[<-aii i l,ahr,aE.Bw]
  omega
 simp only[mF];omega
def afJ (l:List ga)(hl:l.length<2^30)(hok:∀n∈l,n.ok)(hm:∀n∈l,n.v.cN=true)(hs:aE.bB (l.map ga.v)<2^30):fk pg zh [ke] [.r (l.map ga.ax)] [aW] (·= .r (aw (mF l))):=by
 have loop:∀(ah:List ga) (i:Nat),l.drop i=ah->ay pg zh [aW] (.dQ (·= .r (aw (mF l)))) (D1 (.r (l.map ga.ax)) (mF (l.take i)).length i (aw (mF (l.take i)))):=by
  intro ah
  induction ah with
  |nil=>
   intro i hd
   have hil:=drop_nil hd
   refine MX ?_
   rw[ag5 hil]
   have hn:¬(i:Int)<(l.length:Int):=by omega
   simp only[rk,D.bE,agV,hn,ahj,ahg,agZ,ag0,ag1,ag3,ahk,ahf]
  |cons n ah ih=>
   intro i hd
   obtain⟨g1,g2,g3⟩:=aB hd
   have hmem:=agY g1
   refine MX ?_
   have hcl:(i:Int)<(l.length:Int):=by omega
   have hat:D.at (l.map ga.ax) i=n.ax:=bn g1
   have e:=ih (i+1) g2
   have hlen:=VH l (i+1)
   rw[aQ g1,VG]at e hlen
   rw[ahc]at hlen
   have hr:aO 8 ((mF (l.take i)).length+n.v.dt.length)=true:=by simp[aO];omega
   simp only[rk,D.bE,agV,hcl,hat,ga.mI,aU g3,ag6,ahg,ag3,ag0,ag1,ahf,bo g3 (by omega),aho,aif,ah0]
   refine⟨_,_,rfl,FG n.v (hok n hmem).2,?_⟩
   intro d hd
   rw[ag8 (hm n hmem)]at hd
   rw[hd]
   simp only[agV,hr,ag3,ag0,ag1,ahf]
   simpa using e
 refine aes ?_
 exact loop l 0 rfl
def Wh.eM (y:Wh):List Int:=if y.k=14\/y.k=11 then [y.of]else if y.k=15\/y.k=16 then [y.of,y.km]else []
section
variable {W:WS} {R:RS} {x:Wl} {f:gX} (hi:x.OU) (hla:∀e∈x.th,e.r<=x.la)
include hi
omit hi in
theorem aV.aaG {t:aV}{r:Int}(h:(t.get r).isSome=true):∃y,t.get r=some y/\t.at r=y:=by
 obtain⟨y,hy⟩:=ahw.1 h
 exact⟨y,hy,by simp[aV.at,hy]⟩
theorem Wl.OU.at {r:Int}(h:(x.an.get r).isSome=true):∃y,x.an.get r=some y/\y.ok/\y.sz<2^30/\∀v∈y.aJ,v.cN=true:=by
 obtain⟨y,hy,_⟩:=aV.aaG h
 have:=aV.np hy
 simp only[Wl.an,ahp]at this
 obtain⟨e,he,h1⟩:=this
 cases h1
 exact⟨e.w,hy,hi.w e he⟩
theorem Xv (hW:zC W (x.wo f))(r:Int)(h:(x.an.get r).isSome=true):PH xl (OY W r) (Wm W) 3 F2 (fun d=>D.aa d 0=(x.an.at r).ax/\(d.aa 1).int=0):=by
 obtain⟨y,hy,w1,w2,w3⟩:=hi.at h
 have hya:x.an.at r=y:=by simp[aV.at,hy]
 refine Y2 ?_
 have hh:(x.wo f).th=x.an:=rfl
 simp only[rk,hW.th,aV.cS,h,aV.val hy,Wh.re,ag3,ag0,ag1,ahf]
 refine⟨_,_,rfl,Co hW r,?_⟩
 intro d hd
 rw[hd,h]
 refine⟨fun h=>(by cases h),fun _=>⟨_,_,_,rfl,Ef y w1 w2 w3,?_⟩⟩
 intro d2 hd2
 subst hd2
 rw[hya,Wh.re]
 exact⟨rfl,.r [y.ax,.z 0],.ret,rfl,rfl⟩
theorem Ym (hW:zC W (x.wo f))(r:Int)(h:(x.an.get r).isSome=true):PH xm (O0 W r) (Wm W) 3 F4 (fun d=>D.aa d 0=(x.an.at r).ax/\(d.aa 1).int=0):=by
 refine Y9 ?_
 simp only[rk]
 refine⟨_,_,rfl,Xv hi hW r h,?_⟩
 intro d hd
 rw[hd.1,hd.2,Wh.re]
 exact⟨rfl,.r [(x.an.at r).ax,.z 0],.ret,rfl,rfl⟩
theorem abp (hW:zC W (x.wo f))(r:Int)(h:(x.an.get r).isSome=true):PH zV (HG W r) (Wm W) 3 Dx (fun d=>(d.aa 0).ae=aw (x.an.at r).eM/\(d.aa 1).int=0):=by
 refine VU ?_
 simp only[rk]
 refine⟨_,_,rfl,Ym hi hW r h,?_⟩
 intro d hd
 rw[hd.1,hd.2]
 simp only[Wh.cU,Wh.di,Wh.gg,ahZ,agZ,ag1,ag3,ahk,aht,ahe,aic]
 have bj:∀l:List Int,l=(x.an.at r).eM->zM.bx=some 3/\∃d,T.dy (BV.tuple [.bw aA (D.ae (.r (aw l))),.int .i64 0],Wm W) (Dx (HG W r) (Wm W) d)/\(d.aa 0).ae=aw (x.an.at r).eM/\(d.aa 1).int=0:=by
  rintro l rfl
  exact⟨rfl,.r [.r (aw (x.an.at r).eM),.z 0],.ret,rfl,rfl⟩
 refine⟨fun h1=>bj [_] ?_,fun h1=>⟨fun h2=>bj [_] ?_,fun h2=>⟨fun h3=>bj [_,_] ?_,fun h3=>⟨fun h4=>bj [_,_] ?_,fun h4=>bj [] ?_⟩⟩⟩⟩<;>simp[Wh.eM, *]
theorem afK (hW:zC W (x.wo f))(hla:∀e∈x.th,e.r<=x.la)(l:List Su)(hl:l.length<2^30)(hs:∀s∈l,s.vx):PH yw (JE W (l.map Su.ax)) (Wm W) 3 F3 (fun d=>D.int d=if l.all x.cN then 0 else 190):=by
 have loop:∀(ah:List Su) (i:Nat),l.drop i=ah->(l.take i).all x.cN=true->ay pg yw [aM] (.bx 3 (F3 (JE W (l.map Su.ax)) (Wm W)) (fun d=>D.int d=if l.all x.cN then 0 else 190)) (Bd W (l.map Su.ax) i):=by
  intro ah
  induction ah with
  |nil=>
   intro i hd hall
   have hil:=drop_nil hd
   rw[ag5 hil]at hall
   refine La ?_
   have hn:¬(i:Int)<(l.length:Int):=by omega
   simp only[rk,agV,hn,ahj,agZ,ag1,ag3,ahk]
   exact⟨rfl,B3 (by rw[ag8 hall])⟩
  |cons s ah ih=>
   intro i hd hall
   obtain⟨g1,g2,g3⟩:=aB hd
   have hmem:=agY g1
   refine La ?_
   have hcl:(i:Int)<(l.length:Int):=by omega
   have hat:D.at (l.map Su.ax) i=s.ax:=bn g1
   simp only[rk,agV,hcl,hat,aU g3,ag6,ahg,ag3,ag0,ag1,ahf,bo g3 (by omega)]
   refine⟨_,_,rfl,acr hi hla hW s (hs s hmem),?_⟩
   intro d hd
   rw[hd]
   by_cases hm:x.cN s=true
   ·rw[ag8 hm]
    refine⟨fun h=>by simp at h,fun _=>ih (i+1) g2 ?_⟩
    rw[aQ g1,aiL,hall];simp[hm]
   ·rw[ag4 hm]
    refine⟨fun _=>⟨rfl,B3 ?_⟩,fun h=>by simp at h⟩
    rw[ag4]
    intro ha
    exact hm (ahG.1 ha s hmem)
 have hma:=hi.GO
 refine abV ?_
 simp only[rk]
 refine⟨_,_,rfl,xY hW,?_⟩
 intro d hd
 rw[hd]
 refine⟨fun h=>?_,fun _=>loop l 0 rfl (by simp)⟩
 simp only[aht]at h
 have h2:(x.wo f).ma.length=x.ma.length:=rfl
 omega
theorem OC (hR:Fe R x.ro)(l:List Su)(hl:l.length<2^30)(hs:∀s∈l,s.vx/\s.se.length<=524288):PH fT (qL R (l.map Su.ax)) (Rm R) 1 mV (fun d=>D.bool d=l.all x.cN):=by
 have loop:∀(ah:List Su) (i:Nat),l.drop i=ah->(l.take i).all x.cN=true->ay pg fT [ai] (.bx 1 (mV (qL R (l.map Su.ax)) (Rm R)) (fun d=>D.bool d=l.all x.cN)) (mK R (l.map Su.ax) i):=by
  intro ah
  induction ah with
  |nil=>
   intro i hd hall
   have hil:=drop_nil hd
   rw[ag5 hil]at hall
   refine yO ?_
   have hn:¬(i:Int)<(l.length:Int):=by omega
   simp only[rk,agV,hn,ahj,agZ,ag1,ag3,ahk]
   exact⟨rfl,vP hall.symm⟩
  |cons s ah ih=>
   intro i hd hall
   obtain⟨g1,g2,g3⟩:=aB hd
   have hmem:=agY g1
   refine yO ?_
   have hcl:(i:Int)<(l.length:Int):=by omega
   have hat:D.at (l.map Su.ax) i=s.ax:=bn g1
   simp only[rk,agV,hcl,hat,aU g3,ag6,ahg,ag3,ag0,ag1,ahf,bo g3 (by omega)]
   refine⟨_,_,rfl,ab8 hi hR s (hs s hmem).1 (hs s hmem).2,?_⟩
   intro d hd
   rw[hd]
   refine⟨fun h=>⟨rfl,vP ?_⟩,fun h=>ih (i+1) g2 ?_⟩
   ·symm;rw[ajb];exact⟨s,hmem,by simpa using h⟩
   ·rw[aQ g1,aiL,hall];simpa using h
 refine K3 ?_
 exact loop l 0 rfl (by simp)
end
end
end Go.Proofs
end
