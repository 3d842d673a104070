import Derived.Test.YtpanfgalkajgdaaGreatM17
set_option linter.all false
noncomputable section
namespace Go.Proofs
open Go Go.PB
section
def bm.chain (t:bm):Nat->Int->Bool
 |0,r=>match t.get r with|none=>false|some x=>!gy x.k
 |n+1,r=>match t.get r with|none=>false|some x=>if gy x.k then bm.chain t n x.of else true
def bm.Yj {t:bm}:∀{n:Nat} {r:Int},t.chain n r=true->∀s,∃a,t.BI (n+1) r s=some a:=by
 intro n
 induction n with
 |zero=>
  intro r h s;simp only[bm.chain]at h
  cases A:t.get r with
  |none=>rw[A]at h;cases h
  |some x=>simp only[A,amJ,gy,amk]at h;refine⟨tE (tE 63 s) (IG x.k),?_⟩;simp only[bm.BI,A];rw[ifN,ifN]
 |succ n J=>
  intro r h s;simp only[bm.chain]at h;rw[bm.BI]
  cases A:t.get r with
  |none=>rw[A]at h;cases h
  |some x=>
   simp only[A]at h ⊢
   by_cases hw:gy x.k=true
   ·rw[amu hw]at h
    by_cases I:x.k=14
    ·rw[amu I];exact J h _
    rw[amt I,amu (by simp[gy]at hw;omega)];exact J h _
   simp only[gy,aml]at hw;rw[ifN,ifN];exact⟨_,rfl⟩
def bm.ab (t:bm)(r:Int):Int:=(t.BI (t.length+1) r 63).getD 0
def bm.aiP {t:bm}{r:Int}(h:t.chain t.length r=true):t.BI (t.length+1) r 63=some (t.ab r):=by
 obtain⟨a,A⟩:=bm.Yj h 63;simp[bm.ab,A]
def bm.aeq {t:bm}{n:Nat}{r:Int}{x:Wh}(A:t.get r=some x)(hw:gy x.k=true)(h:t.chain n r=true):0<n/\t.chain (n-1) x.of=true:=by
 cases n with
 |zero=>simp[bm.chain,A,hw]at h
 |succ n=>simp only[bm.chain,A,amu hw]at h;exact⟨by omega,h⟩
def bm.Yk {t:bm}:∀{n:Nat} {r:Int},t.chain n r=true->t.chain (n+1) r=true:=by
 intro n
 induction n with
 |zero=>
  intro r h;simp only[bm.chain]at h ⊢
  cases A:t.get r with
  |none=>rw[A]at h;cases h
  |some x=>simp only[A]at h ⊢;simp at h;simp[h]
 |succ n I=>
  intro r h;rw[bm.chain]at h ⊢
  cases A:t.get r with
  |none=>rw[A]at h;cases h
  |some x=>
   simp only[A]at h ⊢
   by_cases hw:gy x.k=true
   ·rw[amu hw]at h ⊢;exact I h
   rw[amt hw]
def bm.Vt {t:bm}{n m:Nat}{r:Int}(h:n<=m)(hc:t.chain n r=true):t.chain m r=true:=by
 induction h with
 |refl=>exact hc
 |step _ A=>exact bm.Yk A
def bm.S1 (t:bm)(x:Wh):Bool:=t.Kc x&&(!zQ x.k||(t.get x.of).isSome)&&(!xZ x.k||(t.get x.tD).isSome)&&(decide (¬(x.k=13/\x.of≠0))||(t.get x.of).isSome)
def bm.XW (t:bm)(r:Int)(x:Wh)(a:Int):Bool:=
 if x.k=6 then decide (t.kind x.of=5/\(t.at x.of).h=x.h)&&!t.CS r 6 x.of
 else if x.k=7 then decide (t.kind x.of=5/\(t.at x.of).h=x.h)
 else if x.k=9 then decide (t.kind x.of=8/\(t.at x.of).h=x.h)
 else if x.k=11 then decide (t.kind x.of=10/\(t.at x.of).h=x.h)&&!t.CS r 11 x.of
 else if x.k=15 then decide (t.kind x.tD=13/\(t.at x.tD).h=x.h/\(t.get x.of).isSome=true/\(t.at x.tD).of=r)
 else if x.k=16 then decide (t.kind x.tD=3/\(t.at x.tD).h=x.h/\(t.get x.of).isSome=true)
 else if x.k=13 then decide (x.of=0\/t.kind x.of=15/\(t.at x.of).tD=r)
 else if x.k=14 then decide ((t.get x.of).isSome=true/\t.kind x.of≠14/\x.set≠a/\nQ x.set a=0)
 else true
def nT.Idx (f:nT)(t:bm):Prop:=∀o s r,f.get o s=some r↔∃x,t.get r=some x/\x.k=14/\x.of=o/\x.set=s
def Wo.ajT {w:Wo}(hi:w.fa.Idx w.th){r:Int}{x:Wh}(A:w.th.get r=some x)(a:Int):w.EW r x a=w.th.XW r x a:=by
 unfold Wo.EW bm.XW
 by_cases h:x.k=14
 ·have:=(hi x.of x.set r).2 ⟨x,A,h,rfl,rfl⟩;simp[h,this]
 simp[h]
def bm.S3 (t:bm):Prop:=∀r q x y,t.get r=some x->t.get q=some y->x.k=14->y.k=14->x.of=y.of->x.set=y.set->r=q
def bm.OL (t:bm):Prop:=(∀r x,t.get r=some x->t.S1 x=true/\t.chain t.length r=true)/\t.S3/\∀r x,t.get r=some x->t.XW r x (t.ab x.of)=true
structure bm.sO (t:bm):Prop where
 one:t.one
 len:t.length<2^40
 ok:∀r x,t.get r=some x->x.ok
 sz:∀r x,t.get r=some x->x.sz<2^30
 fE:∀r x,t.get r=some x->∀v∈x.aN,v.fE=true
section
variable {W:WS} {w:Wo} (hW:Lj W w)
include hW
def kO (t:bm)(d:D):Prop:=((d.af 0).bool=true↔t.OL)/\(t.OL->∃f:nT,oS (D.af d 1)=f.ar/\f.Idx t)
theorem ag0 (hg:w.th.sO)(hf:w.fa=[]):PH db (bG W) (Wm W) 3 cV (kO w.th):=by
 have h1:=hg.one;have e5:=hg.len;have i7:∀(b:Bool) (m:List (D×D)) (st:List Nat) (c:Nat),T.dV (BV.bool b,Wm (WS.mk W.pa W.cu W.th W.st W.ck m st c W.la W.ma)) (cV (bG W) (Wm W) (.r [.b b,VB m,VC st,.z c])):=fun b m st c=>by refine bD.2 ?_;simp only[D.af,D.aK,D.at,anB,an5,xr,JQ,JP,D.bV];rfl
 have no:¬w.th.OL->∀(m:List (D×D)) (st:List Nat) (c:Nat),cW.bK=some 3/\∃d,T.dV (BV.bool false,Wm (WS.mk W.pa W.cu W.th W.st W.ck m st c W.la W.ma)) (cV (bG W) (Wm W) d)/\kO w.th d:=fun h m st c=>⟨rfl,_,i7 false m st c,⟨fun a=>(by cases a),fun a=>(h a).elim⟩,fun a=>(h a).elim⟩;have eH:∀q,D.i7 W.th (.z q)=(w.th.get q).isSome:=fun q=>by rw[hW.th];simp
 have eV:∀{q:Int} {x:Wh},w.th.get q=some x->D.val W.th (.z q)=x.ar:=fun h=>by rw[hW.th];exact bm.val h
 have e6:∀r x,w.th.get r=some x->r∈w.th.map (·.1):=fun r x A=>bm.pY.1 (by simp[A]);have b6:∀(f:nT) (st:List Nat) (c:Nat),f.Idx w.th->(∀r x,w.th.get r=some x->w.th.S1 x=true/\w.th.chain w.th.length r=true)->w.th.S3->
  aC pg db [aj] (.bK 3 (cV (bG W) (Wm W)) (kO w.th)) (rR W (aY []) f.ar st c):=by
  intro f st c hi s1 s3;have b4:Lj (WS.mk W.pa W.cu W.th W.st W.ck f.ar st c W.la W.ma) {w with fa:=f}:=⟨hW.pa,hW.cu,hW.th,rfl,hW.la,hW.ma⟩;refine wA (M:=fun l=>(∀r x,w.th.get r=some x->r∈l->w.th.XW r x (w.th.ab x.of)=true)->aC pg db [aj] (.bK 3 (cV (bG W) (Wm W)) (kO w.th)) (rR W (aY l) f.ar st c)) (w.th.map (·.1)) (fun l hl d8 ih hs=>?_) (by simp);refine Rz (DZ hW (fun Z=>?_) fun n V a7=>?_)
  ·refine⟨rfl,_,i7 true f.ar st c,?_⟩;have:w.th.OL:=⟨s1,s3,fun r x A=>hs r x A (Z _ (bm.uw A))⟩;exact⟨⟨fun _=>this,fun _=>rfl⟩,fun _=>⟨f,xr _,hi⟩⟩
  obtain⟨x,A⟩:=amR.1 (bm.pY.2 V);have e4:=s1 n x A;simp only[rk,eH,A,anD,eV A,D.bu,amx,amy,amA,amS];refine⟨_,_,rfl,aji b4 (by exact h1) n x (w.th.ab x.of) ?_,?_⟩
  ·intro U;have hw:gy x.k=true:=(by simp[gy,U]);obtain⟨k1,k2⟩:=bm.aeq A hw e4.2;exact⟨_,bm.aiP (t:=w.th) (bm.Vt (show w.th.length-1<=w.th.length by omega) k2)⟩
  intro d hd;rw[hd,Wo.ajT (w:={w with fa:=f}) hi A];refine⟨fun h=>no (fun a=>?_) _ _ _,fun h=>?_⟩
  ·have:=a.2.2 n x A;rw[this]at h;cases h
  refine ih n V a7 fun r y I hr=>?_;rcases amz.1 hr with rfl|hr
  ·rw[A]at I;cases I;simpa using h
  exact hs r y I hr
 have d0:(∀r x,w.th.get r=some x->w.th.S1 x=true/\w.th.chain w.th.length r=true)->∀(st:List Nat) (c:Nat),
  aC pg db [aj] (.bK 3 (cV (bG W) (Wm W)) (kO w.th)) (qF W (nT.ar []) st c (aY [])):=by
  intro s1 st c
  have key:=wA (M:=fun l=>∀(f:nT) (st:List Nat) (c:Nat),(∀o s r,f.get o s=some r↔r∈l/\∃x,w.th.get r=some x/\x.k=14/\x.of=o/\x.set=s)->
   (∀r q x y,r∈l->q∈l->w.th.get r=some x->w.th.get q=some y->x.k=14->y.k=14->x.of=y.of->x.set=y.set->r=q)->
   aC pg db [aj] (.bK 3 (cV (bG W) (Wm W)) (kO w.th)) (qF W f.ar st c (aY l))) (w.th.map (·.1)) (fun l hl d8 ih f st c hi hu=>?_)
  ·exact key [] st c (by simp[nT.get]) (by simp)
  have b4:Lj (WS.mk W.pa W.cu W.th W.st W.ck f.ar st c W.la W.ma) {w with fa:=f}:=⟨hW.pa,hW.cu,hW.th,rfl,hW.la,hW.ma⟩;refine Ut (DZ hW (fun Z=>?_) fun n V a7=>?_)
  ·have d3:∀r x,w.th.get r=some x->r∈l:=fun r x A=>Z _ (bm.uw A);refine b6 f st c (fun o s r=>?_) s1 fun r q x y A I=>hu r q x y (d3 r x A) (d3 q y I) A I;rw[hi];exact⟨fun a=>a.2,fun a=>⟨by obtain⟨x,A,_⟩:=a;exact d3 r x A,a⟩⟩
  obtain⟨x,A⟩:=amR.1 (bm.pY.2 V);simp only[rk,eH,A,anD,eV A,D.bu,Wh.ek,Wh.mj,Wh.pe,nT.i7,amx,amy,amA,amS,amY,amF,an3];refine⟨fun U=>⟨fun hh=>no (fun a=>?_) _ _ _,fun hh=>?_⟩,fun U=>?_⟩
  ·obtain⟨q,hq⟩:=amR.1 hh;obtain⟨e0,y,I,O,e1,Y⟩:=(hi _ _ _).1 hq;have:=a.2.1 q n y x I A O U e1 Y;exact a7 (this▸e0)
  ·have a8:f.get x.of x.set=none:=(by simpa using hh);refine⟨_,_,rfl,aar b4 n x A,?_⟩;intro d hd;rw[hd];have e:=ih n V a7 (f.put x.of x.set n) (pC (D.af d 1)) (pB (D.af d 2)) (fun o s r=>?_) (fun r q y z hr hq I hz O a6 e1 Y=>?_)
   ·have Y:Wo.idx {w with fa:=f} n x=f.put x.of x.set n:=(by simp[Wo.idx,U]);rw[Y];exact e
   ·rw[nT.iR]
    by_cases e:(o,s)=(x.of,x.set)
    ·rw[amu e]
     cases e
     constructor
     ·intro h;cases h;exact⟨by simp,x,A,U,rfl,rfl⟩
     rintro⟨hr,y,I,O,e1,Y⟩;rcases amz.1 hr with rfl|hr
     ·rfl
     have:=(hi x.of x.set r).2 ⟨hr,y,I,O,e1,Y⟩;rw[a8]at this;cases this
    rw[amt e,hi];constructor
    ·rintro⟨hr,b⟩;exact⟨by simp[hr],b⟩
    rintro⟨hr,y,I,O,e1,Y⟩;rcases amz.1 hr with rfl|hr
    ·rw[A]at I;cases I;exact absurd (by rw[e1,Y]) e
    exact⟨hr,y,I,O,e1,Y⟩
   have d6:∀q z,q∈l->w.th.get q=some z->z.k=14->z.of=x.of->z.set=x.set->False:=fun q z hq hz a6 e1 Y=>by have:=(hi x.of x.set q).2 ⟨hq,z,hz,a6,e1,Y⟩;rw[a8]at this;cases this
   rcases amz.1 hr with rfl|hr1
   ·rw[A]at I;cases I;rcases amz.1 hq with rfl|hq1
    ·rfl
    exact(d6 q z hq1 hz a6 e1.symm Y.symm).elim
   rcases amz.1 hq with rfl|hq1
   ·rw[A]at hz;cases hz;exact(d6 r y hr1 I O e1 Y).elim
   exact hu r q y z hr1 hq1 I hz O a6 e1 Y
  refine ih n V a7 f st c (fun o s r=>?_) (fun r q y z hr hq I hz O a6 e1 Y=>?_)
  ·rw[hi];constructor
   ·rintro⟨hr,b⟩;exact⟨by simp[hr],b⟩
   rintro⟨hr,y,I,O,e1,Y⟩;rcases amz.1 hr with rfl|hr
   ·rw[A]at I;cases I;exact absurd O U
   exact⟨hr,y,I,O,e1,Y⟩
  rcases amz.1 hr with rfl|hr
  ·rw[A]at I;cases I;exact absurd O U
  rcases amz.1 hq with rfl|hq
  ·rw[A]at hz;cases hz;exact absurd a6 U
  exact hu r q y z hr hq I hz O a6 e1 Y
 have d2:aC pg db [aj] (.bK 3 (cV (bG W) (Wm W)) (kO w.th)) (qE W (D.fh W.th) W.st W.ck (aY [])):=by
  refine wA (M:=fun l=>(∀r x,w.th.get r=some x->r∈l->w.th.S1 x=true/\w.th.chain w.th.length r=true)->aC pg db [aj] (.bK 3 (cV (bG W) (Wm W)) (kO w.th)) (qE W (D.fh W.th) W.st W.ck (aY l))) (w.th.map (·.1)) (fun l hl d8 ih hs=>?_) (by simp);refine Us (DZ hW (fun Z=>?_) fun n V a7=>?_)
  ·have e:=d0 (fun r x A=>hs r x A (Z _ (bm.uw A))) W.sf W.cf;rw[hW.fa,hf];exact e
  obtain⟨x,A⟩:=amR.1 (bm.pY.2 V);have b1:w.th.S1 x=false->cW.bK=some 3/\∃d,T.dV (BV.bool false,Wm W) (cV (bG W) (Wm W) d)/\kO w.th d:=fun h=>no (fun a=>by rw[(a.1 n x A).1]at h;cases h) W.fa W.sf W.cf;have chain:w.th.S1 x=true->∀(m j:Nat) (q:Int),m+j=w.th.length->(w.th.get q).isSome=true->w.th.chain m q=w.th.chain w.th.length n->aC pg db [aj] (.bK 3 (cV (bG W) (Wm W)) (kO w.th)) (ez W q (D.fh W.th) W.st W.ck (aY (n::l)) j):=by
   intro hS m;have d7:W.th.length=w.th.length:=(by rw[hW.th];simp[bm.ar]);have d4:w.th.chain w.th.length n=false->cW.bK=some 3/\∃d,T.dV (BV.bool false,Wm W) (cV (bG W) (Wm W) d)/\kO w.th d:=fun h=>no (fun a=>by rw[(a.1 n x A).2]at h;cases h) W.fa W.sf W.cf;have NH:w.th.chain w.th.length n=true->aC pg db [aj] (.bK 3 (cV (bG W) (Wm W)) (kO w.th)) (qE W (D.fh W.th) W.st W.ck (aY (n::l))):=fun h=>by
    refine ih n V a7 fun r y I hr=>?_;rcases amz.1 hr with rfl|hr
    ·rw[A]at I;cases I;exact⟨hS,h⟩
    exact hs r y I hr
   induction m with
   |zero=>intro j q hj hq hc;obtain⟨y,I⟩:=amR.1 hq;simp only[bm.chain,I]at hc;refine El ?_;simp only[rk,eH,I,anD,eV I,Wh.ek,Wh.mj,amx,amy,amA,amS,d7,aml,amk];refine⟨_,_,_,rfl,UW y.k,?_⟩;rintro _ rfl;rw[bM (x:=(j:Int)+1)];simp only[D.bV];exact⟨fun hw=>⟨fun _=>d4 (by rw[<-hc,hw];rfl),fun h=>by omega⟩,fun hw=>NH (by rw[<-hc,hw];rfl)⟩
   |succ m e3=>
    intro j q hj hq hc;obtain⟨y,I⟩:=amR.1 hq;simp only[bm.chain,I]at hc;refine El ?_;simp only[rk,eH,I,anD,eV I,Wh.ek,Wh.mj,amx,amy,amA,amS,d7,aml,amk];refine⟨_,_,_,rfl,UW y.k,?_⟩;rintro _ rfl;rw[bM (x:=(j:Int)+1)];simp only[D.bV];refine⟨fun hw=>⟨fun _=>by omega,fun _=>⟨_,_,rfl,Lw hW y.of,?_⟩⟩,fun hw=>NH (by rw[<-hc,amt (by simp[hw])])⟩;intro d hd;rw[hd];rw[amu hw]at hc;refine⟨fun h=>d4 ?_,fun h=>?_⟩
    ·have hno:w.th.get y.of=none:=(by simpa using h);rw[<-hc];cases m<;>simp[bm.chain,hno]
    have:=e3 (j+1) y.of (by omega) (by simpa using h) hc;simpa using this
  have J:w.th.S1 x=true->aC pg db [aj] (.bK 3 (cV (bG W) (Wm W)) (kO w.th)) (ez W n (D.fh W.th) W.st W.ck (.z n::aY l) 0):=fun h=>chain h w.th.length 0 n rfl (by simp[A]) rfl;simp only[rk,eH,A,anD,eV A,D.bu,Wh.ek,Wh.mj,Wh.qy,amx,amy,amA,amS,amY,amF,aot,anE,an3];refine⟨_,_,rfl,agZ hW x (hg.ok n x A) (hg.sz n x A) (hg.fE n x A),?_⟩;intro d1 d9;rw[d9];refine⟨fun h=>b1 (by simp at h;simp[bm.S1,h]),fun a1=>?_⟩;have a1:w.th.Kc x=true:=by simpa using a1
  refine⟨_,_,_,rfl,agO x.k,?_⟩;rintro _ rfl;simp only[D.bV];have d5:(!zQ x.k||(w.th.get x.of).isSome)=true->∃ts rs Q',EF cW.cj wu=some (ts,rs)/\dZ pg wu ts [.z x.k] rs Q'/\∀d,Q' d->
   (D.bool d=true->∃R Q',rp cW.bJ ki=some R/\xm pg ki [.ie 0 0,.int .i64 x.tD] (Wm W) 3 (R [.ie 0 0,.int .i64 x.tD] (Wm W)) Q'/\∀d,Q' d->
     ((!D.bool d)=true->cW.bK=some 3/\∃d,T.dV (BV.bool false,Wm W) (cV (bG W) (Wm W) d)/\kO w.th d)/\((!D.bool d)=false->(x.k=13->(¬x.of=0->∃R Q',rp cW.bJ ki=some R/\xm pg ki [.ie 0 0,.int .i64 x.of] (Wm W) 3 (R [.ie 0 0,.int .i64 x.of] (Wm W)) Q'/\∀d,Q' d->
     ((!D.bool d)=true->cW.bK=some 3/\∃d,T.dV (BV.bool false,Wm W) (cV (bG W) (Wm W) d)/\kO w.th d)/\((!D.bool d)=false->aC pg cW.f cW.rs (.bK 3 (cV (bG W) (Wm W)) (kO w.th)) (ez W n (D.fh W.th) W.st W.ck (.z n::aY l) 0)))/\
       (x.of=0->aC pg cW.f cW.rs (.bK 3 (cV (bG W) (Wm W)) (kO w.th)) (ez W n (D.fh W.th) W.st W.ck (.z n::aY l) 0)))/\
       (¬x.k=13->aC pg cW.f cW.rs (.bK 3 (cV (bG W) (Wm W)) (kO w.th)) (ez W n (D.fh W.th) W.st W.ck (.z n::aY l) 0))))/\
   (D.bool d=false->(x.k=13->(¬x.of=0->∃R Q',rp cW.bJ ki=some R/\xm pg ki [.ie 0 0,.int .i64 x.of] (Wm W) 3 (R [.ie 0 0,.int .i64 x.of] (Wm W)) Q'/\∀d,Q' d->
     ((!D.bool d)=true->cW.bK=some 3/\∃d,T.dV (BV.bool false,Wm W) (cV (bG W) (Wm W) d)/\kO w.th d)/\((!D.bool d)=false->aC pg cW.f cW.rs (.bK 3 (cV (bG W) (Wm W)) (kO w.th)) (ez W n (D.fh W.th) W.st W.ck (.z n::aY l) 0)))/\
       (x.of=0->aC pg cW.f cW.rs (.bK 3 (cV (bG W) (Wm W)) (kO w.th)) (ez W n (D.fh W.th) W.st W.ck (.z n::aY l) 0)))/\
       (¬x.k=13->aC pg cW.f cW.rs (.bK 3 (cV (bG W) (Wm W)) (kO w.th)) (ez W n (D.fh W.th) W.st W.ck (.z n::aY l) 0))):=by
   intro a2;refine⟨_,_,_,rfl,agN x.k,?_⟩;rintro _ rfl;simp only[D.bV];refine⟨fun hb=>⟨_,_,rfl,Lw hW x.tD,?_⟩,fun hb=>?_⟩
   ·intro d hd;rw[hd];refine⟨fun h=>b1 (by simp at h;simp[bm.S1,hb,h]),fun h=>?_⟩;have a3:(!xZ x.k||(w.th.get x.tD).isSome)=true:=(by simp at h;simp[h]);refine⟨fun hk=>⟨fun ho=>⟨_,_,rfl,Lw hW x.of,?_⟩,fun ho=>J ?_⟩,fun hk=>J ?_⟩
    ·intro d hd;rw[hd];refine⟨fun h=>b1 (by simp at h;simp[bm.S1,hk,ho,h]),fun h=>J ?_⟩;rw[bm.S1,a1,a2,a3];simp at h;simp[h]
    ·rw[bm.S1,a1,a2,a3];simp[ho]
    rw[bm.S1,a1,a2,a3];simp[hk]
   have a3:(!xZ x.k||(w.th.get x.tD).isSome)=true:=(by simp[hb]);refine⟨fun hk=>⟨fun ho=>⟨_,_,rfl,Lw hW x.of,?_⟩,fun ho=>J ?_⟩,fun hk=>J ?_⟩
   ·intro d hd;rw[hd];refine⟨fun h=>b1 (by simp at h;simp[bm.S1,hk,ho,h]),fun h=>J ?_⟩;rw[bm.S1,a1,a2,a3];simp at h;simp[h]
   ·rw[bm.S1,a1,a2,a3];simp[ho]
   rw[bm.S1,a1,a2,a3];simp[hk]
  refine⟨fun ho=>⟨_,_,rfl,Lw hW x.of,?_⟩,fun ho=>d5 (by simp[ho])⟩;intro d hd;rw[hd];exact⟨fun h=>b1 (by simp at h;simp[bm.S1,ho,h]),fun h=>d5 (by simp at h;simp[h])⟩
 exact acH d2
end
end
section
def Wh.S6 (x:Wh):Bool:=zQ x.k||decide (x.k=13/\x.of≠0)
def bm.Bn (t:bm)(r:Int)(x:Wh):Bool:=t.all fun p=>decide (p.1=r\/p.2.k≠14\/p.2.of≠x.of\/p.2.set≠x.set)
def bm.ym (t:bm)(r:Int)(x:Wh)(a:Int):Bool:=
 if x.k=6 then decide (t.kind x.of=5/\(t.at x.of).h=x.h)&&!t.sY r 6 x.of false
 else if x.k=7 then decide (t.kind x.of=5/\(t.at x.of).h=x.h)
 else if x.k=9 then decide (t.kind x.of=8/\(t.at x.of).h=x.h)
 else if x.k=11 then decide (t.kind x.of=10/\(t.at x.of).h=x.h)&&!t.sY r 11 x.of false
 else if x.k=13 then decide (x.of=0\/t.kind x.of=15/\(t.at x.of).tD=r)
 else if x.k=15 then decide (t.kind x.tD=13/\(t.at x.tD).h=x.h)&&(!t.sY r 15 x.tD true&&decide (r=0\/(t.at x.tD).of=r))
 else if x.k=16 then decide (t.kind x.tD=3/\(t.at x.tD).h=x.h)
 else if x.k=14 then decide (t.kind x.of≠14/\nQ x.set a=0/\x.set≠a)&&t.Bn r x
 else true
def bm.ny (t:bm)(r:Int)(x:Wh)(a:Int):Int:=
 if (aA.dF x.aN).any (fun q=>decide (t.kind q=0))then 5
 else if (x.S6&&(t.get x.of).isNone)||(xZ x.k&&(t.get x.tD).isNone)then 5
 else if t.ym r x a then 0 else 70
section
variable {R:RS} {w:Wo} (hR:OK R w) (hn:w.th.length<2^62)
include hR hn
theorem adY (ht:w.th.ok)(r:Int)(x:Wh)(a:Int)(hx:x.ok)(hs:x.sz<2^30)(hm:∀v∈x.aN,v.fE=true)(hk:1<=x.k/\x.k<=16)(ha:x.k=14->∃n,w.th.qX n x.of=some a):
 PH eO (me R r x.ar) (Rm R) 1 aG (fun d=>D.int d=w.th.ny r x a):=by
 have e4:=aA.zG x.aN;have d7:=hs;simp only[Wh.sz]at d7;have A:∀v,v=w.th.ny r x a->pH.bK=some 1/\∃d,T.dV (BV.int .i64 v,Rm R) (aG (me R r x.ar) (Rm R) d)/\D.int d=w.th.ny r x a:=fun v hv=>⟨rfl,G7 hv⟩;have d3:x.k=14->((aA.dF x.aN).any (fun q=>decide (w.th.kind q=0))=false)->(w.th.get x.of).isSome=true->∀(rest:bm) (i:Nat) (b:Bool),w.th.drop i=rest->(b&&rest.Bn r x)=w.th.ym r x a->
  aC pg eO [bn] (.bK 1 (aG (me R r x.ar) (Rm R)) fun d=>D.int d=w.th.ny r x a) (fo R r x.ar b i):=by
  intro d8 I d0 rest;have U:w.th.ny r x a=if w.th.ym r x a then 0 else 70:=by have e1:(w.th.get x.of).isNone=false:=(by simpa [Option.isNone_eq_false_iff]using d0);simp[bm.ny,I,e1,xZ,d8]
  induction rest with
  |nil=>
   intro i b hd hb;have:=drop_nil hd;refine vo ?_;simp only[rk,hR.th,bm.xQ];refine⟨fun h=>by simp at h;omega,fun _=>⟨fun h=>A _ ?_,fun h=>A _ ?_⟩⟩
   ·rw[U,<-hb];simp at h;simp[h]
   rw[U,<-hb];simp at h;simp[h,bm.Bn]
  |cons p rest ih=>
   intro i b hd hb;obtain⟨g1,g2,g3⟩:=aF hd;have hp:=ht p (amn g1);have e1:D.af (.r [.z p.1,p.2.ar]) 0= .z p.1:=rfl;have e2:D.af (.r [.z p.1,p.2.ar]) 1=p.2.ar:=rfl;refine vo ?_;simp only[rk,hR.th,bm.xQ,amq,D4 g1,aR g3,bL g3 (n:=w.th.length),e1,e2,D.bu,Wh.ek,Wh.mj,Wh.pe,hp.wk,aot,anE,amY,amF,an3];have d9:bm.Bn (p::rest) r x=(decide (p.1=r\/p.2.k≠14\/p.2.of≠x.of\/p.2.set≠x.set)&&bm.Bn rest r x):=rfl;rw[d9]at hb;refine⟨fun _=>⟨fun a6=>⟨fun _=>⟨fun _=>⟨fun c1=>ih (i+1) true g2 ?_,fun c1=>⟨fun c2=>ih (i+1) true g2 ?_,fun c2=>⟨fun c3=>ih (i+1) true g2 ?_,fun c3=>ih (i+1) _ g2 ?_⟩⟩⟩,fun h=>by simp at h;omega⟩,fun h=>by simp at h⟩,fun a6=>A _ ?_⟩,fun h=>by simp at h;omega⟩
   ·rw[<-hb,a6];simp[c1]
   ·rw[<-hb,a6];simp[c2]
   ·rw[<-hb,a6];simp[c3]
   ·rw[<-hb,a6];by_cases c4:p.2.set=x.set<;>simp[c1,c2,c3,c4]
   rw[U,<-hb];simp[a6]
 have d4:(x.k=1\/x.k=2\/x.k=3\/x.k=4\/x.k=5\/x.k=8\/x.k=10\/x.k=12)\/x.k=6\/x.k=7\/x.k=9\/x.k=11\/x.k=13\/x.k=14\/x.k=15\/x.k=16:=by omega
 have tail:((aA.dF x.aN).any (fun q=>decide (w.th.kind q=0))=false)->((x.S6&&(w.th.get x.of).isNone)||(xZ x.k&&(w.th.get x.tD).isNone))=false->
  aC pg eO [bn] (.bK 1 (aG (me R r x.ar) (Rm R)) fun d=>D.int d=w.th.ny r x a) (x9 R r x.ar (w.th.at x.of).ar (w.th.at x.tD).ar):=by
  intro I hw;have U:w.th.ny r x a=if w.th.ym r x a then 0 else 70:=by simp only[bm.ny,I,hw];simp
  have e3:∀q,IntKind.i64.wrap (w.th.kind q)=w.th.kind q:=fun q=>by rw[bm.TS];exact(ht.at q).wk
  refine N7 ?_;simp only[rk,e3,Wh.ek,Wh.rA,Wh.mj,Wh.qy,Wh.pe,hx.wk,(ht.at x.of).wk,(ht.at x.tD).wk,NF,<-bm.TS];rcases d4 with hk|hk|hk|hk|hk|hk|hk|hk|hk
  ·have n6:¬x.k=6:=(by omega);have n7:¬x.k=7:=(by omega);have n9:¬x.k=9:=(by omega);have b4:¬x.k=11:=(by omega);have b6:¬x.k=13:=(by omega);have b1:¬x.k=14:=(by omega);have a7:¬x.k=15:=(by omega);have a8:¬x.k=16:=(by omega);simp[n6,n7,n9,b4,b6,b1,a7,a8];exact A _ (by rw[U];simp[bm.ym,n6,n7,n9,b4,b6,b1,a7,a8])
  ·simp[-exists_and_left,hk];refine⟨fun J=>⟨fun O=>⟨_,_,rfl,OI hR hn ht r 6 x.of false,?_⟩,fun O=>A _ ?_⟩,fun J=>A _ ?_⟩
   ·intro d hd;rw[hd];exact⟨fun Z=>A _ (by rw[U];simp[bm.ym,hk,J,O,Z]),fun Z=>A _ (by rw[U];simp[bm.ym,hk,J,O,Z])⟩
   ·rw[U];simp[bm.ym,hk,J,O]
   rw[U];simp[bm.ym,hk,J]
  ·simp[hk];exact⟨fun J=>⟨fun O=>A _ (by rw[U];simp[bm.ym,hk,J,O]),fun O=>A _ (by rw[U];simp[bm.ym,hk,J,O])⟩,fun J=>A _ (by rw[U];simp[bm.ym,hk,J])⟩
  ·simp[hk];exact⟨fun J=>⟨fun O=>A _ (by rw[U];simp[bm.ym,hk,J,O]),fun O=>A _ (by rw[U];simp[bm.ym,hk,J,O])⟩,fun J=>A _ (by rw[U];simp[bm.ym,hk,J])⟩
  ·simp[-exists_and_left,hk];refine⟨fun J=>⟨fun O=>⟨_,_,rfl,OI hR hn ht r 11 x.of false,?_⟩,fun O=>A _ ?_⟩,fun J=>A _ ?_⟩
   ·intro d hd;rw[hd];exact⟨fun Z=>A _ (by rw[U];simp[bm.ym,hk,J,O,Z]),fun Z=>A _ (by rw[U];simp[bm.ym,hk,J,O,Z])⟩
   ·rw[U];simp[bm.ym,hk,J,O]
   rw[U];simp[bm.ym,hk,J]
  ·simp[hk];exact⟨fun h0=>A _ (by rw[U];simp[bm.ym,hk,h0]),fun h0=>⟨fun J=>⟨fun O=>A _ (by rw[U];simp[bm.ym,hk,h0,J,O]),fun O=>A _ (by rw[U];simp[bm.ym,hk,h0,J,O])⟩,fun J=>A _ (by rw[U];simp[bm.ym,hk,h0,J])⟩⟩
  ·obtain⟨m,e0⟩:=ha hk;have d0:(w.th.get x.of).isSome=true:=by
    simp only[Wh.S6,zQ,gy,hk]at hw
    cases h:w.th.get x.of with
    |none=>rw[h]at hw;simp at hw
    |some y=>rfl
   have l2:=d3 hk I d0;simp[-exists_and_left,hk];refine⟨_,_,rfl,aao hR hn ht m x.of a e0,?_⟩;intro d hd;rw[hd];refine⟨fun J=>⟨fun O=>l2 _ 0 _ rfl ?_,fun O=>l2 _ 0 _ rfl ?_⟩,fun J=>l2 _ 0 _ rfl ?_⟩
   ·by_cases e:x.set=a<;>simp[bm.ym,hk,J,O,e]
   ·simp[bm.ym,hk,J,O]
   simp[bm.ym,hk,J]
  ·simp[-exists_and_left,hk];refine⟨fun J=>⟨fun O=>⟨_,_,rfl,OI hR hn ht r 15 x.tD true,?_⟩,fun O=>A _ ?_⟩,fun J=>A _ ?_⟩
   ·intro d hd;rw[hd];exact⟨fun Z=>⟨fun h0=>A _ (by rw[U];subst h0;simp[bm.ym,hk,J,O,Z]),fun h0=>⟨fun h8=>A _ (by rw[U];simp[bm.ym,hk,J,O,Z,h0,h8]),fun h8=>A _ (by rw[U];simp[bm.ym,hk,J,O,Z,h0,h8])⟩⟩,fun Z=>A _ (by rw[U];simp[bm.ym,hk,J,O,Z])⟩
   ·rw[U];simp[bm.ym,hk,J,O]
   rw[U];simp[bm.ym,hk,J]
  simp[hk];exact⟨fun J=>⟨fun O=>A _ (by rw[U];simp[bm.ym,hk,J,O]),fun O=>A _ (by rw[U];simp[bm.ym,hk,J,O])⟩,fun J=>A _ (by rw[U];simp[bm.ym,hk,J])⟩
 have loop:∀(rest:List Int) (i:Nat),(aA.dF x.aN).drop i=rest->((aA.dF x.aN).any (fun q=>decide (w.th.kind q=0))=rest.any fun q=>decide (w.th.kind q=0))->
  aC pg eO [bn] (.bK 1 (aG (me R r x.ar) (Rm R)) fun d=>D.int d=w.th.ny r x a) (wN R r x.ar (aA.dF x.aN).length (aY (aA.dF x.aN)) i):=by
  intro rest
  induction rest with
  |nil=>
   intro i hd I;have hi:=drop_nil hd;refine HE ?_;simp only[List.any_nil]at I;simp only[rk,amm];refine⟨fun h=>by simp at h;omega,fun _=>?_⟩;simp only[Wh.ek,Wh.mj,Wh.qy,hx.wk];refine⟨_,_,rfl,RR hR hn x.of,?_⟩;rintro d1 ⟨h1,h2⟩;refine⟨_,_,rfl,RR hR hn x.tD,?_⟩;rintro d2 ⟨h3,h4⟩;rw[h1,h2,h3,h4];have Y:((x.S6&&(w.th.get x.of).isNone)||(xZ x.k&&(w.th.get x.tD).isNone))=true->pH.bK=some 1/\∃d,T.dV (BV.int .i64 5,Rm R) (aG (me R r x.ar) (Rm R) d)/\D.int d=w.th.ny r x a:=fun h=>A _ (by simp only[bm.ny,I,h];simp);have V:=tail I;have d6:∀o:Option Wh,o.isNone=!o.isSome:=fun o=>by cases o<;>rfl
   simp only[d6,Wh.S6,zQ,xZ]at Y V;rcases d4 with hk|hk|hk|hk|hk|hk|hk|hk|hk
   ·have n6:¬x.k=6:=(by omega);have n7:¬x.k=7:=(by omega);have n9:¬x.k=9:=(by omega);have b4:¬x.k=11:=(by omega);have b6:¬x.k=13:=(by omega);have b1:¬x.k=14:=(by omega);have a7:¬x.k=15:=(by omega);have a8:¬x.k=16:=(by omega);simp[-exists_and_left,gy,n6,n7,n9,b4,b6,b1,a7,a8]at Y V ⊢;refine⟨_,_,_,rfl,sZ x.k,?_⟩;rintro _ rfl;have e1:gy x.k=false:=(by simp[gy,b1,a7,a8]);simp[e1];exact V
   ·simp[hk]at Y V ⊢;exact⟨Y,V⟩
   ·simp[hk]at Y V ⊢;exact⟨Y,V⟩
   ·simp[hk]at Y V ⊢;exact⟨Y,V⟩
   ·simp[hk]at Y V ⊢;exact⟨Y,V⟩
   ·simp[-exists_and_left,gy,hk]at Y V ⊢;refine⟨_,_,_,rfl,sZ 13,?_⟩;rintro _ rfl;simp[gy];refine⟨fun h0=>⟨fun h=>Y h0 h,fun h=>V fun _=>h⟩,fun h0=>V fun h=>absurd h0 h⟩
   ·simp[-exists_and_left,gy,hk]at Y V ⊢;refine⟨_,_,_,rfl,sZ 14,?_⟩;rintro _ rfl;simp[gy];exact⟨Y,V⟩
   ·simp[-exists_and_left,gy,hk]at Y V ⊢;refine⟨_,_,_,rfl,sZ 15,?_⟩;rintro _ rfl;simp[gy];exact⟨fun h=>Y (.inl h),fun h=>⟨fun h2=>Y (.inr h2),fun h2=>V h h2⟩⟩
   simp[-exists_and_left,gy,hk]at Y V ⊢;refine⟨_,_,_,rfl,sZ 16,?_⟩;rintro _ rfl;simp[gy];exact⟨fun h=>Y (.inl h),fun h=>⟨fun h2=>Y (.inr h2),fun h2=>V h h2⟩⟩
  |cons q rest ih=>
   intro i hd I;obtain⟨g1,g2,g3⟩:=aF hd;refine HE ?_;simp only[rk,amm,amq,bC (f:=D.z) g1,aR g3,bL g3 (n:=(aA.dF x.aN).length),D.bu];refine⟨fun _=>⟨fun _=>⟨fun _=>⟨_,_,rfl,aap hR hn ht q,?_⟩,fun h=>by simp at h;omega⟩,fun h=>by simp at h⟩,fun h=>by simp at h;omega⟩;intro d d5;rw[d5];refine⟨fun h=>A _ ?_,fun h=>ih (i+1) g2 ?_⟩
   ·have h:w.th.kind q=0:=(by simpa using h);simp[bm.ny,I,h]
   have h:¬w.th.kind q=0:=(by simpa using h);rw[I];simp[h]
 refine YZ ?_;simp only[rk,Wh.re];refine⟨_,_,rfl,aim x hx hs hm,?_⟩;intro d hd;rw[hd,amm];exact loop _ 0 rfl rfl
end
end
section
def bm.kL (t:bm):Nat->Int->List Int
 |0,_=>[]
 |n+1,r=>match t.get r with|none=>[]|some x=>r::(if gy x.k then bm.kL t n x.of else [])
def bm.XR (t:bm):∀(n:Nat) (r:Int),(t.kL n r).length<=n:=by
 intro n
 induction n with
 |zero=>intro r;simp[bm.kL]
 |succ n A=>
  intro r;simp only[bm.kL]
  cases t.get r with
  |none=>simp
  |some x=>
   simp only[amB]
   split
   ·have:=A x.of;omega
   simp
def ahB:∀a:Nat,a<64->0<a->(IntKind.u8.wrap ((BitVec.ofInt 8 (a:Int) &&& BitVec.ofInt 8 (IntKind.u8.wrap ((a:Int)-1))).toNat:Int)).toNat<a/\0<=IntKind.u8.wrap ((BitVec.ofInt 8 (a:Int) &&& BitVec.ofInt 8 (IntKind.u8.wrap ((a:Int)-1))).toNat:Int)/\
 Qp (IntKind.u8.wrap ((BitVec.ofInt 8 (a:Int) &&& BitVec.ofInt 8 (IntKind.u8.wrap ((a:Int)-1))).toNat:Int)).toNat+1=Qp a:=by decide+kernel
section
variable {R:RS} {w:Wo} (hR:OK R w)
include hR
theorem ajh (ht:w.th.ok)(hn:w.th.length<2^40)(r:Int):PH rD (mD R r) (Rm R) 1 Cb (fun d=>D.ae d=aY (w.th.kL (w.th.length+1) r)):=by
 have O:=bm.XR w.th (w.th.length+1) r;have leaf:∀l:List Int,l=w.th.kL (w.th.length+1) r->Fc.bK=some 1/\∃d,T.dV (BV.hY 1 l.length true,[(0,aE.cells [.hY 2 R.pa.length true,.hY 3 R.cu.length true,.hY 4 R.th.length true,.int .i64 R.la,.hY 5 R.ma.length true] bQ false),(1,.bY bW (aY l) true),(2,.bY ah R.pa true),(3,.bY aj R.cu true),(4,.bY bF R.th true),(5,.bY ah R.ma true)]) (Cb (mD R r) (Rm R) d)/\D.ae d=aY (w.th.kL (w.th.length+1) r):=by rintro l rfl;refine⟨rfl,.r (aY _),?_,rfl⟩;rw[show ∀l:List Int,l.length=(aY l).length from fun l=>by simp];exact .ret
 have hL:R.th.length=w.th.length:=by rw[hR.th];simp
 have loop:∀(m k:Nat) (q:Int) (pre:List Int),m+k=w.th.length+1->pre++w.th.kL m q=w.th.kL (w.th.length+1) r->
  aC pg rD [dH] (.bK 1 (Cb (mD R r) (Rm R)) fun d=>D.ae d=aY (w.th.kL (w.th.length+1) r)) (Bd R r q pre.length k (aY pre)):=by
  intro m
  induction m with
  |zero=>intro k q pre V hp;refine Nf ?_;simp only[rk,aml,amk];exact⟨fun h=>by omega,fun _=>leaf pre (by simpa [bm.kL]using hp)⟩
  |succ m Y=>
   intro k q pre V hp;have A:=amZ List.length hp;simp only[ams]at A;refine Nf ?_;simp only[rk,aml,amk];refine⟨fun _=>⟨_,_,rfl,RR hR (by omega) q,?_⟩,fun h=>by omega⟩;rintro d ⟨h1,h2⟩;rw[h1,h2]
   cases J:w.th.get q with
   |none=>exact⟨fun _=>leaf pre (by simpa [bm.kL,J]using hp),fun h=>by simp at h⟩
   |some x=>
    have hat:w.th.at q=x:=(by simp[bm.at,J]);have U:x.ok:=(by have:=ht.at q;rwa [hat]at this);rw[hat];simp only[Wh.ek,Wh.mj,U.wk,anD,anY,amp,amy,amA,am1];have I:w.th.kL (m+1) q=q::(if gy x.k then w.th.kL m x.of else []):=(by simp only[bm.kL,J]);rw[I]at hp A;simp only[amB]at A;refine⟨fun _=>⟨_,_,_,rfl,sZ x.k,?_⟩,fun h=>by simp[bh]at h;omega⟩;rintro _ rfl;simp only[D.bV,amJ,amP];refine⟨fun hw=>?_,fun hw=>?_⟩
    ·rw[hw]at hp;have:=leaf (pre++[q]) (by simpa using hp);simpa using this
    rw[amu hw]at hp;have e:=Y (k+1) x.of (pre++[q]) (by omega) (by simpa using hp);rw[bM];simpa using e
 exact afB (loop (w.th.length+1) 0 r [] rfl rfl)
theorem adZ (ht:w.th.ok)(h1:w.th.one)(hn:w.th.length<2^40)(ab:Int->Int)(Y:∀r x,w.th.get r=some x->x.k≠14->(∃n,w.th.qX n r=some (ab r))/\0<=ab r/\ab r<64):
 PH iA (il R) (Rm R) 1 aG (fun d=>D.int d=vD (w.th.rX ab) (w.th.map (·.1))):=by
 have hL:R.th.length=w.th.length:=by rw[hR.th];simp
 have loop:∀(rest:bm) (i:Nat) (s:Int),w.th.drop i=rest->s+vD (w.th.rX ab) (rest.map (·.1))=vD (w.th.rX ab) (w.th.map (·.1))->-(i:Int)<=s->s<=63*i->
  aC pg iA [ah] (.bK 1 (aG (il R) (Rm R)) fun d=>D.int d=vD (w.th.rX ab) (w.th.map (·.1))) (rP R s i):=by
  intro rest
  induction rest with
  |nil=>intro i s hd hs b1 b2;have:=drop_nil hd;refine HG ?_;simp only[rk,hL];exact⟨fun h=>by simp at h;omega,fun _=>⟨rfl,G7 (by simpa [vD]using hs)⟩⟩
  |cons p rest ih=>
   intro i s hd hs b1 b2;obtain⟨g1,g2,g3⟩:=aF hd;have I:=amn g1;have hp:=ht p I;have J:w.th.get p.1=some p.2:=(bm.wL h1).2 I;have a7:vD (w.th.rX ab) ((p::rest).map (·.1))=w.th.rX ab p.1+vD (w.th.rX ab) (rest.map (·.1)):=rfl;rw[a7]at hs;have a8:=YU w.th ab p.1;have hv:w.th.rX ab p.1=if p.2.k=14 then-1 else 2^Qp (ab p.1).toNat-1:=by simp only[bm.rX,J]
   have e1:D.af (.r [.z p.1,p.2.ar]) 0= .z p.1:=rfl;have e2:D.af (.r [.z p.1,p.2.ar]) 1=p.2.ar:=rfl;refine HG ?_;have hat:D.at R.th i= .r [.z p.1,p.2.ar]:=(by rw[hR.th];exact D4 g1);simp only[rk,hL,amq,hat,aR g3,e1,e2,D.bu,Wh.ek,hp.wk,amY,amF,an3];refine⟨fun _=>⟨fun _=>⟨fun _=>⟨fun U=>?_,fun U=>?_⟩,fun h=>by simp at h;omega⟩,fun h=>by simp at h⟩,fun h=>by simp at h;omega⟩
   ·rw[amu U]at hv;rw[bM (x:=s-1),bL g3 (n:=w.th.length)];exact ih (i+1) (s-1) g2 (by omega) (by omega) (by omega)
   rw[amt U]at hv;obtain⟨⟨m,hm⟩,a0,a1⟩:=Y p.1 p.2 J U;refine⟨_,_,rfl,aao hR (by omega) ht m p.1 (ab p.1) hm,?_⟩
   ·intro d V;rw[V];have O:∀(a:Nat),a<64->∀(j:Nat),2^j*2^Qp a=2^Qp (ab p.1).toNat->j+Qp a<=6->aC pg iA [ah] (.bK 1 (aG (il R) (Rm R)) fun d=>D.int d=vD (w.th.rX ab) (w.th.map (·.1))) (qC R a s i ((2^j:Nat):Int)):=by
     intro a
     induction a using Nat.strongRecOn with
     |_ a a6=>
      intro ha j hj b4;have Z:∀j,j<=6->(2^j:Nat)<=64:=fun j hj=>by have:j=0\/j=1\/j=2\/j=3\/j=4\/j=5\/j=6:=(by omega);rcases this with rfl|rfl|rfl|rfl|rfl|rfl|rfl<;>decide
      have A:=Z j (by omega);have b6:((2^j:Nat):Int)<=64:=(by exact_mod_cast A);have d0:0<=((2^j:Nat):Int):=ap6 _;refine Mp ?_;simp only[rk,aml,amk];refine⟨fun h=>?_,fun h=>?_⟩
      ·obtain⟨l1,l2,l3⟩:=ahB a ha (by omega);generalize IntKind.u8.wrap ((BitVec.ofInt 8 (a:Int) &&& BitVec.ofInt 8 (IntKind.u8.wrap ((a:Int)-1))).toNat:Int)=b at l1 l2 l3 ⊢;have hb:b=(b.toNat:Int):=(by omega);have e:=a6 b.toNat l1 (by omega) (j+1) (by rw[<-hj,<-l3,apG,apG];grind) (by omega);rw[bM (x:=2*((2^j:Nat):Int))];have e5:(2*((2^j:Nat):Int))=((2^(j+1):Nat):Int):=(by rw[apG];omega);rw[e5,hb];exact e
      have h0:a=0:=(by omega);subst h0;have e6:2^j=2^Qp (ab p.1).toNat:=(by simpa [Qp]using hj);rw[e6]at A ⊢;have e7:((2^Qp (ab p.1).toNat:Nat):Int)=2^Qp (ab p.1).toNat:=(by simp);rw[bM (x:=s+_),bM,bL g3 (n:=w.th.length)];exact ih (i+1) _ g2 (by omega) (by omega) (by omega)
    have e:=O (ab p.1).toNat (by omega) 0 (by simp) (by have:=ZD (ab p.1).toNat;omega);have e8:((ab p.1).toNat:Int)=ab p.1:=(by omega);rw[e8]at e;exact e
 exact Y1 (loop w.th 0 0 rfl (by simp) (by omega) (by omega))
end
end
end Go.Proofs
end
