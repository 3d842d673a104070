import Derived.Test.YtdoajjnobfjkcaaGreatM7
set_option linter.all false
noncomputable section
namespace Go.PB
open Go
section
def agj (S:TypeId->D->D):List Field->Nat->D->List D
 | [],_,_=>[]
 |f::r,i,d=>S f.type (d.aa i)::agj S r (i+1) d
def reF (P:Program):Nat->TypeId->D->D
 |0,_,_=> .z 0
 |n+1,t,d=>
  match P.underlying t with
  |some (.int _)=> .z d.int
  |some .bool=> .b d.bool
  |some .string=> .s d.b8
  |some (.slice _)=> .r d.ae
  |some (.struct fs)=> .r (agj (reF P n) fs.toList 0 d)
  |_=> .z 0
def bU (P:Program)(t:TypeId)(d:D):D:=reF P 8 t d
inductive US (P:Program):TypeId->D->Prop where
 |int {t:TypeId} {k:IntKind} {n:Int} (h:P.underlying t=some (.int k)) (h1:k.min<=n) (h2:n<=k.max):US P t (.z n)
 |bool {t:TypeId} {b:Bool} (h:P.underlying t=some .bool):US P t (.b b)
 |b8 {t:TypeId} {s:List UInt8} (h:P.underlying t=some .string) (hs:s.length<=maxLen):US P t (.s s)
 |slice {t e:TypeId} {l:List D} (h:P.underlying t=some (.slice e)) (hl:l.length<=maxLen) (hi:∀x,x∈l->US P e x):US P t (.r l)
 |struct {t:TypeId} {fs:Array Field} {l:List D} (h:P.underlying t=some (.struct fs)) (hl:l.length=fs.size) (hi:∀i f,fs.toList[i]?=some f->US P f.type (D.at l i)):US P t (.r l)
section
variable {P:Program}
def US.TF {t:TypeId}{fs:Array Field}{d:D}(hu:P.underlying t=some (.struct fs))(h:US P t d):d= .r d.ae/\d.ae.length=fs.size/\∀i f,fs.toList[i]?=some f->US P f.type (d.aa i):=by
 cases h with
 |int h h1 h2=>rw[hu]at h;cases h
 |bool h=>rw[hu]at h;cases h
 |b8 h hs=>rw[hu]at h;cases h
 |slice h hl hi=>rw[hu]at h;cases h
 |struct h hl hi=>rw[hu]at h;cases h;exact⟨rfl,hl,hi⟩
def US.aa {t u:TypeId}{fs:Array Field}{d:D}{i:Nat}{f:Field}(hu:P.underlying t=some (.struct fs))(hf:fs.toList[i]?=some f)(ht:f.type=u)(h:US P t d):US P u (d.aa i):=by
 subst ht;exact(h.TF hu).2.2 i f hf
end
@[simp] def D.bV (n:Int):D.int (.z n)=n:=by cases n<;>rfl
@[simp] def D.bz (n:Bool):D.bool (.b n)=n:=by cases n<;>rfl
@[simp] def D.Lq (n:List UInt8):D.b8 (.s n)=n:=by cases n<;>rfl
@[simp] def D.bE (n:List D):D.ae (.r n)=n:=by cases n<;>rfl
inductive sn where
 |all
 |HQ (l r:sn)
 |Nd (i:Nat) (neg:Bool) (o:sn)
 |no (i:Nat) (neg:Bool) (o:sn)
 |lit (o:sn)
 |sm (o:sn)
def sn.ls (o:sn):Nat->sn
 |0=>o
 |n+1=> .lit (sn.ls o n)
def sn.ys (o:sn)(i:Nat):Nat->sn
 |0=>o
 |n+1=> .Nd i false (sn.ys o i n)
def sn.ns (o:sn)(i:Nat):Nat->sn
 |0=>o
 |n+1=> .no i false (sn.ns o i n)
def KN (A:List (Bool×Bool))(i:Nat)(neg:Bool):Bool×Bool:=
 match neg with
 |false=>A.getD i (true,true)
 |true=>(!(A.getD i (true,true)).1,!(A.getD i (true,true)).2)
def RT.pr:sn->RT->RT
 | .HQ a b,.ite c t e=> .ite c (RT.pr a t) (RT.pr b e)
 | .Nd _ _ o,.ite _ t _=>RT.pr o t
 | .no _ _ o,.ite _ _ e=>RT.pr o e
 | .lit o,.ite c t e=>(match c with|true=>RT.pr o t|false=>RT.pr o e)
 | .HQ a b,.pick ks seen e k=> .pick ks seen (RT.pr a e) fun d=>RT.pr b (k d)
 | .HQ a b,.HN t e=> .HN (RT.pr a t) (RT.pr b e)
 | .sm o,.same u v t=>RT.pr o t
 |o,.same u v t=> .same u v (RT.pr o t)
 |o,.call f ds k=> .call f ds fun d=>RT.pr o (k d)
 |o,.aC f ags L p k=> .aC f ags L p fun d=>RT.pr o (k d)
 |_,t=>t
def RT.C0:sn->RT->RT
 | .HQ a b,.ite c t e=> .ite c (RT.C0 a t) (RT.C0 b e)
 | .Nd _ _ o,.ite c t _=> .PU c true (RT.C0 o t)
 | .no _ _ o,.ite c _ e=> .PU c false (RT.C0 o e)
 | .lit o,.ite c t e=>(match c with|true=>RT.C0 o t|false=>RT.C0 o e)
 | .HQ a b,.pick ks seen e k=> .pick ks seen (RT.C0 a e) fun d=>RT.C0 b (k d)
 | .HQ a b,.HN t e=> .HN (RT.C0 a t) (RT.C0 b e)
 | .sm o,.same u v t=> .same u v (RT.C0 o t)
 |o,.same u v t=> .same u v (RT.C0 o t)
 |o,.call f ds k=> .call f ds fun d=>RT.C0 o (k d)
 |o,.aC f ags L p k=> .aC f ags L p fun d=>RT.C0 o (k d)
 |_,t=>t
def RT.CZ:sn->List (Bool×Bool)->RT->RT
 | .HQ a b,A,.ite c t e=> .ite c (RT.CZ a ((c,true)::A) t) (RT.CZ b ((c,false)::A) e)
 | .Nd i neg o,A,.ite _ t _=> .PU (KN A i neg).1 (KN A i neg).2 (RT.CZ o A t)
 | .no i neg o,A,.ite _ _ e=> .PU (KN A i neg).1 (KN A i neg).2 (RT.CZ o A e)
 | .lit o,A,.ite c t e=>(match c with|true=>RT.CZ o A t|false=>RT.CZ o A e)
 | .HQ a b,A,.pick ks seen e k=> .pick ks seen (RT.CZ a A e) fun d=>RT.CZ b A (k d)
 | .HQ a b,A,.HN t e=> .HN (RT.CZ a A t) (RT.CZ b A e)
 | .sm o,A,.same u _ t=> .same u u (RT.CZ o A t)
 |o,A,.same u v t=> .same u v (RT.CZ o A t)
 |o,A,.call f ds k=> .call f ds fun d=>RT.CZ o A (k d)
 |o,A,.aC f ags L p k=> .aC f ags L p fun d=>RT.CZ o A (k d)
 |_,_,t=>t
section
variable {P:Program} {C:cm} {G:mR}
def PF {A:List (Bool×Bool)}(hA:∀p∈A,p.1=p.2)(i:Nat)(neg:Bool):(KN A i neg).1=(KN A i neg).2:=by
 have h:(A.getD i (true,true)).1=(A.getD i (true,true)).2:=by
  simp only[List.getD]
  cases hi:A[i]? with
  |none=>rfl
  |some p=>exact hA p (agY hi)
 cases neg with
 |false=>exact h
 |true=>simp only[KN,h]
def RT.agh:∀(t:RT) (o:sn) (A:List (Bool×Bool)),(∀p∈A,p.1=p.2)->RT.C0 o t=RT.CZ o A t->rk P C G (RT.pr o t)->rk P C G t:=by
 intro t
 induction t with
 |ite c t e iht ihe=>
  intro o A hA hm h
  cases o with
  |all=>simpa only[RT.pr]using h
  |sm o=>simpa only[RT.pr]using h
  |HQ a b=>
   simp only[RT.pr,RT.C0,RT.CZ,rk,RT.ite.injEq,ahk]at h hm ⊢
   exact⟨fun hc=>iht _ _ (fun p hp=>by rcases ag9.1 hp with rfl|hp;exact hc;exact hA p hp) hm.1 (h.1 hc),fun hc=>ihe _ _ (fun p hp=>by rcases ag9.1 hp with rfl|hp;exact hc;exact hA p hp) hm.2 (h.2 hc)⟩
  |Nd i neg o=>
   simp only[RT.pr,RT.C0,RT.CZ,rk,RT.PU.injEq]at h hm ⊢
   have hk:=PF hA i neg
   rw[<-hm.1,<-hm.2.1]at hk
   exact⟨fun _=>iht _ _ hA hm.2.2 h,fun hc=>by rw[hk]at hc;cases hc⟩
  |no i neg o=>
   simp only[RT.pr,RT.C0,RT.CZ,rk,RT.PU.injEq]at h hm ⊢
   have hk:=PF hA i neg
   rw[<-hm.1,<-hm.2.1]at hk
   exact⟨fun hc=>(by rw[hk]at hc;cases hc),fun _=>ihe _ _ hA hm.2.2 h⟩
  |lit o=>
   cases c with
   |true=>simp only[RT.pr,RT.C0,RT.CZ]at h hm;exact RT.okI (fun _=>iht _ _ hA hm h) (fun hc=>by cases hc)
   |false=>simp only[RT.pr,RT.C0,RT.CZ]at h hm;exact RT.okI (fun hc=>by cases hc) (fun _=>ihe _ _ hA hm h)
 |pick ks seen e k ihe ihk=>
  intro o A hA hm h
  cases o with
  |HQ a b=>
   simp only[RT.pr,RT.C0,RT.CZ,rk,RT.pick.injEq,ahk]at h hm ⊢
   exact⟨fun hc=>ihe _ _ hA hm.1 (h.1 hc),fun d h3 h4=>ihk d _ _ hA (congrFun hm.2 d) (h.2 d h3 h4)⟩
  |_=>simpa only[RT.pr]using h
 |HN t e iht ihe=>
  intro o A hA hm h
  cases o with
  |HQ a b=>
   simp only[RT.pr,RT.C0,RT.CZ,rk,RT.HN.injEq]at h hm ⊢
   exact⟨iht _ _ hA hm.1 h.1,ihe _ _ hA hm.2 h.2⟩
  |_=>simpa only[RT.pr]using h
 |same u v t ih=>
  intro o A hA hm h
  by_cases ho:∃o',o= .sm o'
  ·obtain⟨o',rfl⟩:=ho
   simp only[RT.pr,RT.C0,RT.CZ,RT.same.injEq,ahk]at h hm
   simp only[rk];exact⟨hm.1.symm,ih _ _ hA hm.2 h⟩
  ·have h:rk P C G (.same u v (RT.pr o t)):=by cases o<;>first|exact absurd ⟨_,rfl⟩ ho|simpa only[RT.pr]using h
   have hm:RT.same u v (RT.C0 o t)= .same u v (RT.CZ o A t):=by cases o<;>first|exact absurd ⟨_,rfl⟩ ho|simpa only[RT.C0,RT.CZ]using hm
   simp only[RT.same.injEq,ahk]at hm
   simp only[rk]at h ⊢;exact⟨h.1,ih _ _ hA hm h.2⟩
 |call f ds k ih=>
  intro o A hA hm h
  have h:rk P C G (.call f ds fun d=>RT.pr o (k d)):=by cases o<;>simpa only[RT.pr]using h
  have hm:(RT.call f ds fun d=>RT.C0 o (k d))= .call f ds fun d=>RT.CZ o A (k d):=by cases o<;>simpa only[RT.C0,RT.CZ]using hm
  simp only[RT.call.injEq,ahk]at hm
  simp only[rk]at h ⊢
  obtain⟨ts,rs,Q',h1,h2,h3⟩:=h
  exact⟨ts,rs,Q',h1,h2,fun d hd=>ih d _ _ hA (congrFun hm d) (h3 d hd)⟩
 |aC f ags L p k ih=>
  intro o A hA hm h
  have h:rk P C G (.aC f ags L p fun d=>RT.pr o (k d)):=by cases o<;>simpa only[RT.pr]using h
  have hm:(RT.aC f ags L p fun d=>RT.C0 o (k d))= .aC f ags L p fun d=>RT.CZ o A (k d):=by cases o<;>simpa only[RT.C0,RT.CZ]using hm
  simp only[RT.aC.injEq,ahk]at hm
  simp only[rk]at h ⊢
  obtain⟨R,Q',h1,h2,h3⟩:=h
  exact⟨R,Q',h1,h2,fun d hd=>ih d _ _ hA (congrFun hm d) (h3 d hd)⟩
 |_=>intro o A hA hm h;cases o<;>simpa only[RT.pr]using h
def ay.nB (hmix:P.follows .mixedOrders=true)(hp:G.p<=C.p)(n:Nat){s:au}(o:sn){t:RT}(em:RT.C0 o (runT P C n s)=RT.CZ o [] (runT P C n s))(e:RT.pr o (runT P C n s)=t)(h:rk P C G t):ay P C.f C.rs G s:=
 aci hmix hp n (RT.agh _ o [] (fun p hp=>by cases hp) em (by rw[e];exact h))
def fk.nB (hmix:P.follows .mixedOrders=true){Q:D->Prop}(n:Nat){ts:List TypeId}{ds:List D}(o:sn){t:RT}(hin:(gq P C.f (xO P ts ds) .normal).isSome=true)
 (em:RT.C0 o (runT P C n ⟨(gq P C.f (xO P ts ds) .normal).getD default,[],hS⟩)=RT.CZ o [] (runT P C n ⟨(gq P C.f (xO P ts ds) .normal).getD default,[],hS⟩))
 (e:RT.pr o (runT P C n ⟨(gq P C.f (xO P ts ds) .normal).getD default,[],hS⟩)=t)(h:rk P C (.dQ Q) t):fk P C.f ts ds C.rs Q:=by
 obtain⟨fr,hfr⟩:=ahw.1 hin
 rw[hfr]at e em
 exact fk.yJ hfr (ay.nB hmix (ai3 _) n o em e h)
def BZ.nB (hmix:P.follows .mixedOrders=true){Q:D->Prop}(n:Nat){p:Nat}{ags:List BV}{L:List (Nat×aI)}{R:D->T (BV×List (Nat×aI))}(o:sn){t:RT}(hp:C.bx=some p)(hin:(gq P C.f ags .normal).isSome=true)
 (em:RT.C0 o (runT P C n ⟨(gq P C.f ags .normal).getD default,[],hL L⟩)=RT.CZ o [] (runT P C n ⟨(gq P C.f ags .normal).getD default,[],hL L⟩))
 (e:RT.pr o (runT P C n ⟨(gq P C.f ags .normal).getD default,[],hL L⟩)=t)(h:rk P C (.bx p R Q) t):BZ P C.f ags L p R Q:=by
 obtain⟨fr,hfr⟩:=ahw.1 hin
 rw[hfr]at e em
 exact BZ.yJ hfr (ay.nB hmix (by simp[mR.p,cm.p,hp]) n o em e h)
end
def cn (d:D):List (D×D):=d.ae.map fun e=>(e.aa 0,e.aa 1)
def cK (d:D):List Nat:=d.ae.map fun e=>e.int.toNat
def cJ (d:D):Nat:=d.int.toNat
def i5 (m:List (D×D)):D:= .r (m.map fun p=> .r [p.1,p.2])
def i6 (m:List Nat):D:= .r (m.map fun p:Nat=> .z (p:Int))
@[simp] def dh (m:List (D×D)):cn (i5 m)=m:=by
 unfold cn i5;simp only[D.ae,ajQ]
 conv=>rhs;rw[<-akL m]
 apply aiZ;intro p _;rfl
@[simp] def nb (m:List Nat):cK (i6 m)=m:=by
 unfold cK i6;simp only[D.ae,ajQ]
 conv=>rhs;rw[<-akL m]
 apply aiZ;intro p _;simp[D.int]
@[simp] def na (n:Nat):cJ (.z n)=n:=by simp[cJ,D.int]
end
noncomputable section
def aeb (P:Program)(f:FuncId)(path:Nat):Code:=match Cz 200 path (T8 P f) []with| .code c::_=>c|_=> .skip
def frS (P:Program)(f:FuncId)(path:Nat)(rng:Option Nat)(ds:List tN)(ro:Option Nat)(cx:List (Nat×BV)):bq:=
 match P.funcs[f]? with
 |some fn=>⟨f,Uh fn.ntmps cx,(match rng with|none=>Cz 200 path (T8 P f) []|some l=> .inRangeFunc l::(Cz 200 path (T8 P f) []).tail),ds,.run,.normal,ro⟩
 |none=>default
def dfC (r:Nat):tN:=⟨.collected r,[]⟩
def Uv (P:Program)(f:FuncId)(path:Nat)(st:LoopState)(cx:List (Nat×BV))(aL:Nat):aI:=
 match P.funcs[f]? with
 |some fn=>(match aeb P f path with| .rangeFunc _ params assign body=> .loop ⟨st,none,f,Uh fn.ntmps cx,params,assign,body,aL⟩|_=>default)
 |none=>default
def Uq (frs:List bq)(L:List (Nat×aI)):au:=match frs with|fr::cs=>⟨fr,cs,hL L⟩| []=>default
end
end Go.PB
end
