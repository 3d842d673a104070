import Derived.ChangeArms
import Derived.DataReads
import Derived.OpenShut
import Derived.WideShapes
import Derived.Deep.Slices
import Derived.Test.YtemiekpfokoplaaGreatM7
set_option linter.all false
noncomputable section
namespace Go.PB
open Go
section
section
variable {P:Program} {w:World}
def YL {fz:Nat->Prop}{t:TypeId}{d:D}{v:Value}(hd:cy P t=true)(ha:hY P t=some false)(h:mW P fz w t d [v]):ai P ⟨fun _=>none,fz,fun _ _=>none⟩ w (ch P t d) v:=by
 have:=mW.shape (g:=⟨fun _=>none,fz,fun _ _=>none⟩) hd h
 simp only[ch,ha]
 split
 ·rename_i y hy;rw[hy]at this;obtain⟨u,hu,h1⟩:=this.one;cases hu;exact h1
 ·simp only[ai]
end
end
section
def aeg (S:TypeId->D->D):List Field->Nat->D->List D
 | [],_,_=>[]
 |f::r,i,d=>S f.type (d.ae i)::aeg S r (i+1) d
def reF (P:Program):Nat->TypeId->D->D
 |0,_,_=> .z 0
 |n+1,t,d=>
  match P.underlying t with
  |some (.int _)=> .z d.int
  |some .bool=> .b d.bool
  |some .string=> .s d.bj
  |some (.slice _)=> .r d.aa
  |some (.struct fs)=> .r (aeg (reF P n) fs.toList 0 d)
  |_=> .z 0
def ct (P:Program)(t:TypeId)(d:D):D:=reF P 8 t d
inductive SM (P:Program):TypeId->D->Prop where
 |int {t:TypeId} {k:IntKind} {n:Int} (h:P.underlying t=some (.int k)) (h1:k.min<=n) (h2:n<=k.max):SM P t (.z n)
 |bool {t:TypeId} {b:Bool} (h:P.underlying t=some .bool):SM P t (.b b)
 |bj {t:TypeId} {s:List UInt8} (h:P.underlying t=some .string) (hs:s.length<=maxLen):SM P t (.s s)
 |slice {t e:TypeId} {l:List D} (h:P.underlying t=some (.slice e)) (hl:l.length<=maxLen) (hi:∀x,x∈l->SM P e x):SM P t (.r l)
 |struct {t:TypeId} {fs:Array Field} {l:List D} (h:P.underlying t=some (.struct fs)) (hl:l.length=fs.size) (hi:∀i f,fs.toList[i]?=some f->SM P f.type (D.at l i)):SM P t (.r l)
section
variable {P:Program}
def SM.Rn {t:TypeId}{fs:Array Field}{d:D}(hu:P.underlying t=some (.struct fs))(h:SM P t d):d= .r d.aa/\d.aa.length=fs.size/\∀i f,fs.toList[i]?=some f->SM P f.type (d.ae i):=by
 cases h with
 |int h h1 h2=>rw[hu]at h;cases h
 |bool h=>rw[hu]at h;cases h
 |bj h hs=>rw[hu]at h;cases h
 |slice h hl hi=>rw[hu]at h;cases h
 |struct h hl hi=>rw[hu]at h;cases h;exact⟨rfl,hl,hi⟩
def SM.ae {t u:TypeId}{fs:Array Field}{d:D}{i:Nat}{f:Field}(hu:P.underlying t=some (.struct fs))(hf:fs.toList[i]?=some f)(ht:f.type=u)(h:SM P t d):SM P u (d.ae i):=by
 subst ht;exact(h.Rn hu).2.2 i f hf
end
@[simp] def D.df (n:Int):D.int (.z n)=n:=by cases n<;>rfl
@[simp] def D.cg (n:Bool):D.bool (.b n)=n:=by cases n<;>rfl
@[simp] def D.aa6 (n:List UInt8):D.bj (.s n)=n:=by cases n<;>rfl
@[simp] def D.bP (n:List D):D.aa (.r n)=n:=by cases n<;>rfl
inductive rh where
 |all
 |wV (l r:rh)
 |Ip (i:Nat) (neg:Bool) (o:rh)
 |no (i:Nat) (neg:Bool) (o:rh)
 |lit (o:rh)
 |sm (o:rh)
def rh.ls (o:rh):Nat->rh
 |0=>o
 |n+1=> .lit (rh.ls o n)
def rh.ys (o:rh)(i:Nat):Nat->rh
 |0=>o
 |n+1=> .Ip i false (rh.ys o i n)
def rh.ns (o:rh)(i:Nat):Nat->rh
 |0=>o
 |n+1=> .no i false (rh.ns o i n)
def Jz (A:List (Bool×Bool))(i:Nat)(neg:Bool):Bool×Bool:=
 match neg with
 |false=>A.getD i (true,true)
 |true=>(!(A.getD i (true,true)).1,!(A.getD i (true,true)).2)
def RT.pr:rh->RT->RT
 | .wV a b,.ite c t e=> .ite c (RT.pr a t) (RT.pr b e)
 | .Ip _ _ o,.ite _ t _=>RT.pr o t
 | .no _ _ o,.ite _ _ e=>RT.pr o e
 | .lit o,.ite c t e=>(match c with|true=>RT.pr o t|false=>RT.pr o e)
 | .wV a b,.pick ks seen e k=> .pick ks seen (RT.pr a e) fun d=>RT.pr b (k d)
 | .wV a b,.Gc t e=> .Gc (RT.pr a t) (RT.pr b e)
 | .sm o,.same u v t=>RT.pr o t
 |o,.same u v t=> .same u v (RT.pr o t)
 |o,.call f ds k=> .call f ds fun d=>RT.pr o (k d)
 |o,.aq f ags L p k=> .aq f ags L p fun d=>RT.pr o (k d)
 |_,t=>t
def RT.A0:rh->RT->RT
 | .wV a b,.ite c t e=> .ite c (RT.A0 a t) (RT.A0 b e)
 | .Ip _ _ o,.ite c t _=> .N8 c true (RT.A0 o t)
 | .no _ _ o,.ite c _ e=> .N8 c false (RT.A0 o e)
 | .lit o,.ite c t e=>(match c with|true=>RT.A0 o t|false=>RT.A0 o e)
 | .wV a b,.pick ks seen e k=> .pick ks seen (RT.A0 a e) fun d=>RT.A0 b (k d)
 | .wV a b,.Gc t e=> .Gc (RT.A0 a t) (RT.A0 b e)
 | .sm o,.same u v t=> .same u v (RT.A0 o t)
 |o,.same u v t=> .same u v (RT.A0 o t)
 |o,.call f ds k=> .call f ds fun d=>RT.A0 o (k d)
 |o,.aq f ags L p k=> .aq f ags L p fun d=>RT.A0 o (k d)
 |_,t=>t
def RT.AZ:rh->List (Bool×Bool)->RT->RT
 | .wV a b,A,.ite c t e=> .ite c (RT.AZ a ((c,true)::A) t) (RT.AZ b ((c,false)::A) e)
 | .Ip i neg o,A,.ite _ t _=> .N8 (Jz A i neg).1 (Jz A i neg).2 (RT.AZ o A t)
 | .no i neg o,A,.ite _ _ e=> .N8 (Jz A i neg).1 (Jz A i neg).2 (RT.AZ o A e)
 | .lit o,A,.ite c t e=>(match c with|true=>RT.AZ o A t|false=>RT.AZ o A e)
 | .wV a b,A,.pick ks seen e k=> .pick ks seen (RT.AZ a A e) fun d=>RT.AZ b A (k d)
 | .wV a b,A,.Gc t e=> .Gc (RT.AZ a A t) (RT.AZ b A e)
 | .sm o,A,.same u _ t=> .same u u (RT.AZ o A t)
 |o,A,.same u v t=> .same u v (RT.AZ o A t)
 |o,A,.call f ds k=> .call f ds fun d=>RT.AZ o A (k d)
 |o,A,.aq f ags L p k=> .aq f ags L p fun d=>RT.AZ o A (k d)
 |_,_,t=>t
section
variable {P:Program} {C:cw} {G:sS}
def NU {A:List (Bool×Bool)}(hA:∀p∈A,p.1=p.2)(i:Nat)(neg:Bool):(Jz A i neg).1=(Jz A i neg).2:=by
 have h:(A.getD i (true,true)).1=(A.getD i (true,true)).2:=by
  simp only[List.getD]
  cases hi:A[i]? with
  |none=>rfl
  |some p=>exact hA p (aeU hi)
 cases neg with
 |false=>exact h
 |true=>simp only[Jz,h]
def RT.aee:∀(t:RT) (o:rh) (A:List (Bool×Bool)),(∀p∈A,p.1=p.2)->RT.A0 o t=RT.AZ o A t->rk P C G (RT.pr o t)->rk P C G t:=by
 intro t
 induction t with
 |ite c t e iht ihe=>
  intro o A hA hm h
  cases o with
  |all=>simpa only[RT.pr]using h
  |sm o=>simpa only[RT.pr]using h
  |wV a b=>
   simp only[RT.pr,RT.A0,RT.AZ,rk,RT.ite.injEq,afL]at h hm ⊢
   exact⟨fun hc=>iht _ _ (fun p hp=>by rcases ae5.1 hp with rfl|hp;exact hc;exact hA p hp) hm.1 (h.1 hc),fun hc=>ihe _ _ (fun p hp=>by rcases ae5.1 hp with rfl|hp;exact hc;exact hA p hp) hm.2 (h.2 hc)⟩
  |Ip i neg o=>
   simp only[RT.pr,RT.A0,RT.AZ,rk,RT.N8.injEq]at h hm ⊢
   have hk:=NU hA i neg
   rw[<-hm.1,<-hm.2.1]at hk
   exact⟨fun _=>iht _ _ hA hm.2.2 h,fun hc=>by rw[hk]at hc;cases hc⟩
  |no i neg o=>
   simp only[RT.pr,RT.A0,RT.AZ,rk,RT.N8.injEq]at h hm ⊢
   have hk:=NU hA i neg
   rw[<-hm.1,<-hm.2.1]at hk
   exact⟨fun hc=>(by rw[hk]at hc;cases hc),fun _=>ihe _ _ hA hm.2.2 h⟩
  |lit o=>
   cases c with
   |true=>simp only[RT.pr,RT.A0,RT.AZ]at h hm;exact RT.okI (fun _=>iht _ _ hA hm h) (fun hc=>by cases hc)
   |false=>simp only[RT.pr,RT.A0,RT.AZ]at h hm;exact RT.okI (fun hc=>by cases hc) (fun _=>ihe _ _ hA hm h)
 |pick ks seen e k ihe ihk=>
  intro o A hA hm h
  cases o with
  |wV a b=>
   simp only[RT.pr,RT.A0,RT.AZ,rk,RT.pick.injEq,afL]at h hm ⊢
   exact⟨fun hc=>ihe _ _ hA hm.1 (h.1 hc),fun d h3 h4=>ihk d _ _ hA (congrFun hm.2 d) (h.2 d h3 h4)⟩
  |_=>simpa only[RT.pr]using h
 |Gc t e iht ihe=>
  intro o A hA hm h
  cases o with
  |wV a b=>
   simp only[RT.pr,RT.A0,RT.AZ,rk,RT.Gc.injEq]at h hm ⊢
   exact⟨iht _ _ hA hm.1 h.1,ihe _ _ hA hm.2 h.2⟩
  |_=>simpa only[RT.pr]using h
 |same u v t ih=>
  intro o A hA hm h
  by_cases ho:∃o',o= .sm o'
  ·obtain⟨o',rfl⟩:=ho
   simp only[RT.pr,RT.A0,RT.AZ,RT.same.injEq,afL]at h hm
   simp only[rk];exact⟨hm.1.symm,ih _ _ hA hm.2 h⟩
  ·have h:rk P C G (.same u v (RT.pr o t)):=by cases o<;>first|exact absurd ⟨_,rfl⟩ ho|simpa only[RT.pr]using h
   have hm:RT.same u v (RT.A0 o t)= .same u v (RT.AZ o A t):=by cases o<;>first|exact absurd ⟨_,rfl⟩ ho|simpa only[RT.A0,RT.AZ]using hm
   simp only[RT.same.injEq,afL]at hm
   simp only[rk]at h ⊢;exact⟨h.1,ih _ _ hA hm h.2⟩
 |call f ds k ih=>
  intro o A hA hm h
  have h:rk P C G (.call f ds fun d=>RT.pr o (k d)):=by cases o<;>simpa only[RT.pr]using h
  have hm:(RT.call f ds fun d=>RT.A0 o (k d))= .call f ds fun d=>RT.AZ o A (k d):=by cases o<;>simpa only[RT.A0,RT.AZ]using hm
  simp only[RT.call.injEq,afL]at hm
  simp only[rk]at h ⊢
  obtain⟨ts,rs,Q',h1,h2,h3⟩:=h
  exact⟨ts,rs,Q',h1,h2,fun d hd=>ih d _ _ hA (congrFun hm d) (h3 d hd)⟩
 |aq f ags L p k ih=>
  intro o A hA hm h
  have h:rk P C G (.aq f ags L p fun d=>RT.pr o (k d)):=by cases o<;>simpa only[RT.pr]using h
  have hm:(RT.aq f ags L p fun d=>RT.A0 o (k d))= .aq f ags L p fun d=>RT.AZ o A (k d):=by cases o<;>simpa only[RT.A0,RT.AZ]using hm
  simp only[RT.aq.injEq,afL]at hm
  simp only[rk]at h ⊢
  obtain⟨R,Q',h1,h2,h3⟩:=h
  exact⟨R,Q',h1,h2,fun d hd=>ih d _ _ hA (congrFun hm d) (h3 d hd)⟩
 |_=>intro o A hA hm h;cases o<;>simpa only[RT.pr]using h
def aC.kS (hmix:P.follows .mixedOrders=true)(hp:G.p<=C.p)(n:Nat){s:av}(o:rh){t:RT}(em:RT.A0 o (runT P C n s)=RT.AZ o [] (runT P C n s))(e:RT.pr o (runT P C n s)=t)(h:rk P C G t):aC P C.f C.rs G s:=
 aas hmix hp n (RT.aee _ o [] (fun p hp=>by cases hp) em (by rw[e];exact h))
def iq.kS (hmix:P.follows .mixedOrders=true){Q:D->Prop}(n:Nat){ts:List TypeId}{ds:List D}(o:rh){t:RT}(hin:(dn P C.f (wX P ts ds) .normal).isSome=true)
 (em:RT.A0 o (runT P C n ⟨(dn P C.f (wX P ts ds) .normal).getD default,[],hS⟩)=RT.AZ o [] (runT P C n ⟨(dn P C.f (wX P ts ds) .normal).getD default,[],hS⟩))
 (e:RT.pr o (runT P C n ⟨(dn P C.f (wX P ts ds) .normal).getD default,[],hS⟩)=t)(h:rk P C (.kE Q) t):iq P C.f ts ds C.rs Q:=by
 obtain⟨fr,hfr⟩:=afl.1 hin
 rw[hfr]at e em
 exact iq.vD hfr (aC.kS hmix (agr _) n o em e h)
def pj.kS (hmix:P.follows .mixedOrders=true){Q:D->Prop}(n:Nat){p:Nat}{ags:List BV}{L:List (Nat×ax)}{R:D->T (BV×List (Nat×ax))}(o:rh){t:RT}(hp:C.bu=some p)(hin:(dn P C.f ags .normal).isSome=true)
 (em:RT.A0 o (runT P C n ⟨(dn P C.f ags .normal).getD default,[],hL L⟩)=RT.AZ o [] (runT P C n ⟨(dn P C.f ags .normal).getD default,[],hL L⟩))
 (e:RT.pr o (runT P C n ⟨(dn P C.f ags .normal).getD default,[],hL L⟩)=t)(h:rk P C (.bu p R Q) t):pj P C.f ags L p R Q:=by
 obtain⟨fr,hfr⟩:=afl.1 hin
 rw[hfr]at e em
 exact pj.vD hfr (aC.kS hmix (by simp[sS.p,cw.p,hp]) n o em e h)
end
def gu (d:D):List (D×D):=d.aa.map fun e=>(e.ae 0,e.ae 1)
def hG (d:D):List Nat:=d.aa.map fun e=>e.int.toNat
def hC (d:D):Nat:=d.int.toNat
def NB (m:List (D×D)):D:= .r (m.map fun p=> .r [p.1,p.2])
def NC (m:List Nat):D:= .r (m.map fun p:Nat=> .z (p:Int))
@[simp] def s8 (m:List (D×D)):gu (NB m)=m:=by
 unfold gu NB;simp only[D.aa,ahp]
 conv=>rhs;rw[<-aim m]
 apply ag9;intro p _;rfl
@[simp] def E1 (m:List Nat):hG (NC m)=m:=by
 unfold hG NC;simp only[D.aa,ahp]
 conv=>rhs;rw[<-aim m]
 apply ag9;intro p _;simp[D.int]
@[simp] def E0 (n:Nat):hC (.z n)=n:=by simp[hC,D.int]
end
end Go.PB
end
