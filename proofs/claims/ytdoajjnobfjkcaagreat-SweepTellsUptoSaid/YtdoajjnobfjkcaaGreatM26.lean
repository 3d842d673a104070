import Derived.Test.YtdoajjnobfjkcaaGreatM25
set_option linter.all false
noncomputable section
namespace Go.Proofs
open Go Go.PB
def Tryz.Pp:Go.Shelf.Ren:=⟨fun|43=>170|n=>n,fun|22=>35|23=>25|3=>3|4=>4|0=>0|n=>n,fun|n=>n⟩
def Tryz.compact:Go.Proofs.SlLaysN.n43 pg Tryz.Pp:={
 mixed:=by kernel_rfl
 f43:=⟨Tryz.f170.name,by decide,Tryz.func170.trans (ahE some (by kernel_rfl))⟩
 t0:=Tryz.underlying0
 a0:=Tryz.isAgg0
 z0:=Tryz.sizeOf0
 v0:=Tryz.zeroValue0
 t3:=Tryz.underlying3
 a3:=Tryz.isAgg3
 z3:=Tryz.sizeOf3
 v3:=Tryz.zeroValue3
 t4:=Tryz.underlying4
 a4:=Tryz.isAgg4
 z4:=Tryz.sizeOf4
 v4:=Tryz.zeroValue4
 t22:=Tryz.underlying35
 a22:=Tryz.isAgg35
 z22:=Tryz.sizeOf35
 v22:=Tryz.zeroValue35
 t23:=Tryz.underlying25
 a23:=Tryz.isAgg25
 z23:=Tryz.sizeOf25
 v23:=Tryz.zeroValue25
 i23:=by kernel_rfl}
def Po (l:List Int):(Go.Lib.compact l).length<=l.length:=by
 have:=ah1 (Go.Lib.keeps l.toArray) (List.range l.length)
 simpa [Go.Lib.compact,Go.Lib.compactUpTo]using this
def Xu.same {P:Program}{w w':World}{aL az c:Nat}(h:∀s,w.shape? aL=some s->w'.shape? aL=some s)(ht:Xu P w aL az c):Xu P w' aL az c:=by
 obtain⟨e,n,h1,h2⟩:=ht;exact⟨e,n,h _ h1,h2⟩
def Pn (l:List Int)(hl:l.length<2^30):PH pb (yZ (aw l)) (oV (aw l)) 1 tc (fun d=>D.ae d=aw (Go.Lib.compact l)):=by
 intro g w aq9' hr ha
 obtain⟨v,h1,h2⟩:=aq.one ha
 obtain⟨aq9'⟩:=aq9'
 have h1:aq9'=[v]:=h1
 subst h1
 have done:∀(w':World) (v':Value),bc pg g (hL [(0,.ak aA (aw (Go.Lib.compact l)) true)]) w'->Cn g (hL [(0,.ak aA (aw l) true)]) w g (hL [(0,.ak aA (aw (Go.Lib.compact l)) true)]) w'->
  ao pg g w' (.aZ 0 (Go.Lib.compact l).length true) v'->
  ∃(v2:Value) (g':Gh) (d:D) (x:BV×List (Nat×aI)),(Ending.returned v':Ending)= .returned v2/\T.dy x (tc (yZ (aw l)) (oV (aw l)) d)/\Cn g (hL (oV (aw l))) w g' (hL x.2) w'/\RC 1 g g'/\bc pg g' (hL x.2) w'/\ao pg g' w' x.1 v2/\D.ae d=aw (Go.Lib.compact l):=fun w' v' k1 k2 k3=>by
  refine⟨v',g,.r (aw (Go.Lib.compact l)),(.aZ 0 (Go.Lib.compact l).length true,[(0,.ak aA (aw (Go.Lib.compact l)) true)]),rfl,?_,k2,⟨fun _ _ _ h=>h,fun _ _ _ _ h=>h⟩,k1,k3,rfl⟩
  rw[<-agV (f:=D.z)]
  exact .ret
 have hlen:(aw l).length=l.length:=by simp
 rw[hlen]at h2
 have empty:∀(a:Option Addr) (c:Nat),v= .slice a 0 c->l=[]->ao pg g w (.aZ 0 0 true) v->Calls pg pb ⟨[v]⟩ w fun ed w'=>∃(v':Value) (g':Gh) (d:D) (x:BV×List (Nat×aI)),ed= .returned v'/\T.dy x (tc (yZ (aw l)) (oV (aw l)) d)/\Cn g (hL (oV (aw l))) w g' (hL x.2) w'/\RC 1 g g'/\bc pg g' (hL x.2) w'/\ao pg g' w' x.1 v'/\D.ae d=aw (Go.Lib.compact l):=by
  rintro a c rfl rfl hv
  refine(AnyG.slices_Compact_int_empty Tryz.compact a c w).mono ?_
  rintro ed w' ⟨rfl,rfl⟩
  exact done _ _ hr ⟨aho _,fun _ _ _=>rfl,fun _ h=>h,fun _ _ h=> .inl h,hr.mE,fun c _ ho=>ho,fun _ _ h=>h,rfl,rfl,rfl⟩ hv
 simp only[ao]at h2
 rcases h2 with ⟨⟨_,h0⟩,rfl| ⟨a,rfl⟩⟩| ⟨aL,az,c,hm,rfl,hc,ht⟩
 ·have:=ahy.1 h0;subst this
  exact empty _ _ rfl rfl (by simp only[ao];exact .inl ⟨⟨trivial,trivial⟩,.inl trivial⟩)
 ·have:=ahy.1 h0;subst this
  exact empty _ _ rfl rfl (by simp only[ao];exact .inl ⟨⟨trivial,trivial⟩,.inr ⟨a,rfl⟩⟩)
 ·obtain⟨cc,vs,k1,k2,k3,k4⟩:=hr.ak (b:=0) rfl hm
  have hvs:=FB k2
  have hH:Go.Sort.Holds (Value.int .i64) w aL az l.toArray:=fun j hj=>by
   have hj:j<l.length:=by simpa using hj
   refine⟨?_,by simp[World.frozen?,k1]⟩
   rw[k4 j (.int .i64 l[j]) (by rw[hvs];simp[hj])]
   simp[hj]
  refine(AnyG.slices_Compact_int Tryz.compact aL az c l w hH (by omega) hc).mono ?_
  rintro ed w' ⟨rfl,q,rfl⟩
  have hcl:=Po l
  obtain⟨m1,m2⟩:=bc.UA (n:=(Go.Lib.compact l).length) (d:=Go.Lib.compact l++List.replicate (l.length-(Go.Lib.compact l).length) 0) hr hm (by simp;omega) q
  rw[List.take_left]at m1 m2
  refine done _ _ m1 m2 ?_
  simp only[ao]
  exact .inr ⟨aL,az,c,hm,rfl,by omega,Xu.same (fun s hs=>m2.ms _ _ hs) ht⟩
def Kr {l:List Int}(hs:l.Pairwise (·<=·)):xc l (Go.Lib.compact l):=by
 have get:∀i (h:i<l.length),l.toArray[i]! =l[i]:=fun i h=>by simp[h]
 have le:∀i j (hi:i<l.length) (hj:j<l.length),i<=j->l[i]<=l[j]:=fun i j hi hj hij=>by
  rcases Nat.lt_or_eq_of_le hij with h|h
  ·exact aj0.1 hs i j hi hj h
  ·subst h;exact Int.le_refl _
 refine⟨?_,fun z=>?_⟩
 ·rw[D8]
  unfold Go.Lib.compact Go.Lib.compactUpTo
  rw[List.pairwise_map]
  have h1:((List.range l.length).filter (Go.Lib.keeps l.toArray)).Pairwise (·<·):=List.pairwise_lt_range.sublist aiz
  refine h1.imp_of_mem fun {i j} hi hj hij=>?_
  simp only[aiD,ai2]at hi hj
  have hk:=hj.2
  simp only[Go.Lib.keeps,agW]at hk
  rcases hk with hk|hk
  ·omega
  ·rw[get i hi.1,get j hj.1]
   rw[get j hj.1,get (j-1) (by omega)]at hk
   have h2:=le i (j-1) hi.1 (by omega) (by omega)
   have h3:=le (j-1) j (by omega) hj.1 (by omega)
   omega
 ·unfold Go.Lib.compact Go.Lib.compactUpTo
  simp only[ahp,aiD,ai2]
  constructor
  ·rintro⟨j,⟨hj,_⟩,rfl⟩
   rw[get j hj];exact ajo hj
  ·intro hz
   obtain⟨j,hj,rfl⟩:=List.mem_iff_getElem.1 hz
   have key:∀j (hj:j<l.length),∃k,(k<l.length/\Go.Lib.keeps l.toArray k=true)/\l.toArray[k]! =l[j]:=by
    intro j
    induction j with
    |zero=>intro hj;exact⟨0,⟨hj,by simp[Go.Lib.keeps]⟩,get 0 hj⟩
    |succ j ih=>
     intro hj
     by_cases hk:Go.Lib.keeps l.toArray (j+1)=true
     ·exact⟨j+1,⟨hj,hk⟩,get _ hj⟩
     ·obtain⟨k,k1,k2⟩:=ih (by omega)
      refine⟨k,k1,?_⟩
      simp only[Go.Lib.keeps,agW]at hk
      have:l.toArray[j+1]! =l.toArray[j+1-1]!:=ahK fun h=>hk (.inr h)
      rw[get _ hj,akD,get j (by omega)]at this
      rw[k2,this]
   exact key j hj
def Pz (l:List Int)(hl:l.length<2^30):PH kT (J4 (aw l)) [] 0 AM (fun d=>∃r,D.ae d=aw r/\xc l r):=by
 refine SJ ?_
 simp only[rk,D.bE]
 refine⟨_,_,rfl,MA (aw l) (by simpa using hl),?_⟩
 intro d0 hd0
 rw[hd0]
 have cs:=ZQ l (by omega)
 refine⟨_,_,rfl,cs,?_⟩
 intro d1 hd1
 have hp:(l.mergeSort fun x y=>decide (x<=y)).Perm l:=aks l _
 rw[hd1]
 have cc:=Pn (l.mergeSort fun x y=>decide (x<=y)) (by rw[hp.length_eq];exact hl)
 have hlen:(aw l).length=(aw (l.mergeSort fun x y=>decide (x<=y))).length:=by simp[hp.length_eq]
 rw[hlen]
 refine⟨_,_,rfl,cc,?_⟩
 intro d2 hd2
 refine⟨rfl,d2,.ret,_,hd2,?_⟩
 have hpw:(l.mergeSort fun x y=>decide (x<=y)).Pairwise (·<=·):=by
  have:=aj8 (le:=fun x y:Int=>decide (x<=y)) (by intro a b c;simp;omega) (by intro a b;simp;omega) l
  exact this.imp (by intro a b h;simpa using h)
 have:=Kr hpw
 exact⟨this.1,fun z=>(this.2 z).trans hp.mem_iff⟩
section
def Wh.agd {y:Wh}(h:y.ok):∀n∈y.ns,n.ok:=by
 simp only[Wh.ok]at h
 exact h.2.2.2.2.2.2.2.2.2.2.2.2.2.2.2.2.2.2.2.2
section
variable {W:WS} {x:Wl} {f:gX} (hi:x.OU)
include hi
theorem aeh (hW:zC W (x.wo f))(r:Int)(h:x.is r):PH ui (FP W r) (Wm W) 3 Cj (fun d=>∃l,(d.aa 0).ae=aw l/\(d.aa 1).int=0/\xc (aE.bD (x.an.at r).aJ) l):=by
 obtain⟨y,hy,w1,w2,w3⟩:=hi.at h
 have hya:x.an.at r=y:=by simp[aV.at,hy]
 have hrl:=aE.gj y.aJ
 have hls:=y.Ft
 simp only[Wh.sz]at w2
 have hall:aE.bD y.aJ=y.v.dt++(aE.bD y.vs++mF y.ns):=by simp only[Wh.aJ,aE.bD,aE.wm,mF]
 have hsum:y.v.dt.length+(mF y.ns).length+(aE.bD y.vs).length<2^30:=by
  rw[hall]at hrl;simp only[ahc]at hrl ⊢;omega
 have hsz:aE.bB (y.ns.map ga.v)<=aE.bB y.aJ:=by
  simp only[Wh.aJ,aE.bB,aE.Bw];omega
 have hns:=Wh.agd w1
 have hov:=w1.aJ
 have mv:y.v∈y.aJ:=by simp[Wh.aJ]
 have mvs:∀v∈y.vs,v∈y.aJ:=fun v hv=>by simp[Wh.aJ,hv]
 have mns:∀n∈y.ns,n.v∈y.aJ:=fun n hn=>by simp only[Wh.aJ,ag9,ahd,ahp];exact .inr (.inr ⟨n,hn,rfl⟩)
 have loop:∀(ah:List aE) (i:Nat),y.vs.drop i=ah->ay pg ui [aW,aM] (.bx 3 (Cj (FP W r) (Wm W)) (fun d=>∃l,(d.aa 0).ae=aw l/\(d.aa 1).int=0/\xc (aE.bD y.aJ) l))
  (vT W r (y.v.dt++mF y.ns++aE.bD (y.vs.take i)).length (y.vs.map aE.ax) y.vs.length (aw (y.v.dt++mF y.ns++aE.bD (y.vs.take i))) i):=by
  intro ah
  induction ah with
  |nil=>
   intro i hd
   have hil:=drop_nil hd
   refine G9 ?_
   rw[ag5 hil]
   have hn:¬(i:Int)<(y.vs.length:Int):=by omega
   simp only[rk,agV,hn,ahj,ahg,agZ,ag0,ag1,ag3,ahk,ahf,D.bE]
   refine⟨_,_,rfl,Pz _ (by simp only[ahc];omega),?_⟩
   rintro d ⟨l,h1,h2⟩
   rw[h1]
   refine⟨rfl,.r [.r (aw l),.z 0],.ret,l,rfl,rfl,h2.1,fun z=>(h2.2 z).trans ?_⟩
   rw[hall];simp only[ahd];
   constructor
   ·rintro((h|h)|h);exact .inl h;exact .inr (.inr h);exact .inr (.inl h)
   ·rintro(h|h|h);exact .inl (.inl h);exact .inr h;exact .inl (.inr h)
  |cons v ah ih=>
   intro i hd
   obtain⟨g1,g2,g3⟩:=aB hd
   have hmem:=agY g1
   have e:=ih (i+1) g2
   have htk:(aE.bD (y.vs.take (i+1))).length<=(aE.bD y.vs).length:=by
    have:=ahE (fun l=>(aE.bD l).length) (aii (i+1) y.vs)
    simp only[aE.wm,ahc]at this;omega
   have hsn:aE.bD (y.vs.take (i+1))=aE.bD (y.vs.take i)++v.dt:=by rw[aQ g1,aE.wm];simp[aE.bD]
   rw[hsn]at e htk
   rw[ahc]at htk
   refine G9 ?_
   have hcl:(i:Int)<(y.vs.length:Int):=by omega
   have hat:D.at (y.vs.map aE.ax) i=v.ax:=bn g1
   simp only[rk,agV,hcl,hat,aU g3,ag6,ahg,ag3,ag0,ag1,ahf,bo g3 (by omega),aho,aif,ah0]
   refine⟨_,_,rfl,FG v (hov v (mvs v hmem)),?_⟩
   intro d hd
   rw[ag8 (w3 v (mvs v hmem))]at hd
   rw[hd]
   have hr:aO 8 ((y.v.dt++mF y.ns++aE.bD (y.vs.take i)).length+v.dt.length)=true:=by simp only[aO,ahc,agW];omega
   simp only[agV,hr,ag3,ag0,ag1,ahf]
   rw[<-aij,ahc,show aw (y.v.dt++mF y.ns++aE.bD (y.vs.take i)++v.dt)=aw (y.v.dt++mF y.ns++aE.bD (y.vs.take i))++aw v.dt from ahr]at e
   exact e
 refine Y8 ?_
 simp only[rk]
 refine⟨_,_,rfl,Ym hi hW r h,?_⟩
 rintro d ⟨h1,h2⟩
 rw[h1,h2,hya]
 simp only[ahZ,agZ,ag1,ag3,ahk,Wh.mI,Wh.fv,Wh.sP]
 refine⟨_,_,rfl,FG y.v (hov _ mv),?_⟩
 intro d1 hd1
 rw[ag8 (w3 _ mv)]at hd1
 refine⟨_,_,_,rfl,afJ y.ns (by omega) hns (fun n hn=>w3 _ (mns n hn)) (by omega),?_⟩
 intro d2 hd2
 subst hd2
 rw[hd1]
 have hr:aO 8 (y.v.dt.length+(mF y.ns).length)=true:=by simp only[aO,agW];omega
 simp only[D.bE,agV,hr,ahg,ahI,ag3,ag0,ag1,ahf]
 have e:=loop y.vs 0 rfl
 simp only[aji,aE.bD,ahM,ahc,aw,ahr]at e
 exact e
theorem abr (hW:zC W (x.wo f))(hc:x.Clo)(r:Int)(h:x.is r):PH qB (Mp W r) (Wm W) 3 HK (fun d=>∃l,D.ae d=aw l/\(∀q,q∈l↔x.YQ r q)/\l.length<=x.th.length+2):=by
 obtain⟨y,hy,w1,w2,w3⟩:=hi.at h
 have hya:x.an.at r=y:=by simp[aV.at,hy]
 have hth:=hi.th
 refine VW ?_
 simp only[rk]
 refine⟨_,_,rfl,aeh hi hW r h,?_⟩
 rintro d1 ⟨l,h1,h2,h3⟩
 refine⟨_,_,rfl,abp hi hW r h,?_⟩
 rintro d2 ⟨h4,h5⟩
 rw[hya]at h3 h4
 have hl:l.length<=x.th.length:=Wl.CS h3.1.lJ fun q hq=>hc r q ((Wl.D4 hy).2 (.inl ((h3.2 q).1 hq)))
 have hk:=y.MO
 have r2:aO 8 (l.length+y.eM.length)=true:=by simp[aO];omega
 rw[h1,h4]
 simp only[agV,r2,ahc,ahg,ahI,ag3,ag0,ag1,ahf,D.bE]
 refine⟨rfl,.r (aw (l++y.eM)),?_,l++y.eM,rfl,fun q=>?_,by simp;omega⟩
 ·have e:aw (l++y.eM)=aw l++aw y.eM:=ahr
  rw[e];exact .ret
 ·rw[ahd,h3.2,Wl.D4 hy]
omit hi
def J9 (m:List (D×D))(s:List Int)(k:Nat):Prop:=∀r,D.cS m (.z r)=decide (r∈s)/\(r∈s->1<=D.int (D.val m (.z r))/\D.int (D.val m (.z r))<=k)
theorem J9.O9 {m:List (D×D)}{s:List Int}{k:Nat}(h:J9 m s k){r:Int}(hr:r∈s){n:Int}(h1:1<=n)(h2:n<=k+1):J9 (D.fE m (.z r) (.z n)) s (k+1):=by
 intro q
 obtain⟨a,b⟩:=h q
 by_cases e:q=r
 ·subst e
  have hh:D.cS m (.z q)=true:=by rw[a];simpa using hr
  refine⟨by rw[KR hh];simpa using hr,fun _=>?_⟩
  rw[KS hh];exact⟨h1,by rw[D.bV];omega⟩
 ·have hne:D.z q≠D.z r:=fun e2=>e (by cases e2;rfl)
  have:=D.oy (v:= .z n) hne m
  refine⟨by rw[<-a];simp only[D.cS,this],fun hq=>?_⟩
  have:=b hq
  simp only[D.val,D.oy hne]at this ⊢
  omega
theorem J9.new {m:List (D×D)}{s:List Int}{k:Nat}(h:J9 m s k){r:Int}(hr:r∉s):J9 (m++[(.z r,.z 1)]) (s++[r]) (k+1):=by
 intro q
 obtain⟨a,b⟩:=h q
 have hh:D.cS m (.z r)=false:=by rw[(h r).1];simpa using hr
 by_cases e:q=r
 ·subst e
  have:=D.ov (v:= .z 1) hh
  refine⟨by simp[D.cS,this],fun _=>?_⟩
  simp only[D.val,this]
  exact⟨by simp[D.int],by simp[D.int];omega⟩
 ·have hne:D.z q≠D.z r:=fun e2=>e (by cases e2;rfl)
  have:=D.rJ (l:=m) (v:= .z 1) hne
  refine⟨?_,fun hq=>?_⟩
  ·rw[show D.cS (m++[(.z r,.z 1)]) (.z q)=D.cS m (.z q)by simp only[D.cS,this],a];simp[e]
  have hq:q∈s:=by rcases ahd.1 hq with h|h;exact h;rw[ahb]at h;exact absurd h e
  have:=b hq
  simp only[D.val,D.rJ hne]at this ⊢
  omega
structure rU (x:Wl)(l t o:List Int)(k:Nat):Prop where
 nd:o.Nodup
 seen:∀q,q∈o↔q∈t.take k
 is:∀q∈t,x.is q/\x.LC l q
 sub:∀q∈l,q∈t
 Mz:∀p∈o,∀q,x.YQ p q->q∈t
 len:t.length<=l.length+o.length*(x.th.length+2)
theorem rU.le {l t o:List Int}{k:Nat}(h:rU x l t o k):o.length<=x.th.length:=Wl.CS h.nd fun q hq=>(h.is q (akn ((h.seen q).1 hq))).1
theorem rU.all {l t o:List Int}{k:Nat}(h:rU x l t o k)(hk:t.length<=k)(q:Int):q∈o↔x.LC l q:=by
 have hs:=h.seen
 rw[ag5 hk]at hs
 refine⟨fun hq=>(h.is q ((hs q).1 hq)).2,fun hq=>?_⟩
 induction hq with
 |az hq=>exact(hs _).2 (h.sub _ hq)
 |step _ hn ih=>exact(hs _).2 (h.Mz _ ih _ hn)
include hi
noncomputable abbrev GFr (x:Wl)(W:WS)(l:List Int):mR:= .bx 3 (zx (Cd W (aw l)) (Wm W)) (fun d=>∃r,(d.aa 0).ae=aw r/\(d.aa 1).int=0/\ch r/\∀q,q∈r↔x.LC l q)
theorem aeg (hW:zC W (x.wo f))(hc:x.Clo)(hth:x.th.length<=2^20)(l:List Int)(hl:l.length<2^30)(hls:∀q∈l,x.is q):PH ly (Cd W (aw l)) (Wm W) 3 zx (fun d=>∃r,(d.aa 0).ae=aw r/\(d.aa 1).int=0/\ch r/\∀q,q∈r↔x.LC l q):=by
 have cap:∀n,n<=x.th.length->n*(x.th.length+2)<=2^41:=fun n hn=>
  ahD (Nat.mul_le_mul (ahD hn hth) (Nat.add_le_add_right hth 2)) (by omega)
 have lp2:∀(n k:Nat) (t o:List Int) (m:List (D×D)) (st:List Nat) (ck:Nat),2^42-k=n->k<=t.length->rU x l t o k->J9 m o k->ay pg ly [aW,aM] (GFr x W l) (fK W (aw l) t.length (aw t) k m st ck o.length (aw o)):=by
  intro n
  induction n with
  |zero=>
   intro k t o m st ck hk hkt hf hm
   have:=hf.len;have:=cap _ hf.le;omega
  |succ n ih=>
   intro k t o m st ck hk hkt hf hm
   have hlen:=hf.len
   have hcap:=cap _ hf.le
   have hol:=hf.le
   refine L5 ?_
   by_cases hkl:k<t.length
   ·obtain⟨p,hp⟩:∃p,t[k]?=some p:=⟨_,ag7 hkl⟩
    have hcl:(k:Int)<(t.length:Int):=by omega
    have hat:D.at (aw t) k= .z p:=bn hp
    have hpt:=agY hp
    have mem:∀z,z∈t.take (k+1)↔z∈t.take k\/z=p:=fun z=>by rw[aQ hp];simp
    have r1:aO 8 (o.length+1)=true:=by simp[aO];omega
    have hhas:=(hm p).1
    simp only[rk,agV,hcl,hat,aU hkl,hkl,D.bV,ag6,ahg,ag3,ag0,ag1,ahf,r1,ahI,bo hkl (by omega),hhas]
    refine⟨fun h1=>?_,fun h1=>?_⟩
    ·have h1:p∈o:=by simpa using h1
     obtain⟨b1,b2⟩:=(hm p).2 h1
     have hh:D.cS m (.z p)=true:=by rw[hhas];simpa using h1
     rw[bO (by omega) (by omega)]
     simp only[KR hh,KS hh,D.bV,agW,agX,ag3,ag0,ag1,ahf]
     refine⟨fun _=>?_,fun h2=>by omega⟩
     exact ih (k+1) t o _ st ck (by omega) (by omega) ⟨hf.nd,fun q=>by rw[mem,hf.seen];exact⟨.inl,fun h=>by rcases h with h|rfl;exact h;exact(hf.seen q).1 h1⟩,hf.is,hf.sub,hf.Mz,hf.len⟩ (hm.O9 h1 (by omega) (by omega))
    ·have h1:p∉o:=by simpa using h1
     have hh:D.cS m (.z p)=false:=by rw[hhas];simpa using h1
     have hm2:=D.ov (v:= .z 1) hh
     have e1:D.cS (m++[(.z p,.z 1)]) (.z p)=true:=by simp[D.cS,hm2]
     have e2:D.int (D.val (m++[(.z p,.z 1)]) (.z p))=1:=by simp[D.val,hm2,D.int]
     simp only[e1,e2,agW,agX,ag3,ag0,ag1,ahf]
     refine⟨fun h2=>by omega,fun _=>⟨_,_,rfl,abr hi hW hc p (hf.is p hpt).1,?_⟩⟩
     rintro d ⟨s,s1,s2,s3⟩
     have hf2:rU x l (t++s) (o++[p]) (k+1):=by
      refine⟨ah5.2 ⟨hf.nd,by simp,fun a ha b hb=>by rw[ahb]at hb;subst hb;rintro rfl;exact h1 ha⟩,fun q=>?_,fun q hq=>?_,fun q hq=>ahP _ (hf.sub q hq),fun a ha q hq=>?_,?_⟩
      ·rw[aie (by omega),mem,ahd,hf.seen,ahb]
      ·rcases ahd.1 hq with hq|hq
       ·exact hf.is q hq
       ·have:=(s2 q).1 hq
        exact⟨hc _ _ this,.step (hf.is p hpt).2 this⟩
      ·rcases ahd.1 ha with ha|ha
       ·exact ahP _ (hf.Mz a ha q hq)
       ·rw[ahb]at ha;subst ha;exact aih _ ((s2 q).2 hq)
      ·rw[ahc,ahc,ah9,aiu,aiT];omega
     have hl2:=hf2.len
     have hcap2:=cap _ hf2.le
     rw[ahc]at hl2
     have r2:aO 8 (t.length+s.length)=true:=by simp only[aO,agW];omega
     rw[s1]
     simp only[agV,r2,ahI,ag3,ag0,ag1,ahf]
     have:=ih (k+1) (t++s) (o++[p]) (m++[(.z p,.z 1)]) (st++[ck]) (ck+1) (by omega) (by rw[ahc];omega) hf2 (hm.new h1)
     rw[ahc,ahc,ah9,show aw (t++s)=aw t++aw s from ahr,show aw (o++[p])=aw o++[.z p]from ahr]at this
     exact this
   ·have hn:¬(k:Int)<(t.length:Int):=by omega
    simp only[rk,agV,hn,ahj,ahg,agZ,ag0,ag1,ag3,ahk,ahf,D.bE]
    refine⟨_,_,rfl,Pz o (by omega),?_⟩
    rintro d ⟨r,h1,h2⟩
    rw[h1]
    exact⟨rfl,.r [.r (aw r),.z 0],.ret,r,rfl,rfl,h2.1,fun q=>(h2.2 q).trans (hf.all (by omega) q)⟩
 have lp1:∀(ah:List Int) (i:Nat),l.drop i=ah->ay pg ly [aW,aM] (GFr x W l) (vS W (aw l) i):=by
  intro ah
  induction ah with
  |nil=>
   intro i hd
   have hil:=drop_nil hd
   refine G8 ?_
   have hn:¬(i:Int)<(l.length:Int):=by omega
   simp only[rk,agV,hn,ahj,agZ,ag1,ag3,ahk,D.bE]
   refine⟨_,_,rfl,MA (aw l) (by simpa using hl),?_⟩
   intro d hd
   rw[hd,agV]
   exact lp2 _ 0 l [] [] [] 0 rfl (by omega) ⟨.nil,by simp,fun q hq=>⟨hls q hq,.az hq⟩,fun q hq=>hq,by simp,by simp⟩ (fun r=>⟨by simp[D.cS,D.ep],by simp⟩)
  |cons a ah ih=>
   intro i hd
   obtain⟨g1,g2,g3⟩:=aB hd
   refine G8 ?_
   have hcl:(i:Int)<(l.length:Int):=by omega
   have hat:D.at (aw l) i= .z a:=bn g1
   simp only[rk,agV,hcl,hat,aU g3,D.bV,ag6,ahg,ag3,ag0,ag1,ahf,bo g3 (by omega)]
   refine⟨_,_,rfl,Co hW a,?_⟩
   intro d hd
   have hd:D.bool d=true:=hd.trans (hls a (agY g1))
   rw[hd]
   exact⟨fun h=>(by cases h),fun _=>ih (i+1) g2⟩
 have hma:=hi.GO
 refine Y7 ?_
 simp only[rk]
 refine⟨_,_,rfl,xY hW,?_⟩
 intro d hd
 rw[hd]
 refine⟨fun h=>?_,fun _=>lp1 l 0 rfl⟩
 simp only[aht]at h
 have h2:(x.wo f).ma.length=x.ma.length:=rfl
 omega
noncomputable abbrev GRe (x:Wl)(W:WS)(l:List Su):mR:= .bx 3 (zy (Dq W (l.map Su.ax)) (Wm W)) (fun d=>∃r,(d.aa 0).ae=aw r/\if l.all x.cN then (d.aa 1).int=0/\ch r/\(∀q,q∈r↔x.LC (gi l) q)else (d.aa 1).int=190/\r=[])
theorem abq (hW:zC W (x.wo f))(hc:x.Clo)(hth:x.th.length<=2^20)(hla:∀e∈x.th,e.r<=x.la)(l:List Su)(hs:SuS l):PH qA (Dq W (l.map Su.ax)) (Wm W) 3 zy (fun d=>∃r,(d.aa 0).ae=aw r/\if l.all x.cN then (d.aa 1).int=0/\ch r/\(∀q,q∈r↔x.LC (gi l) q)else (d.aa 1).int=190/\r=[]):=by
 have hll:=hs.len
 have hal:=hs.all
 have loop:l.all x.cN=true->∀(ah:List Su) (i:Nat),l.drop i=ah->ay pg qA [aW,aM] (GRe x W l) (tn W (l.map Su.ax) (gi (l.take i)).length i (aw (gi (l.take i)))):=by
  intro hall ah
  have hmay:∀s∈l,x.cN s=true:=ahG.1 hall
  induction ah with
  |nil=>
   intro i hd
   have hil:=drop_nil hd
   refine EL ?_
   rw[ag5 hil]
   have hn:¬(i:Int)<(l.length:Int):=by omega
   simp only[rk,agV,hn,ahj,ahg,agZ,ag0,ag1,ag3,ahk,ahf,D.bE]
   refine⟨_,_,rfl,aeg hi hW hc hth (gi l) hal fun q hq=>?_,?_⟩
   ·obtain⟨s,hsm,hq⟩:=aiq.1 hq
    have:=((x.cW s).1 (hmay s hsm)).2.2.2.2
    simp only[mF,aE.xG,aiq,ahp]at hq
    obtain⟨v,⟨n,hn,rfl⟩,hq⟩:=hq
    have:=this n hn q hq
    simp only[Wl.xw,ag2]at this
    exact this.1
   ·rintro d ⟨r,h1,h2,h3,h4⟩
    rw[h1,h2]
    refine⟨rfl,.r [.r (aw r),.z 0],.ret,r,rfl,?_⟩
    rw[ag8 hall]
    exact⟨rfl,h3,h4⟩
  |cons s ah ih=>
   intro i hd
   obtain⟨g1,g2,g3⟩:=aB hd
   have hmem:=agY g1
   refine EL ?_
   have hcl:(i:Int)<(l.length:Int):=by omega
   have hat:D.at (l.map Su.ax) i=s.ax:=bn g1
   have hnm:dk s.ns=true:=((x.cW s).1 (hmay s hmem)).2.2.1
   have htk:=KH l (i+1)
   have e:=ih (i+1) g2
   rw[aQ g1,Bg,ahc]at htk e
   have sm:=(hs.one s hmem).1
   have hok:=sm.ok
   have sz:=sm.nz
   have r1:aO 8 ((gi (l.take i)).length+(mF s.ns).length)=true:=by simp only[aO,agW];omega
   simp only[rk,agV,hcl,hat,Su.fv,aU g3,ag6,ahg,ag3,ag0,ag1,ahf,bo g3 (by omega),ah0]
   refine⟨_,_,_,rfl,afJ s.ns sm.ns (by simp only[Su.ok]at hok;exact hok.2.2.2.2.2.1) (Bm hnm) (by omega),?_⟩
   rintro d rfl
   simp only[D.bE,agV,r1,ag3,ag0,ag1,ahf]
   rw[show aw (gi (l.take i)++mF s.ns)=aw (gi (l.take i))++aw (mF s.ns)from ahr]at e
   exact e
 refine VV ?_
 simp only[rk]
 refine⟨_,_,rfl,afK hi hW hla l (by omega) fun s h=>(hs.one s h).1,?_⟩
 intro d hd
 rw[hd]
 by_cases hall:l.all x.cN=true
 ·rw[ag8 hall]
  exact⟨fun h=>by simp at h,fun _=>loop hall l 0 rfl⟩
 ·rw[ag4 hall]
  refine⟨fun _=>⟨rfl,.r [.r [],.z 190],.ret,[],rfl,?_⟩,fun h=>by simp at h⟩
  rw[ag4 hall];exact⟨rfl,rfl⟩
end
end
def MR {l:List Int}{v:D}(r:Int):D.fE (j9 l v) (.z r) v=j9 l v:=by
 induction l with
 |nil=>rfl
 |cons a q ih=>
  by_cases h:a=r
  ·subst h;simp only[j9,ahJ]at ih ⊢;rw[D.GR rfl,ih]
  ·simp only[j9,ahJ]at ih ⊢;rw[D.GS (by simpa using h),ih]
def Ki (s:List Int)(r:Int):List Int:=if r∈s then s else s++[r]
def gN (s l:List Int):List Int:=l.foldl Ki s
def RI (s l:List Int)(r:Int):gN s (l++[r])=Ki (gN s l) r:=by simp[gN]
def YE {s:List Int}{r q:Int}:q∈Ki s r↔q∈s\/q=r:=by
 unfold Ki;split
 ·rename_i h;exact⟨.inl,fun hq=>by rcases hq with hq|rfl;exact hq;exact h⟩
 ·simp
def VC {l:List Int}:∀{s:List Int} {q:Int},q∈gN s l↔q∈s\/q∈l:=by
 induction l with
 |nil=>intro s q;simp[gN]
 |cons a r ih=>intro s q;rw[show gN s (a::r)=gN (Ki s a) r from rfl,ih,YE,ag9,or_assoc]
def RG {s:List Int}(h:s.Nodup)(r:Int):(Ki s r).Nodup:=by
 unfold Ki;split
 ·exact h
 ·rename_i hn
  exact ah5.2 ⟨h,by simp,fun a ha b hb=>by rw[ahb]at hb;subst hb;rintro rfl;exact hn ha⟩
def O8 {l:List Int}:∀{s:List Int},s.Nodup->(gN s l).Nodup:=by
 induction l with
 |nil=>intro s h;exact h
 |cons a r ih=>intro s h;exact ih (RG h a)
def Tl (s l:List Int)(st:List Nat)(ck:Nat)(hl:l.length<2^30)(hs:s.length<2^30):PH bZ (s8 (j9 s (.z 1)) st ck (aw l)) (ta (j9 s (.z 1)) st ck (aw l)) 1 ju
 (fun d=>(d.aa 0).bool=decide (s.length<(gN s l).length)/\cn (D.aa d 1)=j9 (gN s l) (.z 1)):=by
 have loop:∀(ah:List Int) (i:Nat) (st2:List Nat) (c2:Nat),l.drop i=ah->ay pg bZ [ai] (.bx 1 (ju (s8 (j9 s (.z 1)) st ck (aw l)) (ta (j9 s (.z 1)) st ck (aw l))) (fun d=>(d.aa 0).bool=decide (s.length<(gN s l).length)/\cn (D.aa d 1)=j9 (gN s l) (.z 1)))
  (j7 (j9 s (.z 1)) st ck (aw l) i (j9 (gN s (l.take i)) (.z 1)) st2 c2):=by
  intro ah
  induction ah with
  |nil=>
   intro i st2 c2 hd
   have hil:=drop_nil hd
   refine As ?_
   rw[ag5 hil]
   have hn:¬(i:Int)<(l.length:Int):=by omega
   simp only[rk,agV,hn,ahj,agZ,ag1,ag3,ahk]
   refine⟨rfl,.r [.b (decide (s.length<(gN s l).length)),i5 (j9 (gN s l) (.z 1)),i6 st2,.z c2],?_,rfl,dh _⟩
   have e:(decide (((gN s l).length:Int)>(s.length:Int)))=decide (s.length<(gN s l).length):=by simp
   rw[e]
   have h1:cn (D.aa (.r [.b (decide (s.length<(gN s l).length)),i5 (j9 (gN s l) (.z 1)),i6 st2,.z (c2:Int)]) 1)=j9 (gN s l) (.z 1):=dh _
   have h2:cK (D.aa (.r [.b (decide (s.length<(gN s l).length)),i5 (j9 (gN s l) (.z 1)),i6 st2,.z (c2:Int)]) 2)=st2:=nb _
   have h3:cJ (D.aa (.r [.b (decide (s.length<(gN s l).length)),i5 (j9 (gN s l) (.z 1)),i6 st2,.z (c2:Int)]) 3)=c2:=na _
   simp only[ju,h1,h2,h3]
   exact .ret
  |cons a ah ih=>
   intro i st2 c2 hd
   obtain⟨g1,g2,g3⟩:=aB hd
   refine As ?_
   have hcl:(i:Int)<(l.length:Int):=by omega
   have hat:D.at (aw l) i= .z a:=bn g1
   have e:=fun st c=>ih (i+1) st c g2
   rw[aQ g1,RI]at e
   simp only[rk,agV,hcl,hat,aU g3,D.bV,ag6,ahg,ag3,ag0,ag1,ahf,gC,MR,D5,agW,agX,bo g3 (by omega)]
   refine⟨fun h=>?_,fun h=>?_⟩
   ·have:=e st2 c2
    rwa [Ki,ag8 h]at this
   ·have:=e (st2++[c2]) (c2+1)
    rwa [Ki,ag4 h]at this
 refine LY ?_
 exact loop l 0 st ck rfl
section
inductive Wl.Gr (x:Wl)(b:Int->Prop):Int->Prop where
 |az {q:Int} (h:b q):Wl.Gr x b q
 |Ve {e:En} (he:e∈x.th) (hk:e.w.k=14) (h:Wl.Gr x b e.w.of):Wl.Gr x b e.r
 |use {e:En} (he:e∈x.th) (hk:e.w.k=6\/e.w.k=7\/e.w.k=9) (h:Wl.Gr x b e.r):Wl.Gr x b e.w.of
def Wl.Gr.bind {x:Wl}{b c:Int->Prop}{q:Int}(h:x.Gr b q)(hb:∀q,b q->x.Gr c q):x.Gr c q:=by
 induction h with
 |az h=>exact hb _ h
 |Ve he hk _ ih=>exact .Ve he hk ih
 |use he hk _ ih=>exact .use he hk ih
def LF (s:List Int)(e:En):Prop:=(e.w.k=14->e.w.of∈s->e.r∈s)/\(e.w.k=6\/e.w.k=7\/e.w.k=9->e.r∈s->e.w.of∈s)
def Wl.Gr.aey {x:Wl}{s:List Int}(h:∀e∈x.th,LF s e){q:Int}(hq:x.Gr (·∈s) q):q∈s:=by
 induction hq with
 |az h=>exact h
 |Ve he hk _ ih=>exact(h _ he).1 hk ih
 |use he hk _ ih=>exact(h _ he).2 hk ih
def Wl.all (x:Wl):List Int:=x.th.map En.r++x.th.map fun e=>e.w.of
def Wl.AP {x:Wl}{s:List Int}(h:s.Nodup)(hs:∀q∈s,q∈x.all):s.length<=2*x.th.length:=by
 have:=hG h hs
 simp only[Wl.all,ahc,agV]at this;omega
def Wl.acC {x:Wl}{e:En}(h:e∈x.th):e.r∈x.all:=ahP _ (ahp.2 ⟨e,h,rfl⟩)
def Wl.XI {x:Wl}{e:En}(h:e∈x.th):e.w.of∈x.all:=aih _ (ahp.2 ⟨e,h,rfl⟩)
abbrev fM (s:List Int):List (D×D):=j9 s (.z 1)
def Ws {f:FuncId}{ags:List BV}{L:List (Nat×aI)}{p:Nat}{R:D->T (BV×List (Nat×aI))}{Q Q':D->Prop}(h:BZ pg f ags L p R Q)(hq:∀d,Q d->Q' d):BZ pg f ags L p R Q':=fun g w aq9' hr ha=>
 (h g w aq9' hr ha).mono fun _ _ ⟨v,g',d,y,h1,h2,h3,h4,h5,h6,h7⟩=>⟨v,g',d,y,h1,h2,h3,h4,h5,h6,hq d h7⟩
section
variable {W:WS} {x:Wl} {f:gX} (hi:x.OU) (h20:x.th.length<=2^20)
include hi h20
omit h20 in
theorem IN (hW:zC W (x.wo f)):PH jb (zr W) (Wm W) 3 qP (fun d=>D.ae d=aw (x.th.map En.r)):=by
 refine Ws (Xy hW hi.one (by have:=hi.th;simp[Wl.wo,Wl.an];omega)) ?_
 rintro d ⟨l,h1,h2⟩
 rw[h2,M4 (h1.trans (by rw[show (x.wo f).th=x.an from rfl,Wl.ct])) hi.Iy]
noncomputable abbrev QP1 (x:Wl)(s:List Int)(d:D):Prop:=∃t,cn (D.aa d 1)=fM t/\t.Nodup/\(∀q∈t,q∈x.all)/\(∀q∈s,q∈t)/\(∀q∈t,x.Gr (·∈s) q)/\(((d.aa 0).bool=true/\s.length<t.length)\/((d.aa 0).bool=false/\t=s/\∀e∈x.th,LF s e))
theorem WE (hW:zC W (x.wo f))(s:List Int)(st:List Nat)(ck:Nat)(hs:s.Nodup)(hsa:∀q∈s,q∈x.all):
 PH dj (kh W (fM s) st ck) (ki W (fM s) st ck) 6 gM (QP1 x s):=by
 have hth:=hi.th
 have lp2:∀(ah:List En) (i:Nat) (t:List Int) (st2:List Nat) (c2:Nat) (b:Bool),x.th.drop i=ah->t.Nodup->(∀q∈t,q∈x.all)->(∀q∈s,q∈t)->(∀q∈t,x.Gr (·∈s) q)->
  ((b=true/\s.length<t.length)\/(b=false/\t=s/\∀e∈x.th.take i,LF s e))->
  ay pg dj [ai] (.bx 6 (gM (kh W (fM s) st ck) (ki W (fM s) st ck)) (QP1 x s)) (aN W (fM s) st ck x.th.length x.th.length x.th.length (x.th.map fun e=> .z e.w.k) (aw (x.th.map En.r)) i (fM t) st2 c2 b):=by
  intro ah
  induction ah with
  |nil=>
   intro i t st2 c2 b hd h1 h2 h3 h4 h5
   have hil:=drop_nil hd
   rw[ag5 hil]at h5
   refine kz ?_
   have hn:¬(i:Int)<(x.th.length:Int):=by omega
   simp only[rk,hn,ahj,agZ,ag1,ag3,ahk]
   refine⟨rfl,.r [.b b,i5 (fM t),i6 st2,.z c2],?_,t,dh _,h1,h2,h3,h4,h5⟩
   have e1:cn (D.aa (.r [.b b,i5 (fM t),i6 st2,.z (c2:Int)]) 1)=fM t:=dh _
   have e2:cK (D.aa (.r [.b b,i5 (fM t),i6 st2,.z (c2:Int)]) 2)=st2:=nb _
   have e3:cJ (D.aa (.r [.b b,i5 (fM t),i6 st2,.z (c2:Int)]) 3)=c2:=na _
   simp only[gM,e1,e2,e3]
   exact .ret
  |cons e ah ih=>
   intro i t st2 c2 b hd h1 h2 h3 h4 h5
   obtain⟨g1,g2,g3⟩:=aB hd
   have hmem:=agY g1
   have htl:=Wl.AP h1 h2
   have hget:=By hi.one g1
   have hat:x.an.at e.r=e.w:=by simp[aV.at,hget]
   have Fs:(t=s->LF s e)->ay pg dj [ai] (.bx 6 (gM (kh W (fM s) st ck) (ki W (fM s) st ck)) (QP1 x s)) (aN W (fM s) st ck x.th.length x.th.length x.th.length (x.th.map fun e=> .z e.w.k) (aw (x.th.map En.r)) ((i+1:Nat):Int) (fM t) st2 c2 b):=fun hk=>by
    refine ih (i+1) t st2 c2 b g2 h1 h2 h3 h4 ?_
    rcases h5 with h5| ⟨h5,h6,h7⟩
    ·exact .inl h5
    ·refine .inr ⟨h5,h6,fun e2 he2=>?_⟩
     rw[aQ g1]at he2
     rcases ahd.1 he2 with he2|he2
     ·exact h7 e2 he2
     ·rw[ahb]at he2;subst he2;exact hk h6
   have put:∀q,q∉t->q∈x.all->x.Gr (·∈s) q->∀st3 c3,ay pg dj [ai] (.bx 6 (gM (kh W (fM s) st ck) (ki W (fM s) st ck)) (QP1 x s)) (aN W (fM s) st ck x.th.length x.th.length x.th.length (x.th.map fun e=> .z e.w.k) (aw (x.th.map En.r)) ((i+1:Nat):Int) (fM (gN t [q])) st3 c3 true):=fun q hq hqa hqg st3 c3=>by
    have e1:gN t [q]=t++[q]:=by simp[gN,Ki,hq]
    rw[e1]
    have hsl:s.length<=t.length:=hG hs h3
    refine ih (i+1) (t++[q]) st3 c3 true g2 (ah5.2 ⟨h1,by simp,fun a ha b hb=>by rw[ahb]at hb;subst hb;rintro rfl;exact hq ha⟩) (fun a ha=>?_) (fun a ha=>ahP _ (h3 a ha)) (fun a ha=>?_) (.inl ⟨rfl,by rw[ahc,ah9];omega⟩)
    ·rcases ahd.1 ha with ha|ha
     ·exact h2 a ha
     ·rw[ahb]at ha;subst ha;exact hqa
    ·rcases ahd.1 ha with ha|ha
     ·exact h4 a ha
     ·rw[ahb]at ha;subst ha;exact hqg
   have lt:∀q,q∉t->decide (t.length<(gN t [q]).length)=true:=fun q hq=>by simp[gN,Ki,hq]
   refine kz ?_
   have hcl:(i:Int)<(x.th.length:Int):=by omega
   have hr1:D.at (aw (x.th.map En.r)) i= .z e.r:=by simp[D.at,List.getD,g1]
   have hk1:D.at (x.th.map fun e=>D.z e.w.k) i= .z e.w.k:=bn g1
   simp only[rk,agV,hcl,hr1,hk1,aU g3,g3,D.bV,ag6,ahg,ag3,ag0,ag1,ahf,bo g3 (by omega)]
   refine⟨_,_,rfl,Xv hi hW e.r (by rw[hget];rfl),?_⟩
   rintro d ⟨hd1,_⟩
   rw[hd1,hat]
   simp only[Wh.di,gC,aht,ahe,aic,agW,agX]
   have val:∀{q},q∈t->D.int (D.val (fM t) (.z q))=1:=fun hq=>by rw[rM _ hq];rfl
   refine⟨fun h14=>⟨fun hof=>⟨fun _=>⟨fun hr=>⟨fun h0=>absurd (val hr) (by rw[h0];decide),fun _=>Fs fun AA=>⟨fun _ _=>AA▸hr,fun h=>by omega⟩⟩,fun hr=>⟨_,_,rfl,Tl t [e.r] st2 c2 (by simp) (by omega),fun d hd=>?_⟩⟩,fun h1=>absurd (val hof) h1⟩,fun hof=>Fs fun AA=>⟨fun _ h=>absurd (AA▸h) hof,fun h=>by omega⟩⟩,
    fun hn14=>⟨fun h6=>?_,fun hn6=>⟨fun h7=>?_,fun hn7=>⟨fun h9=>?_,fun hn9=>Fs fun _=>⟨fun h=>absurd h hn14,fun h=>by omega⟩⟩⟩⟩⟩
   ·obtain⟨hb,hm⟩:=hd
    rw[hb,lt _ hr,hm]
    exact⟨fun _=>put _ hr (Wl.acC hmem) (.Ve hmem h14 (h4 _ hof)) _ _,fun h=>by cases h⟩
   all_goals
    refine⟨fun hr=>⟨fun _=>⟨fun hof=>⟨fun h0=>absurd (val hof) (by rw[h0];decide),fun _=>Fs fun AA=>⟨fun h=>absurd h hn14,fun _ _=>AA▸hof⟩⟩,fun hof=>⟨_,_,rfl,Tl t [e.w.of] st2 c2 (by simp) (by omega),fun d hd=>?_⟩⟩,fun h1=>absurd (val hr) h1⟩,fun hr=>Fs fun AA=>⟨fun h=>absurd h hn14,fun _ h=>absurd (AA▸h) hr⟩⟩
    obtain⟨hb,hm⟩:=hd
    rw[hb,lt _ hof,hm]
    exact⟨fun _=>put _ hof (Wl.XI hmem) (.use hmem (by omega) (h4 _ hr)) _ _,fun h=>by cases h⟩
 have lp1:∀(ah:List En) (i:Nat),x.th.drop i=ah->ay pg dj [ai] (.bx 6 (gM (kh W (fM s) st ck) (ki W (fM s) st ck)) (QP1 x s)) (dD W (fM s) st ck x.th.length x.th.length (aw (x.th.map En.r)) (x.th.take i).length (x.th.take i).length i (aw ((x.th.take i).map En.r)) ((x.th.take i).map fun e=> .z e.w.k)):=by
  intro ah
  induction ah with
  |nil=>
   intro i hd
   have hil:=drop_nil hd
   refine ky ?_
   rw[ag5 hil]
   have hn:¬(i:Int)<(x.th.length:Int):=by omega
   simp only[rk,hn,ahj,agZ,ag1,ag3,ahk]
   exact lp2 x.th 0 s st ck false rfl hs hsa (fun _ h=>h) (fun _ h=> .az h) (.inr ⟨rfl,rfl,by simp⟩)
  |cons e ah ih=>
   intro i hd
   obtain⟨g1,g2,g3⟩:=aB hd
   have hget:=By hi.one g1
   have hh:(x.wo f).th=x.an:=rfl
   have htl:(x.th.take i).length=i:=by rw[ahx];omega
   have:=ih (i+1) g2
   rw[aQ g1,ahr,ahr,ahc]at this
   refine ky ?_
   have hcl:(i:Int)<(x.th.length:Int):=by omega
   have hr1:D.at (aw (x.th.map En.r)) i= .z e.r:=by simp[D.at,List.getD,g1]
   have hhas:D.cS W.th (.z e.r)=true:=by rw[hW.th,aV.cS,hh,hget];rfl
   have hval:D.val W.th (.z e.r)=e.w.ax:=by rw[hW.th];exact aV.val hget
   have r1:aO 8 ((x.th.take i).length+1)=true:=by simp[aO];omega
   have r2:aO 1 ((x.th.take i).length+1)=true:=by simp[aO];omega
   simp only[rk,agV,hcl,hr1,aU g3,g3,D.bV,ag6,ahg,ag3,ag0,ag1,ahf,r1,r2,ahI,hhas,hval,Wh.cU,bo g3 (by omega)]
   simpa using this
 refine Qs ?_
 simp only[rk]
 refine⟨_,_,rfl,IN hi hW,?_⟩
 intro d hd
 rw[hd]
 have:=lp1 x.th 0 rfl
 simpa using this
abbrev Wl.ln (x:Wl)(l:List Su)(q:Int):Prop:=x.Gr (x.LC (gi l)) q
open Classical in
noncomputable def Wl.fL (x:Wl)(l:List Su):List Int:=(x.th.map En.r).filter fun r=>decide (x.ln l r)
open Classical in
noncomputable def Wl.ah (x:Wl)(l:List Su):List Int:=(x.th.map En.r).filter fun r=>decide (¬x.ln l r)
open Classical in
omit hi h20 in
theorem Wl.N4 {l:List Su}{s:List Int}(h:∀q,q∈s↔x.ln l q):(x.th.map En.r).filter (fun r=>decide (r∈s))=x.fL l:=by
 unfold Wl.fL
 refine ajd fun r _=>?_
 rw[ahu];simp only[agW]
 exact h r
open Classical in
omit hi h20 in
theorem Wl.UH {l:List Su}{s:List Int}(h:∀q,q∈s↔x.ln l q):(x.th.map En.r).filter (fun r=>decide (r∉s))=x.ah l:=by
 unfold Wl.ah
 refine ajd fun r _=>?_
 rw[ahu];simp only[agW]
 exact not_congr (h r)
noncomputable abbrev QP (x:Wl)(l:List Su)(d:D):Prop:=if l.all x.cN then (d.aa 0).ae=aw (x.fL l)/\(d.aa 1).ae=aw (x.ah l)/\(d.aa 2).int=0 else (d.aa 0).ae=[]/\(d.aa 1).ae=[]/\(d.aa 2).int=190
theorem OH (hW:zC W (x.wo f))(hc:x.Clo)(hla:∀e∈x.th,e.r<=x.la)(l:List Su)(hs:SuS l):
 PH du (qj W (l.map Su.ax)) (Wm W) 3 jK (QP x l):=by
 have hth:=hi.th
 have lp2:∀(s:List Int) (st:List Nat) (ck:Nat),(∀q,q∈s↔x.ln l q)->l.all x.cN=true->∀(ah:List En) (i:Nat),x.th.drop i=ah->
  ay pg du [aW,aW,aM] (.bx 3 (jK (qj W (l.map Su.ax)) (Wm W)) (QP x l)) (dg W (l.map Su.ax) (fM s) st ck x.th.length x.th.length x.th.length (x.th.map fun e=> .z e.w.k) (aw (x.th.map En.r)) i
   (((x.th.take i).map En.r).filter fun r=>decide (r∈s)).length (aw (((x.th.take i).map En.r).filter fun r=>decide (r∈s))) (((x.th.take i).map En.r).filter fun r=>decide (r∉s)).length (aw (((x.th.take i).map En.r).filter fun r=>decide (r∉s)))):=by
  intro s st ck hsl hall ah
  induction ah with
  |nil=>
   intro i hd
   have hil:=drop_nil hd
   refine mO ?_
   rw[ag5 hil,Wl.N4 hsl,Wl.UH hsl]
   have hn:¬(i:Int)<(x.th.length:Int):=by omega
   simp only[rk,hn,ahj,agZ,ag1,ag3,ahk]
   refine⟨rfl,.r [.r (aw (x.fL l)),.r (aw (x.ah l)),.z 0],?_,?_⟩
   ·rw[show (x.fL l).length=(aw (x.fL l)).length by simp,show (x.ah l).length=(aw (x.ah l)).length by simp];exact .ret
   ·simp only[QP];rw[ag8 hall];exact⟨rfl,rfl,rfl⟩
  |cons e ah ih=>
   intro i hd
   obtain⟨g1,g2,g3⟩:=aB hd
   have hcl:(i:Int)<(x.th.length:Int):=by omega
   have hr1:D.at (aw (x.th.map En.r)) i= .z e.r:=by simp[D.at,List.getD,g1]
   have len:∀p:Int->Bool,(((x.th.take i).map En.r).filter p).length<=i:=fun p=>by
    refine ahD (ah1 _ _) ?_
    rw[agV,ahx];omega
   have rm:∀p:Int->Bool,aO 8 ((((x.th.take i).map En.r).filter p).length+1)=true:=fun p=>by
    have:=len p
    simp only[aO,agW];omega
   have:=ih (i+1) g2
   rw[aQ g1,ahr,aiP,aiP]at this
   refine mO ?_
   simp only[rk,agV,hcl,hr1,aU g3,g3,D.bV,ag6,ahg,ag3,ag0,ag1,ahf,rm,ahI,gC,bo g3 (by omega),agW,agX,aht,ahe,aic]
   refine⟨fun h=>⟨fun _=>?_,fun h1=>absurd (by rw[rM _ h];rfl) h1⟩,fun h=>?_⟩
   ·simpa [h]using this
   ·simpa [h]using this
 have lp1:∀(s:List Int) (st:List Nat) (ck:Nat),(∀q,q∈s↔x.ln l q)->l.all x.cN=true->∀(ah:List En) (i:Nat),x.th.drop i=ah->ay pg du [aW,aW,aM] (.bx 3 (jK (qj W (l.map Su.ax)) (Wm W)) (QP x l)) (ek W (l.map Su.ax) x.th.length x.th.length (aw (x.th.map En.r)) (fM s) st ck (x.th.take i).length (x.th.take i).length i (aw ((x.th.take i).map En.r)) ((x.th.take i).map fun e=> .z e.w.k)):=by
  intro s st ck hsl hall ah
  induction ah with
  |nil=>
   intro i hd
   have hil:=drop_nil hd
   refine mN ?_
   rw[ag5 hil]
   have hn:¬(i:Int)<(x.th.length:Int):=by omega
   simp only[rk,hn,ahj,agZ,ag1,ag3,ahk]
   exact lp2 s st ck hsl hall x.th 0 rfl
  |cons e ah ih=>
   intro i hd
   obtain⟨g1,g2,g3⟩:=aB hd
   have hget:=By hi.one g1
   have hh:(x.wo f).th=x.an:=rfl
   have htl:(x.th.take i).length=i:=by rw[ahx];omega
   have:=ih (i+1) g2
   rw[aQ g1,ahr,ahr,ahc]at this
   refine mN ?_
   have hcl:(i:Int)<(x.th.length:Int):=by omega
   have hr1:D.at (aw (x.th.map En.r)) i= .z e.r:=by simp[D.at,List.getD,g1]
   have hhas:D.cS W.th (.z e.r)=true:=by rw[hW.th,aV.cS,hh,hget];rfl
   have hval:D.val W.th (.z e.r)=e.w.ax:=by rw[hW.th];exact aV.val hget
   have r1:aO 8 ((x.th.take i).length+1)=true:=by simp[aO];omega
   have r2:aO 1 ((x.th.take i).length+1)=true:=by simp[aO];omega
   simp only[rk,agV,hcl,hr1,aU g3,g3,D.bV,ag6,ahg,ag3,ag0,ag1,ahf,r1,r2,ahI,hhas,hval,Wh.cU,bo g3 (by omega)]
   simpa using this
 have lp0:l.all x.cN=true->∀(n:Nat) (s:List Int) (st:List Nat) (ck:Nat),2*x.th.length-s.length=n->s.Nodup->(∀q∈s,q∈x.all)->(∀q,x.LC (gi l) q->q∈s)->(∀q∈s,x.ln l q)->
  ay pg du [aW,aW,aM] (.bx 3 (jK (qj W (l.map Su.ax)) (Wm W)) (QP x l)) (tH W (l.map Su.ax) (fM s) st ck):=by
  intro hall n
  induction n using Nat.strongRecOn with
  |_ n ih=>
   intro s st ck hn h1 h2 h3 h4
   refine Ma ?_
   simp only[rk]
   refine⟨_,_,rfl,WE hi h20 hW s st ck h1 h2,?_⟩
   rintro d ⟨t,e1,e2,e3,e4,e5,e6⟩
   rw[e1]
   have hg:∀q∈t,x.ln l q:=fun q hq=>(e5 q hq).bind h4
   have htl:=Wl.AP e2 e3
   rcases e6 with ⟨e6,e7⟩| ⟨e6,e7,e8⟩
   ·rw[e6]
    exact⟨fun _=>ih _ (by omega) t _ _ rfl e2 e3 (fun q hq=>e4 q (h3 q hq)) hg,fun h=>by cases h⟩
   ·rw[e6]
    subst e7
    refine⟨fun h=>(by cases h),fun _=>⟨_,_,rfl,IN hi hW,fun d2 hd2=>?_⟩⟩
    rw[hd2]
    have:=lp1 t (cK (D.aa d 2)) (cJ (D.aa d 3)) (fun q=>⟨hg q,fun hq=>(hq.bind fun q hq=> .az (h3 q hq)).aey e8⟩) hall x.th 0 rfl
    simpa using this
 refine Wj ?_
 simp only[rk]
 refine⟨_,_,rfl,abq hi hW hc h20 hla l hs,?_⟩
 rintro d ⟨r,h1,h2⟩
 rw[h1]
 by_cases hall:l.all x.cN=true
 ·rw[ag8 hall]at h2
  obtain⟨h2,h3,h4⟩:=h2
  rw[h2]
  have hra:∀q∈r,q∈x.all:=fun q hq=>by
   have:x.is q:=by
    have hz:=(h4 q).1 hq
    clear hq
    induction hz with
    |az hb=>
     obtain⟨s,hsm,hq⟩:=aiq.1 hb
     have:=((x.cW s).1 (ahG.1 hall s hsm)).2.2.2.2
     simp only[mF,aE.xG,aiq,ahp]at hq
     obtain⟨v,⟨n,hn,rfl⟩,hq⟩:=hq
     have:=this n hn _ hq
     simp only[Wl.xw,ag2]at this
     exact this.1
    |step _ hn _=>exact hc _ _ hn
   exact ahP _ (Wl.KL this)
  have hrl:=Wl.AP h3.lJ hra
  refine⟨fun h=>by simp at h,fun _=>⟨_,_,rfl,Tl [] r [] 0 (by omega) (by simp),?_⟩⟩
  rintro d2 ⟨_,hd2⟩
  rw[hd2]
  have hnd:(gN [] r).Nodup:=O8 .nil
  have hm:∀q,q∈gN [] r↔q∈r:=fun q=>by rw[VC];simp
  exact lp0 hall _ (gN [] r) _ _ rfl hnd (fun q hq=>hra q ((hm q).1 hq)) (fun q hq=>(hm q).2 ((h4 q).2 hq)) fun q hq=> .az ((h4 q).1 ((hm q).1 hq))
 ·rw[ag4 hall]at h2
  rw[h2.1]
  refine⟨fun _=>⟨rfl,.r [.r [],.r [],.z 190],.ret,?_⟩,fun h=>by simp at h⟩
  simp only[QP];rw[ag4 hall];exact⟨rfl,rfl,rfl⟩
end
end
section
section
variable {W:WS} {x:Wl} {f:gX} (hi:x.OU) (h20:x.th.length<=2^20) (hW:zC W (x.wo f)) (hc:x.Clo) (hla:∀e∈x.th,e.r<=x.la) (l:List Su) (hs:SuS l)
include hi h20 hW hc hla hs
noncomputable abbrev QL (x:Wl)(l:List Su)(r:List Int)(d:D):Prop:=if l.all x.cN then (d.aa 0).ae=aw r/\(d.aa 1).int=0 else (d.aa 0).ae=[]/\(d.aa 1).int=190
theorem ZO:PH q6 (O1 W (l.map Su.ax)) (Wm W) 3 F5 (QL x l (x.fL l)):=by
 refine Zh ?_
 simp only[rk]
 refine⟨_,_,rfl,OH hi h20 hW hc hla l hs,?_⟩
 intro d hd
 refine⟨rfl,.r [D.aa d 0,D.aa d 2],.ret,?_⟩
 simp only[QL,QP]at hd ⊢
 by_cases h:l.all x.cN=true
 ·rw[ag8 h]at hd ⊢;exact⟨hd.1,hd.2.2⟩
 ·rw[ag4 h]at hd ⊢;exact⟨hd.1,hd.2.2⟩
theorem ZP:PH uP (O2 W (l.map Su.ax)) (Wm W) 3 Cm (QL x l (x.ah l)):=by
 refine Zi ?_
 simp only[rk]
 refine⟨_,_,rfl,OH hi h20 hW hc hla l hs,?_⟩
 intro d hd
 have hq:QL x l (x.ah l) (.r [D.aa d 1,D.aa d 2]):=by
  simp only[QL,QP]at hd ⊢
  by_cases h:l.all x.cN=true
  ·rw[ag8 h]at hd ⊢;exact⟨hd.2.1,hd.2.2⟩
  ·rw[ag4 h]at hd ⊢;exact⟨hd.2.1,hd.2.2⟩
 have beq:∀n:Nat,Nat.beq n n=true:=fun n=>by simp
 refine⟨fun h=>⟨rfl,.r [D.aa d 1,D.aa d 2],?_,hq⟩,fun _=>⟨fun _=>⟨rfl,.r [D.aa d 1,D.aa d 2],.ret,hq⟩,fun h=>by simp at h⟩⟩
 have:(d.aa 1).ae=[]:=by
  simp only[ah0,ahI]at h
  exact ahy.1 (ahh h)
 have e:D.aa (.r [D.aa d 1,D.aa d 2]) 0=D.aa d 1:=rfl
 simp only[Cm,e,this]
 exact .ret
theorem acj:PH wP (Mq W (l.map Su.ax)) (Wm W) 3 HL
 (fun d=>if l.all x.cN then (d.aa 0).int=(x.fL l).length/\(d.aa 1).int=(x.ah l).length/\(d.aa 2).int=0 else (d.aa 0).int=0/\(d.aa 1).int=0/\(d.aa 2).int=190):=by
 refine Wg ?_
 simp only[rk]
 refine⟨_,_,rfl,OH hi h20 hW hc hla l hs,?_⟩
 intro d hd
 refine⟨rfl,.r [.z ((d.aa 0).ae).length,.z ((d.aa 1).ae).length,D.aa d 2],.ret,?_⟩
 simp only[QP]at hd
 by_cases h:l.all x.cN=true
 ·rw[ag8 h]at hd ⊢;rw[hd.1,hd.2.1];exact⟨by simp[D.aa,D.at,D.int],by simp[D.aa,D.at,D.int],hd.2.2⟩
 ·rw[ag4 h]at hd ⊢;rw[hd.1,hd.2.1];exact⟨rfl,rfl,hd.2.2⟩
end
end
end Go.Proofs
end
