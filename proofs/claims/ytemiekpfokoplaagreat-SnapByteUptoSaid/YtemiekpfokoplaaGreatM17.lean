import Derived.Shelf.SlGeneric
import Derived.Ground.SlgnProg
import Derived.Shelf.SlicesG.CompactI
import Derived.OpenShut
import Derived.Shelf.SortM.Plain
import Derived.Shelf.SortM.SortNone
import Derived.Ground.SlgmProg
import Derived.Test.YtemiekpfokoplaaGreatM16
set_option linter.all false
noncomputable section
namespace Go.Proofs
open Go Go.PB
def pX:pg.underlying bh=some (.int .i64):=by kernel_rfl
def CK:pg.cellsOf bh=1:=by kernel_rfl
def Zf {fz:Nat->Prop}{w:World}{d:D}{vs:List Value}(h:mW pg fz w bh d vs):vs=[Value.int .i64 d.int]:=by
 cases h with
 |int h=>rw[pX]at h;cases h;rfl
 |bool h=>rw[pX]at h;cases h
 |bj h=>rw[pX]at h;cases h
 |bJ h=>rw[pX]at h;cases h
 |empty h=>rw[pX]at h;cases h
 |slice h=>rw[pX]at h;cases h
 |struct h=>rw[pX]at h;cases h
def JZ {fz:Nat->Prop}{w:World}{l:List Int}{vs:List Value}(h:cD pg fz w bh (ba l) vs):vs=l.map (Value.int .i64):=by
 obtain⟨h1,h2⟩:=h
 rw[CK]at h1
 simp only[CK,aiF,aeW]at h1 h2
 apply agY;intro i
 by_cases hi:i<l.length
 ·have:=h2 i (.z l[i]) (by simp[hi])
  have hv:i<vs.length:=by omega
  rw[ag8 hv]at this
  simp only[ais,ahL]at this
  have hx:vs[i]=Value.int .i64 l[i]:=by
   have:=Zf this
   simpa [D.int]using this
  rw[aeY hv,hx];simp[hi]
 ·rw[afH (by omega),afH (by simp;omega)]
def Qw {fz:Nat->Prop}{w:World}(l:List Int):cD pg fz w bh (ba l) (l.map (Value.int .i64)):=by
 refine⟨by simp[CK],fun i x hx=>?_⟩
 rw[CK,aiF]
 simp only[afE,afz]at hx
 obtain⟨n,hn,rfl⟩:=hx
 have hi:=(ae1.1 hn).1
 rw[ag8 (by simpa using hi)]
 simp only[ais,ahL,List.getElem_map]
 have e:l[i]=n:=by rw[aeY hi]at hn;exact agT hn
 rw[e]
 exact .int (d:= .z n) pX
def ON (d:Array Int)(c:Array Value)(off j:Nat)(hj:j<d.size)(hc:off+j<c.size):(Go.Sort.putCells (Value.int .i64) off d c)[off+j]?=some (.int .i64 d[j]!):=by
 unfold Go.Sort.putCells
 rw[Array.getElem?_mapIdx,afs hc]
 simp[hj]
def aR.aag {g:Gh}{w:World}{l d:List Int}{n aA au:Nat}(hr:aR pg g (hL [(0,.an bh (ba l) true)]) w)(hm:g.m 0=some (aA,au))(hd:d.length=l.length)(q:Nat):
 aR pg g (hL [(0,.an bh (ba (d.take n)) true)]) (Go.Sort.putRow (Value.int .i64) (Go.Sort.ahead w q) aA au d.toArray)/\
  EH g (hL [(0,.an bh (ba l) true)]) w g (hL [(0,.an bh (ba (d.take n)) true)]) (Go.Sort.putRow (Value.int .i64) (Go.Sort.ahead w q) aA au d.toArray):=by
 have hb:(hL [(0,.an bh (ba l) true)]).get 0=some (.an bh (ba l) true):=rfl
 obtain⟨c,vs,⟨lo,hi⟩,h1,h2,h3,h4,hmk⟩:=hr.an hb hm
 obtain⟨rfl,rfl⟩:lo=0/\hi=0:=hmk.2 (by kernel_rfl)
 have hvs:=JZ h2
 have hlt:aA<w.heap.size:=hr.U0 _ _ _ hm
 have hheap:(Go.Sort.putRow (Value.int .i64) (Go.Sort.ahead w q) aA au d.toArray).heap=w.heap.setIfInBounds aA (.cells (Go.Sort.putCells (Value.int .i64) au d.toArray c) bh (0,0)):=by
  show w.heap.modify aA _=_
  apply agQ
  intro i
  rw[aht,ahD]
  by_cases hi:aA=i
  ·subst hi;rw[aeZ rfl,aeZ rfl,h1,aeZ hlt];rfl
  ·rw[aeX hi,aeX hi]
 have hshape:∀s,w.shape? aA=some s->(Go.Sort.putRow (Value.int .i64) (Go.Sort.ahead w q) aA au d.toArray).shape? aA=some s:=fun s hs=>by
  simp only[World.shape?,h1]at hs
  simp only[World.shape?,hheap,afi hlt]
  rw[<-hs];simp[Go.Sort.putCells]
 obtain⟨k1,k2⟩:=hr.Kd (w':=Go.Sort.putRow (Value.int .i64) (Go.Sort.ahead w q) aA au d.toArray) (o':= .an bh (ba (d.take n)) true) hb hm h1 hheap ⟨rfl,rfl,rfl⟩ hshape (fun _=>by
  simp only[cL]
  refine⟨_,0,0,rfl,xZ.zero _ _ _,_,Qw (d.take n),fun i x hx=>?_⟩
  rw[afE,afz]at hx
  obtain⟨z,hz,rfl⟩:=hx
  have hi:=(ae1.1 hz).1
  rw[afC]at hi
  rw[afA,aeZ (by omega)]at hz
  have hcs:au+i<c.size:=by
   have:=h3 i (.int .i64 (l.getD i 0)) (by rw[hvs,afE,aeY (by omega)];simp[List.getD,aeY (show i<l.length by omega)])
   exact(aff.1 this).1
  rw[ON _ _ _ _ (by simp;omega) hcs]
  have hdi:=(ae1.1 hz)
  simp[hdi.2,show i<d.length by omega])
 have hg:∀b,(hL [(0,.an bh (ba (d.take n)) true)]).get b=((hL [(0,.an bh (ba l) true)]).put 0 (some (.an bh (ba (d.take n)) true))).get b:=fun b=>by
  rw[af.fe]
  by_cases e:b=0
  ·subst e;rfl
  ·rw[aeX e]
   cases b with
   |zero=>exact absurd rfl e
   |succ b=>rfl
 have k3:aR pg g (hL [(0,.an bh (ba (d.take n)) true)]) (Go.Sort.putRow (Value.int .i64) (Go.Sort.ahead w q) aA au d.toArray):=k1.congr hg (afa _)
 refine⟨k3,.DX k2 ⟨afa _,fun _ _ _=>rfl,fun _ h=>h,fun _ _ h=> .inl h,k3.lF,fun c _ ho=>?_,fun _ _ h=>h,rfl,rfl,rfl⟩⟩
 obtain⟨a,o,base',h5,h6⟩:=ho
 exact⟨a,o,base',by rw[<-af.I4 hg];exact h5,h6⟩
def Tryz.sort_ren:Go.Shelf.Ren:=⟨fun|5=>128|8=>199|7=>198|19=>244|20=>245|10=>235|11=>236|12=>237|13=>238|14=>239|15=>240|16=>241|17=>242|18=>243|30=>267|31=>268|32=>269|33=>270|34=>271|35=>266|40=>280|n=>n,fun|23=>64|25=>25|3=>3|32=>187|22=>64|0=>0|44=>282|46=>54|4=>4|36=>274|35=>273|41=>279|5=>5|9=>9|53=>305|57=>213|63=>322|64=>323|n=>n,fun|n=>n⟩
def Tryz.sort:Go.Proofs.SlLaysM.n5 pg Tryz.sort_ren:={
 mixed:=by kernel_rfl
 f5:=⟨Tryz.f128.name,by decide,Tryz.func128.trans (afg some (by kernel_rfl))⟩
 f7:=⟨Tryz.f198.name,by decide,Tryz.func198.trans (afg some (by kernel_rfl))⟩
 f8:=Tryz.func199.trans (afg some (by kernel_rfl))
 f10:=⟨Tryz.f235.name,by decide,Tryz.func235.trans (afg some (by kernel_rfl))⟩
 f11:=⟨Tryz.f236.name,by decide,Tryz.func236.trans (afg some (by kernel_rfl))⟩
 f12:=⟨Tryz.f237.name,by decide,Tryz.func237.trans (afg some (by kernel_rfl))⟩
 f13:=⟨Tryz.f238.name,by decide,Tryz.func238.trans (afg some (by kernel_rfl))⟩
 f14:=⟨Tryz.f239.name,by decide,Tryz.func239.trans (afg some (by kernel_rfl))⟩
 f15:=⟨Tryz.f240.name,by decide,Tryz.func240.trans (afg some (by kernel_rfl))⟩
 f16:=⟨Tryz.f241.name,by decide,Tryz.func241.trans (afg some (by kernel_rfl))⟩
 f17:=⟨Tryz.f242.name,by decide,Tryz.func242.trans (afg some (by kernel_rfl))⟩
 f18:=⟨Tryz.f243.name,by decide,Tryz.func243.trans (afg some (by kernel_rfl))⟩
 f19:=Tryz.func244.trans (afg some (by kernel_rfl))
 f20:=Tryz.func245.trans (afg some (by kernel_rfl))
 f30:=⟨Tryz.f267.name,by decide,Tryz.func267.trans (afg some (by kernel_rfl))⟩
 f31:=Tryz.func268.trans (afg some (by kernel_rfl))
 f32:=Tryz.func269.trans (afg some (by kernel_rfl))
 f33:=⟨Tryz.f270.name,by decide,Tryz.func270.trans (afg some (by kernel_rfl))⟩
 f34:=⟨Tryz.f271.name,by decide,Tryz.func271.trans (afg some (by kernel_rfl))⟩
 f35:=⟨Tryz.f266.name,by decide,Tryz.func266.trans (afg some (by kernel_rfl))⟩
 f40:=⟨Tryz.f280.name,by decide,Tryz.func280.trans (afg some (by kernel_rfl))⟩
 t0:=Tryz.underlying0
 a0:=Tryz.isAgg0
 z0:=Tryz.sizeOf0
 v0:=Tryz.zeroValue0
 t3:=Tryz.underlying3
 a3:=Tryz.isAgg3
 z3:=Tryz.sizeOf3
 v3:=Tryz.zeroValue3
 t4:=Tryz.underlying4
 a4:=Tryz.isAgg4
 z4:=Tryz.sizeOf4
 v4:=Tryz.zeroValue4
 t5:=Tryz.underlying5
 a5:=Tryz.isAgg5
 z5:=Tryz.sizeOf5
 v5:=Tryz.zeroValue5
 t9:=Tryz.underlying9
 a9:=Tryz.isAgg9
 z9:=Tryz.sizeOf9
 v9:=Tryz.zeroValue9
 t22:=Tryz.underlying64
 a22:=Tryz.isAgg64
 z22:=Tryz.sizeOf64
 v22:=Tryz.zeroValue64
 t23:=Tryz.underlying64
 a23:=Tryz.isAgg64
 z23:=Tryz.sizeOf64
 v23:=Tryz.zeroValue64
 t25:=Tryz.underlying25
 a25:=Tryz.isAgg25
 z25:=Tryz.sizeOf25
 v25:=Tryz.zeroValue25
 t32:=Tryz.underlying187
 a32:=Tryz.isAgg187
 z32:=Tryz.sizeOf187
 v32:=Tryz.zeroValue187
 t35:=Tryz.underlying273
 a35:=Tryz.isAgg273
 z35:=Tryz.sizeOf273
 v35:=Tryz.zeroValue273
 t36:=Tryz.underlying274
 a36:=Tryz.isAgg274
 z36:=Tryz.sizeOf274
 v36:=Tryz.zeroValue274
 t41:=Tryz.underlying279
 a41:=Tryz.isAgg279
 z41:=Tryz.sizeOf279
 v41:=Tryz.zeroValue279
 t44:=Tryz.underlying282
 a44:=Tryz.isAgg282
 z44:=Tryz.sizeOf282
 v44:=Tryz.zeroValue282
 t46:=Tryz.underlying54
 a46:=Tryz.isAgg54
 z46:=Tryz.sizeOf54
 v46:=Tryz.zeroValue54
 t53:=Tryz.underlying305
 a53:=Tryz.isAgg305
 z53:=Tryz.sizeOf305
 v53:=Tryz.zeroValue305
 t57:=Tryz.underlying213
 a57:=Tryz.isAgg213
 z57:=Tryz.sizeOf213
 v57:=Tryz.zeroValue213
 t63:=Tryz.underlying322
 a63:=Tryz.isAgg322
 z63:=Tryz.sizeOf322
 v63:=Tryz.zeroValue322
 t64:=Tryz.underlying323
 a64:=Tryz.isAgg323
 z64:=Tryz.sizeOf323
 v64:=Tryz.zeroValue323}
def Ti {g:Gh}{h:af}{w:World}(hr:aR pg g h w)(os:Array Obj):aR pg g h (Go.Sort.grow w os)/\EH g h w g h (Go.Sort.grow w os):=by
 have hlt:∀c,c<w.heap.size->(Go.Sort.grow w os).heap[c]?=w.heap[c]?:=fun c hc=>ahJ hc
 have hms:∀c s,w.shape? c=some s->(Go.Sort.grow w os).shape? c=some s:=fun c s e=>by
  have hc:c<w.heap.size:=by
   apply afV;intro hn
   simp only[World.shape?,ahY (Nat.le_of_not_lt hn)]at e
   cases e
  simpa only[World.shape?,hlt c hc]using e
 have hm:eA g w g (Go.Sort.grow w os):=⟨fun _ _ e=>e,fun _ e=>e,fun c e=>hlt c (hr.lF c e),hms,fun _ _ _ e=>e⟩
 have hsz:w.heap.size<=(Go.Sort.grow w os).heap.size:=by simp[Go.Sort.grow]
 refine⟨hr.nm.Ln (fun l b x e=>afk (hr.mR l b x e) hsz) hr.mS (fun l o aA au h1 m1=>?_) (fun c e=>afk (hr.lF c e) hsz),⟨hsz,fun c hc _=>hlt c hc,fun _ e=>e,fun _ _ e=> .inl e,fun c e=>afk (hr.lF c e) hsz,fun c _ ho=>ho,hms,rfl,rfl,rfl⟩⟩
 obtain⟨n1,o',ho,hr'⟩:=hr.pZ l o aA au h1 m1
 exact⟨n1,o',by rw[hlt _ (aff.1 ho).1];exact ho,hr'.mono hm⟩
def Rv {g g1 g':Gh}{h h1 h':af}{w w1 w':World}(a:EH g h w g1 h1 w1)(b:EH g1 h1 w1 g' h' w'):EH g h w g' h' w' where
 size:=afw a.size b.size
 AV:=fun c hc ho=>(b.AV c (afk hc a.size) fun h=>ho (a.gH c hc h)).trans (a.AV c hc ho)
 fz:=fun c hc=>b.fz c (a.fz c hc)
 PA:=fun c hc hf=>by
  rcases b.PA c (afk hc a.size) hf with h1|h1
  ·exact a.PA c hc h1
  ·exact .inr (a.gH c hc h1)
 lF:=b.lF
 gH:=fun c hc ho=>a.gH c hc (b.gH c (afk hc a.size) ho)
 ms:=fun c s hs=>b.ms c s (a.ms c s hs)
 os:=⟨b.os.1.trans a.os.1,b.os.2.1.trans a.os.2.1,b.os.2.2.trans a.os.2.2⟩
def acs (l:List Int)(h:l.length<2^31):PH wD (zo (ba l)) (wq (ba l)) 1 zD (fun v=>D.aa v=ba (l.mergeSort fun x y=>decide (x<=y))):=by
 intro g w as' hr ha
 obtain⟨v,h1,h2⟩:=ak.one ha
 obtain⟨as'⟩:=as'
 have h1:as'=[v]:=h1
 subst h1
 have done:∀w',aR pg g (hL [(0,.an bh (ba (l.mergeSort fun x y=>decide (x<=y))) true)]) w'->EH g (hL [(0,.an bh (ba l) true)]) w g (hL [(0,.an bh (ba (l.mergeSort fun x y=>decide (x<=y))) true)]) w'->
  ∃(v2:Value) (g':Gh) (d:D) (x:BV×List (Nat×ax)),(Ending.returned (.tuple #[]):Ending)= .returned v2/\T.dm x (zD (zo (ba l)) (wq (ba l)) d)/\EH g (hL (wq (ba l))) w g' (hL x.2) w'/\UT 1 g g'/\aR pg g' (hL x.2) w'/\ai pg g' w' x.1 v2/\D.aa d=ba (l.mergeSort fun x y=>decide (x<=y)):=fun w' k1 k2=>
  ⟨.tuple #[],g,.r (ba (l.mergeSort fun x y=>decide (x<=y))),(.tuple [],[(0,.an bh (ba (l.mergeSort fun x y=>decide (x<=y))) true)]),rfl,.ret,k2,⟨fun _ _ _ h=>h,fun _ _ _ _ h=>h⟩,k1,by simp[ai,ak],rfl⟩
 have hlen:(ba l).length=l.length:=by simp
 rw[hlen]at h2
 have empty:∀(a:Option Addr) (c:Nat),v= .slice a 0 c->l=[]->Calls pg wD ⟨[v]⟩ w fun ed w'=>∃(v':Value) (g':Gh) (d:D) (x:BV×List (Nat×ax)),ed= .returned v'/\T.dm x (zD (zo (ba l)) (wq (ba l)) d)/\EH g (hL (wq (ba l))) w g' (hL x.2) w'/\UT 1 g g'/\aR pg g' (hL x.2) w'/\ai pg g' w' x.1 v'/\D.aa d=ba (l.mergeSort fun x y=>decide (x<=y)):=by
  rintro a c rfl rfl
  refine(AnyM.slices_Sort_int_none Tryz.sort a c w).mono ?_
  rintro ed w' ⟨rfl,rfl⟩
  have e0:(([]:List Int).mergeSort fun x y=>decide (x<=y))=[]:=by simp
  rw[e0]at done
  rw[e0]
  exact done _ hr ⟨afa _,fun _ _ _=>rfl,fun _ h=>h,fun _ _ h=> .inl h,hr.lF,fun c _ ho=>ho,fun _ _ h=>h,rfl,rfl,rfl⟩
 simp only[ai]at h2
 rcases h2 with ⟨⟨_,h0⟩,rfl| ⟨a,rfl⟩⟩| ⟨aA,au,c,hm,rfl,hc,ht⟩
 ·have:=afr.1 h0;subst this
  exact empty _ _ rfl rfl
 ·have:=afr.1 h0;subst this
  exact empty _ _ rfl rfl
 ·obtain⟨cc,vs,⟨lo,hi⟩,k1,k2,k3,k4,hmk⟩:=hr.an (b:=0) rfl hm
  obtain⟨rfl,rfl⟩:lo=0/\hi=0:=hmk.2 (by kernel_rfl)
  have hvs:=JZ k2
  have hH:Go.Sort.Holds (Value.int .i64) w aA au l.toArray:=fun j hj=>by
   have hj:j<l.length:=by simpa using hj
   refine⟨?_,by simp[World.frozen?,k1]⟩
   rw[k4 j (.int .i64 l[j]) (by rw[hvs];simp[hj])]
   simp[hj]
  refine(AnyM.slices_Sort_int Tryz.sort aA au c l w hH (hr.U0 _ _ _ hm) (by omega)).mono ?_
  rintro ed w' ⟨rfl,q,os,rfl⟩
  obtain⟨m1,m2⟩:=aR.aag (n:=l.length) (d:=l.mergeSort fun x y=>decide (x<=y)) hr hm (by simp) q
  rw[ae7 (by simp)]at m1 m2
  obtain⟨m3,m4⟩:=Ti m1 os
  exact done _ m3 (Rv m2 m4)
section
section
variable {W:WS} {w:Wo} (hW:Gl W w)
include hW
theorem abi (h1:w.th.one)(hn:w.th.length<2^30):PH qB (A7 W) (Wm W) 3 yA (fun d=>∃l:List Int,l.Perm (w.th.map (·.1))/\D.aa d=ba (l.mergeSort fun x y=>decide (x<=y))):=by
 have hlenW:W.th.length=w.th.length:=by rw[hW.th];simp[aQ.az]
 have loop:aC pg qB [dS] (.bu 3 (yA (A7 W) (Wm W)) (fun d=>∃l:List Int,l.Perm (w.th.map (·.1))/\D.aa d=ba (l.mergeSort fun x y=>decide (x<=y)))) (tD W ([]:List Int).length (ba ([]:List Int).reverse) (ba [])):=by
  refine sd (M:=fun l=>aC pg qB [dS] (.bu 3 (yA (A7 W) (Wm W)) (fun d=>∃l:List Int,l.Perm (w.th.map (·.1))/\D.aa d=ba (l.mergeSort fun x y=>decide (x<=y)))) (tD W l.length (ba l.reverse) (ba l))) (w.th.map (·.1)) fun l hl hnd ih=>?_
  have hlen:l.length<=w.th.length:=by
   have:=CI hnd hl
   simpa using this
  refine OP (Am hW (fun hall=>?_) fun n hn1 hn2=>?_)
  ·have cs:=acs l.reverse (by simp;omega)
   simp only[zo,aeW,aiq]at cs
   refine⟨_,_,rfl,cs,?_⟩
   intro v hv
   refine⟨rfl,v,?_,l.reverse,(List.reverse_perm l).trans ((ag4 hnd h1).2 fun a=>⟨hl a,fun ha=>by obtain⟨p,hp,rfl⟩:=afy.1 ha;exact hall p hp⟩),hv⟩
   have:(D.aa v).length=l.length:=by rw[hv];simp
   rw[<-this]
   exact .ret
  ·have e:=ih n hn1 hn2
   simp only[rk,aeW,aiq,aft,afB]
   refine⟨fun _=>?_,fun h=>by simp[bg]at h;omega⟩
   simpa using e
 refine Xb ?_
 simp only[rk]
 exact⟨fun _=>loop,fun h=>by simp[rv]at h;omega⟩
end
end
section
def aJ.yG (v:aJ):Bool:=v.k==0&&v.n==0&&v.s==[]&&v.l.length==0&&v.r==0
def aJ.zero:aJ:= .mk 0 0 [] [] 0
def aJ.Yc:(D.r [.z 0,.z 0,.s [],.r [],.z 0])=aJ.zero.az:=rfl
def aJ.KV (v:aJ):v.yG=true↔v= .zero:=by
 cases v;simp[aJ.yG,aJ.zero,aJ.k,aJ.n,aJ.s,aJ.l,aJ.r,aio]
def aJ.sN:aJ.zero.ok:=by rw[aJ.lH];simp[aJ.zero,aJ.k,aJ.n,aJ.s,aJ.l,aJ.r]
def MZ (v:aJ):iq pg r6 [ao] [v.az] [aj] (·= .b v.yG):=by
 refine Ud ?_
 simp only[rk,aJ.fA,aJ.wB,aJ.Hk,aJ.Bq,aJ.Dd,aeW]
 refine⟨fun a=>⟨fun b=>⟨fun c=>⟨fun d=>?_,fun d=>?_⟩,fun c=>?_⟩,fun b=>?_⟩,fun a=>?_⟩
 all_goals (congr 1;simp_all [aJ.yG])
def Wh.bare (x:Wh):Wh:=
 {k:=x.k,h:=if x.k=14 then 0 else x.h,v:=if x.k=1\/x.k=7\/x.k=10 then x.v else aJ.zero,vs:=if x.k=2\/x.k=4 then x.vs else [],
  n:=if x.k=3\/x.k=8\/x.k=9 then x.n else 0,lo:=if x.k=8 then x.lo else 0,
  of:=if x.k=6\/x.k=7\/x.k=9\/x.k=11\/x.k=13\/x.k=14\/x.k=15\/x.k=16 then x.of else 0,
  jj:=if x.k=15\/x.k=16 then x.jj else 0,set:=if x.k=14 then x.set else 0,GC:=if x.k=10\/x.k=13 then x.GC else false,
  co:=if x.k=12 then x.co else [],ns:=if x.k=12 then x.ns else []}
def acD (x:Wh):iq pg BA [aO] [x.az] [aO] (·=x.bare.az):=by
 refine Xp ?_
 simp only[rk,Wh.fA,Wh.qu,Wh.rq,Wh.Bs,Wh.wB,Wh.Gx,Wh.kr,Wh.qt,Wh.oN,Wh.yR,Wh.pq,Wh.lC,ml,aJ.Yc,afv,afd,agq]
 repeat' (first|refine And.intro (fun h=>?_) (fun h=>?_))
 all_goals (rw[Wh.ay x.bare];simp[Wh.bare, *])
def Wh.RR {x:Wh}(h:x.h=x.bare.h)(v:x.bare.v.yG=true->x.v.yG=true)(vs:x.vs.length=x.bare.vs.length)(n:x.n=x.bare.n)(lo:x.lo=x.bare.lo)(of:x.of=x.bare.of)(jj:x.jj=x.bare.jj)(set:x.set=x.bare.set)
 (GC:x.GC=x.bare.GC)(co:x.co.length=x.bare.co.length)(ns:x.ns.length=x.bare.ns.length):x.bare=x:=by
 have e1:x.bare.v=x.v:=by
  by_cases c:x.k=1\/x.k=7\/x.k=10
  ·simp[Wh.bare,c]
  ·have e:x.bare.v= .zero:=by simp[Wh.bare,c]
   rw[e]at v ⊢
   exact((aJ.KV _).1 (v rfl)).symm
 have e2:x.bare.vs=x.vs:=by
  by_cases c:x.k=2\/x.k=4
  ·simp[Wh.bare,c]
  ·have e:x.bare.vs=[]:=by simp[Wh.bare,c]
   rw[e]at vs ⊢
   exact(afr.1 vs).symm
 have e3:x.bare.co=x.co:=by
  by_cases c:x.k=12
  ·simp[Wh.bare,c]
  ·have e:x.bare.co=[]:=by simp[Wh.bare,c]
   rw[e]at co ⊢
   exact(afr.1 co).symm
 have e4:x.bare.ns=x.ns:=by
  by_cases c:x.k=12
  ·simp[Wh.bare,c]
  ·have e:x.bare.ns=[]:=by simp[Wh.bare,c]
   rw[e]at ns ⊢
   exact(afr.1 ns).symm
 have e5:x.bare.k=x.k:=rfl
 generalize x.bare=y at*
 cases x;cases y
 simp_all
def Wh.F (x:Wh)(n:Int):Prop:=
 (1<=x.k/\x.k<=16)/\x.bare=x/\(x.k≠14->0<=x.h/\x.h<n)/\x.v.fG=true/\(aJ.aa x.vs).fG=true/\x.ns.length<=64/\(∀m∈x.ns,m.v.fG=true)/\
 (x.k=3\/x.k=8\/x.k=9->0<=x.n/\x.n<=9007199254740992/\0<=x.lo/\x.lo<=x.n)/\(x.k=10->x.GC=true\/x.v.yG=true)/\(x.k=12->St.cS x.co<=512/\St.kO x.co=true)
def aJ.NW {l:List aJ}(h:(aJ.aa l).fG=true):∀v∈l,v.fG=true:=by
 obtain⟨h1,h2,h3⟩:=(aJ.im _).1 h
 intro v hv
 have e1:(aJ.aa l).size=1+aJ.bI l:=rfl
 have e2:(aJ.aa l).depth=aJ.hI l+1:=rfl
 have e3:(aJ.aa l).ft=(aJ.kz l&&(aJ.aa l).field):=rfl
 have:=aJ.fh hv
 have:=aJ.CA hv
 rw[e3,aeV]at h3
 exact(aJ.im _).2 ⟨by omega,by omega,aJ.BB h3.1 hv⟩
def Wh.F.fG {x:Wh}{n:Int}(h:x.F n):∀v∈x.aF,v.fG=true:=by
 intro v hv
 simp only[Wh.aF,ae5,afp,afy]at hv
 rcases hv with rfl|hv| ⟨m,hm,rfl⟩
 ·exact h.2.2.2.1
 ·exact aJ.NW h.2.2.2.2.1 v hv
 ·exact h.2.2.2.2.2.2.1 m hm
open Classical in
noncomputable def Wh.Dg (x:Wh)(n:Int):Bool:=decide (x.F n/\(x.k=14->x.set<64))
def Wh.CE {x:Wh}{n:Int}:x.Dg n=true↔x.F n/\(x.k=14->x.set<64):=by simp[Wh.Dg]
def RL (s:Int)(h0:0<=s)(h1:s<256):iq pg qC [nP] [.z s] [aj] (·= .b (decide (s<64))):=by
 refine ZZ ?_
 simp only[rk,D.df]
 obtain⟨m,rfl⟩:=ahg h0
 have h:m<256:=by omega
 have key:∀m:Nat,m<256->(IntKind.u8.wrap ((BitVec.ofInt 8 (m:Int) &&& ~~~BitVec.ofInt 8 63).toNat:Int)==0)=decide ((m:Int)<64):=by decide+kernel
 rw[key m h]
section
variable {W:WS} {w:Wo} (hW:Gl W w)
include hW
theorem abh (x:Wh)(hx:x.ok)(hs:x.sz<2^30):PH ta (sP W x.az) (Wm W) 3 qj (fun d=>D.bool d=x.Dg w.ma.length):=by
 have hls:=x.JA
 have hs2:=hs
 simp only[Wh.sz]at hs2
 have hok:=hx.aF
 have no:¬(x.F w.ma.length/\(x.k=14->x.set<64))->∃d,T.dm (BV.bool false,Wm W) (T.ret (BV.bool (D.bool d),Wm W))/\D.bool d=x.Dg w.ma.length:=fun h=>BF (by
  rw[<-Wh.CE]at h;simpa using h)
 have Ip:∀b,(b=true↔x.F w.ma.length/\(x.k=14->x.set<64))->∃d,T.dm (BV.bool b,Wm W) (T.ret (BV.bool (D.bool d),Wm W))/\D.bool d=x.Dg w.ma.length:=fun b h=>BF (by
  rw[<-Wh.CE]at h;exact afo.2 h)
 have loop:∀(rest:List jV) (i:Nat),(1<=x.k/\x.k<=16)->x.bare=x->(x.k≠14->0<=x.h/\x.h<w.ma.length)->x.v.fG=true->(aJ.aa x.vs).fG=true->x.ns.length<=64->x.ns.drop i=rest->(∀m∈x.ns.take i,m.v.fG=true)->
  aC pg ta [aj] (.bu 3 (qj (sP W x.az) (Wm W)) (fun d=>D.bool d=x.Dg w.ma.length)) (oq W x.az i):=by
  intro rest
  induction rest with
  |nil=>
   intro i f1 f2 f3 f4 f5 f6 hd hm
   have hi:=drop_nil hd
   rw[ae7 hi]at hm
   have hlo:x.k≠8->x.lo=0:=fun h=>by rw[<-f2];simp[Wh.bare,h]
   refine Dr ?_
   simp only[rk,Wh.fA,Wh.rq,Wh.wB,Wh.Gx,Wh.oN,Wh.yR,Wh.pq,Wh.lC,ml,aeW,D.df,D.bP]
   refine⟨fun h=>by simp at h;omega,fun _=>?_⟩
   have hF:(x.k=3\/x.k=8\/x.k=9->0<=x.n/\x.n<=9007199254740992/\0<=x.lo/\x.lo<=x.n)->(x.k=10->x.GC=true\/x.v.yG=true)->(x.k=12->St.cS x.co<=512/\St.kO x.co=true)->x.F w.ma.length:=fun a b c=>⟨f1,f2,f3,f4,f5,f6,hm,a,b,c⟩
   have hN:x.F w.ma.length->(x.k=3\/x.k=8\/x.k=9->0<=x.n/\x.n<=9007199254740992/\0<=x.lo/\x.lo<=x.n)/\(x.k=10->x.GC=true\/x.v.yG=true)/\(x.k=12->St.cS x.co<=512/\St.kO x.co=true):=fun a=>a.2.2.2.2.2.2.2
   refine⟨fun k3=>?_,fun k3=>⟨fun k8=>?_,fun k8=>⟨fun k9=>?_,fun k9=>⟨fun k10=>?_,fun k10=>⟨fun k12=>?_,fun k12=>⟨fun k14=>?_,fun k14=>?_⟩⟩⟩⟩⟩⟩
   iterate 3
    ·simp only[afv,afd,agq,aeT,aeS,ge_iff_le]at*
     refine⟨fun a=>⟨fun b=>⟨fun c=>⟨rfl,Ip _ ?_⟩,fun c=>⟨rfl,no ?_⟩⟩,fun b=>⟨rfl,no ?_⟩⟩,fun a=>⟨rfl,no ?_⟩⟩
     ·simp only[aeT]
      exact⟨fun e=>⟨hF (fun _=>⟨a,b,c,e⟩) (by omega) (by omega),by omega⟩,fun e=>((hN e.1).1 (by omega)).2.2.2⟩
     ·exact fun e=>c ((hN e.1).1 (by omega)).2.2.1
     ·exact fun e=>b ((hN e.1).1 (by omega)).2.1
     ·exact fun e=>a ((hN e.1).1 (by omega)).1
   ·simp only[afv,afd,agq]at*
    refine⟨fun a=>⟨rfl,Ip _ ?_⟩,fun a=>⟨_,_,_,rfl,MZ x.v,?_⟩⟩
    ·exact⟨fun _=>⟨hF (by omega) (fun _=> .inl a) (by omega),by omega⟩,fun _=>rfl⟩
    ·rintro _ rfl
     refine⟨rfl,Ip _ ?_⟩
     simp only[D.cg]
     exact⟨fun e=>⟨hF (by omega) (fun _=> .inr e) (by omega),by omega⟩,fun e=>by rcases (hN e.1).2.1 k10 with h|h;rw[a]at h;cases h;exact h⟩
   ·simp only[afv,afd,agq]at*
    refine⟨_,_,rfl,aaF x.co 0 hx.co (by omega) (by omega) (by omega),?_⟩
    rintro d ⟨q1,_⟩
    refine⟨rfl,Ip _ ?_⟩
    rw[q1,GZ]
    exact⟨fun e=>⟨hF (by omega) (by omega) (fun _=>⟨by omega,e.1⟩),by omega⟩,fun e=>⟨((hN e.1).2.2 k12).2,by have:=((hN e.1).2.2 k12).1;omega⟩⟩
   ·simp only[afv,afd,agq]at*
    have h8:0<=x.set/\x.set<256:=by have:=hx;simp only[Wh.ok]at this;omega
    refine⟨_,_,_,rfl,RL x.set h8.1 h8.2,?_⟩
    rintro _ rfl
    refine⟨rfl,Ip _ ?_⟩
    simp only[D.cg,aeT]
    exact⟨fun e=>⟨hF (by omega) (by omega) (by omega),fun _=>e⟩,fun e=>e.2 k14⟩
   ·simp only[afv,afd,agq]at*
    exact⟨rfl,Ip _ ⟨fun e=>⟨hF (by omega) (by omega) (by omega),by omega⟩,fun _=>rfl⟩⟩
  |cons m rest ih=>
   intro i f1 f2 f3 f4 f5 f6 hd hm
   obtain⟨g1,g2,g3⟩:=aI hd
   have hmem:=aeU g1
   refine Dr ?_
   simp only[rk,Wh.lC,aeW,ae2,bS g1,jV.rq,ml]
   refine⟨fun _=>⟨fun _=>⟨_,_,_,rfl,HQ m.v (hok _ (by simp[Wh.aF];exact .inr (.inr ⟨m,hmem,rfl⟩))),?_⟩,fun h=>by simp[aY g3]at h⟩,fun h=>by simp at h;omega⟩
   rintro _ rfl
   refine⟨fun h=>⟨rfl,no fun e=>?_⟩,fun h=>?_⟩
   ·rw[e.1.2.2.2.2.2.2.1 m hmem]at h;simp at h
   ·rw[bO g3 (by omega)]
    refine ih (i+1) f1 f2 f3 f4 f5 f6 g2 fun y hy=>?_
    rw[bn g1]at hy
    rcases afp.1 hy with hy|hy
    ·exact hm y hy
    ·simp only[afj]at hy;subst hy;simpa using h
 refine Xa ?_
 simp only[rk,Wh.re,Wh.fA,Wh.qu,Wh.rq,Wh.Bs,Wh.wB,Wh.Gx,Wh.kr,Wh.qt,Wh.oN,Wh.yR,Wh.pq,Wh.lC,ml,aeW]
 refine⟨_,_,_,rfl,acD x,?_⟩
 rintro _ rfl
 simp only[Wh.fA,Wh.qu,Wh.rq,Wh.Bs,Wh.wB,Wh.Gx,Wh.kr,Wh.qt,Wh.oN,Wh.yR,Wh.pq,Wh.lC,ml,aeW,agB,agq,afF,afv,afd,aeT,aeS,afu,afO,Int.natCast_inj]
 have hk:0<=x.k:=by have:=hx;simp only[Wh.ok]at this;omega
 refine⟨fun h=>⟨rfl,no fun e=>by have:=e.1.1;omega⟩,fun g0=>⟨fun h=>⟨rfl,no fun e=>by have:=e.1.1;omega⟩,fun g1=>?_⟩⟩
 refine⟨fun h=>⟨rfl,no fun e=>h (by rw[e.1.2.1])⟩,fun e1=>⟨fun h=>⟨rfl,no fun e=>h (by rw[e.1.2.1])⟩,fun e2=>⟨fun h=>⟨rfl,no fun e=>h (by rw[e.1.2.1])⟩,fun e3=>⟨fun h=>⟨rfl,no fun e=>h (by rw[e.1.2.1])⟩,fun e4=>⟨fun h=>⟨rfl,no fun e=>h (by rw[e.1.2.1])⟩,fun e5=>
  ⟨fun h=>⟨rfl,no fun e=>h (by rw[e.1.2.1])⟩,fun e6=>⟨fun h=>⟨rfl,no fun e=>h (by rw[e.1.2.1])⟩,fun e7=>⟨fun h=>⟨rfl,no fun e=>h (by rw[e.1.2.1])⟩,fun e8=>⟨fun h=>⟨rfl,no fun e=>h (by rw[e.1.2.1])⟩,fun e9=>⟨fun h=>⟨rfl,no fun e=>h (by rw[e.1.2.1])⟩,fun e10=>?_⟩⟩⟩⟩⟩⟩⟩⟩⟩⟩
 have hbare:(x.bare.v.yG=true->x.v.yG=true)->x.bare=x:=fun h=>Wh.RR e7 h e8 e1 e2 e3 e4 e5 e6 e9 e10
 refine⟨_,_,_,rfl,MZ x.bare.v,?_⟩
 rintro _ rfl
 simp only[D.cg]
 have tail:x.bare=x->(x.k≠14->0<=x.h/\x.h<w.ma.length)->∃ts rs Q',HG jG.cK eN=some (ts,rs)/\iq pg eN ts [x.v.az] rs Q'/\∀d,Q' d->
  (D.bool d=false->jG.bu=some 3/\∃d,T.dm (BV.bool false,Wm W) (qj (sP W x.az) (Wm W) d)/\D.bool d=x.Dg w.ma.length)/\
  (D.bool d=true->∃ts rs Q',HG jG.cK yd=some (ts,rs)/\iq pg yd ts [.r (x.vs.map aJ.az)] rs Q'/\∀d,Q' d->
    (¬(d.ae 1).int=0->jG.bu=some 3/\∃d,T.dm (BV.bool false,Wm W) (qj (sP W x.az) (Wm W) d)/\D.bool d=x.Dg w.ma.length)/\
    ((d.ae 1).int=0->((x.ns.length:Int)>64->jG.bu=some 3/\∃d,T.dm (BV.bool false,Wm W) (qj (sP W x.az) (Wm W) d)/\D.bool d=x.Dg w.ma.length)/\
      (¬(x.ns.length:Int)>64->aC pg jG.f jG.rs (.bu 3 (qj (sP W x.az) (Wm W)) (fun d=>D.bool d=x.Dg w.ma.length)) (oq W x.az 0)))):=by
  intro f2 f3
  refine⟨_,_,_,rfl,HQ x.v (hok _ (by simp[Wh.aF])),?_⟩
  rintro _ rfl
  simp only[D.cg]
  refine⟨fun h=>⟨rfl,no fun e=>by rw[e.1.2.2.2.1]at h;cases h⟩,fun f4=>⟨_,_,_,rfl,aeO x.vs (fun v hv=>hok v (by simp[Wh.aF,hv])) (by omega),?_⟩⟩
  rintro _ rfl
  have hof:D.int (D.ae (if x.vs.all aJ.fG then (if (aJ.aa x.vs).fG then (.r [(aJ.aa x.vs).az,.z 0]:D)else .r [.r [.z 0,.z 0,.s [],.r [],.z 0],.z 4])else .r [.r [.z 0,.z 0,.s [],.r [],.z 0],.z 2]) 1)=0↔(aJ.aa x.vs).fG=true:=by
   by_cases c1:x.vs.all aJ.fG=true
   ·rw[aeZ c1]
    by_cases c2:(aJ.aa x.vs).fG=true
    ·simp[c2,D.ae,D.at]
    ·simp[c2,D.ae,D.at]
   ·rw[aeX c1]
    have:¬(aJ.aa x.vs).fG=true:=fun h=>c1 (by simpa using aJ.NW h)
    simp[this,D.ae,D.at]
  rw[hof]
  refine⟨fun h=>⟨rfl,no fun e=>h e.1.2.2.2.2.1⟩,fun f5=>⟨fun h=>⟨rfl,no fun e=>by have:=e.1.2.2.2.2.2.1;omega⟩,fun f6=>?_⟩⟩
  have:=loop x.ns 0 ⟨by omega,by omega⟩ f2 f3 f4 f5 (by omega) rfl (by simp)
  simpa using this
 refine⟨fun hb=>⟨_,_,_,rfl,MZ x.v,?_⟩,fun hb=>?_⟩
 ·rintro _ rfl
  simp only[D.cg]
  refine⟨fun h=>⟨rfl,no fun e=>by rw[e.1.2.1]at hb;rw[hb]at h;cases h⟩,fun h2=>?_⟩
  have f2:=hbare fun _=>h2
  refine⟨fun hk14=>⟨_,_,rfl,Vi hW x.h,?_⟩,fun hk14=>tail f2 fun h=>absurd hk14 h⟩
  intro d hd
  rw[hd]
  simp only[aeT,aeS]
  exact⟨fun h=>⟨rfl,no fun e=>h (e.1.2.2.1 hk14)⟩,fun h=>tail f2 fun _=>h⟩
 ·have f2:=hbare fun h=>by rw[hb]at h;cases h
  refine⟨fun hk14=>⟨_,_,rfl,Vi hW x.h,?_⟩,fun hk14=>tail f2 fun h=>absurd hk14 h⟩
  intro d hd
  rw[hd]
  simp only[aeT,aeS]
  exact⟨fun h=>⟨rfl,no fun e=>h (e.1.2.2.1 hk14)⟩,fun h=>tail f2 fun _=>h⟩
end
end
section
open Classical in
noncomputable def Wh.BC (x:Wh)(n:Int):Bool:=decide (x.F n)
def Wh.Fh {x:Wh}{n:Int}:x.BC n=true↔x.F n:=by simp[Wh.BC]
def Wh.F.num {x:Wh}{n:Int}(h:x.F n):0<=x.n/\x.n<=9007199254740992:=by
 by_cases c:x.k=3\/x.k=8\/x.k=9
 ·have:=h.2.2.2.2.2.2.2.1 c;omega
 ·have e:x.bare.n=0:=by simp[Wh.bare,c]
  rw[h.2.1]at e;omega
def aJ.YN {v:aJ}(h:v.fG=true)(hk:v.k=0):v.yG=true:=by
 have h3:=((aJ.im v).1 h).2.2
 rw[v.pS,aeV]at h3
 have:=h3.2
 simp only[aJ.field,hk,afq]at this
 simp only[aJ.yG,hk]
 simpa using this
def aam (x:Wh)(n:Int)(hx:x.ok)(hs:x.sz<2^30):iq pg iH [aO,ah] [x.az,.z n] [aj] (·= .b (x.BC n)):=by
 have hls:=x.JA
 have hs2:=hs
 simp only[Wh.sz]at hs2
 have hok:=hx.aF
 have no:¬x.F n->D.b false=D.b (x.BC n):=fun h=>by rw[<-Wh.Fh]at h;simpa using h
 have hxv:x.v.ok:=hok _ (by simp[Wh.aF])
 have hk0:0<=x.k/\x.k<256:=by have:=hx;simp only[Wh.ok]at this;omega
 have tail:∀(yv:aJ) (yn yo yl:Int) (yf:Bool) (ys yb yh:Int) (b0 b13 b14:Bool),yv.ok->(1<=x.k/\x.k<=16)->(x.k≠14->0<=x.h/\x.h<n)->
  ((x.k=2\/x.k=4->(aJ.aa x.vs).fG=true)/\(x.k=8->0<=x.lo/\x.lo<=x.n)/\(x.k=10->x.GC=true\/x.v.k=0)/\(x.k=12->x.ns.length<=64/\(∀m∈x.ns,m.v.fG=true)/\St.cS x.co<=512/\St.kO x.co=true))->
  (yh=x.bare.h/\yv=x.bare.v/\yn=x.bare.n/\yo=x.bare.of/\yl=x.bare.lo/\yf=x.bare.GC/\ys=x.bare.set/\yb=x.bare.jj/\(b0=true↔(x.k=2\/x.k=4))/\(b13=true↔x.k=12)/\(b14=true↔x.k=12))->
  aC pg iH [aj] (.kE (·= .b (x.BC n))) (bw x.az (.z n) b0 yv.k yv.n yv.s (yv.l.map aJ.az) yv.r yn yo yl yf ys yb yh b13 b14):=by
  rintro yv yn yo yl yf ys yb yh b0 b13 b14 hyv f1 f3 ⟨K2,K8,K10,K12⟩ ⟨rfl,rfl,rfl,rfl,rfl,rfl,rfl,rfl,B0,B13,B14⟩
  refine KB ?_
  simp only[rk,Wh.qu,Wh.rq,Wh.Bs,Wh.wB,Wh.Gx,Wh.kr,Wh.qt,Wh.oN,Wh.yR,Wh.pq,Wh.lC,ml,aeW,<-aJ.ay,aeT,aeS,afv,afd,agq]
  refine⟨fun h=>no fun e=>by have:=e.num;omega,fun n0=>⟨fun h=>no fun e=>by have:=e.num;omega,fun n1=>⟨_,_,_,rfl,JW x.v hxv,?_⟩⟩⟩
  rintro _ rfl
  simp only[D.cg,afu,afO]
  refine⟨fun h=>no fun e=>(by rw[e.2.2.2.1]at h;cases h),fun f4=>⟨fun eh=>⟨_,_,_,rfl,aah x.v x.bare.v hxv hyv,?_⟩,fun h=>no fun e=>h (by rw[e.2.1])⟩⟩
  rintro _ rfl
  simp only[D.cg]
  refine⟨fun h=>?_,fun h=>no fun e=>by rw[e.2.1,(aJ.J1 _ _).2 rfl]at h;cases h⟩
  have ev:=(aJ.J1 _ _).1 h
  refine⟨fun en=>⟨fun elo=>⟨fun eof=>⟨fun eby=>⟨fun eset=>⟨fun efull=>?_,fun h=>no fun e=>h (by rw[e.2.1])⟩,fun h=>no fun e=>h (by rw[e.2.1])⟩,fun h=>no fun e=>h (by rw[e.2.1])⟩,fun h=>no fun e=>h (by rw[e.2.1])⟩,fun h=>no fun e=>h (by rw[e.2.1])⟩,fun h=>no fun e=>h (by rw[e.2.1])⟩
  have bE:∀b:Bool,(b=true↔(b0=true\/x.vs.length=0)/\(b13=true\/x.ns.length=0)/\(b14=true\/x.co.length=0))->D.b b=D.b (x.BC n):=fun b hb=>by
   congr 1
   rw[afo,hb,Wh.Fh]
   constructor
   ·rintro⟨c0,c13,c14⟩
    rw[B0]at c0;rw[B13]at c13;rw[B14]at c14
    have evs:x.vs.length=x.bare.vs.length:=by
     by_cases c:x.k=2\/x.k=4
     ·simp[Wh.bare,c]
     ·rcases c0 with c0|c0
      ·exact absurd c0 c
      ·simp[Wh.bare,c,c0]
    have ens:x.ns.length=x.bare.ns.length:=by
     by_cases c:x.k=12
     ·simp[Wh.bare,c]
     ·rcases c13 with c0|c0
      ·exact absurd c0 c
      ·simp[Wh.bare,c,c0]
    have eco:x.co.length=x.bare.co.length:=by
     by_cases c:x.k=12
     ·simp[Wh.bare,c]
     ·rcases c14 with c0|c0
      ·exact absurd c0 c
      ·simp[Wh.bare,c,c0]
    have hb2:x.bare=x:=Wh.RR eh (by rw[<-ev];exact id) evs en elo eof eby eset efull eco ens
    have hl8:x.k≠8->x.lo=0:=fun h=>by rw[<-hb2];simp[Wh.bare,h]
    refine⟨f1,hb2,f3,f4,?_,?_,?_,fun h=>⟨by omega,by omega,?_⟩,fun h=>?_,fun h=>(K12 h).2.2⟩
    ·by_cases c:x.k=2\/x.k=4
     ·exact K2 c
     ·have:x.vs=[]:=by rw[<-hb2];simp[Wh.bare,c]
      rw[this];decide
    ·by_cases c:x.k=12
     ·exact(K12 c).1
     ·have:x.ns=[]:=by rw[<-hb2];simp[Wh.bare,c]
      rw[this];simp
    ·by_cases c:x.k=12
     ·exact(K12 c).2.1
     ·have:x.ns=[]:=by rw[<-hb2];simp[Wh.bare,c]
      rw[this];simp
    ·by_cases c:x.k=8
     ·exact K8 c
     ·have:=hl8 c;omega
    ·rcases K10 h with h|h
     ·exact .inl h
     ·exact .inr (aJ.YN f4 h)
   ·intro e
    rw[B0,B13,B14]
    refine⟨?_,?_,?_⟩
    ·by_cases c:x.k=2\/x.k=4
     ·exact .inl c
     ·right;rw[<-e.2.1];simp[Wh.bare,c]
    ·by_cases c:x.k=12
     ·exact .inl c
     ·right;rw[<-e.2.1];simp[Wh.bare,c]
    ·by_cases c:x.k=12
     ·exact .inl c
     ·right;rw[<-e.2.1];simp[Wh.bare,c]
  simp only[Int.natCast_eq_zero]
  repeat' (first|refine And.intro (fun h=>?_) (fun h=>?_))
  all_goals exact bE _ (by simp_all)
 have loop:∀(rest:List jV) (i:Nat) (yh:Int),x.k=12->yh=x.bare.h->(0<=x.h/\x.h<n)->x.ns.length<=64->St.cS x.co<=512->St.kO x.co=true->x.ns.drop i=rest->(∀m∈x.ns.take i,m.v.fG=true)->
  aC pg iH [aj] (.kE (·= .b (x.BC n))) (fP x.az (.z n) yh i):=by
  intro rest
  induction rest with
  |nil=>
   intro i yh k12 eh f3 f6 f7 f8 hd hm
   have hi:=drop_nil hd
   rw[ae7 hi]at hm
   refine tJ ?_
   simp only[rk,Wh.lC,aeW]
   refine⟨fun h=>by simp at h;omega,fun _=>?_⟩
   exact tail .zero _ _ _ _ _ _ _ _ _ _ aJ.sN (by omega) (fun _=>f3) ⟨by omega,by omega,by omega,fun _=>⟨f6,hm,f7,f8⟩⟩ (by simp[Wh.bare,k12,eh])
  |cons m rest ih=>
   intro i yh k12 eh f3 f6 f7 f8 hd hm
   obtain⟨g1,g2,g3⟩:=aI hd
   have hmem:=aeU g1
   refine tJ ?_
   simp only[rk,Wh.lC,aeW,ae2,bS g1,jV.rq,ml]
   refine⟨fun _=>⟨fun _=>⟨_,_,_,rfl,JW m.v (hok _ (by simp[Wh.aF];exact .inr (.inr ⟨m,hmem,rfl⟩))),?_⟩,fun h=>by simp[aY g3]at h⟩,fun h=>by simp at h;omega⟩
   rintro _ rfl
   refine⟨fun h=>no fun e=>?_,fun h=>?_⟩
   ·rw[e.2.2.2.2.2.2.1 m hmem]at h;simp at h
   ·rw[bO g3 (by omega)]
    refine ih (i+1) yh k12 eh f3 f6 f7 f8 g2 fun y hy=>?_
    rw[bn g1]at hy
    rcases afp.1 hy with hy|hy
    ·exact hm y hy
    ·simp only[afj]at hy;subst hy;simpa using h
 refine T7 ?_
 have hw:IntKind.i64.wrap x.k=x.k:=abb hk0.1 hk0.2
 have lok:(aJ.aa x.vs).ok:=by rw[aJ.lH];exact⟨by simp[aJ.aa,aJ.k],by simp[aJ.aa,aJ.k],by simp[aJ.aa,aJ.n],by simp[aJ.aa,aJ.n],by simp[aJ.aa,aJ.s],by simp only[aJ.aa,aJ.l];omega,by simp[aJ.aa,aJ.r],by simp[aJ.aa,aJ.r],fun v hv=>hok v (by simp[Wh.aF];exact .inr (.inl hv))⟩
 have lsz:(aJ.aa x.vs).fG=true->x.vs.length<=512:=fun h=>by
  have h1:=((aJ.im _).1 h).1
  have h2:=aJ.dx x.vs
  have e1:(aJ.aa x.vs).size=1+aJ.bI x.vs:=rfl
  omega
 simp only[rk,Wh.fA,hw,Wh.qu,Wh.rq,Wh.Bs,Wh.wB,Wh.Gx,Wh.kr,Wh.qt,Wh.oN,Wh.yR,Wh.pq,Wh.lC,<-aJ.NX,aJ.fA,aJ.wB,aJ.Hk,aJ.Bq,aJ.Dd,D.df,aeW,aeT,aeS,afv,afd,agB,afF,agq,afu,afO]
 have may2:∀(M:Prop),(x.k=2\/x.k=4)->((aJ.aa x.vs).fG=true->M)->∀d,d=D.b (aJ.aa x.vs).fG->(D.bool d=false->D.b false=D.b (x.BC n))/\(D.bool d=true->M):=by
  rintro M hk h _ rfl
  exact⟨fun h2=>no fun e=>by rw[e.2.2.2.2.1]at h2;simp at h2,fun h2=>h (by simpa using h2)⟩
 have code2:∀(M:Prop),x.k=12->(St.cS x.co<=512->St.kO x.co=true->M)->∀d,(d=D.z (D.int d)/\C9 0 (St.cS x.co) (D.int d))->((D.int d>512->D.b false=D.b (x.BC n))/\(¬D.int d>512->∃ts rs Q',HG nr.cK cm=some (ts,rs)/\iq pg cm ts [.r (x.co.map St.az)] rs Q'/\∀d,Q' d->(D.bool d=false->D.b false=D.b (x.BC n))/\(D.bool d=true->M))):=by
  rintro M hk h d ⟨_,hq⟩
  simp only[C9]at hq
  refine⟨fun h1=>no fun e=>by have:=(e.2.2.2.2.2.2.2.2.2 hk).1;omega,fun h1=>⟨_,_,_,rfl,HD x.co hx.co (by omega),?_⟩⟩
  rintro _ rfl
  simp only[D.cg]
  exact⟨fun h2=>no fun e=>(by rw[(e.2.2.2.2.2.2.2.2.2 hk).2]at h2;cases h2),fun h2=>h (by omega) h2⟩
 refine⟨fun h=>no fun e=>by have:=e.1;omega,fun a0=>⟨fun h=>no fun e=>by have:=e.1;omega,fun a1=>⟨fun k14=>⟨fun h=>no fun e=>by have:=e.2.2.1 k14;omega,fun h0=>⟨fun h=>no fun e=>by have:=e.2.2.1 k14;omega,fun h1=>?_⟩⟩,fun k14=>?_⟩⟩⟩
 ·have f1:1<=x.k/\x.k<=16:=by omega
  have f3:x.k≠14->0<=x.h/\x.h<n:=fun _=>by omega
  refine⟨fun hk=>tail x.v _ _ _ _ _ _ _ _ _ _ hxv f1 f3 ⟨by omega,by omega,by omega,by omega⟩ (by simp[Wh.bare,hk]),fun _=>⟨fun hk=>⟨fun h=>no fun e=>by have:=lsz e.2.2.2.2.1;omega,fun _=>⟨_,_,_,rfl,JW _ lok,may2 _ (by omega) fun hm=>tail .zero _ _ _ _ _ _ _ _ _ _ aJ.sN f1 f3 ⟨fun _=>hm,by omega,by omega,by omega⟩ (by simp[Wh.bare,hk])⟩⟩,fun _=>⟨fun hk=>⟨fun h=>no fun e=>by have:=lsz e.2.2.2.2.1;omega,fun _=>⟨_,_,_,rfl,JW _ lok,may2 _ (by omega) fun hm=>tail .zero _ _ _ _ _ _ _ _ _ _ aJ.sN f1 f3 ⟨fun _=>hm,by omega,by omega,by omega⟩ (by simp[Wh.bare,hk])⟩⟩,fun _=>?_⟩⟩⟩
  have Z:∀{yn yo yl yf ys yb yh b0 b13 b14},(x.k≠2/\x.k≠4/\x.k≠8/\x.k≠10/\x.k≠12)->_->_:=fun {yn yo yl yf ys yb yh b0 b13 b14} (hk:x.k≠2/\x.k≠4/\x.k≠8/\x.k≠10/\x.k≠12) H=>tail .zero yn yo yl yf ys yb yh b0 b13 b14 aJ.sN f1 f3 ⟨by omega,by omega,by omega,by omega⟩ H
  refine⟨fun hk=>Z (by omega) (by simp[Wh.bare,hk]),fun _=>⟨fun hk=>Z (by omega) (by simp[Wh.bare,hk]),fun _=>⟨fun hk=>Z (by omega) (by simp[Wh.bare,hk]),fun _=>⟨fun hk=>tail x.v _ _ _ _ _ _ _ _ _ _ hxv f1 f3 ⟨by omega,by omega,by omega,by omega⟩ (by simp[Wh.bare,hk]),fun _=>?_⟩⟩⟩⟩
  refine⟨fun hk=>⟨fun h=>no fun e=>by have:=e.2.2.2.2.2.2.2.1 (by omega);omega,fun l0=>⟨fun h=>no fun e=>by have:=e.2.2.2.2.2.2.2.1 (by omega);omega,fun l1=>tail .zero _ _ _ _ _ _ _ _ _ _ aJ.sN f1 f3 ⟨by omega,fun _=>by omega,by omega,by omega⟩ (by simp[Wh.bare,hk])⟩⟩,fun _=>⟨fun hk=>Z (by omega) (by simp[Wh.bare,hk]),fun _=>?_⟩⟩
  refine⟨fun hk=>⟨fun hf=>⟨fun h=>no fun e=>?_,fun h=>tail x.v _ _ _ _ _ _ _ _ _ _ hxv f1 f3 ⟨by omega,by omega,fun _=> .inr h,by omega⟩ (by simp[Wh.bare,hk])⟩,fun hf=>tail x.v _ _ _ _ _ _ _ _ _ _ hxv f1 f3 ⟨by omega,by omega,fun _=> .inl hf,by omega⟩ (by simp[Wh.bare,hk])⟩,fun _=>?_⟩
  ·rcases e.2.2.2.2.2.2.2.2.1 hk with h2|h2
   ·rw[hf]at h2;cases h2
   ·rw[(aJ.KV _).1 h2]at h;exact h rfl
  ·refine⟨fun hk=>⟨fun h=>no fun e=>by have:=e.2.2.2.2.2.1;omega,fun h=>⟨_,_,_,rfl,Sv x.co hx.co (by omega),code2 _ hk fun c1 c2=>?_⟩⟩,fun _=>⟨fun hk=>Z (by omega) (by simp[Wh.bare,hk]),fun _=>⟨fun hk=>absurd hk k14,fun _=>⟨fun hk=>Z (by omega) (by simp[Wh.bare,hk]),fun _=>⟨fun hk=>Z (by omega) (by simp[Wh.bare,hk]),fun _=>Z (by omega) ?_⟩⟩⟩⟩⟩
   ·have e:=loop x.ns 0 x.h hk (by simp[Wh.bare,hk]) (by omega) (by omega) c1 c2 rfl (by simp)
    simpa using e
   ·have:x.k=5:=by omega
    simp[Wh.bare,this]
 ·have k14:x.k=14:=by omega
  refine⟨fun hk=>by omega,fun _=>⟨fun hk=>by omega,fun _=>⟨fun hk=>by omega,fun _=>⟨fun hk=>by omega,fun _=>⟨fun hk=>by omega,fun _=>⟨fun hk=>by omega,fun _=>⟨fun hk=>by omega,fun _=>⟨fun hk=>by omega,fun _=>⟨fun hk=>by omega,fun _=>⟨fun hk=>by omega,fun _=>⟨fun hk=>by omega,fun _=>⟨fun hk=>by omega,fun _=>⟨fun hk=>?_,fun hk=>absurd k14 hk⟩⟩⟩⟩⟩⟩⟩⟩⟩⟩⟩⟩⟩
  exact tail .zero _ _ _ _ _ _ _ _ _ _ aJ.sN (by omega) (by omega) ⟨by omega,by omega,by omega,by omega⟩ (by simp[Wh.bare,hk])
end
section
def Wh.zero:Wh:=⟨0,0,.zero,[],0,0,0,0,0,false,[],[]⟩
def aQ.at (t:aQ)(r:Int):Wh:=(t.get r).getD Wh.zero
def aQ.an (t:aQ):List D:=t.map fun p=>D.r [.z p.1,p.2.az]
@[simp] def aQ.tQ (t:aQ):t.an.length=t.length:=by simp[aQ.an]
def aQ.Mc (t:aQ)(r:Int):t.kind r=(t.at r).k:=by
 unfold aQ.kind aQ.at;cases t.get r<;>rfl
def aQ.ok (t:aQ):Prop:=∀p∈t,p.2.ok
def aQ.qG {t:aQ}{r:Int}{x:Wh}(h:t.get r=some x):(r,x)∈t:=by
 induction t with
 |nil=>cases h
 |cons p q ih=>
  simp only[aQ.get]at h
  split at h
  ·rename_i e;cases h;subst e;exact afJ
  ·exact afn _ (ih h)
def Wh.sN:Wh.zero.ok:=by
 have:=aJ.sN
 simp[Wh.ok,Wh.zero,this]
def aQ.ok.at {t:aQ}(h:t.ok)(r:Int):(t.at r).ok:=by
 unfold aQ.at
 cases e:t.get r with
 |none=>exact Wh.sN
 |some x=>exact h _ (aQ.qG e)
def Wh.ok.wk {x:Wh}(h:x.ok):IntKind.i64.wrap x.k=x.k:=by simp only[Wh.ok]at h;exact abb h.1 h.2.1
structure YB (R:RS)(w:Wo):Prop where
 pa:R.pa=ba w.pa
 cu:R.cu=w.cu.map D.b
 th:R.th=w.th.an
 la:R.la=w.la
 ma:R.ma=ba w.ma
def CL {t:aQ}{i:Nat}{p:Int×Wh}(h:t[i]?=some p):D.at t.an i= .r [.z p.1,p.2.az]:=bS h
section
variable {R:RS} {w:Wo} (hR:YB R w) (hn:w.th.length<2^62)
include hR hn
theorem Nh (r:Int):PH ky (Iq R r) (Rm R) 1 wZ (fun d=>D.ae d 0=(w.th.at r).az/\(d.ae 1).bool=(w.th.get r).isSome):=by
 have loop:∀(rest:aQ) (i:Nat),w.th.drop i=rest->aC pg ky [aO,aj] (.bu 1 (wZ (Iq R r) (Rm R)) (fun d=>D.ae d 0=(rest.at r).az/\(d.ae 1).bool=(rest.get r).isSome)) (z7 R r i):=by
  intro rest
  induction rest with
  |nil=>
   intro i hd
   have:=drop_nil hd
   refine JS ?_
   simp only[rk,hR.th,aQ.tQ]
   refine⟨fun h=>by simp at h;omega,fun _=>⟨rfl,.r [Wh.zero.az,.b false],?_,rfl,rfl⟩⟩
   refine aS.2 ?_
   kernel_rfl
  |cons p rest ih=>
   intro i hd
   obtain⟨g1,g2,g3⟩:=aI hd
   refine JS ?_
   simp only[rk,hR.th,aQ.tQ,ae2,CL g1,aY g3,bO g3 (n:=w.th.length) (by omega)]
   refine⟨fun _=>⟨fun _=>⟨fun _=>⟨fun h=>⟨rfl,.r [p.2.az,.b true],.ret,?_⟩,fun h=>?_⟩,fun h=>by simp at h;omega⟩,fun h=>by simp at h⟩,fun h=>by simp at h;omega⟩
   ·have h:p.1=r:=by simpa [D.ae,D.at]using h
    have e:aQ.get (p::rest) r=some p.2:=by simp[aQ.get,h]
    exact⟨by rw[aQ.at,e];rfl,by rw[e];rfl⟩
   ·have h:¬p.1=r:=by simpa [D.ae,D.at]using h
    have e:aQ.get (p::rest) r=aQ.get rest r:=by simp[aQ.get,h]
    have:=ih (i+1) g2
    rw[aQ.at,e];exact this
 exact ZY (loop w.th 0 rfl)
theorem RG (ht:w.th.ok)(r:Int):PH rX (KN R r) (Rm R) 1 Cd (fun d=>D.int d=w.th.kind r):=by
 refine TK ?_
 simp only[rk]
 refine⟨_,_,rfl,Nh hR hn r,?_⟩
 rintro d ⟨h1,h2⟩
 rw[h1]
 simp only[Wh.fA,(ht.at r).wk]
 exact⟨rfl,CY (aQ.Mc _ _).symm⟩
def aQ.nM (t:aQ):Nat->Int->Option Int
 |0,_=>none
 |n+1,r=>match t.get r with|none=>some 0|some x=>if x.k=14 then some x.set else if x.k=15\/x.k=16 then aQ.nM t n x.of else some (CV x.k)
theorem RF (ht:w.th.ok):∀(n:Nat) (r a:Int),w.th.nM n r=some a->PH kX (Gd R r) (Rm R) 1 vI (fun d=>D.int d=a):=by
 intro n
 induction n with
 |zero=>intro r a h;simp[aQ.nM]at h
 |succ n ih=>
  intro r a h
  refine TJ ?_
  simp only[rk]
  refine⟨_,_,rfl,Nh hR hn r,?_⟩
  rintro d ⟨h1,h2⟩
  rw[h1,h2]
  simp only[aQ.nM]at h
  cases hg:w.th.get r with
  |none=>
   simp only[hg]at h
   exact⟨fun _=>⟨rfl,CY (by simpa using h)⟩,fun hx=>by simp at hx⟩
  |some x=>
   have hat:w.th.at r=x:=by simp[aQ.at,hg]
   simp only[hg]at h
   rw[hat]
   have hx:x.ok:=by have:=ht.at r;rwa [hat]at this
   simp only[Wh.fA,hx.wk,Wh.oN,Wh.kr,afY,agI,ae0,afc,afe,afL,afv,afd,agq]
   have lf:∀v:Int,(x.k≠14->x.k≠15->x.k≠16->CV x.k=v)->x.k≠14->x.k≠15->x.k≠16->yH.bu=some 1/\∃d,T.dm (BV.int .u8 v,Rm R) (vI (Gd R r) (Rm R) d)/\D.int d=a:=fun v hv n14 n15 n16=>by
    rw[aeX n14,aeX (by omega)]at h
    exact⟨rfl,CY (by rw[<-hv n14 n15 n16];simpa using h)⟩
   refine⟨fun k=>lf _ (by intros;simp[CV,k]) (by omega) (by omega) (by omega),fun k1=>⟨fun k=>lf _ (by intros;simp[CV,k]) (by omega) (by omega) (by omega),fun k2=>⟨fun k=>lf _ (by intros;simp[CV,k]) (by omega) (by omega) (by omega),fun k3=>⟨fun k=>lf _ (by intros;simp[CV,k]) (by omega) (by omega) (by omega),fun k4=>⟨fun k=>lf _ (by intros;simp[CV,k]) (by omega) (by omega) (by omega),fun k5=>⟨fun k=>lf _ (by intros;simp[CV,k]) (by omega) (by omega) (by omega),fun k6=>⟨fun k=>lf _ (by intros;simp[CV,k]) (by omega) (by omega) (by omega),fun k7=>⟨fun k=>lf _ (by intros;simp[CV,k]) (by omega) (by omega) (by omega),fun k8=>?_⟩⟩⟩⟩⟩⟩⟩⟩
   refine⟨fun k=>lf _ (by intros;simp[CV,k]) (by omega) (by omega) (by omega),fun k9=>⟨fun k=>lf _ (by intros;simp[CV,k]) (by omega) (by omega) (by omega),fun k10=>⟨fun k=>lf _ (by intros;simp[CV,k]) (by omega) (by omega) (by omega),fun k11=>⟨fun k=>lf _ (by intros;simp[CV,k]) (by omega) (by omega) (by omega),fun k12=>⟨fun k=>?_,fun k13=>⟨fun k=>?_,fun k14=>⟨fun k=>?_,fun k15=>lf _ (by intros;simp[CV, *]) k13 k14 k15⟩⟩⟩⟩⟩⟩⟩
   ·rw[aeZ k]at h;exact⟨rfl,CY (by simpa using h)⟩
   ·rw[aeX (by omega),aeZ (by omega)]at h
    refine⟨_,_,rfl,ih x.of a h,?_⟩
    intro d2 hd2
    exact⟨rfl,CY hd2⟩
   ·rw[aeX (by omega),aeZ (by omega)]at h
    refine⟨_,_,rfl,ih x.of a h,?_⟩
    intro d2 hd2
    exact⟨rfl,CY hd2⟩
def aQ.pw (t:aQ)(r k o:Int)(b:Bool):Bool:=t.any fun p=>decide (p.1≠r/\p.2.k=k/\(if b then p.2.jj=o else p.2.of=o))
theorem IS (ht:w.th.ok)(r k o:Int)(b:Bool):PH hT (wj R r k o b) (Rm R) 1 rK (fun d=>D.bool d=w.th.pw r k o b):=by
 have loop:∀(rest:aQ) (i:Nat),w.th.drop i=rest->aC pg hT [aj] (.bu 1 (rK (wj R r k o b) (Rm R)) (fun d=>D.bool d=rest.pw r k o b)) (om R r k o b i):=by
  intro rest
  induction rest with
  |nil=>
   intro i hd
   have:=drop_nil hd
   refine Dp ?_
   simp only[rk,hR.th,aQ.tQ]
   exact⟨fun h=>by simp at h;omega,fun _=>⟨rfl,BF rfl⟩⟩
  |cons p rest ih=>
   intro i hd
   obtain⟨g1,g2,g3⟩:=aI hd
   have hp:=ht p (aeU g1)
   refine Dp ?_
   have e1:D.ae (.r [.z p.1,p.2.az]) 0= .z p.1:=rfl
   have e2:D.ae (.r [.z p.1,p.2.az]) 1=p.2.az:=rfl
   simp only[rk,hR.th,aQ.tQ,ae2,CL g1,aY g3,bO g3 (n:=w.th.length) (by omega),e1,e2,D.df,Wh.fA,Wh.kr,Wh.qt,hp.wk,agB,afF,afv,afd,agq]
   have nx:¬(p.1≠r/\p.2.k=k/\(if b then p.2.jj=o else p.2.of=o))->aC pg hT [aj] (.bu 1 (rK (wj R r k o b) (Rm R)) (fun d=>D.bool d=aQ.pw (p::rest) r k o b)) (om R r k o b ((i+1:Nat):Int)):=fun h=>by
    have e:aQ.pw (p::rest) r k o b=aQ.pw rest r k o b:=by simp only[aQ.pw,List.any_cons,h,age,agU]
    rw[e];exact ih (i+1) g2
   have Ip:(p.1≠r/\p.2.k=k/\(if b then p.2.jj=o else p.2.of=o))->aQ.pw (p::rest) r k o b=true:=fun h=>by simp only[aQ.pw,List.any_cons,decide_eq_true h,ahZ]
   refine⟨fun _=>⟨fun _=>⟨fun _=>⟨fun a=>⟨fun c=>⟨fun hb=>⟨fun ho=>⟨rfl,BF (Ip ⟨a,c,by rw[aeZ hb];exact ho⟩).symm⟩,fun ho=>nx fun h=>?_⟩,fun hb=>⟨fun ho=>⟨rfl,BF (Ip ⟨a,c,by rw[aeX (by simp[hb])];exact ho⟩).symm⟩,fun ho=>nx fun h=>?_⟩⟩,fun c=>nx fun h=>c h.2.1⟩,fun a=>nx fun h=>h.1 a⟩,fun h=>by simp at h;omega⟩,fun h=>by simp at h⟩,fun h=>by simp at h;omega⟩
   ·rw[aeZ hb]at h;exact ho h.2.2
   ·rw[aeX (by simp[hb])]at h;exact ho h.2.2
 exact QM (loop w.th 0 rfl)
end
def acq (l:List Int)(hl:l.length<2^30):PH tx (A8 (ba l)) [] 0 yB (fun d=>D.bool d=nO l):=by
 have no:¬nO l=true->∃d,T.dm (BV.tuple [.gT,.int .i64 71],([]:List (Nat×ax))) (yB (A8 (ba l)) [] d)/\D.bool d=nO l:=fun h=>⟨.b false,.ff rfl .ret,by simpa using h⟩
 have loop:∀(rest:List Int) (i:Nat),l.length<16->i<=l.length->l.drop i=rest->(∀(j:Nat) (x:Int),j<i->l[j]?=some x->0<=x/\x<=j)->
  aC pg tx [bN,aX] (.bu 0 (yB (A8 (ba l)) []) (fun d=>D.bool d=nO l)) (vn (ba l) i i (ba (l.take i))):=by
  intro rest
  induction rest with
  |nil=>
   intro i h16 hle hd hp
   have hi:=drop_nil hd
   have hok:nO l=true:=(pU l).2 ⟨h16,fun j x hj=>hp j x (by have:=(ae1.1 hj).1;omega) hj⟩
   refine FN ?_
   rw[bL (x:=((ba l).length:Int)+1) (by simp;omega) (by simp;omega)]
   simp only[rk,aeW]
   refine⟨fun h=>by simp at h;omega,fun _=>⟨rfl,.b true,.tt rfl ?_,hok.symm⟩⟩
   have hil:i=l.length:=by omega
   subst hil
   have e1:((l.length:Int)+1).toNat=(ba l).length+1:=by simp
   rw[afW,e1,show l.length=(ba l).length by simp]
   exact .ret
  |cons x rest ih=>
   intro i h16 hle hd hp
   obtain⟨g1,g2,g3⟩:=aI hd
   refine FN ?_
   simp only[rk,aeW,ae2,aY g3,bS (f:=D.z) g1,bO g3 (n:=l.length) (by omega),D.df,aeT,aeS]
   refine⟨fun _=>⟨fun _=>⟨fun h=>⟨rfl,no fun a=>by have:=((pU l).1 a).2 i x g1;omega⟩,fun h=>⟨fun h2=>⟨rfl,no fun a=>by have:=((pU l).1 a).2 i x g1;omega⟩,fun h2=>⟨fun _=>?_,fun hr=>?_⟩⟩⟩,fun h=>by simp at h⟩,fun h=>by omega⟩
   ·rw[sM g1]
    refine ih (i+1) h16 (by omega) g2 fun j y hj hy=>?_
    by_cases e:j=i
    ·subst e;rw[g1]at hy;cases hy;omega
    ·exact hp j y (by omega) hy
   ·simp[bg]at hr;omega
 refine Xh ?_
 simp only[rk,aeW]
 refine⟨fun h=>⟨rfl,no fun a=>by have:=((pU l).1 a).1;simp at h;omega⟩,fun h=>⟨fun _=>⟨fun _=>loop l 0 (by simp at h;omega) (by omega) rfl (by intros;omega),fun h2=>?_⟩,fun h2=>?_⟩⟩
 ·simp[rv]at h2;omega
 ·rw[bL (by omega) (by omega)]at h2;simp[rv]at h2;omega
end
end Go.Proofs
end
