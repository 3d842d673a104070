import Derived.Shelf.SlGeneric
import Derived.Ground.SlgnProg
import Derived.Shelf.SlicesG.CompactI
import Derived.OpenShut
import Derived.Shelf.SortM.Plain
import Derived.Shelf.SortM.SortNone
import Derived.Ground.SlgmProg
import Derived.Test.YtdoajjnobfjkcaaGreatM17
set_option linter.all false
noncomputable section
open Go.IntKind renaming wrap→wp
namespace Go.Proofs
open Go Go.PB
section
def K5 (n:Nat):Nat:=n % 2+n/2 % 2+n/4 % 2+n/8 % 2+n/16 % 2+n/32 % 2
noncomputable def XO:cm:=({f:=gh,rs:=[af],bx:=none,cz:=[],bL:=[],bJ:=[]}:cm)
def aeq (n:Nat)(h:n<64):fk pg gh [Z9] [.z n] [af] (·= .z (K5 n)):=by
 rcases n with _|n
 ·exact fk.nB (C:=XO) KI 600 (.lit (.lit (.lit (.lit (.lit (.lit .all)))))) (t:= .ret (.z (K5 0))) (by kernel_rfl) (by kernel_rfl) (by kernel_rfl) rfl
 iterate 63 (rcases n with _|n;· exact fk.nB (C:=XO) KI 600 (.lit (.lit (.lit (.lit (.lit (.lit .all)))))) (t:= .ret (.z (K5 _))) (by kernel_rfl) (by kernel_rfl) (by kernel_rfl) rfl)
 omega
def aV.pE (t:aV)(ab:Int->Int)(r:Int):Int:=match t.get r with|some x=>if x.k=14 then-1 else 2^K5 (ab r).toNat-1|none=>0
def eT (f:Int->Int)(l:List Int):Int:=l.foldr (fun r a=>f r+a) 0
def M6 {f:Int->Int}{l l':List Int}(h:l.Perm l'):eT f l=eT f l':=by
 unfold eT
 induction h with
 |nil=>rfl
 |cons x _ ih=>simp[ih]
 |swap x y l=>simp;omega
 |trans _ _ ih1 ih2=>rw[ih1,ih2]
def hG:∀{l ks:List Int},l.Nodup->(∀q∈l,q∈ks)->l.length<=ks.length:=by
 intro l
 induction l with
 |nil=>intros;simp
 |cons a r ih=>
  intro ks h1 h2
  have ha:=h2 a (by simp)
  have h3:=ahO.1 h1
  have:=ih (ks:=ks.erase a) h3.2 fun q hq=>(List.mem_erase_of_ne (fun e:q=a=>h3.1 (by rw[<-e];exact hq))).2 (h2 q (by simp[hq]))
  rw[List.length_erase_of_mem ha]at this
  have:=ajB ha
  simp only[ahv];omega
def Tb (n:Nat):K5 n<=6:=by unfold K5;omega
def SE (t:aV)(ab:Int->Int)(r:Int):-1<=t.pE ab r/\t.pE ab r<=63:=by
 unfold aV.pE
 split
 ·split
  ·omega
  ·have:=Tb (ab r).toNat
   generalize K5 (ab r).toNat=p at this
   have:p=0\/p=1\/p=2\/p=3\/p=4\/p=5\/p=6:=by omega
   rcases this with rfl|rfl|rfl|rfl|rfl|rfl|rfl<;>decide
 ·omega
def TG {t:aV}{ab:Int->Int}(l:List Int):-(l.length:Int)<=eT (t.pE ab) l/\eT (t.pE ab) l<=63*l.length:=by
 induction l with
 |nil=>simp[eT]
 |cons a r ih=>
  have:=SE t ab a
  simp only[eT,aiC,ahv]at ih ⊢
  omega
section
variable {W:WS} {w:Wo} (hW:zC W w)
include hW
def aaz (h1:w.th.one)(hn:w.th.length<2^40)(ab:Int->Int)(hab:∀r∈w.th.map (·.1),(∃n,w.th.xd n r 63=some (ab r))/\0<=ab r/\ab r<64):
 PH mn (wv W) (Wm W) 3 sy (fun d=>D.int d=eT (w.th.pE ab) (w.th.map (·.1))):=by
 have loop:ay pg mn [af] (.bx 3 (sy (wv W) (Wm W)) (fun d=>D.int d=eT (w.th.pE ab) (w.th.map (·.1)))) (nZ W (eT (w.th.pE ab) []) (aw [])):=by
  refine mB (M:=fun l=>ay pg mn [af] (.bx 3 (sy (wv W) (Wm W)) (fun d=>D.int d=eT (w.th.pE ab) (w.th.map (·.1)))) (nZ W (eT (w.th.pE ab) l) (aw l))) (w.th.map (·.1)) fun l hl hnd ih=>?_
  have hlen:l.length<=w.th.length:=by
   have:=hG hnd hl
   simpa using this
  have hb:=TG (t:=w.th) (ab:=ab) l
  refine OA (yL hW (fun hall=>?_) fun n hn1 hn2=>?_)
  ·refine⟨rfl,B3 (M6 ?_)⟩
   exact(aiQ hnd h1).2 fun a=>⟨hl a,fun ha=>by obtain⟨p,hp,rfl⟩:=ahp.1 ha;exact hall p hp⟩
  ·obtain⟨x,hx⟩:=ahw.1 (aV.ri.2 hn1)
   have hm:eT (w.th.pE ab) (n::l)=w.th.pE ab n+eT (w.th.pE ab) l:=rfl
   have hv:w.th.pE ab n=if x.k=14 then-1 else 2^K5 (ab n).toNat-1:=by simp only[aV.pE,hx]
   have hmb:=SE w.th ab n
   have e:=ih n hn1 hn2
   rw[hm,hv]at e
   rw[hv]at hmb
   simp only[rk,hW.th,aV.cS,hx,ahU,aV.val hx,Wh.cU,D.bV,aht,ahe,aic,ag0,ag1,ag3,ahf]
   refine⟨fun hk=>?_,fun hk=>?_⟩
   ·rw[ag8 hk]at e
    rw[bO (by omega) (by omega),show eT (w.th.pE ab) l-1=-1+eT (w.th.pE ab) l by omega]
    simpa using e
   ·rw[ag4 hk]at e hmb
    obtain⟨⟨m,hm2⟩,a0,a1⟩:=hab n hn1
    refine⟨_,_,rfl,RE hW n (ab n) m hm2,?_⟩
    intro d hd
    rw[hd]
    have hwu:IntKind.u64.wrap (ab n)=((ab n).toNat:Int):=by
     have e1:(IntKind.u64).bits=64:=rfl
     have e2:(IntKind.u64).signed=false:=rfl
     simp only[wp,e1,e2,ajf,agZ,ahN];omega
    rw[hwu]
    refine⟨_,_,_,rfl,aeq (ab n).toNat (by omega),?_⟩
    rintro _ rfl
    have hp:=Tb (ab n).toNat
    generalize K5 (ab n).toNat=p at hp e hmb ⊢
    refine⟨fun _=>?_,fun h=>by simp at h⟩
    simp only[D.bV,ag6,Int.one_mul]
    rw[show min p 64=p by omega]
    have hpw:(2:Int)^p<=64/\1<=(2:Int)^p:=by
     have:p=0\/p=1\/p=2\/p=3\/p=4\/p=5\/p=6:=by omega
     rcases this with rfl|rfl|rfl|rfl|rfl|rfl|rfl<;>decide
    rw[bO (x:=2^p) (by omega) (by omega),bO (x:=2^p-1) (by omega) (by omega),bO (by omega) (by omega),Int.add_comm (eT (w.th.pE ab) l)]
    simpa using e
 exact VT loop
end
end
def qH:pg.underlying aA=some (.int .i64):=by kernel_rfl
def D7:pg.cellsOf aA=1:=by kernel_rfl
def abc {fz:Nat->Prop}{w:World}{d:D}{vs:List Value}(h:nG pg fz w aA d vs):vs=[Value.int .i64 d.int]:=by
 cases h with
 |int h=>rw[qH]at h;cases h;rfl
 |bool h=>rw[qH]at h;cases h
 |b8 h=>rw[qH]at h;cases h
 |cX h=>rw[qH]at h;cases h
 |empty h=>rw[qH]at h;cases h
 |slice h=>rw[qH]at h;cases h
 |struct h=>rw[qH]at h;cases h
def FB {fz:Nat->Prop}{w:World}{l:List Int}{vs:List Value}(h:cI pg fz w aA (aw l) vs):vs=l.map (Value.int .i64):=by
 obtain⟨h1,h2⟩:=h
 rw[D7]at h1
 simp only[D7,Nat.mul_one,agV]at h1 h2
 apply ajc;intro i
 by_cases hi:i<l.length
 ·have:=h2 i (.z l[i]) (by simp[hi])
  have hv:i<vs.length:=by omega
  rw[aiG hv]at this
  simp only[akt,aji]at this
  have hx:vs[i]=Value.int .i64 l[i]:=by
   have:=abc this
   simpa [D.int]using this
  rw[ag7 hv,hx];simp[hi]
 ·rw[ahS (by omega),ahS (by simp;omega)]
def Sr {fz:Nat->Prop}{w:World}(l:List Int):cI pg fz w aA (aw l) (l.map (Value.int .i64)):=by
 refine⟨by simp[D7],fun i x hx=>?_⟩
 rw[D7,Nat.mul_one]
 simp only[ahQ,ahY]at hx
 obtain⟨n,hn,rfl⟩:=hx
 have hi:=(aha.1 hn).1
 rw[aiG (by simpa using hi)]
 simp only[akt,aji,List.getElem_map]
 have e:l[i]=n:=by rw[ag7 hi]at hn;exact aju hn
 rw[e]
 exact .int (d:= .z n) qH
def QB (d:Array Int)(c:Array Value)(off j:Nat)(hj:j<d.size)(hc:off+j<c.size):(Go.Sort.putCells (Value.int .i64) off d c)[off+j]?=some (.int .i64 d[j]!):=by
 unfold Go.Sort.putCells
 rw[Array.getElem?_mapIdx,ahF hc]
 simp[hj]
def bc.UA {g:Gh}{w:World}{l d:List Int}{n aL az:Nat}(hr:bc pg g (hL [(0,.ak aA (aw l) true)]) w)(hm:g.m 0=some (aL,az))(hd:d.length=l.length)(q:Nat):
 bc pg g (hL [(0,.ak aA (aw (d.take n)) true)]) (Go.Sort.putRow (Value.int .i64) (Go.Sort.ahead w q) aL az d.toArray)/\
  Cn g (hL [(0,.ak aA (aw l) true)]) w g (hL [(0,.ak aA (aw (d.take n)) true)]) (Go.Sort.putRow (Value.int .i64) (Go.Sort.ahead w q) aL az d.toArray):=by
 have hb:(hL [(0,.ak aA (aw l) true)]).get 0=some (.ak aA (aw l) true):=rfl
 obtain⟨c,vs,h1,h2,h3,h4⟩:=hr.ak hb hm
 have hvs:=FB h2
 have hlt:aL<w.heap.size:=hr.Xd _ _ _ hm
 have hheap:(Go.Sort.putRow (Value.int .i64) (Go.Sort.ahead w q) aL az d.toArray).heap=w.heap.setIfInBounds aL (.cells (Go.Sort.putCells (Value.int .i64) az d.toArray c) aA (0,0)):=by
  show w.heap.modify aL _=_
  apply ajv
  intro i
  rw[akg,ajN]
  by_cases hi:aL=i
  ·subst hi;rw[ag8 rfl,ag8 rfl,h1,ag8 hlt];rfl
  ·rw[ag4 hi,ag4 hi]
 have hshape:∀s,w.shape? aL=some s->(Go.Sort.putRow (Value.int .i64) (Go.Sort.ahead w q) aL az d.toArray).shape? aL=some s:=fun s hs=>by
  simp only[World.shape?,h1]at hs
  simp only[World.shape?,hheap,ahA hlt]
  rw[<-hs];simp[Go.Sort.putCells]
 obtain⟨k1,k2⟩:=hr.Ly (w':=Go.Sort.putRow (Value.int .i64) (Go.Sort.ahead w q) aL az d.toArray) (o':= .ak aA (aw (d.take n)) true) hb hm h1 hheap ⟨rfl,rfl,rfl⟩ hshape (fun _=>by
  simp only[cV]
  refine⟨_,rfl,_,Sr (d.take n),fun i x hx=>?_⟩
  rw[ahQ,ahY]at hx
  obtain⟨z,hz,rfl⟩:=hx
  have hi:=(aha.1 hz).1
  rw[ahx]at hi
  rw[ahL,ag8 (by omega)]at hz
  have hcs:az+i<c.size:=by
   have:=h3 i (.int .i64 (l.getD i 0)) (by rw[hvs,ahQ,ag7 (by omega)];simp[List.getD,ag7 (show i<l.length by omega)])
   exact(ahn.1 this).1
  rw[QB _ _ _ _ (by simp;omega) hcs]
  have hdi:=(aha.1 hz)
  simp[hdi.2,show i<d.length by omega])
 have hg:∀b,(hL [(0,.ak aA (aw (d.take n)) true)]).get b=((hL [(0,.ak aA (aw l) true)]).put 0 (some (.ak aA (aw (d.take n)) true))).get b:=fun b=>by
  rw[aj.fe]
  by_cases e:b=0
  ·subst e;rfl
  ·rw[ag4 e]
   cases b with
   |zero=>exact absurd rfl e
   |succ b=>rfl
 have k3:bc pg g (hL [(0,.ak aA (aw (d.take n)) true)]) (Go.Sort.putRow (Value.int .i64) (Go.Sort.ahead w q) aL az d.toArray):=k1.congr hg (aho _)
 refine⟨k3,.Fv k2 ⟨aho _,fun _ _ _=>rfl,fun _ h=>h,fun _ _ h=> .inl h,k3.mE,fun c _ ho=>?_,fun _ _ h=>h,rfl,rfl,rfl⟩⟩
 obtain⟨a,o,base',h5,h6⟩:=ho
 exact⟨a,o,base',by rw[<-aj.Pb hg];exact h5,h6⟩
def Tryz.Z1:Go.Shelf.Ren:=⟨fun|5=>73|8=>118|7=>117|19=>154|20=>155|10=>145|11=>146|12=>147|13=>148|14=>149|15=>150|16=>151|17=>152|18=>153|30=>174|31=>175|32=>176|33=>177|34=>178|35=>179|40=>189|n=>n,fun|23=>35|25=>25|3=>3|32=>169|22=>35|0=>0|44=>196|46=>155|4=>4|36=>188|35=>187|41=>193|5=>5|9=>9|53=>212|57=>147|63=>226|64=>227|n=>n,fun|n=>n⟩
def Tryz.agm:Go.Proofs.SlLaysM.n5 pg Tryz.Z1:={
 mixed:=by kernel_rfl
 f5:=⟨Tryz.f73.name,by decide,Tryz.func73.trans (ahE some (by kernel_rfl))⟩
 f7:=⟨Tryz.f117.name,by decide,Tryz.func117.trans (ahE some (by kernel_rfl))⟩
 f8:=Tryz.func118.trans (ahE some (by kernel_rfl))
 f10:=⟨Tryz.f145.name,by decide,Tryz.func145.trans (ahE some (by kernel_rfl))⟩
 f11:=⟨Tryz.f146.name,by decide,Tryz.func146.trans (ahE some (by kernel_rfl))⟩
 f12:=⟨Tryz.f147.name,by decide,Tryz.func147.trans (ahE some (by kernel_rfl))⟩
 f13:=⟨Tryz.f148.name,by decide,Tryz.func148.trans (ahE some (by kernel_rfl))⟩
 f14:=⟨Tryz.f149.name,by decide,Tryz.func149.trans (ahE some (by kernel_rfl))⟩
 f15:=⟨Tryz.f150.name,by decide,Tryz.func150.trans (ahE some (by kernel_rfl))⟩
 f16:=⟨Tryz.f151.name,by decide,Tryz.func151.trans (ahE some (by kernel_rfl))⟩
 f17:=⟨Tryz.f152.name,by decide,Tryz.func152.trans (ahE some (by kernel_rfl))⟩
 f18:=⟨Tryz.f153.name,by decide,Tryz.func153.trans (ahE some (by kernel_rfl))⟩
 f19:=Tryz.func154.trans (ahE some (by kernel_rfl))
 f20:=Tryz.func155.trans (ahE some (by kernel_rfl))
 f30:=⟨Tryz.f174.name,by decide,Tryz.func174.trans (ahE some (by kernel_rfl))⟩
 f31:=Tryz.func175.trans (ahE some (by kernel_rfl))
 f32:=Tryz.func176.trans (ahE some (by kernel_rfl))
 f33:=⟨Tryz.f177.name,by decide,Tryz.func177.trans (ahE some (by kernel_rfl))⟩
 f34:=⟨Tryz.f178.name,by decide,Tryz.func178.trans (ahE some (by kernel_rfl))⟩
 f35:=⟨Tryz.f179.name,by decide,Tryz.func179.trans (ahE some (by kernel_rfl))⟩
 f40:=⟨Tryz.f189.name,by decide,Tryz.func189.trans (ahE some (by kernel_rfl))⟩
 t0:=Tryz.underlying0
 a0:=Tryz.isAgg0
 z0:=Tryz.sizeOf0
 v0:=Tryz.zeroValue0
 t3:=Tryz.underlying3
 a3:=Tryz.isAgg3
 z3:=Tryz.sizeOf3
 v3:=Tryz.zeroValue3
 t4:=Tryz.underlying4
 a4:=Tryz.isAgg4
 z4:=Tryz.sizeOf4
 v4:=Tryz.zeroValue4
 t5:=Tryz.underlying5
 a5:=Tryz.isAgg5
 z5:=Tryz.sizeOf5
 v5:=Tryz.zeroValue5
 t9:=Tryz.underlying9
 a9:=Tryz.isAgg9
 z9:=Tryz.sizeOf9
 v9:=Tryz.zeroValue9
 t22:=Tryz.underlying35
 a22:=Tryz.isAgg35
 z22:=Tryz.sizeOf35
 v22:=Tryz.zeroValue35
 t23:=Tryz.underlying35
 a23:=Tryz.isAgg35
 z23:=Tryz.sizeOf35
 v23:=Tryz.zeroValue35
 t25:=Tryz.underlying25
 a25:=Tryz.isAgg25
 z25:=Tryz.sizeOf25
 v25:=Tryz.zeroValue25
 t32:=Tryz.underlying169
 a32:=Tryz.isAgg169
 z32:=Tryz.sizeOf169
 v32:=Tryz.zeroValue169
 t35:=Tryz.underlying187
 a35:=Tryz.isAgg187
 z35:=Tryz.sizeOf187
 v35:=Tryz.zeroValue187
 t36:=Tryz.underlying188
 a36:=Tryz.isAgg188
 z36:=Tryz.sizeOf188
 v36:=Tryz.zeroValue188
 t41:=Tryz.underlying193
 a41:=Tryz.isAgg193
 z41:=Tryz.sizeOf193
 v41:=Tryz.zeroValue193
 t44:=Tryz.underlying196
 a44:=Tryz.isAgg196
 z44:=Tryz.sizeOf196
 v44:=Tryz.zeroValue196
 t46:=Tryz.underlying155
 a46:=Tryz.isAgg155
 z46:=Tryz.sizeOf155
 v46:=Tryz.zeroValue155
 t53:=Tryz.underlying212
 a53:=Tryz.isAgg212
 z53:=Tryz.sizeOf212
 v53:=Tryz.zeroValue212
 t57:=Tryz.underlying147
 a57:=Tryz.isAgg147
 z57:=Tryz.sizeOf147
 v57:=Tryz.zeroValue147
 t63:=Tryz.underlying226
 a63:=Tryz.isAgg226
 z63:=Tryz.sizeOf226
 v63:=Tryz.zeroValue226
 t64:=Tryz.underlying227
 a64:=Tryz.isAgg227
 z64:=Tryz.sizeOf227
 v64:=Tryz.zeroValue227}
def Vk {g:Gh}{h:aj}{w:World}(hr:bc pg g h w)(os:Array Obj):bc pg g h (Go.Sort.grow w os)/\Cn g h w g h (Go.Sort.grow w os):=by
 have hlt:∀c,c<w.heap.size->(Go.Sort.grow w os).heap[c]?=w.heap[c]?:=fun c hc=>Array.getElem?_append_left hc
 have hms:∀c s,w.shape? c=some s->(Go.Sort.grow w os).shape? c=some s:=fun c s e=>by
  have hc:c<w.heap.size:=by
   apply ahK;intro hn
   simp only[World.shape?,aka (Nat.le_of_not_lt hn)]at e
   cases e
  simpa only[World.shape?,hlt c hc]using e
 have hm:eC g w g (Go.Sort.grow w os):=⟨fun _ _ e=>e,fun _ e=>e,fun c e=>hlt c (hr.mE c e),hms,fun _ _ _ e=>e⟩
 have hsz:w.heap.size<=(Go.Sort.grow w os).heap.size:=by simp[Go.Sort.grow]
 refine⟨hr.nm.M0 (fun l b x e=>ahC (hr.nv l b x e) hsz) hr.nw (fun l o aL az h1 m1=>?_) (fun c e=>ahC (hr.mE c e) hsz),⟨hsz,fun c hc _=>hlt c hc,fun _ e=>e,fun _ _ e=> .inl e,fun c e=>ahC (hr.mE c e) hsz,fun c _ ho=>ho,hms,rfl,rfl,rfl⟩⟩
 obtain⟨n1,o',ho,hr'⟩:=hr.qJ l o aL az h1 m1
 exact⟨n1,o',by rw[hlt _ (ahn.1 ho).1];exact ho,hr'.mono hm⟩
def TM {g g1 g':Gh}{h h1 h':aj}{w w1 w':World}(a:Cn g h w g1 h1 w1)(b:Cn g1 h1 w1 g' h' w'):Cn g h w g' h' w' where
 size:=ahD a.size b.size
 oR:=fun c hc ho=>(b.oR c (ahC hc a.size) fun h=>ho (a.nC c hc h)).trans (a.oR c hc ho)
 fz:=fun c hc=>b.fz c (a.fz c hc)
 Sl:=fun c hc hf=>by
  rcases b.Sl c (ahC hc a.size) hf with h1|h1
  ·exact a.Sl c hc h1
  ·exact .inr (a.nC c hc h1)
 mE:=b.mE
 nC:=fun c hc ho=>a.nC c hc (b.nC c (ahC hc a.size) ho)
 ms:=fun c s hs=>b.ms c s (a.ms c s hs)
 os:=⟨b.os.1.trans a.os.1,b.os.2.1.trans a.os.2.1,b.os.2.2.trans a.os.2.2⟩
def ZQ (l:List Int)(h:l.length<2^31):PH ng (AB (aw l)) (wY (aw l)) 1 xa (fun v=>D.ae v=aw (l.mergeSort fun x y=>decide (x<=y))):=by
 intro g w as' hr ha
 obtain⟨v,h1,h2⟩:=aq.one ha
 obtain⟨as'⟩:=as'
 have h1:as'=[v]:=h1
 subst h1
 have done:∀w',bc pg g (hL [(0,.ak aA (aw (l.mergeSort fun x y=>decide (x<=y))) true)]) w'->Cn g (hL [(0,.ak aA (aw l) true)]) w g (hL [(0,.ak aA (aw (l.mergeSort fun x y=>decide (x<=y))) true)]) w'->
  ∃(v2:Value) (g':Gh) (d:D) (x:BV×List (Nat×aI)),(Ending.returned (.tuple #[]):Ending)= .returned v2/\T.dy x (xa (AB (aw l)) (wY (aw l)) d)/\Cn g (hL (wY (aw l))) w g' (hL x.2) w'/\RC 1 g g'/\bc pg g' (hL x.2) w'/\ao pg g' w' x.1 v2/\D.ae d=aw (l.mergeSort fun x y=>decide (x<=y)):=fun w' k1 k2=>
  ⟨.tuple #[],g,.r (aw (l.mergeSort fun x y=>decide (x<=y))),(.tuple [],[(0,.ak aA (aw (l.mergeSort fun x y=>decide (x<=y))) true)]),rfl,.ret,k2,⟨fun _ _ _ h=>h,fun _ _ _ _ h=>h⟩,k1,by simp[ao,aq],rfl⟩
 have hlen:(aw l).length=l.length:=by simp
 rw[hlen]at h2
 have empty:∀(a:Option Addr) (c:Nat),v= .slice a 0 c->l=[]->Calls pg ng ⟨[v]⟩ w fun ed w'=>∃(v':Value) (g':Gh) (d:D) (x:BV×List (Nat×aI)),ed= .returned v'/\T.dy x (xa (AB (aw l)) (wY (aw l)) d)/\Cn g (hL (wY (aw l))) w g' (hL x.2) w'/\RC 1 g g'/\bc pg g' (hL x.2) w'/\ao pg g' w' x.1 v'/\D.ae d=aw (l.mergeSort fun x y=>decide (x<=y)):=by
  rintro a c rfl rfl
  refine(AnyM.slices_Sort_int_none Tryz.agm a c w).mono ?_
  rintro ed w' ⟨rfl,rfl⟩
  have e0:(([]:List Int).mergeSort fun x y=>decide (x<=y))=[]:=by simp
  rw[e0]at done
  rw[e0]
  exact done _ hr ⟨aho _,fun _ _ _=>rfl,fun _ h=>h,fun _ _ h=> .inl h,hr.mE,fun c _ ho=>ho,fun _ _ h=>h,rfl,rfl,rfl⟩
 simp only[ao]at h2
 rcases h2 with ⟨⟨_,h0⟩,rfl| ⟨a,rfl⟩⟩| ⟨aL,az,c,hm,rfl,hc,ht⟩
 ·have:=ahy.1 h0;subst this
  exact empty _ _ rfl rfl
 ·have:=ahy.1 h0;subst this
  exact empty _ _ rfl rfl
 ·obtain⟨cc,vs,k1,k2,k3,k4⟩:=hr.ak (b:=0) rfl hm
  have hvs:=FB k2
  have hH:Go.Sort.Holds (Value.int .i64) w aL az l.toArray:=fun j hj=>by
   have hj:j<l.length:=by simpa using hj
   refine⟨?_,by simp[World.frozen?,k1]⟩
   rw[k4 j (.int .i64 l[j]) (by rw[hvs];simp[hj])]
   simp[hj]
  refine(AnyM.slices_Sort_int Tryz.agm aL az c l w hH (hr.Xd _ _ _ hm) (by omega)).mono ?_
  rintro ed w' ⟨rfl,q,os,rfl⟩
  obtain⟨m1,m2⟩:=bc.UA (n:=l.length) (d:=l.mergeSort fun x y=>decide (x<=y)) hr hm (by simp) q
  rw[ag5 (by simp)]at m1 m2
  obtain⟨m3,m4⟩:=Vk m1 os
  exact done _ m3 (TM m2 m4)
section
section
variable {W:WS} {w:Wo} (hW:zC W w)
include hW
def Xy (h1:w.th.one)(hn:w.th.length<2^30):PH jb (zr W) (Wm W) 3 qP (fun d=>∃l:List Int,l.Perm (w.th.map (·.1))/\D.ae d=aw (l.mergeSort fun x y=>decide (x<=y))):=by
 have hlenW:W.th.length=w.th.length:=by rw[hW.th];simp[aV.ax]
 have loop:ay pg jb [aW] (.bx 3 (qP (zr W) (Wm W)) (fun d=>∃l:List Int,l.Perm (w.th.map (·.1))/\D.ae d=aw (l.mergeSort fun x y=>decide (x<=y)))) (uW W ([]:List Int).length (aw ([]:List Int).reverse) (aw [])):=by
  refine mB (M:=fun l=>ay pg jb [aW] (.bx 3 (qP (zr W) (Wm W)) (fun d=>∃l:List Int,l.Perm (w.th.map (·.1))/\D.ae d=aw (l.mergeSort fun x y=>decide (x<=y)))) (uW W l.length (aw l.reverse) (aw l))) (w.th.map (·.1)) fun l hl hnd ih=>?_
  have hlen:l.length<=w.th.length:=by
   have:=hG hnd hl
   simpa using this
  refine QE (yL hW (fun hall=>?_) fun n hn1 hn2=>?_)
  ·have cs:=ZQ l.reverse (by simp;omega)
   simp only[AB,agV,akr]at cs
   refine⟨_,_,rfl,cs,?_⟩
   intro v hv
   refine⟨rfl,v,?_,l.reverse,(List.reverse_perm l).trans ((aiQ hnd h1).2 fun a=>⟨hl a,fun ha=>by obtain⟨p,hp,rfl⟩:=ahp.1 ha;exact hall p hp⟩),hv⟩
   have:(D.ae v).length=l.length:=by rw[hv];simp
   rw[<-this]
   exact .ret
  ·have e:=ih n hn1 hn2
   simp only[rk,agV,akr,ahg,ah0]
   refine⟨fun _=>?_,fun h=>by simp[aO]at h;omega⟩
   simpa using e
 refine Y5 ?_
 simp only[rk]
 exact⟨fun _=>loop,fun h=>by simp[rZ]at h;omega⟩
end
end
section
def aE.zG (v:aE):Bool:=v.k==0&&v.n==0&&v.s==[]&&v.l.length==0&&v.r==0
def aE.zero:aE:= .mk 0 0 [] [] 0
def aE.aai:(D.r [.z 0,.z 0,.s [],.r [],.z 0])=aE.zero.ax:=rfl
def aE.Mu (v:aE):v.zG=true↔v= .zero:=by
 cases v;simp[aE.zG,aE.zero,aE.k,aE.n,aE.s,aE.l,aE.r,aj9]
def aE.p6:aE.zero.ok:=by rw[aE.gL];simp[aE.zero,aE.k,aE.n,aE.s,aE.l,aE.r]
def aE.aaj:aE.zero.cN=true:=by decide
def OO (v:aE):fk pg sT [av] [v.ax] [ai] (·= .b v.zG):=by
 refine Wn ?_
 simp only[rk,aE.cU,aE.lu,aE.BD,aE.vA,aE.BC,agV]
 refine⟨fun a=>⟨fun b=>⟨fun c=>⟨fun d=>?_,fun d=>?_⟩,fun c=>?_⟩,fun b=>?_⟩,fun a=>?_⟩
 all_goals (congr 1;simp_all [aE.zG])
def Wh.bare (x:Wh):Wh:=
 {k:=x.k,h:=if x.k=14 then 0 else x.h,v:=if x.k=1\/x.k=7\/x.k=10 then x.v else aE.zero,vs:=if x.k=2\/x.k=4 then x.vs else [],
  n:=if x.k=3\/x.k=8\/x.k=9 then x.n else 0,lo:=if x.k=8 then x.lo else 0,
  of:=if x.k=6\/x.k=7\/x.k=9\/x.k=11\/x.k=13\/x.k=14\/x.k=15\/x.k=16 then x.of else 0,
  km:=if x.k=15\/x.k=16 then x.km else 0,set:=if x.k=14 then x.set else 0,B2:=if x.k=10\/x.k=13 then x.B2 else false,
  co:=if x.k=12 then x.co else [],ns:=if x.k=12 then x.ns else []}
def aeI (x:Wh):fk pg CJ [aH] [x.ax] [aH] (·=x.bare.ax):=by
 refine Zo ?_
 simp only[rk,Wh.cU,Wh.mH,Wh.mI,Wh.sP,Wh.lu,Wh.zf,Wh.di,Wh.gg,Wh.i7,Wh.o0,Wh.iI,Wh.fv,lK,aE.aai,aht,ahe,aic]
 repeat' (first|refine And.intro (fun h=>?_) (fun h=>?_))
 all_goals (rw[Wh.aD x.bare];simp[Wh.bare, *])
def Wh.T5 {x:Wh}(h:x.h=x.bare.h)(v:x.bare.v.zG=true->x.v.zG=true)(vs:x.vs.length=x.bare.vs.length)(n:x.n=x.bare.n)(lo:x.lo=x.bare.lo)(of:x.of=x.bare.of)(km:x.km=x.bare.km)(set:x.set=x.bare.set)
 (B2:x.B2=x.bare.B2)(co:x.co.length=x.bare.co.length)(ns:x.ns.length=x.bare.ns.length):x.bare=x:=by
 have e1:x.bare.v=x.v:=by
  by_cases c:x.k=1\/x.k=7\/x.k=10
  ·simp[Wh.bare,c]
  ·have e:x.bare.v= .zero:=by simp[Wh.bare,c]
   rw[e]at v ⊢
   exact((aE.Mu _).1 (v rfl)).symm
 have e2:x.bare.vs=x.vs:=by
  by_cases c:x.k=2\/x.k=4
  ·simp[Wh.bare,c]
  ·have e:x.bare.vs=[]:=by simp[Wh.bare,c]
   rw[e]at vs ⊢
   exact(ahy.1 vs).symm
 have e3:x.bare.co=x.co:=by
  by_cases c:x.k=12
  ·simp[Wh.bare,c]
  ·have e:x.bare.co=[]:=by simp[Wh.bare,c]
   rw[e]at co ⊢
   exact(ahy.1 co).symm
 have e4:x.bare.ns=x.ns:=by
  by_cases c:x.k=12
  ·simp[Wh.bare,c]
  ·have e:x.bare.ns=[]:=by simp[Wh.bare,c]
   rw[e]at ns ⊢
   exact(ahy.1 ns).symm
 have e5:x.bare.k=x.k:=rfl
 generalize x.bare=y at*
 cases x;cases y
 simp_all
def Wh.F (x:Wh)(n:Int):Prop:=
 (1<=x.k/\x.k<=16)/\x.bare=x/\(x.k≠14->0<=x.h/\x.h<n)/\x.v.cN=true/\(aE.ae x.vs).cN=true/\x.ns.length<=64/\(∀m∈x.ns,m.v.cN=true)/\
 (x.k=3\/x.k=8\/x.k=9->0<=x.n/\x.n<=9007199254740992/\0<=x.lo/\x.lo<=x.n)/\(x.k=10->x.B2=true\/x.v.zG=true)/\(x.k=12->St.eu x.co<=512/\St.lC x.co=true)
def aE.PI {l:List aE}(h:(aE.ae l).cN=true):∀v∈l,v.cN=true:=by
 obtain⟨h1,h2,h3⟩:=(aE.cW _).1 h
 intro v hv
 have e1:(aE.ae l).size=1+aE.bB l:=rfl
 have e2:(aE.ae l).depth=aE.hY l+1:=rfl
 have e3:(aE.ae l).eK=(aE.kU l&&(aE.ae l).field):=rfl
 have:=aE.eb hv
 have:=aE.DU hv
 rw[e3,ag2]at h3
 exact(aE.cW _).2 ⟨by omega,by omega,aE.CL h3.1 hv⟩
def Wh.F.cN {x:Wh}{n:Int}(h:x.F n):∀v∈x.aJ,v.cN=true:=by
 intro v hv
 simp only[Wh.aJ,ag9,ahd,ahp]at hv
 rcases hv with rfl|hv| ⟨m,hm,rfl⟩
 ·exact h.2.2.2.1
 ·exact aE.PI h.2.2.2.2.1 v hv
 ·exact h.2.2.2.2.2.2.1 m hm
open Classical in
noncomputable def Wh.CM (x:Wh)(n:Int):Bool:=decide (x.F n/\(x.k=14->x.set<64))
def Wh.z8 {x:Wh}{n:Int}:x.CM n=true↔x.F n/\(x.k=14->x.set<64):=by simp[Wh.CM]
def TZ (s:Int)(h0:0<=s)(h1:s<256):fk pg q0 [lM] [.z s] [ai] (·= .b (decide (s<64))):=by
 refine abT ?_
 simp only[rk,D.bV]
 obtain⟨m,rfl⟩:=ai1 h0
 have h:m<256:=by omega
 have key:∀m:Nat,m<256->(IntKind.u8.wrap ((BitVec.ofInt 8 (m:Int) &&& ~~~BitVec.ofInt 8 63).toNat:Int)==0)=decide ((m:Int)<64):=by decide+kernel
 rw[key m h]
section
variable {W:WS} {w:Wo} (hW:zC W w)
include hW
def Xx (x:Wh)(hx:x.ok)(hs:x.sz<2^30):PH pe (tK W x.ax) (Wm W) 3 oX (fun d=>D.bool d=x.CM w.ma.length):=by
 have hls:=x.Ft
 have hs2:=hs
 simp only[Wh.sz]at hs2
 have hok:=hx.aJ
 have no:¬(x.F w.ma.length/\(x.k=14->x.set<64))->∃d,T.dy (BV.bool false,Wm W) (T.ret (BV.bool (D.bool d),Wm W))/\D.bool d=x.CM w.ma.length:=fun h=>vP (by
  rw[<-Wh.z8]at h;simpa using h)
 have Nd:∀b,(b=true↔x.F w.ma.length/\(x.k=14->x.set<64))->∃d,T.dy (BV.bool b,Wm W) (T.ret (BV.bool (D.bool d),Wm W))/\D.bool d=x.CM w.ma.length:=fun b h=>vP (by
  rw[<-Wh.z8]at h;exact ahu.2 h)
 have loop:∀(ah:List ga) (i:Nat),(1<=x.k/\x.k<=16)->x.bare=x->(x.k≠14->0<=x.h/\x.h<w.ma.length)->x.v.cN=true->(aE.ae x.vs).cN=true->x.ns.length<=64->x.ns.drop i=ah->(∀m∈x.ns.take i,m.v.cN=true)->
  ay pg pe [ai] (.bx 3 (oX (tK W x.ax) (Wm W)) (fun d=>D.bool d=x.CM w.ma.length)) (px W x.ax i):=by
  intro ah
  induction ah with
  |nil=>
   intro i f1 f2 f3 f4 f5 f6 hd hm
   have hi:=drop_nil hd
   rw[ag5 hi]at hm
   have hlo:x.k≠8->x.lo=0:=fun h=>by rw[<-f2];simp[Wh.bare,h]
   refine EK ?_
   simp only[rk,Wh.cU,Wh.mI,Wh.lu,Wh.zf,Wh.i7,Wh.o0,Wh.iI,Wh.fv,lK,agV,D.bV,D.bE]
   refine⟨fun h=>by simp at h;omega,fun _=>?_⟩
   have hF:(x.k=3\/x.k=8\/x.k=9->0<=x.n/\x.n<=9007199254740992/\0<=x.lo/\x.lo<=x.n)->(x.k=10->x.B2=true\/x.v.zG=true)->(x.k=12->St.eu x.co<=512/\St.lC x.co=true)->x.F w.ma.length:=fun a b c=>⟨f1,f2,f3,f4,f5,f6,hm,a,b,c⟩
   have hN:x.F w.ma.length->(x.k=3\/x.k=8\/x.k=9->0<=x.n/\x.n<=9007199254740992/\0<=x.lo/\x.lo<=x.n)/\(x.k=10->x.B2=true\/x.v.zG=true)/\(x.k=12->St.eu x.co<=512/\St.lC x.co=true):=fun a=>a.2.2.2.2.2.2.2
   refine⟨fun k3=>?_,fun k3=>⟨fun k8=>?_,fun k8=>⟨fun k9=>?_,fun k9=>⟨fun k10=>?_,fun k10=>⟨fun k12=>?_,fun k12=>⟨fun Ez=>?_,fun Ez=>?_⟩⟩⟩⟩⟩⟩
   iterate 3
    ·simp only[aht,ahe,aic,agW,agX,ge_iff_le]at*
     refine⟨fun a=>⟨fun b=>⟨fun c=>⟨rfl,Nd _ ?_⟩,fun c=>⟨rfl,no ?_⟩⟩,fun b=>⟨rfl,no ?_⟩⟩,fun a=>⟨rfl,no ?_⟩⟩
     ·simp only[agW]
      exact⟨fun e=>⟨hF (fun _=>⟨a,b,c,e⟩) (by omega) (by omega),by omega⟩,fun e=>((hN e.1).1 (by omega)).2.2.2⟩
     ·exact fun e=>c ((hN e.1).1 (by omega)).2.2.1
     ·exact fun e=>b ((hN e.1).1 (by omega)).2.1
     ·exact fun e=>a ((hN e.1).1 (by omega)).1
   ·simp only[aht,ahe,aic]at*
    refine⟨fun a=>⟨rfl,Nd _ ?_⟩,fun a=>⟨_,_,_,rfl,OO x.v,?_⟩⟩
    ·exact⟨fun _=>⟨hF (by omega) (fun _=> .inl a) (by omega),by omega⟩,fun _=>rfl⟩
    ·rintro _ rfl
     refine⟨rfl,Nd _ ?_⟩
     simp only[D.bz]
     exact⟨fun e=>⟨hF (by omega) (fun _=> .inr e) (by omega),by omega⟩,fun e=>by rcases (hN e.1).2.1 k10 with h|h;rw[a]at h;cases h;exact h⟩
   ·simp only[aht,ahe,aic]at*
    refine⟨_,_,rfl,acs x.co 0 hx.co (by omega) (by omega) (by omega),?_⟩
    rintro d ⟨q1,_⟩
    refine⟨rfl,Nd _ ?_⟩
    rw[q1,IB]
    exact⟨fun e=>⟨hF (by omega) (by omega) (fun _=>⟨by omega,e.1⟩),by omega⟩,fun e=>⟨((hN e.1).2.2 k12).2,by have:=((hN e.1).2.2 k12).1;omega⟩⟩
   ·simp only[aht,ahe,aic]at*
    have h8:0<=x.set/\x.set<256:=by have:=hx;simp only[Wh.ok]at this;omega
    refine⟨_,_,_,rfl,TZ x.set h8.1 h8.2,?_⟩
    rintro _ rfl
    refine⟨rfl,Nd _ ?_⟩
    simp only[D.bz,agW]
    exact⟨fun e=>⟨hF (by omega) (by omega) (by omega),fun _=>e⟩,fun e=>e.2 Ez⟩
   ·simp only[aht,ahe,aic]at*
    exact⟨rfl,Nd _ ⟨fun e=>⟨hF (by omega) (by omega) (by omega),by omega⟩,fun _=>rfl⟩⟩
  |cons m ah ih=>
   intro i f1 f2 f3 f4 f5 f6 hd hm
   obtain⟨g1,g2,g3⟩:=aB hd
   have hmem:=agY g1
   refine EK ?_
   simp only[rk,Wh.fv,agV,ag6,bn g1,ga.mI,lK]
   refine⟨fun _=>⟨fun _=>⟨_,_,_,rfl,Lt m.v (hok _ (by simp[Wh.aJ];exact .inr (.inr ⟨m,hmem,rfl⟩))),?_⟩,fun h=>by simp[aU g3]at h⟩,fun h=>by simp at h;omega⟩
   rintro _ rfl
   refine⟨fun h=>⟨rfl,no fun e=>?_⟩,fun h=>?_⟩
   ·rw[e.1.2.2.2.2.2.2.1 m hmem]at h;simp at h
   ·rw[bo g3 (by omega)]
    refine ih (i+1) f1 f2 f3 f4 f5 f6 g2 fun y hy=>?_
    rw[aQ g1]at hy
    rcases ahd.1 hy with hy|hy
    ·exact hm y hy
    ·simp only[ahb]at hy;subst hy;simpa using h
 refine Y4 ?_
 simp only[rk,Wh.re,Wh.cU,Wh.mH,Wh.mI,Wh.sP,Wh.lu,Wh.zf,Wh.di,Wh.gg,Wh.i7,Wh.o0,Wh.iI,Wh.fv,lK,agV]
 refine⟨_,_,_,rfl,aeI x,?_⟩
 rintro _ rfl
 simp only[Wh.cU,Wh.mH,Wh.mI,Wh.sP,Wh.lu,Wh.zf,Wh.di,Wh.gg,Wh.i7,Wh.o0,Wh.iI,Wh.fv,lK,agV,aiI,aic,ahV,aht,ahe,agW,agX,ahl,ahq,Int.natCast_inj]
 have hk:0<=x.k:=by have:=hx;simp only[Wh.ok]at this;omega
 refine⟨fun h=>⟨rfl,no fun e=>by have:=e.1.1;omega⟩,fun g0=>⟨fun h=>⟨rfl,no fun e=>by have:=e.1.1;omega⟩,fun g1=>?_⟩⟩
 refine⟨fun h=>⟨rfl,no fun e=>h (by rw[e.1.2.1])⟩,fun e1=>⟨fun h=>⟨rfl,no fun e=>h (by rw[e.1.2.1])⟩,fun e2=>⟨fun h=>⟨rfl,no fun e=>h (by rw[e.1.2.1])⟩,fun e3=>⟨fun h=>⟨rfl,no fun e=>h (by rw[e.1.2.1])⟩,fun e4=>⟨fun h=>⟨rfl,no fun e=>h (by rw[e.1.2.1])⟩,fun e5=>
  ⟨fun h=>⟨rfl,no fun e=>h (by rw[e.1.2.1])⟩,fun e6=>⟨fun h=>⟨rfl,no fun e=>h (by rw[e.1.2.1])⟩,fun e7=>⟨fun h=>⟨rfl,no fun e=>h (by rw[e.1.2.1])⟩,fun e8=>⟨fun h=>⟨rfl,no fun e=>h (by rw[e.1.2.1])⟩,fun e9=>⟨fun h=>⟨rfl,no fun e=>h (by rw[e.1.2.1])⟩,fun e10=>?_⟩⟩⟩⟩⟩⟩⟩⟩⟩⟩
 have hbare:(x.bare.v.zG=true->x.v.zG=true)->x.bare=x:=fun h=>Wh.T5 e7 h e8 e1 e2 e3 e4 e5 e6 e9 e10
 refine⟨_,_,_,rfl,OO x.bare.v,?_⟩
 rintro _ rfl
 simp only[D.bz]
 have tail:x.bare=x->(x.k≠14->0<=x.h/\x.h<w.ma.length)->∃ts rs Q',Dl jN.cz fH=some (ts,rs)/\fk pg fH ts [x.v.ax] rs Q'/\∀d,Q' d->
  (D.bool d=false->jN.bx=some 3/\∃d,T.dy (BV.bool false,Wm W) (oX (tK W x.ax) (Wm W) d)/\D.bool d=x.CM w.ma.length)/\
  (D.bool d=true->∃ts rs Q',Dl jN.cz zi=some (ts,rs)/\fk pg zi ts [.r (x.vs.map aE.ax)] rs Q'/\∀d,Q' d->
    (¬(d.aa 1).int=0->jN.bx=some 3/\∃d,T.dy (BV.bool false,Wm W) (oX (tK W x.ax) (Wm W) d)/\D.bool d=x.CM w.ma.length)/\
    ((d.aa 1).int=0->((x.ns.length:Int)>64->jN.bx=some 3/\∃d,T.dy (BV.bool false,Wm W) (oX (tK W x.ax) (Wm W) d)/\D.bool d=x.CM w.ma.length)/\
      (¬(x.ns.length:Int)>64->ay pg jN.f jN.rs (.bx 3 (oX (tK W x.ax) (Wm W)) (fun d=>D.bool d=x.CM w.ma.length)) (px W x.ax 0)))):=by
  intro f2 f3
  refine⟨_,_,_,rfl,Lt x.v (hok _ (by simp[Wh.aJ])),?_⟩
  rintro _ rfl
  simp only[D.bz]
  refine⟨fun h=>⟨rfl,no fun e=>by rw[e.1.2.2.2.1]at h;cases h⟩,fun f4=>⟨_,_,_,rfl,agQ x.vs (fun v hv=>hok v (by simp[Wh.aJ,hv])) (by omega),?_⟩⟩
  rintro _ rfl
  have hof:D.int (D.aa (if x.vs.all aE.cN then (if (aE.ae x.vs).cN then (.r [(aE.ae x.vs).ax,.z 0]:D)else .r [.r [.z 0,.z 0,.s [],.r [],.z 0],.z 4])else .r [.r [.z 0,.z 0,.s [],.r [],.z 0],.z 2]) 1)=0↔(aE.ae x.vs).cN=true:=by
   by_cases c1:x.vs.all aE.cN=true
   ·rw[ag8 c1]
    by_cases c2:(aE.ae x.vs).cN=true
    ·simp[c2,D.aa,D.at]
    ·simp[c2,D.aa,D.at]
   ·rw[ag4 c1]
    have:¬(aE.ae x.vs).cN=true:=fun h=>c1 (by simpa using aE.PI h)
    simp[this,D.aa,D.at]
  rw[hof]
  refine⟨fun h=>⟨rfl,no fun e=>h e.1.2.2.2.2.1⟩,fun f5=>⟨fun h=>⟨rfl,no fun e=>by have:=e.1.2.2.2.2.2.1;omega⟩,fun f6=>?_⟩⟩
  have:=loop x.ns 0 ⟨by omega,by omega⟩ f2 f3 f4 f5 (by omega) rfl (by simp)
  simpa using this
 refine⟨fun hb=>⟨_,_,_,rfl,OO x.v,?_⟩,fun hb=>?_⟩
 ·rintro _ rfl
  simp only[D.bz]
  refine⟨fun h=>⟨rfl,no fun e=>by rw[e.1.2.1]at hb;rw[hb]at h;cases h⟩,fun h2=>?_⟩
  have f2:=hbare fun _=>h2
  refine⟨fun hk14=>⟨_,_,rfl,Xz hW x.h,?_⟩,fun hk14=>tail f2 fun h=>absurd hk14 h⟩
  intro d hd
  rw[hd]
  simp only[agW,agX]
  exact⟨fun h=>⟨rfl,no fun e=>h (e.1.2.2.1 hk14)⟩,fun h=>tail f2 fun _=>h⟩
 ·have f2:=hbare fun h=>by rw[hb]at h;cases h
  refine⟨fun hk14=>⟨_,_,rfl,Xz hW x.h,?_⟩,fun hk14=>tail f2 fun h=>absurd hk14 h⟩
  intro d hd
  rw[hd]
  simp only[agW,agX]
  exact⟨fun h=>⟨rfl,no fun e=>h (e.1.2.2.1 hk14)⟩,fun h=>tail f2 fun _=>h⟩
end
end
section
open Classical in
noncomputable def Wh.Fl (x:Wh)(n:Int):Bool:=decide (x.F n)
def Wh.GI {x:Wh}{n:Int}:x.Fl n=true↔x.F n:=by simp[Wh.Fl]
def Wh.F.num {x:Wh}{n:Int}(h:x.F n):0<=x.n/\x.n<=9007199254740992:=by
 by_cases c:x.k=3\/x.k=8\/x.k=9
 ·have:=h.2.2.2.2.2.2.2.1 c;omega
 ·have e:x.bare.n=0:=by simp[Wh.bare,c]
  rw[h.2.1]at e;omega
def aE.aaH {v:aE}(h:v.cN=true)(hk:v.k=0):v.zG=true:=by
 have h3:=((aE.cW v).1 h).2.2
 rw[v.nT,ag2]at h3
 have:=h3.2
 simp only[aE.field,hk,ahz]at this
 simp only[aE.zG,hk]
 simpa using this
def acd (x:Wh)(n:Int)(hx:x.ok)(hs:x.sz<2^30):fk pg iP [aH,af] [x.ax,.z n] [ai] (·= .b (x.Fl n)):=by
 have hls:=x.Ft
 have hs2:=hs
 simp only[Wh.sz]at hs2
 have hok:=hx.aJ
 have no:¬x.F n->D.b false=D.b (x.Fl n):=fun h=>by rw[<-Wh.GI]at h;simpa using h
 have hxv:x.v.ok:=hok _ (by simp[Wh.aJ])
 have hk0:0<=x.k/\x.k<256:=by have:=hx;simp only[Wh.ok]at this;omega
 have tail:∀(yv:aE) (yn yo yl:Int) (yf:Bool) (ys yb yh:Int) (b0 b13 b14:Bool),yv.ok->(1<=x.k/\x.k<=16)->(x.k≠14->0<=x.h/\x.h<n)->
  ((x.k=2\/x.k=4->(aE.ae x.vs).cN=true)/\(x.k=8->0<=x.lo/\x.lo<=x.n)/\(x.k=10->x.B2=true\/x.v.k=0)/\(x.k=12->x.ns.length<=64/\(∀m∈x.ns,m.v.cN=true)/\St.eu x.co<=512/\St.lC x.co=true))->
  (yh=x.bare.h/\yv=x.bare.v/\yn=x.bare.n/\yo=x.bare.of/\yl=x.bare.lo/\yf=x.bare.B2/\ys=x.bare.set/\yb=x.bare.km/\(b0=true↔(x.k=2\/x.k=4))/\(b13=true↔x.k=12)/\(b14=true↔x.k=12))->
  ay pg iP [ai] (.dQ (·= .b (x.Fl n))) (bC x.ax (.z n) b0 yv.k yv.n yv.s (yv.l.map aE.ax) yv.r yn yo yl yf ys yb yh b13 b14):=by
  rintro yv yn yo yl yf ys yb yh b0 b13 b14 hyv f1 f3 ⟨K2,K8,K10,K12⟩ ⟨rfl,rfl,rfl,rfl,rfl,rfl,rfl,rfl,B0,B13,B14⟩
  refine L9 ?_
  simp only[rk,Wh.mH,Wh.mI,Wh.sP,Wh.lu,Wh.zf,Wh.di,Wh.gg,Wh.i7,Wh.o0,Wh.iI,Wh.fv,lK,agV,<-aE.aD,agW,agX,aht,ahe,aic]
  refine⟨fun h=>no fun e=>by have:=e.num;omega,fun n0=>⟨fun h=>no fun e=>by have:=e.num;omega,fun n1=>⟨_,_,_,rfl,Iv x.v hxv,?_⟩⟩⟩
  rintro _ rfl
  simp only[D.bz,ahl,ahq]
  refine⟨fun h=>no fun e=>(by rw[e.2.2.2.1]at h;cases h),fun f4=>⟨fun eh=>⟨_,_,_,rfl,UB x.v x.bare.v hxv hyv,?_⟩,fun h=>no fun e=>h (by rw[e.2.1])⟩⟩
  rintro _ rfl
  simp only[D.bz]
  refine⟨fun h=>?_,fun h=>no fun e=>by rw[e.2.1,(aE.Hq _ _).2 rfl]at h;cases h⟩
  have ev:=(aE.Hq _ _).1 h
  refine⟨fun en=>⟨fun elo=>⟨fun eof=>⟨fun eby=>⟨fun eset=>⟨fun efull=>?_,fun h=>no fun e=>h (by rw[e.2.1])⟩,fun h=>no fun e=>h (by rw[e.2.1])⟩,fun h=>no fun e=>h (by rw[e.2.1])⟩,fun h=>no fun e=>h (by rw[e.2.1])⟩,fun h=>no fun e=>h (by rw[e.2.1])⟩,fun h=>no fun e=>h (by rw[e.2.1])⟩
  have bj:∀b:Bool,(b=true↔(b0=true\/x.vs.length=0)/\(b13=true\/x.ns.length=0)/\(b14=true\/x.co.length=0))->D.b b=D.b (x.Fl n):=fun b hb=>by
   congr 1
   rw[ahu,hb,Wh.GI]
   constructor
   ·rintro⟨c0,c13,c14⟩
    rw[B0]at c0;rw[B13]at c13;rw[B14]at c14
    have evs:x.vs.length=x.bare.vs.length:=by
     by_cases c:x.k=2\/x.k=4
     ·simp[Wh.bare,c]
     ·rcases c0 with c0|c0
      ·exact absurd c0 c
      ·simp[Wh.bare,c,c0]
    have ens:x.ns.length=x.bare.ns.length:=by
     by_cases c:x.k=12
     ·simp[Wh.bare,c]
     ·rcases c13 with c0|c0
      ·exact absurd c0 c
      ·simp[Wh.bare,c,c0]
    have eco:x.co.length=x.bare.co.length:=by
     by_cases c:x.k=12
     ·simp[Wh.bare,c]
     ·rcases c14 with c0|c0
      ·exact absurd c0 c
      ·simp[Wh.bare,c,c0]
    have hb2:x.bare=x:=Wh.T5 eh (by rw[<-ev];exact id) evs en elo eof eby eset efull eco ens
    have hl8:x.k≠8->x.lo=0:=fun h=>by rw[<-hb2];simp[Wh.bare,h]
    refine⟨f1,hb2,f3,f4,?_,?_,?_,fun h=>⟨by omega,by omega,?_⟩,fun h=>?_,fun h=>(K12 h).2.2⟩
    ·by_cases c:x.k=2\/x.k=4
     ·exact K2 c
     ·have:x.vs=[]:=by rw[<-hb2];simp[Wh.bare,c]
      rw[this];decide
    ·by_cases c:x.k=12
     ·exact(K12 c).1
     ·have:x.ns=[]:=by rw[<-hb2];simp[Wh.bare,c]
      rw[this];simp
    ·by_cases c:x.k=12
     ·exact(K12 c).2.1
     ·have:x.ns=[]:=by rw[<-hb2];simp[Wh.bare,c]
      rw[this];simp
    ·by_cases c:x.k=8
     ·exact K8 c
     ·have:=hl8 c;omega
    ·rcases K10 h with h|h
     ·exact .inl h
     ·exact .inr (aE.aaH f4 h)
   ·intro e
    rw[B0,B13,B14]
    refine⟨?_,?_,?_⟩
    ·by_cases c:x.k=2\/x.k=4
     ·exact .inl c
     ·right;rw[<-e.2.1];simp[Wh.bare,c]
    ·by_cases c:x.k=12
     ·exact .inl c
     ·right;rw[<-e.2.1];simp[Wh.bare,c]
    ·by_cases c:x.k=12
     ·exact .inl c
     ·right;rw[<-e.2.1];simp[Wh.bare,c]
  simp only[Int.natCast_eq_zero]
  repeat' (first|refine And.intro (fun h=>?_) (fun h=>?_))
  all_goals exact bj _ (by simp_all)
 have loop:∀(ah:List ga) (i:Nat) (yh:Int),x.k=12->yh=x.bare.h->(0<=x.h/\x.h<n)->x.ns.length<=64->St.eu x.co<=512->St.lC x.co=true->x.ns.drop i=ah->(∀m∈x.ns.take i,m.v.cN=true)->
  ay pg iP [ai] (.dQ (·= .b (x.Fl n))) (fX x.ax (.z n) yh i):=by
  intro ah
  induction ah with
  |nil=>
   intro i yh k12 eh f3 f6 f7 f8 hd hm
   have hi:=drop_nil hd
   rw[ag5 hi]at hm
   refine u7 ?_
   simp only[rk,Wh.fv,agV]
   refine⟨fun h=>by simp at h;omega,fun _=>?_⟩
   exact tail .zero _ _ _ _ _ _ _ _ _ _ aE.p6 (by omega) (fun _=>f3) ⟨by omega,by omega,by omega,fun _=>⟨f6,hm,f7,f8⟩⟩ (by simp[Wh.bare,k12,eh])
  |cons m ah ih=>
   intro i yh k12 eh f3 f6 f7 f8 hd hm
   obtain⟨g1,g2,g3⟩:=aB hd
   have hmem:=agY g1
   refine u7 ?_
   simp only[rk,Wh.fv,agV,ag6,bn g1,ga.mI,lK]
   refine⟨fun _=>⟨fun _=>⟨_,_,_,rfl,Iv m.v (hok _ (by simp[Wh.aJ];exact .inr (.inr ⟨m,hmem,rfl⟩))),?_⟩,fun h=>by simp[aU g3]at h⟩,fun h=>by simp at h;omega⟩
   rintro _ rfl
   refine⟨fun h=>no fun e=>?_,fun h=>?_⟩
   ·rw[e.2.2.2.2.2.2.1 m hmem]at h;simp at h
   ·rw[bo g3 (by omega)]
    refine ih (i+1) yh k12 eh f3 f6 f7 f8 g2 fun y hy=>?_
    rw[aQ g1]at hy
    rcases ahd.1 hy with hy|hy
    ·exact hm y hy
    ·simp only[ahb]at hy;subst hy;simpa using h
 refine Wd ?_
 have hw:IntKind.i64.wrap x.k=x.k:=aaf hk0.1 hk0.2
 have lok:(aE.ae x.vs).ok:=by rw[aE.gL];exact⟨by simp[aE.ae,aE.k],by simp[aE.ae,aE.k],by simp[aE.ae,aE.n],by simp[aE.ae,aE.n],by simp[aE.ae,aE.s],by simp only[aE.ae,aE.l];omega,by simp[aE.ae,aE.r],by simp[aE.ae,aE.r],fun v hv=>hok v (by simp[Wh.aJ];exact .inr (.inl hv))⟩
 have lsz:(aE.ae x.vs).cN=true->x.vs.length<=512:=fun h=>by
  have h1:=((aE.cW _).1 h).1
  have h2:=aE.dx x.vs
  have e1:(aE.ae x.vs).size=1+aE.bB x.vs:=rfl
  omega
 simp only[rk,Wh.cU,hw,Wh.mH,Wh.mI,Wh.sP,Wh.lu,Wh.zf,Wh.di,Wh.gg,Wh.i7,Wh.o0,Wh.iI,Wh.fv,<-aE.PJ,aE.cU,aE.lu,aE.BD,aE.vA,aE.BC,D.bV,agV,agW,agX,aht,ahe,aiI,ahV,aic,ahl,ahq]
 have may2:∀(M:Prop),(x.k=2\/x.k=4)->((aE.ae x.vs).cN=true->M)->∀d,d=D.b (aE.ae x.vs).cN->(D.bool d=false->D.b false=D.b (x.Fl n))/\(D.bool d=true->M):=by
  rintro M hk h _ rfl
  exact⟨fun h2=>no fun e=>by rw[e.2.2.2.2.1]at h2;simp at h2,fun h2=>h (by simpa using h2)⟩
 have code2:∀(M:Prop),x.k=12->(St.eu x.co<=512->St.lC x.co=true->M)->∀d,(d=D.z (D.int d)/\Et 0 (St.eu x.co) (D.int d))->((D.int d>512->D.b false=D.b (x.Fl n))/\(¬D.int d>512->∃ts rs Q',Dl nM.cz cw=some (ts,rs)/\fk pg cw ts [.r (x.co.map St.ax)] rs Q'/\∀d,Q' d->(D.bool d=false->D.b false=D.b (x.Fl n))/\(D.bool d=true->M))):=by
  rintro M hk h d ⟨_,hq⟩
  simp only[Et]at hq
  refine⟨fun h1=>no fun e=>by have:=(e.2.2.2.2.2.2.2.2.2 hk).1;omega,fun h1=>⟨_,_,_,rfl,Jc x.co hx.co (by omega),?_⟩⟩
  rintro _ rfl
  simp only[D.bz]
  exact⟨fun h2=>no fun e=>(by rw[(e.2.2.2.2.2.2.2.2.2 hk).2]at h2;cases h2),fun h2=>h (by omega) h2⟩
 refine⟨fun h=>no fun e=>by have:=e.1;omega,fun a0=>⟨fun h=>no fun e=>by have:=e.1;omega,fun a1=>⟨fun Ez=>⟨fun h=>no fun e=>by have:=e.2.2.1 Ez;omega,fun h0=>⟨fun h=>no fun e=>by have:=e.2.2.1 Ez;omega,fun h1=>?_⟩⟩,fun Ez=>?_⟩⟩⟩
 ·have f1:1<=x.k/\x.k<=16:=by omega
  have f3:x.k≠14->0<=x.h/\x.h<n:=fun _=>by omega
  refine⟨fun hk=>tail x.v _ _ _ _ _ _ _ _ _ _ hxv f1 f3 ⟨by omega,by omega,by omega,by omega⟩ (by simp[Wh.bare,hk]),fun _=>⟨fun hk=>⟨fun h=>no fun e=>by have:=lsz e.2.2.2.2.1;omega,fun _=>⟨_,_,_,rfl,Iv _ lok,may2 _ (by omega) fun hm=>tail .zero _ _ _ _ _ _ _ _ _ _ aE.p6 f1 f3 ⟨fun _=>hm,by omega,by omega,by omega⟩ (by simp[Wh.bare,hk])⟩⟩,fun _=>⟨fun hk=>⟨fun h=>no fun e=>by have:=lsz e.2.2.2.2.1;omega,fun _=>⟨_,_,_,rfl,Iv _ lok,may2 _ (by omega) fun hm=>tail .zero _ _ _ _ _ _ _ _ _ _ aE.p6 f1 f3 ⟨fun _=>hm,by omega,by omega,by omega⟩ (by simp[Wh.bare,hk])⟩⟩,fun _=>?_⟩⟩⟩
  have Z:∀{yn yo yl yf ys yb yh b0 b13 b14},(x.k≠2/\x.k≠4/\x.k≠8/\x.k≠10/\x.k≠12)->_->_:=fun {yn yo yl yf ys yb yh b0 b13 b14} (hk:x.k≠2/\x.k≠4/\x.k≠8/\x.k≠10/\x.k≠12) H=>tail .zero yn yo yl yf ys yb yh b0 b13 b14 aE.p6 f1 f3 ⟨by omega,by omega,by omega,by omega⟩ H
  refine⟨fun hk=>Z (by omega) (by simp[Wh.bare,hk]),fun _=>⟨fun hk=>Z (by omega) (by simp[Wh.bare,hk]),fun _=>⟨fun hk=>Z (by omega) (by simp[Wh.bare,hk]),fun _=>⟨fun hk=>tail x.v _ _ _ _ _ _ _ _ _ _ hxv f1 f3 ⟨by omega,by omega,by omega,by omega⟩ (by simp[Wh.bare,hk]),fun _=>?_⟩⟩⟩⟩
  refine⟨fun hk=>⟨fun h=>no fun e=>by have:=e.2.2.2.2.2.2.2.1 (by omega);omega,fun l0=>⟨fun h=>no fun e=>by have:=e.2.2.2.2.2.2.2.1 (by omega);omega,fun l1=>tail .zero _ _ _ _ _ _ _ _ _ _ aE.p6 f1 f3 ⟨by omega,fun _=>by omega,by omega,by omega⟩ (by simp[Wh.bare,hk])⟩⟩,fun _=>⟨fun hk=>Z (by omega) (by simp[Wh.bare,hk]),fun _=>?_⟩⟩
  refine⟨fun hk=>⟨fun hf=>⟨fun h=>no fun e=>?_,fun h=>tail x.v _ _ _ _ _ _ _ _ _ _ hxv f1 f3 ⟨by omega,by omega,fun _=> .inr h,by omega⟩ (by simp[Wh.bare,hk])⟩,fun hf=>tail x.v _ _ _ _ _ _ _ _ _ _ hxv f1 f3 ⟨by omega,by omega,fun _=> .inl hf,by omega⟩ (by simp[Wh.bare,hk])⟩,fun _=>?_⟩
  ·rcases e.2.2.2.2.2.2.2.2.1 hk with h2|h2
   ·rw[hf]at h2;cases h2
   ·rw[(aE.Mu _).1 h2]at h;exact h rfl
  ·refine⟨fun hk=>⟨fun h=>no fun e=>by have:=e.2.2.2.2.2.1;omega,fun h=>⟨_,_,_,rfl,UD x.co hx.co (by omega),code2 _ hk fun c1 c2=>?_⟩⟩,fun _=>⟨fun hk=>Z (by omega) (by simp[Wh.bare,hk]),fun _=>⟨fun hk=>absurd hk Ez,fun _=>⟨fun hk=>Z (by omega) (by simp[Wh.bare,hk]),fun _=>⟨fun hk=>Z (by omega) (by simp[Wh.bare,hk]),fun _=>Z (by omega) ?_⟩⟩⟩⟩⟩
   ·have e:=loop x.ns 0 x.h hk (by simp[Wh.bare,hk]) (by omega) (by omega) c1 c2 rfl (by simp)
    simpa using e
   ·have:x.k=5:=by omega
    simp[Wh.bare,this]
 ·have Ez:x.k=14:=by omega
  refine⟨fun hk=>by omega,fun _=>⟨fun hk=>by omega,fun _=>⟨fun hk=>by omega,fun _=>⟨fun hk=>by omega,fun _=>⟨fun hk=>by omega,fun _=>⟨fun hk=>by omega,fun _=>⟨fun hk=>by omega,fun _=>⟨fun hk=>by omega,fun _=>⟨fun hk=>by omega,fun _=>⟨fun hk=>by omega,fun _=>⟨fun hk=>by omega,fun _=>⟨fun hk=>by omega,fun _=>⟨fun hk=>?_,fun hk=>absurd Ez hk⟩⟩⟩⟩⟩⟩⟩⟩⟩⟩⟩⟩⟩
  exact tail .zero _ _ _ _ _ _ _ _ _ _ aE.p6 (by omega) (by omega) ⟨by omega,by omega,by omega,by omega⟩ (by simp[Wh.bare,hk])
end
end Go.Proofs
end
