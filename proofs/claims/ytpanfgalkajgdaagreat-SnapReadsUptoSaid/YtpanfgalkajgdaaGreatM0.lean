import GoSem.Claims
import Derived.Control
import Derived.Lone
import Derived.Laws.Cells
set_option linter.all false
noncomputable section
namespace Go.World
def iI (w:World)(r:Nat)(o:Obj):World:={w with heap:=w.heap.setIfInBounds r o}
end Go.World
namespace Go.PB
def amk:=@decide_eq_false_iff_not
def aml:=@decide_eq_true_eq
def amm:=@List.length_map
def amn:=@List.mem_of_getElem?
def amo:=@Bool.and_eq_true
def amp:=@Bool.false_eq_true
def amq:=@Int.toNat_natCast
def amr:=@List.getElem?_eq_getElem
def ams:=@List.length_append
def amt:=@if_neg
def amu:=@if_pos
def amv:=@List.take_of_length_le
def amw:=@List.getElem?_eq_some_iff
def amx:=@Bool.true_eq_false
def amy:=@false_implies
def amz:=@List.mem_cons
def amA:=@true_implies
def amB:=@List.length_cons
def amC:=@Nat.eq_of_beq_eq_true
def amD:=@Option.some.injEq
def amE:=@of_decide_eq_false
def amF:=@beq_eq_false_iff_ne
def amG:=@Nat.le_refl
def amH:=@Option.map_some
def amI:=@List.length_take
def amJ:=@Bool.not_eq_true'
def amK:=@Option.some.inj
def amL:=@Array.getElem?_eq_some_iff
def amM:=@List.length_nil
def amN:=@exists_and_left
def amO:=@List.mem_append
def amP:=@Bool.not_eq_false'
def amQ:=@List.mem_singleton
def amR:=@Option.isSome_iff_exists
def amS:=@and_true
def amT:=@ne_of_beq_false
def amU:=@of_decide_eq_true
def amV:=@Array.getElem?_setIfInBounds_self_of_lt
def amW:=@Bool.eq_iff_iff
def amX:=@Nat.lt_of_lt_of_le
def amY:=@beq_iff_eq
def amZ:=@congrArg
def am0:=@Array.getElem?_eq_getElem
def am1:=@true_and
def am2:=@decide_true
def am3:=@List.length_eq_zero_iff
def am4:=@List.mem_cons_of_mem
def am5:=@if_true
def am6:=@List.map_append
def am7:=@Prod.mk.inj
def am8:=@Nat.le_trans
def am9:=@Option.map_eq_some_iff
def ana:=@List.append_nil
def anb:=@List.map_cons
def anc:=@Array.getElem?_setIfInBounds_ne
def ane:=@List.getElem?_take
def anf:=@Bool.true_and
def ang:=@List.all_eq_true
def anh:=@List.mem_map
def ani:=@decide_false
def anj:=@List.getElem?_append
def ank:=@List.map_nil
def anl:=@List.mem_cons_self
def anm:=@decide_eq_true
def ann:=@if_false
def ano:=@List.take_length
def anp:=@List.nodup_cons
def anq:=@Classical.byContradiction
def anr:=@Nat.zero_add
def ans:=@Array.getElem?_toList
def ant:=@Bool.and_eq_false_iff
def anu:=@List.getElem?_eq_none
def anv:=@Array.getD_eq_getD_getElem?
def anw:=@List.getElem?_map
def anx:=@List.drop_zero
def anz:=@List.length_drop
def anA:=@bne_self_eq_false
def anB:=@List.getD_cons_zero
def anC:=@Prod.mk.injEq
def anD:=@Option.isSome_some
def anE:=@bne_eq_false_iff_eq
def anF:=@Nat.mul_le_mul_right
def anG:=@List.getElem?_drop
def anH:=@List.length_replicate
def anI:=@Option.getD_some
def anJ:=@Bool.and_true
def anK:=@List.append_assoc
def anL:=@List.getElem?_of_mem
def anM:=@List.cons_append
def anN:=@Nat.add_zero
def anO:=@List.getElem?_cons_succ
def anP:=@List.getElem?_cons_zero
def anQ:=@List.getElem?_replicate
def anR:=@List.getD_eq_getElem?_getD
def anS:=@Nat.min_eq_left
def anT:=@Option.bind_some
def anU:=@List.drop_eq_getElem_cons
def anV:=@List.getElem?_eq_none_iff
def anW:=@List.take_append_of_le_length
def anX:=@Nat.zero_le
def anY:=@Bool.not_true
def anZ:=@Bool.or_eq_true
def an0:=@List.nil_append
def an1:=@List.getElem?_set_ne
def an2:=@Nat.add_mul
def an3:=@ne_eq
def an4:=@List.drop_drop
def an5:=@List.getD_cons_succ
def an6:=@List.mem_map_of_mem
def an7:=@List.getElem?_append_left
def an8:=@BitVec.toNat_ofInt
def an9:=@List.pairwise_cons
def aoa:=@List.getElem?_take_of_lt
def aob:=@List.eq_nil_of_length_eq_zero
def aoc:=@Int.eq_ofNat_of_zero_le
def aod:=@List.all_append
def aoe:=@List.drop_set_of_lt
def aof:=@Nat.add_assoc
def aog:=@Bool.false_and
def aoh:=@Array.getElem?_modify
def aoi:=@List.mem_append_right
def aoj:=@List.take_append_drop
def aok:=@Nat.le_of_ble_eq_true
def aol:=@List.foldl_cons
def aom:=@Array.all_eq_true_iff_forall_mem
def aon:=@List.getElem?_set
def aoo:=@List.mem_append_left
def aop:=@List.nodup_append
def aoq:=@List.take_succ_eq_append_getElem
def aor:=@and_self
def aos:=@Nat.blt_eq
def aot:=@bne_iff_ne
def aou:=@Array.getElem?_push
def aov:=@Array.length_toList
def aow:=@Array.toList_append
def aox:=@Array.isEmpty_iff_size_eq_zero
def aoy:=@List.tail_cons
def aoz:=@Nat.one_mul
def aoA:=@Array.ext_getElem?
def aoB:=@List.getElem?_set_self
def aoC:=@Bool.and_self
def aoD:=@Bool.false_or
def aoE:=@Nat.lt_irrefl
def aoF:=@Array.ext'
def aoG:=@List.Perm.refl
def aoH:=@List.length_take_le'
def aoI:=@List.perm_ext_iff_of_nodup
def aoJ:=@List.take_zero
def aoK:=@Nat.testBit_or
def aoL:=@Array.mem_filter
def aoM:=@List.any_eq_true
def aoN:=@Nat.add_comm
def aoO:=@List.map_congr_left
def aoP:=@List.take_succ_cons
def aoQ:=@Array.getElem?_replicate
def aoR:=@ByteArray.ext
def aoS:=@List.cons.injEq
def aoT:=@Nat.eq_zero_or_pos
def aoU:=@Nat.add_sub_cancel_left
def aoV:=@Array.getElem?_eq_none
def aoW:=@Array.toList_replicate
def aoX:=@List.all_eq_false
def aoY:=@List.ext_getElem?
def aoZ:=@List.flatten_cons
def ao0:=@List.getElem?_inj
def ao1:=@List.length_pos_of_mem
def ao2:=@List.mem_range
def ao3:=@List.take_add_one
def ao4:=@Nat.lt_succ_of_lt
def ao5:=@List.contains_iff_mem
def ao6:=@Array.eq_empty_of_size_eq_zero
def ao7:=@Array.toList_map
def ao8:=@List.isEmpty_iff
def ao9:=@Option.getD_none
def apa:=@Bool.or_false
def apb:=@Bool.or_eq_false_iff
def apc:=@List.getElem?_modify
def apd:=@List.range_eq_range'
def ape:=@Array.getElem?_setIfInBounds
def apf:=@List.foldr_cons
def apg:=@List.length_pos_iff
def aph:=@Nat.zero_mul
def api:=@Array.forIn_toList
def apj:=@Array.getElem?_append_left
def apk:=@Bool.and_false
def apl:=@List.getElem?_append_right
def apm:=@List.take_take
def apn:=@Nat.add_sub_cancel
def apo:=@Option.isSome_eq_false_iff
def apq:=@Array.mapM_eq_mapM_toList
def apr:=@List.extract_eq_take_drop
def aps:=@Option.isNone_iff_eq_none
def apt:=@Array.size_modify
def apu:=@Array.toList_push
def apv:=@Bool.eq_false_iff
def apw:=@List.flatMap_cons
def apx:=@Int.lt_irrefl
def apy:=@List.drop_append
def apz:=@List.getElem_mem
def apA:=@Option.bind_eq_some_iff
def apB:=@Array.getElem?_push_lt
def apC:=@Bool.true_or
def apD:=@List.drop_eq_nil_of_le
def apE:=@List.drop_of_length_le
def apF:=@List.map_map
def apG:=@Nat.pow_succ
def apH:=@Int.max_eq_left
def apI:=@List.forIn_cons
def apJ:=@List.mem_filter
def apK:=@Nat.not_lt_zero
def apL:=@Bool.and_eq_false_imp
def apM:=@List.contains_toArray
def apN:=@List.length_filter_le
def apO:=@List.length_singleton
def apP:=@List.mem_iff_getElem?
def apQ:=@List.singleton_append
def apR:=@Array.getElem?_range
def apS:=@Bool.not_false
def apT:=@Int.ofNat_eq_natCast
def apU:=@List.drop_take
def apV:=@List.mapM_cons
def apW:=@List.nodup_nil
def apX:=@Nat.pow_le_pow_right
def apY:=@and_assoc
def apZ:=@gt_iff_lt
def ap0:=@List.getElem?_range
def ap1:=@List.length_reverse
def ap2:=@Nat.mul_le_mul_left
def ap3:=@Nat.succ_eq_add_one
def ap4:=@List.all_cons
def ap5:=@Array.getElem?_map
def ap6:=@Int.natCast_nonneg
def ap7:=@List.getLast?_cons
def ap8:=@Nat.beq_eq_true_eq
def ap9:=@Nat.mod_lt
def aqa:=@Option.isSome_none
def aqb:=@Bool.or_true
def aqc:=@Nat.beq_refl
def aqd:=@Nat.le_of_lt
def aqe:=@Nat.succ_mul
def aqf:=@List.map_id
def aqg:=@Nat.mul_one
def aqh:=@Nat.sub_mul
def aqi:=@BEq.rfl
def aqj:=@congrFun
def aqk:=@false_or
end Go.PB
namespace Go.PB
open Go
section
noncomputable section
def ifN {c:Prop}[h:Decidable c](k:¬c:=by omega){α:Type}{a b:α}:ite c a b=b:=amt k
def ifP {c:Prop}[h:Decidable c](k:c:=by omega){α:Type}{a b:α}:ite c a b=a:=amu k
inductive D where
 |z (n:Int)
 |b (b:Bool)
 |s (s:List UInt8)
 |r (l:List D)
 deriving Inhabited
def D.int:D->Int
 | .z n=>n
 |_=>0
def D.bool:D->Bool
 | .b x=>x
 |_=>false
def D.ax:D->List UInt8
 | .s x=>x
 |_=>[]
def D.ae:D->List D
 | .r x=>x
 |_=>[]
def D.at (l:List D)(i:Nat):D:=l.getD i (.z 0)
def D.af (d:D)(i:Nat):D:=D.at d.ae i
mutual
def D.beq:Nat->D->D->Bool
 |0,_,_=>false
 |n+1,a,c=>
  match a,c with
  | .z x,.z y=>x==y
  | .b x,.b y=>x==y
  | .s x,.s y=>x==y
  | .r x,.r y=>D.E8 n x y
  |_,_=>false
def D.E8:Nat->List D->List D->Bool
 |0,_,_=>false
 |n+1,a,c=>
  match a,c with
  | [],[]=>true
  |x::p,y::q=>D.beq n x y&&D.E8 n p q
  |_,_=>false
end
def D.Ht (a b:D):Bool:=@decide (a=b) (Classical.propDecidable _)
def D.ia:List (D×D)->D->Option D
 | [],_=>none
 |p::q,k=>match D.Ht p.1 k with|true=>some p.2|false=>D.ia q k
def D.mC:List (D×D)->D->D->List (D×D)
 | [],_,_=>[]
 |p::q,k,v=>match D.Ht p.1 k with|true=>(p.1,v)::D.mC q k v|false=>p::D.mC q k v
def D.i7 (l:List (D×D))(k:D):Bool:=(D.ia l k).isSome
def D.val (l:List (D×D))(k:D):D:=(D.ia l k).getD (.z 0)
def D.fh:List (D×D)->List D
 | []=>[]
 |p::q=>p.1::D.fh q
def D.kP:List D->List Nat->D->Nat
 |p::q,x::t,k=>match D.Ht p k with|true=>x|false=>D.kP q t k
 |_,_,_=>0
inductive VK where
 |data (e:TypeId)
 |dD (f:Nat) (e:TypeId)
 |Oq
 deriving Inhabited
inductive BV where
 |qd
 |bool (b:Bool)
 |int (k:IntKind) (n:Int)
 |ax (s:List UInt8)
 |gF
 |ie (b off:Nat)
 |ze (cs:List BV)
 |cS
 |nE
 |bx (e:TypeId) (l:List D)
 |IL (e:TypeId) (l:List D)
 |Z0 (b n:Nat)
 |IZ
 |TY
 |nX (t:TypeId) (n:Int)
 |hY (b n:Nat) (vt:Bool)
 |yJ (b:Nat) (e:TypeId) (i off:Nat)
 |sW (b f:Nat) (k:D) (off:Nat)
 |Ri
 |map (b:Nat)
 |func (fn:Fn) (first captured:List BV)
 |agg (cs:List BV)
 |tuple (vs:List BV)
 deriving Inhabited
def BV.undef:BV:= .tuple []
def BV.one:BV->Bool
 | .qd| .agg _| .tuple _=>false
 |_=>true
def BV.xU:BV->Bool
 | .qd=>false
 |_=>true
def BV.cells:BV->List BV
 | .agg cs=>cs
 |v=>[v]
def BV.of:Nat->Value->BV
 |0,_=> .qd
 |n+1,v=>
  match v with
  | .bool b=> .bool b
  | .int k m=> .int k m
  | .string s=> .ax s.data.toList
  | .pointer none=> .gF
  | .slice none 0 0=> .cS
  | .map none=> .Ri
  | .nilIface=> .IZ
  | .nilFunc=> .TY
  | .agg cs=> .agg (cs.toList.map (BV.of n))
  | .tuple cs=> .tuple (cs.toList.map (BV.of n))
  |_=> .qd
def BV.ofv (v:Value):BV:=BV.of 6 v
mutual
def BV.beq:Nat->BV->BV->Bool
 |0,_,_=>false
 |n+1,a,b=>
  match a,b with
  | .bool x,.bool y=>x==y
  | .int k x,.int j y=>k==j&&x==y
  | .ax x,.ax y=>x==y
  | .gF,.gF=>true
  | .ie x o,.ie y p=>x==y&&o==p
  | .ze x,.ze y=>BV.E8 n x y
  | .cS,.cS=>true
  | .bx e l,.bx f m=>e==f&&D.E8 n l m
  | .IL e l,.IL f m=>e==f&&D.E8 n l m
  | .hY x l v,.hY y m u=>x==y&&l==m&&v==u
  | .yJ x e i o,.yJ y f j p=>x==y&&e==f&&i==j&&o==p
  | .sW x e i o,.sW y f j p=>x==y&&e==f&&D.beq n i j&&o==p
  | .Ri,.Ri=>true
  | .IZ,.IZ=>true
  | .TY,.TY=>true
  | .nX t n,.nX u m=>t==u&&n==m
  | .Z0 x n,.Z0 y m=>x==y&&n==m
  | .map x,.map y=>x==y
  | .func f x y,.func g z w=>f==g&&BV.E8 n x z&&BV.E8 n y w
  | .agg x,.agg y=>BV.E8 n x y
  | .tuple x,.tuple y=>BV.E8 n x y
  |_,_=>false
def BV.E8:Nat->List BV->List BV->Bool
 |0,_,_=>false
 |n+1,a,b=>
  match a,b with
  | [],[]=>true
  |x::r,y::s=>BV.beq n x y&&BV.E8 n r s
  |_,_=>false
end
def BV.Xn (u v:BV):Bool:=BV.beq 40 u v||@decide (u=v) (Classical.propDecidable _)
def BV.ZP (u:BV):BV.Xn u u=true:=by unfold BV.Xn;simp
inductive Db where
 |fn (fn:Fn) (captured:List BV)
 |builtin (b:Builtin) (argTypes:Array TypeId) (type:TypeId) (consts:Array Bool)
 deriving Inhabited
structure Ay where
 target:Db
 args:List BV
 deriving Inhabited
inductive aE where
 |cells (cs:List BV) (elem:TypeId) (sish:Bool)
 |bY (e:TypeId) (l:List D) (vt:Bool)
 |cd (kt:TypeId) (vk:VK) (l:List (D×D)) (st:List Nat) (clock:Nat)
 |nb (m:Nat) (ks:List D) (st:List Nat) (clock:Nat) (seen:List D)
 |tQ (b f:Nat) (k:D)
 deriving Inhabited
inductive Tr (α:Type) where
 |leaf
 |node (v:Option α) (l r:Tr α)
 deriving Inhabited
def Tr.get {α:Type}(t:Tr α):Nat->Option α:=
 Tr.rec (fun _=>none) (fun v _ _ I A n=>cond (Nat.beq n 0) v (cond (Nat.beq (Nat.mod n 2) 1) (I (Nat.div n 2)) (A (Nat.sub (Nat.div n 2) 1)))) t
def Tr.Hf {α:Type}:Nat->Tr α->Nat->Option α->Tr α
 |0,t,_,_=>t
 |f+1,t,n,x=>
  match t with
  | .leaf=>cond (Nat.beq n 0) (.node x .leaf .leaf) (cond (Nat.beq (Nat.mod n 2) 1) (.node none (Tr.Hf f .leaf (Nat.div n 2) x) .leaf) (.node none .leaf (Tr.Hf f .leaf (Nat.sub (Nat.div n 2) 1) x)))
  | .node v l r=>cond (Nat.beq n 0) (.node x l r) (cond (Nat.beq (Nat.mod n 2) 1) (.node v (Tr.Hf f l (Nat.div n 2) x) r) (.node v l (Tr.Hf f r (Nat.sub (Nat.div n 2) 1) x)))
structure ai where
 next:Nat
 tr:Tr aE
 deriving Inhabited
def ai.get (h:ai)(b:Nat):Option aE:=Tr.get h.tr b
def ai.put (h:ai)(b:Nat)(o:Option aE):ai:=
 match h with
 | ⟨next,tr⟩=>⟨next,Tr.Hf (b+1) tr b o⟩
def ai.akC (h:ai):ai:=
 match h with
 | ⟨next,tr⟩=>⟨Nat.succ next,tr⟩
def ai.new (h:ai)(o:aE):ai:=
 match h with
 | ⟨next,tr⟩=>⟨Nat.succ next,Tr.Hf (Nat.succ next) tr next (some o)⟩
section
variable (P:Program)
def kF (t:TypeId):Option Nat:=(P.info? t).map (·.size)
def jw (t:TypeId):Option Bool:=(P.underlying t).map fun| .struct _| .array _ _=>true|_=>false
def q7 (t:TypeId):Option BV:=(P.info? t).bind fun i=>i.zero.map BV.ofv
end
def ji (S:TypeId->D->List BV):List Field->Nat->D->List BV
 | [],_,_=>[]
 |f::r,i,d=>S f.type (d.af i)++ji S r (i+1) d
def fq (P:Program):Nat->TypeId->D->List BV
 |0,_,_=>[]
 |n+1,t,d=>
  match P.underlying t with
  |some (.int k)=>[.int k d.int]
  |some .bool=>[.bool d.bool]
  |some .string=>[.ax d.ax]
  |some (.slice e)=>[.bx e d.ae]
  |some (.struct fs)=>ji (fq P n) fs.toList 0 d
  |_=>[]
def aH (P:Program)(t:TypeId)(d:D):List BV:=fq P 8 t d
def LW (F:TypeId->Bool):List Field->Bool
 | []=>true
 |f::r=>F f.type&&LW F r
def CG (P:Program):Nat->TypeId->Bool
 |0,_=>false
 |n+1,t=>
  match P.underlying t with
  |some (.int _)=>true
  |some .bool=>true
  |some .string=>true
  |some (.slice _)=>true
  |some (.struct fs)=>LW (CG P n) fs.toList
  |_=>false
def cZ (P:Program)(t:TypeId):Bool:=CG P 8 t&&(match kF P t with|some n=>Nat.blt 0 n&&Nat.beq (aH P t (.z 0)).length n|none=>false)
def de (P:Program)(t:TypeId)(d:D):BV:=
 match jw P t with
 |some true=> .agg (aH P t d)
 |_=>(match aH P t d with| [v]=>v|_=> .qd)
def BL (P:Program)(e:TypeId)(l:List D):List BV:=l.flatMap (aH P e)
def XF (U:TypeId->List BV->Option (D×List BV)):List Field->List BV->Option (List D×List BV)
 | [],cs=>some ([],cs)
 |f::r,cs=>
  match U f.type cs with
  |some (d,I)=>(match XF U r I with|some (ds,A)=>some (d::ds,A)|none=>none)
  |none=>none
def unF (P:Program):Nat->TypeId->List BV->Option (D×List BV)
 |0,_,_=>none
 |n+1,t,cs=>
  match P.underlying t with
  |some (.int k)=>(match cs with| .int k' m::r=>(match k,k' with|k,k'=>if k=k' then some (.z m,r)else none)|_=>none)
  |some .bool=>(match cs with| .bool b::r=>some (.b b,r)|_=>none)
  |some .string=>(match cs with| .ax s::r=>some (.s s,r)|_=>none)
  |some (.slice e)=>
   (match cs with
   | .bx A l::r=>if e=A then some (.r l,r)else none
   | .cS::r=>some (.r [],r)
   | .nE::r=>some (.r [],r)
   | .IL A l::r=>if e=A then some (.r l,r)else none
   |_=>none)
  |some (.struct fs)=>(match XF (unF P n) fs.toList cs with|some (ds,r)=>some (.r ds,r)|none=>none)
  |_=>none
def XE (P:Program)(t:TypeId)(cs:List BV):Option D:=match unF P 8 t cs with|some (d,[])=>some d|_=>none
def QQ (P:Program)(t:TypeId)(size:Nat):Nat->List BV->Option (List D)
 |0,cs=>(match cs with| []=>some []|_=>none)
 |n+1,cs=>
  match XE P t (cs.take size),QQ P t size n (cs.drop size)with
  |some d,some l=>some (d::l)
  |_,_=>none
def iK (cs:List BV)(off n:Nat):Option (List BV):=
 let r:=(cs.drop off).take n
 if r.length=n then some r else none
def putCells (cs:List BV)(off:Nat)(vs:List BV):Option (List BV):=
 if off+vs.length<=cs.length then some (cs.take off++(vs++cs.drop (off+vs.length)))else none
def LU (P:Program)(h:ai)(b f:Nat)(k:D):Option (TypeId×List (D×D)×TypeId×List Nat×Nat):=
 match h.get b with
 |some (.cd kt (.dD f' e) l st c)=>if Nat.beq f f'&&cZ P e&&D.i7 l k then some (e,l,kt,st,c)else none
 |_=>none
def J9 (P:Program)(h:ai)(A:Bool)(n:Nat)(b f:Nat)(k:D)(off:Nat):Option BV:=
 match LU P h b f k with
 |some (e,l,_)=>if A then (iK (aH P e (D.val l k)) off n).map .agg else (aH P e (D.val l k))[off]?
 |none=>none
def Ag (P:Program)(h:ai)(t:TypeId)(a:BV):Option BV:=
 match jw P t,kF P t with
 |some A,some n=>
  match a with
  | .ie b off=>
    match h.get b with
    |some (.cells cs _ _)=>if A then (iK cs off n).map .agg else cs[off]?
    |some (.tQ b' f k)=>J9 P h A n b' f k off
    |_=>none
  | .sW b f k off=>J9 P h A n b f k off
  | .ze cs=>if A then (iK cs 0 n).map .agg else cs[0]?
  | .yJ b e i off=>
    match h.get b with
    |some (.bY I l _)=>if Nat.beq e I&&cZ P e then (if i<l.length then (if A then (iK (aH P e (D.at l i)) off n).map .agg else (aH P e (D.at l i))[off]?)else none)else none
    |_=>none
  |_=>none
 |_,_=>none
def My (P:Program)(h:ai)(n:Nat)(b f:Nat)(k:D)(off:Nat)(v:BV):Option ai:=
 if v.cells.length=n&&v.cells.all BV.one then
  (match LU P h b f k with
  |some (e,l,kt,st,c)=>
   (match putCells (aH P e (D.val l k)) off v.cells with
   |some cs=>(match XE P e cs with
    |some d=>some (h.put b (some (.cd kt (.dD f e) (D.mC l k d) st c)))
    |none=>none)
   |none=>none)
  |none=>none)
 else none
def B2 (P:Program)(h:ai)(t:TypeId)(a v:BV):Option ai:=
 match kF P t,a with
 |some n,.ie b off=>
  match h.get b with
  |some (.cells cs e s)=>if v.cells.length=n&&v.cells.all BV.one then (putCells cs off v.cells).map fun A=>h.put b (some (.cells A e s))else none
  |some (.tQ b' f k)=>My P h n b' f k off v
  |_=>none
 |some n,.sW b f k off=>My P h n b f k off v
 |some n,.yJ b e i off=>
  match h.get b with
  |some (.bY I l vt)=>
   if v.cells.length=n&&v.cells.all BV.one&&(Nat.beq e I&&cZ P e)then
    (match putCells (aH P e (D.at l i)) off v.cells with
    |some cs=>(match XE P e cs with
     |some d=>if i<l.length then some (h.put b (some (.bY e (l.set i d) vt)))else none
     |none=>none)
    |none=>none)
   else none
  |_=>none
 |_,_=>none
def Ly (P:Program)(h:ai)(t:TypeId)(v:BV):Option (BV×ai):=
 if v.cells.all BV.one then some (.ie h.next 0,h.new (.cells v.cells t false))else none
def HC (P:Program)(t:TypeId)(cs:List BV)(off:Nat):Option BV:=
 match jw P t,kF P t with
 |some true,some n=>(iK cs off n).map .agg
 |some false,_=>cs[off]?
 |_,_=>none
def tZ (P:Program)(E:TypeId->BV->BV->Option Bool):List Field->List BV->List BV->Option Bool
 | [],_,_=>some true
 |f::r,xs,ys=>
  if f.name≠ "_" then
   match HC P f.type xs f.offset,HC P f.type ys f.offset with
   |some a,some b=>(match E f.type a b with|some true=>tZ P E r xs ys|some false=>some false|none=>none)
   |_,_=>none
  else tZ P E r xs ys
def afr:BV->Option Bool
 | .gF=>some true
 | .ie _ _=>some false
 | .ze _=>some false
 | .sW _ _ _ _=>some false
 |_=>none
def TX:BV->Option Bool
 | .cS=>some true
 | .nE=>some false
 | .bx _ (_::_)=>some false
 | .hY _ (_+1) _=>some false
 |_=>none
def afq:BV->Option Bool
 | .Ri=>some true
 | .map _=>some false
 |_=>none
def Kd:Option Bool->Option Bool->Option Bool
 |some true,b=>b
 |b,some true=>b
 |_,_=>none
def Jg (P:Program):Nat->TypeId->BV->BV->Option Bool
 |0,_,_,_=>none
 |d+1,t,x,y=>
  match P.underlying t,x,y with
  |some .bool,.bool a,.bool b=>some (a==b)
  |some (.int _),.int k a,.int k' b=>if k=k' then some (a==b)else none
  |some .string,.ax a,.ax b=>some (a==b)
  |some (.pointer _),x,y=>Kd (afr x) (afr y)
  |some (.interface _),.IZ,.IZ=>some true
  |some (.slice _),x,y=>Kd (TX x) (TX y)
  |some (.map _ _),x,y=>Kd (afq x) (afq y)
  |some (.struct gX),.agg xs,.agg ys=>if P.stoodInHeld t then none else tZ P (Jg P d) gX.toList xs ys
  |_,_,_=>none
def Ft (P:Program)(op:BinOp)(t:TypeId)(x y:Operand)(a b:BV):Bool:=
 match op with
 | .eql| .neq=>
   match a,b with
   | .agg _,.agg _=>!P.eqGuardType P.depth t
   | .IZ,.IZ=>(x matches .const _)||(y matches .const _)
   |_,_=>true
 |_=>true
def JA:List UInt8->List UInt8->Bool:=Op.bytesLess
def Dp (P:Program)(op:BinOp)(t:TypeId)(x y:BV):Option BV:=
 match op,x,y with
 | .shl,.int k a,.int _ b=>if b<0 then none else some (.int k (k.wrap (a*2^(min b.toNat k.bits))))
 | .shr,.int k a,.int _ b=>if b<0 then none else some (.int k (a.fdiv (2^(min b.toNat k.bits))))
 |_,.int k a,.int k' b=>
  if k≠k' then none else
  match op with
  | .add=>some (.int k (k.wrap (a+b)))
  | .sub=>some (.int k (k.wrap (a-b)))
  | .mul=>some (.int k (k.wrap (a*b)))
  | .quo=>if b=0 then none else some (.int k (k.wrap (a.tdiv b)))
  | .rem=>if b=0 then none else some (.int k (a.tmod b))
  | .and=>some (.int k (k.wrap (BitVec.ofInt k.bits a &&& BitVec.ofInt k.bits b).toNat))
  | .or=>some (.int k (k.wrap (BitVec.ofInt k.bits a ||| BitVec.ofInt k.bits b).toNat))
  | .xor=>some (.int k (k.wrap (BitVec.ofInt k.bits a ^^^ BitVec.ofInt k.bits b).toNat))
  | .andNot=>some (.int k (k.wrap (BitVec.ofInt k.bits a &&& ~~~(BitVec.ofInt k.bits b)).toNat))
  | .eql=>some (.bool (a==b))
  | .neq=>some (.bool (a !=b))
  | .lss=>some (.bool (decide (a<b)))
  | .leq=>some (.bool (decide (a<=b)))
  | .gtr=>some (.bool (decide (a>b)))
  | .geq=>some (.bool (decide (a≥b)))
  |_=>none
 |_,.ax a,.ax b=>
  match op with
  | .add=>if a.length+b.length<2^62 then some (.ax (a++b))else none
  | .eql=>some (.bool (a==b))
  | .neq=>some (.bool (!(a==b)))
  | .lss=>some (.bool (JA a b))
  | .leq=>some (.bool (JA a b||a==b))
  | .gtr=>some (.bool (!(JA a b||a==b)))
  | .geq=>some (.bool (!JA a b))
  |_=>none
 | .eql,x,y=>(Jg P 12 t x y).map .bool
 | .neq,x,y=>(Jg P 12 t x y).map fun b=> .bool (!b)
 |_,_,_=>none
def unB (op:UnOp)(x:BV):Option BV:=
 match op,x with
 | .neg,.int k n=>some (.int k (k.wrap (0-n)))
 | .xor,.int k n=>some (.int k (k.wrap (BitVec.ofInt k.bits (if k.signed then-1 else k.max) ^^^ BitVec.ofInt k.bits n).toNat))
 | .not,.bool b=>some (.bool !b)
 |_,_=>none
def goI (n:Nat):BV:= .int .i64 n
def ahv:TypeDesc->Bool
 | .int _=>true
 |_=>false
def bh (A m:Nat):Bool:=decide ((2*m+1024)*A<=2^47)
def U3 (P:Program)(e:TypeId)(size:Nat):Bool:=
 match q7 P e with
 |some z=>z.xU&&z.cells.length==size
 |none=>false
def N9 (h:ai)(e:TypeId):BV->Option (List D)
 | .cS=>some []
 | .nE=>some []
 | .IL A l=>if Nat.beq e A then some l else none
 | .bx A l=>if Nat.beq e A then some l else none
 | .hY b n _=>(match h.get b with|some (.bY A l _)=>if Nat.beq e A then (if n<=l.length then some (l.take n)else none)else none|_=>none)
 |_=>none
def kf (s:List UInt8):List D:=s.map fun b=> .z b.toNat
def bO (l:List D):List UInt8:=l.map fun d=>UInt8.ofNat d.int.toNat
def ML (P:Program)(e:TypeId):Bool:=match P.underlying e with|some (.int .u8)=>true|_=>false
def adC (P:Program)(h:ai)(e:TypeId):BV->Option (List D)
 | .ax s=>if ML P e&&cZ P e then some (kf s)else none
 |x=>N9 h e x
def Dm (h:ai)(e:TypeId)(A:Nat)(s:BV)(xs:List D):Option (BV×ai):=
 match s with
 | .hY b n vt=>
   (match h.get b with
   |some (.bY I l J)=>if Nat.beq e I&&(vt==J)then (if decide (n=l.length)&&bh A (n+xs.length)then some (.hY h.next (n+xs.length) vt,(h.put b none).new (.bY e (l++xs) vt))else none)else none
   |_=>none)
 | .cS=>if bh A xs.length then some (.hY h.next xs.length true,h.new (.bY e xs true))else none
 | .IL I l=>if Nat.beq e I then (if (decide (0<xs.length)||decide (l.length=0))&&bh A (l.length+xs.length)then some (.hY h.next (l.length+xs.length) true,h.new (.bY e (l++xs) true))else none)else none
 |_=>none
def Jy (P:Program)(h:ai)(argTypes:Array TypeId)(args:List BV):Option (BV×ai):=
 match argTypes[0]?,argTypes[1]?,args with
 |some st,some A,[s,x]=>
  match P.underlying st,P.underlying A with
  |some (.slice e),some I=>
   match P.info? e with
   |some i=>
    if cZ P e&&!(ahv I)&&!(i.bytes==0||!U3 P e i.size)then
     (match adC P h e x with
     |some xs=>Dm h e i.bytes s xs
     |none=>none)else none
   |none=>none
  |_,_=>none
 |_,_,_=>none
def GQ (P:Program)(K:TypeId->BV->Bool):List Field->List BV->Bool
 | [],_=>true
 |f::r,cs=>(if f.name≠ "_" then (match HC P f.type cs f.offset with|some x=>K f.type x|none=>false)else true)&&GQ P K r cs
def FC (P:Program):Nat->TypeId->BV->Bool
 |0,_,_=>false
 |n+1,t,v=>
  match P.underlying t,v with
  |some (.struct fs),.agg cs=>GQ P (FC P n) fs.toList cs
  |some (.int _),.int _ _=>true
  |some .string,.ax _=>true
  |some .bool,.bool _=>true
  |_,_=>false
def zF:BV->Bool
 | .int .. | .ax _| .bool _=>true
 | .agg cs=>cs.all fun c=>match c with| .int .. | .ax _| .bool _=>true|_=>false
 |_=>false
def sJ (P:Program):List Field->Nat->Bool
 | [],_=>true
 |f::r,i=>f.name != "_"&&Nat.beq f.offset i&&(match P.underlying f.type with|some (.int _)=>true|some .bool=>true|some .string=>true|_=>false)&&(match kF P f.type with|some n=>Nat.beq n 1|none=>false)&&sJ P r (i+1)
def D0 (P:Program)(t:TypeId):Bool:=
 cZ P t&&(match P.underlying t with
 |some (.int _)=>true
 |some .bool=>true
 |some .string=>true
 |some (.struct fs)=>sJ P fs.toList 0&&!P.stoodInHeld t
 |_=>false)
def unV (P:Program)(t:TypeId)(v:BV):Option D:=
 match jw P t with
 |some true=>(match v with| .agg cs=>XE P t cs|_=>none)
 |some false=>XE P t [v]
 |none=>none
def YK (P:Program)(kt:TypeId)(k:BV):Option D:=if D0 P kt then unV P kt k else none
def Ap (P:Program)(b:Nat)(A:TypeId)(vk:VK)(l:List (D×D))(k:D):Option BV:=
 match vk with
 | .data I=>if cZ P A&&Nat.beq A I then (if D.i7 l k then some (de P A (D.val l k))else q7 P A)else none
 | .dD f _=>if D.i7 l k then some (.sW b f k 0)else q7 P A
 | .Oq=>if D.i7 l k then some (.func (.func (D.val l k).int.toNat) [] [])else q7 P A
def y6 (P:Program)(h:ai)(t:TypeId)(x k:BV)(ok:Bool):Option BV:=
 match P.underlying t with
 |some (.map kt I)=>
  if !FC P 4 kt k then none else
  match x with
  | .map r=>
    (match h.get r with
    |some (.cd A vk l _ _)=>
     (match YK P kt k with
     |some d=>if Nat.beq kt A then (match Ap P r I vk l d with|some v=>some (if ok then .tuple [v,.bool (D.i7 l d)]else v)|none=>none)else none
     |none=>none)
    |_=>none)
  |_=>none
 |_=>none
def Nz (P:Program)(h:ai)(r:Nat)(kt:TypeId)(vk:VK)(l:List (D×D))(st:List Nat)(clock:Nat)(k:D)(v:BV):Option ai:=
 match vk with
 | .data A=>
   if cZ P A then
    (match unV P A v with
    |some d=>if D.i7 l k then some (h.put r (some (.cd kt vk (D.mC l k d) st clock)))else some (h.put r (some (.cd kt vk (l++[(k,d)]) (st++[clock]) (clock+1))))
    |none=>none)
   else none
 | .dD f e=>
   if cZ P e then
   (match v with
   | .ie c off=>
     (match h.get c with
     |some (.cells cs I false)=>
      if Nat.beq e I&&Nat.beq off 0 then
       (match XE P e cs with
       |some d=>if D.i7 l k then none else some ((h.put c (some (.tQ r f k))).put r (some (.cd kt vk (l++[(k,d)]) (st++[clock]) (clock+1))))
       |none=>none)
      else none
     |_=>none)
   |_=>none)
   else none
 | .Oq=>(match v with| .func (.func f) [] []=>if D.i7 l k then none else some (h.put r (some (.cd kt .Oq (l++[(k,.z (Int.ofNat f))]) (st++[clock]) (clock+1))))|_=>none)
def mA (P:Program)(h:ai)(t:TypeId)(m k v:BV):Option ai:=
 match P.underlying t,m with
 |some (.map kt _),.map r=>
  if !FC P 4 kt k then none else
  match h.get r with
  |some (.cd A vk l st clock)=>
   (match YK P kt k with
   |some d=>if Nat.beq kt A then Nz P h r kt vk l st clock d v else none
   |none=>none)
  |_=>none
 |_,_=>none
def ZH (P:Program)(h:ai)(t:TypeId)(x:BV):Option (BV×ai):=
 match P.underlying t,x with
 |some (.map _ _),.map m=>
  match h.get m with
  |some (.cd _ _ l st clock)=>some (.ie h.next 0,h.new (.nb m (D.fh l) st clock []))
  |_=>none
 |_,_=>none
def Bz (P:Program)(b:Nat)(kt:TypeId)(vk:VK)(l:List (D×D))(k:D):Option (BV×BV):=
 if cZ P kt then
 (match vk with
 | .data A=>if cZ P A then some (de P kt k,de P A (D.val l k))else none
 | .dD f _=>some (de P kt k,.sW b f k 0)
 | .Oq=>none)
 else none
def xR (l:List (D×D))(st:List Nat)(clock:Nat)(ks:List D)(st':List Nat)(A:Nat):Bool:=@decide (D.fh l=ks/\st=st'/\clock=A) (Classical.propDecidable _)
def BR (P:Program)(h:ai)(it:BV):Option BV:=
 match it with
 | .ie r 0=>
   match h.get r with
   |some (.nb m ks st clock seen)=>
    (match seen.head?,h.get m with
    |some k,some (.cd kt vk l st' A)=>if xR l st' A ks st clock then (Bz P m kt vk l k).map fun p=> .tuple [p.1,p.2]else none
    |_,_=>none)
   |_=>none
 |_=>none
def IQ (P:Program)(t:TypeId)(x:BV)(i:Nat):Option BV:=
 match P.underlying t with
 |some (.struct fs)=>
  match fs[i]? with
  |some f=>
   match kF P f.type with
   |some (_+1)=>
    match x with
    | .ie b off=>some (.ie b (off+f.offset))
    | .ze cs=>some (.ze (cs.drop f.offset))
    | .yJ b e i off=>some (.yJ b e i (off+f.offset))
    | .sW b g k off=>some (.sW b g k (off+f.offset))
    |_=>none
   |_=>none
  |none=>none
 |_=>none
def kC (P:Program)(t:TypeId)(x I:BV):Option BV:=
 match I with
 | .int _ i=>
   if i<0 then none else
   let i:=i.toNat
   match P.underlying t with
   |some (.slice e)=>
    match kF P e with
    |some size=>
     match x with
     | .bx A l=>if Nat.beq e A&&cZ P e then (if i<l.length then some (.ze (aH P e (D.at l i)))else none)else none
     | .IL A l=>if Nat.beq e A&&cZ P e then (if i<l.length then some (.ze (aH P e (D.at l i)))else none)else none
     | .hY b n _=>if cZ P e then (if i<n then some (.yJ b e i 0)else none)else none
     | .Z0 b n=>if i<n then some (.ie b (i*size))else none
     |_=>none
    |none=>none
   |some (.array len e)=>
    (match kF P e,x with
    |some size,.ie b off=>if i<len then some (.ie b (off+i*size))else none
    |_,_=>none)
   |_=>none
 |_=>none
def LY (P:Program)(t:TypeId)(x A:BV):Option BV:=
 match A with
 | .int _ i=>
   if i<0 then none else
   let i:=i.toNat
   match P.underlying t,x with
   |some .string,.ax s=>(match s[i]? with|some b=>some (.int .u8 b.toNat)|none=>none)
   |_,_=>none
 |_=>none
def Yx (P:Program)(t:TypeId)(x:BV)(i:Nat):Option BV:=
 match P.underlying t,x with
 |some (.struct fs),.agg cs=>(match fs[i]? with|some f=>HC P f.type cs f.offset|none=>none)
 |_,_=>none
def mS:Option BV->Option (Option Nat)
 |none=>some none
 |some (.int _ i)=>if i<0 then none else some (some i.toNat)
 |_=>none
def pK (l:List D)(lo hi:Nat):List D:=match Nat.beq hi 0 with|true=>[]|false=>(l.take hi).drop lo
def sliceB (P:Program)(t:TypeId)(x:BV)(lo hi mx:Option BV):Option BV:=
 match mS lo,mS hi,mS mx with
 |some lo,some hi,some mx=>
  let l:=lo.getD 0
  match P.underlying t,x with
  |some .string,.ax s=>
   let A:=hi.getD s.length
   if mx.isNone&&l<=A&&A<=s.length then some (.ax ((s.take A).drop l))else none
  |some (.slice e),.cS=>if l=0&&hi.getD 0=0&&mx.getD 0=0&&((kF P e).isSome&&(mx.isNone||hi.isSome))then some .cS else none
  |some (.slice e),.bx I l'=>
   if Nat.beq e I&&cZ P e then
    (match mx with
    |none=>if decide (l<=hi.getD l'.length)&&decide (hi.getD l'.length<=l'.length)then some (.bx e (pK l' l (hi.getD l'.length)))else none
    |some m=>if Nat.beq m (hi.getD l'.length)&&hi.isSome&&decide (l<=hi.getD l'.length)&&decide (hi.getD l'.length<=l'.length)then some (.IL e (pK l' l (hi.getD l'.length)))else none)
   else none
  |some (.slice e),.hY b n vt=>if cZ P e&&Nat.beq l 0&&Nat.beq (hi.getD 1) 0&&Nat.beq (mx.getD 1) 0 then some (.IL e [])else if cZ P e&&Nat.beq l 0&&(hi.isSome&&mx.isSome)&&Nat.beq (hi.getD 0) n&&Nat.beq (mx.getD 0) n then some (.hY b n vt)else none
  |some (.slice e),.IL I l'=>
   if Nat.beq e I&&cZ P e then
    (match mx with
    |none=>if decide (l<=hi.getD l'.length)&&decide (hi.getD l'.length<=l'.length)then some (.bx e (pK l' l (hi.getD l'.length)))else none
    |some m=>if Nat.beq m (hi.getD l'.length)&&hi.isSome&&decide (l<=hi.getD l'.length)&&decide (hi.getD l'.length<=l'.length)then some (.IL e (pK l' l (hi.getD l'.length)))else none)
   else none
  |_,_=>none
 |_,_,_=>none
def Hu (A:Nat->Option (Nat×Nat))(cells:List BV):List (Nat×BV)->Option (List BV)
 | []=>some cells
 | (i,v)::rest=>
   match A i with
   |none=>none
   |some (off,size)=>if v.cells.length=size&&v.xU then (match putCells cells off v.cells with|some TA=>Hu A TA rest|none=>none)else none
def af3 (P:Program)(fs:Array Field):Option (List (Nat×Nat)):=
 fs.toList.mapM fun f=>(kF P f.type).map fun s=>(f.offset,s)
def Yb (P:Program)(t:TypeId)(A:List (Nat×BV)):Option BV:=
 match q7 P t,P.underlying t with
 |some (.agg I),some (.struct fs)=>
  match af3 P fs with
  |some ps=>(Hu (fun i=>ps[i]?) I A).map .agg
  |none=>none
 |some (.agg I),some (.array _ e)=>
  match kF P e with
  |some size=>(Hu (fun i=>some (i*size,size)) I A).map .agg
  |none=>none
 |_,_=>none
def Mt (z:List BV):Nat->List BV
 |0=>[]
 |n+1=>z++Mt z n
def AK (P:Program)(h:ai)(t:TypeId)(len:Nat)(I:List (Nat×BV)):Option (BV×ai):=
 match P.underlying t with
 |some (.slice e)=>
  match kF P e,q7 P e with
  |some (A+1),some z=>
   let size:=A+1
   if len*size>2^24\/z.cells.length≠size\/¬z.cells.all BV.one then none else
   match Hu (fun i=>some (i*size,size)) (Mt z.cells len) I with
   |some cs=>if cs.all BV.one then
     (match (if cZ P e&&Nat.beq cs.length (len*size)then QQ P e size len cs else none)with
     |some l=>some (.hY h.next len false,h.new (.bY e l false))
     |none=>some (.Z0 h.next len,h.new (.cells cs e false)))else none
   |none=>none
  |_,_=>none
 |_=>none
def wz (P:Program)(h:ai)(t:TypeId)(len cap:BV):Option (BV×ai):=
 match P.underlying t,len,cap with
 |some (.slice e),.int _ l,.int _ c=>
  match P.info? e,q7 P e with
  |some i,some z=>
   if cZ P e&&z.cells.all BV.one then
    (match XE P e z.cells with
    |some d=>if decide (0<=l)&&decide (l<=c)&&decide (c<2^40)&&decide (i.bytes*c<=2^47)then some (.hY h.next l.toNat false,h.new (.bY e (List.replicate l.toNat d) false))else none
    |none=>none)
   else none
  |_,_=>none
 |_,_,_=>none
def tV (P:Program)(h:ai)(A dst:TypeId)(x:BV):Option BV:=
 match P.underlying A,P.underlying dst,x with
 |some _,some (.int k),.int _ n=>some (.int k (k.wrap n))
 |some _,some .string,.ax s=>some (.ax s)
 |some (.slice e),some .string,x=>if ML P e&&cZ P e then (N9 h e x).map fun l=> .ax (bO l)else none
 |_,_,_=>none
def Yc (P:Program)(h:ai)(A dst:TypeId)(x:BV):Option (BV×ai):=
 match P.underlying A,P.underlying dst,x with
 |some .string,some (.slice e),.ax s=>if ML P e&&cZ P e then some (.hY h.next s.length false,h.new (.bY e (kf s) false))else none
 |_,_,_=>none
inductive bP where
 |defer (d:Ay)
 |recover
 |value (v:BV)
 |skip
 |enter (f:FuncId) (args:List BV)
 deriving Inhabited
def ahG:BV->BV->Option BV
 | .int k x,.int _ y=>some (.int k (if y<x then y else x))
 |_,_=>none
def ahC:BV->BV->Option BV
 | .int k x,.int _ y=>some (.int k (if y>x then y else x))
 |_,_=>none
def YN (P:Program)(h:ai)(argTypes:Array TypeId)(args:List BV):Option BV:=
 match argTypes[0]?,args with
 |some t,[x]=>
  match P.underlying t,x with
  |some .string,.ax s=>some (goI s.length)
  |some (.slice _),.cS=>some (goI 0)
  |some (.slice _),.nE=>some (goI 0)
  |some (.slice _),.bx _ l=>some (goI l.length)
  |some (.slice _),.IL _ l=>some (goI l.length)
  |some (.slice _),.hY _ n _=>some (goI n)
  |some (.slice _),.Z0 _ n=>some (goI n)
  |some (.map _ _),.map r=>(match h.get r with|some (.cd _ _ l _ _)=>some (goI l.length)|_=>none)
  |_,_=>none
 |_,_=>none
def Fa (P:Program)(h:ai)(b:Builtin)(argTypes:Array TypeId)(args:List BV):Option (bP×ai):=
 let v (r:Option (BV×ai)):Option (bP×ai):=r.map fun (x,h)=>(.value x,h)
 match b with
 | .append=>v (Jy P h argTypes args)
 | .len=>(YN P h argTypes args).map fun x=>(.value x,h)
 | .min=>(match args with| []=>none|x::r=>(r.foldlM ahG x).map fun x=>(.value x,h))
 | .recover=>some (.recover,h)
 | .max=>(match args with| []=>none|x::r=>(r.foldlM ahC x).map fun x=>(.value x,h))
 |_=>none
def TP (P:Program)(f:FuncId):Bool:=
 match P.funcs[f]? with
 |some fn=>fn.body.isSome&&!(fn.name== "runtime.NumGoroutine")
 |none=>false
def Cv (P:Program)(f:FuncId)(args:List BV):Option bP:=
 if TP P f then some (.enter f args)else none
def GP (P:Program)(h:ai)(t:Db)(args:List BV):Option (bP×ai):=
 match t with
 | .builtin b argTypes _ _=>Fa P h b argTypes args
 | .fn (.func f) captured=>(Cv P f (args++captured)).map fun n=>(n,h)
 |_=>none
def TZ (f:BV)(args:List BV):Option Ay:=
 match f with
 | .func fn first captured=>some {target:= .fn fn captured,args:=first++args}
 |_=>none
def xO (ρ:Operand->BV)(c:Call)(type:TypeId):Option Ay:=
 let args:=c.args.toList.map ρ
 match c.callee with
 | .builtin b=>some {target:= .builtin b c.argTypes type (c.args.map fun| .const _=>true|_=>false),args}
 | .value f=>TZ (ρ f) args
 |_=>none
def sH (P:Program)(h:ai)(kt A:TypeId):Option aE:=
 if D0 P kt then
  (if cZ P A then some (.cd kt (.data A) [] [] 0)else
  match P.underlying A with
  |some (.pointer e)=>if cZ P e then some (.cd kt (.dD h.next e) [] [] 0)else none
  |some (.func _ _ _)=>some (.cd kt .Oq [] [] 0)
  |_=>none)
 else none
def HB (P:Program)(h:ai)(ρ:Operand->BV)(o:Oper):Option (bP×ai):=
 let v (r:Option BV):Option (bP×ai):=r.map fun x=>(.value x,h)
 let vh (r:Option (BV×ai)):Option (bP×ai):=r.map fun (x,h)=>(.value x,h)
 let u (r:Option ai):Option (bP×ai):=r.map fun h=>(.skip,h)
 match o.op with
 | .move x| .assign x=>some (.value (ρ x),h)
 | .pick c a b=>(match ρ c with| .bool c=>some (.value (if c then ρ a else ρ b),h)|_=>none)
 | .alloc elem=>vh ((q7 P elem).bind (Ly P h elem))
 | .box elem x=>vh (Ly P h elem (ρ x))
 | .build t A=>v (Yb P t (A.toList.map fun (i,x)=>(i,ρ x)))
 | .buildSlice t len A=>vh (AK P h t len (A.toList.map fun (i,x)=>(i,ρ x)))
 | .load t a=>v (Ag P h t (ρ a))
 | .store t a x=>u (B2 P h t (ρ a) (ρ x))
 | .nilCheck x=>
   (match ρ x with
   | .ie b o=>some (.value (.ie b o),h)
   | .ze cs=>some (.value (.ze cs),h)
   | .yJ b e i o=>some (.value (.yJ b e i o),h)
   | .sW b f k o=>some (.value (.sW b f k o),h)
   | .func fn a b=>(match fn with| .method _=>none|_=>some (.value (.func fn a b),h))
   |_=>none)
 | .binOp op t x y _=>if Ft P op t x y (ρ x) (ρ y)then v (Dp P op t (ρ x) (ρ y))else none
 | .unOp op _ x=>v (unB op (ρ x))
 | .convert J dst x=>v (tV P h J dst (ρ x))
 | .makeFunc fn first captured=>(match fn with| .yield _=>none|_=>some (.value (.func fn (first.toList.map ρ) (captured.toList.map ρ)),h))
 | .makeMap t r=>(match r.map ρ with|none|some (.int _ _)=>(match P.underlying t with|some (.map kt O)=>(sH P h kt O).map fun o=>(.value (.map h.next),h.new o)|_=>none)|_=>none)
 | .makeSlice t l c=>vh (wz P h t (ρ l) (ρ c))
 | .slice t x lo hi mx=>v (sliceB P t (ρ x) (lo.map ρ) (hi.map ρ) (mx.map ρ))
 | .fieldAddr t x i=>v (IQ P t (ρ x) i)
 | .field t x i=>v (Yx P t (ρ x) i)
 | .indexAddr t x I=>v (kC P t (ρ x) (ρ I))
 | .index t x I=>v (LY P t (ρ x) (ρ I))
 | .lookup t x I ok=>v (y6 P h t (ρ x) (ρ I) ok)
 | .mapUpdate t m k x| .insert t m k x=>u (mA P h t (ρ m) (ρ k) (ρ x))
 | .range t x=>vh (ZH P h t (ρ x))
 | .entry it=>v (BR P h (ρ it))
 | .extract t i=>(match ρ t with| .tuple vs=>v vs[i]? |_=>none)
 | .call c=>(xO ρ c o.type).bind fun d=>GP P h d.target d.args
 | .defer c=>(xO ρ c o.type).map fun d=>(.defer d,h)
 |_=>none
def opR (P:Program)(h:ai)(ρ:Operand->BV)(o:Oper):Option (bP×ai):=
 match o.op with
 | .convert A dst x=>(match Yc P h A dst (ρ x)with|some r=>some (.value r.1,r.2)|none=>HB P h ρ o)
 |_=>HB P h ρ o
structure Lr where
 aZ:Array Oper
 cN:List BV
 aN:List (Option BV)
 dB:List Nat
 deriving Inhabited
inductive ig where
 |code (c:Code)
 |inBlock (id:Nat)
 |inLoop (body:Code)
 |inScope (body:Code)
 |inRegion (aZ:Array Oper) (todo:List Nat)
 |js (d:Lr)
 deriving Inhabited
inductive aam where
 |run
 |returning
 deriving Inhabited
structure bE where
 fn:FuncId
 dw:List BV
 todo:List ig
 defers:List Ay
 mode:aam
 kind:CallKind
 roundOf:Option Nat
 deriving Inhabited
structure av where
 fr:bE
 cs:List bE
 h:ai
 deriving Inhabited
def AV (dw:List BV):Operand->BV
 | .tmp t=>dw.getD t BV.undef
 | .const v=>BV.ofv v
 | .global _=> .qd
 | .func f=> .func (.func f) [] []
def yc (dw:List BV)(dst:Option Nat)(v:BV):List BV:=
 match dst with
 |some d=>dw.set d v
 |none=>dw
def Q0 (aZ:Array Oper)(dw:Nat->Option BV)(j:Nat):Option (Option Bool):=
 match (aZ[j]?).bind (·.dst)with
 |some d=>(match dw d with|some (.bool b)=>some (some b)|some .qd=>none|_=>some none)
 |none=>some none
def nP (o:Oper)(aZ:Array Oper)(dw:Nat->Option BV):Option Bool:=
 match o.guard with
 |none=>some true
 |some (j,A)=>(Q0 aZ dw j).map fun r=>r==some A
def yK (id:Nat):List ig->Option (List ig)
 | .inBlock A::k=>if A==id then some k else yK id k
 |_::k=>yK id k
 | []=>none
def yM (l:Nat):List ig->Option (List ig)
 | .inScope body::k=>
   match findLabel body l with
   |some rest=>some (.code rest:: .inScope body::k)
   |none=>yM l k
 |_::k=>yM l k
 | []=>none
def fj (P:Program)(f:FuncId)(args:List BV)(kind:CallKind):Option bE:=
 match P.funcs[f]? with
 |some fn=>
  match fn.body with
  |some c=>some {fn:=f,dw:=args++List.replicate (fn.ntmps-args.length) BV.undef,todo:=[.code c],defers:=[],mode:= .run,kind,roundOf:=none}
  |none=>none
 |none=>none
def ng (o:Oper):Bool:=
 match o.op with
 | .move _| .assign _| .pick .. | .alloc _| .box .. | .build .. | .buildSlice .. | .load .. | .nilCheck _| .binOp .. | .unOp ..
 | .makeFunc .. | .makeMap .. | .makeSlice .. | .slice .. | .fieldAddr .. | .field .. | .indexAddr .. | .index .. | .lookup .. | .entry _
 | .extract .. =>false
 | .convert s d _=>s==d
 | .call c=>(match c.callee with| .builtin .len| .builtin .min| .builtin .max=>false|_=>true)
 |_=>true
def nw (o:Oper):Bool:=
 match o.op with
 | .alloc _| .box .. | .buildSlice .. | .makeMap .. | .makeSlice .. =>true
 |_=>false
def L4 (o:Oper):Bool:=
 match o.op with
 | .load .. | .lookup .. | .binOp .. | .entry .. | .convert .. | .slice .. | .call .. =>true
 |_=>false
def jG:List Oper->List Nat->List Nat
 | [],acc=>acc
 |o::r,acc=>jG r (acc++[o.after.toList.foldl (fun s e=>if Region.binds .any e then s ||| 2^e.on ||| acc.getD e.on 0 else s) 0])
def bj (aZ:Array Oper):List Nat:=jG aZ.toList []
def fg (A:List Nat)(i j:Nat):Bool:=(A.getD i 0).testBit j
def Gr (t:Nat):List Oper->Nat->Option Nat
 | [],_=>none
 |o::r,k=>if o.dst==some t then some k else Gr t r (k+1)
def gz (aZ:Array Oper)(t:Nat):Option Nat:=Gr t aZ.toList 0
def Oy (o:Oper):List Nat:=o.op.operands.toList.filterMap fun| .tmp t=>some t|_=>none
def Oz (A:List Nat):List Nat->Bool
 | []=>true
 |a::r=>r.all (fun b=>fg A b a)&&Oz A r
def LQ (aZ:Array Oper):Bool:=
 let A:=bj aZ
 let l:=aZ.toList
 let n:=l.length
 let dB:=(List.range n).filter fun i=>(l[i]?).any ng
 ((List.range n).all fun i=>match l[i]? with
   |some o=>(o.after.toList.all fun e=>!Region.binds .any e||decide (e.on<i))&&
     (match o.dst with|some t=>gz aZ t==some i|none=>true)&&
     ((Oy o).all fun t=>match gz aZ t with|some k=>fg A i k||fg A k i||k==i|none=>true)&&
     (match o.guard with|some (j,_)=>fg A i j|none=>true)
   |none=>true)&&
 Oz A dB
def LR (aZ:Array Oper)(n:Nat):Bool:=aZ.toList.all fun o=>match o.dst with|some t=>Nat.blt t n|none=>true
def tW (aZ:Array Oper):List Nat:=(List.range aZ.size).filter fun i=>(aZ[i]?).any ng
def qi (aZ:Array Oper)(A:List Nat)(cN:List BV)(aN:List (Option BV))(i t:Nat):BV:=
 match gz aZ t with
 |some k=>if fg A i k then (aN.getD k none).getD .qd else cN.getD t BV.undef
 |none=>cN.getD t BV.undef
def nF (aZ:Array Oper)(A:List Nat)(cN:List BV)(aN:List (Option BV))(i:Nat):Operand->BV
 | .tmp t=>qi aZ A cN aN i t
 | .const v=>BV.ofv v
 | .global _=> .qd
 | .func f=> .func (.func f) [] []
def wy (P:Program)(aZ:Array Oper)(A:List Nat)(cN:List BV)(dB:List Nat):List Nat->ai->List (Option BV)->Option (ai×List (Option BV))
 | [],h,aN=>some (h,aN)
 |i::rest,h,aN=>
  match aZ[i]?,aN.getD i none with
  |some o,none=>
   if ng o||dB.any (fg A i)then wy P aZ A cN dB rest h aN else
   match nP o aZ (fun t=>some (qi aZ A cN aN i t))with
   |some true=>
    match HB P h (nF aZ A cN aN i) o with
    |some (.value v,h')=>wy P aZ A cN dB rest h' (aN.set i (some v))
    |_=>none
   |some false=>wy P aZ A cN dB rest h (aN.set i (some BV.undef))
   |none=>none
  |_,_=>wy P aZ A cN dB rest h aN
def GX (P:Program)(aZ:Array Oper)(A:List Nat)(cN:List BV)(aN:List (Option BV))(x:Nat)(h:ai):List Nat->Bool
 | []=>true
 |i::rest=>
  (match aZ[i]?,aN.getD i none with
  |some o,some v=>
   if ng o||nw o||!L4 o||fg A x i then true else
   match nP o aZ (fun t=>some (qi aZ A cN aN i t))with
   |some true=>(match HB P h (nF aZ A cN aN i) o with|some (.value u,_)=>BV.Xn u v|_=>false)
   |some false=>true
   |none=>false
  |_,_=>true)&&GX P aZ A cN aN x h rest
def rL (aZ:Array Oper)(aN:List (Option BV)):Nat->List BV->List BV
 |_,[]=>[]
 |t,x::r=>(match gz aZ t with|some k=>(aN.getD k none).getD .qd|none=>x)::rL aZ aN (t+1) r
def Fo (P:Program)(d:Lr)(x:Nat)(v:BV)(h:ai):Option (Lr×ai):=
 let A:=bj d.aZ
 let aN:=d.aN.set x (some v)
 let dB:=d.dB.tail
 let J:=List.range d.aZ.size
 if GX P d.aZ A d.cN d.aN x h J then
  (wy P d.aZ A d.cN dB J h aN).map fun (h',I)=>({d with aN:=I,dB},h')
 else none
def qB (P:Program)(fr:bE)(v:BV)(h:ai):Option (bE×ai):=
 match fr.mode with
 | .run=>
   (match fr.todo with
   | .inRegion aZ (i::rest)::k=>some ({fr with dw:=yc fr.dw ((aZ[i]?).bind (·.dst)) v,todo:= .inRegion aZ rest::k},h)
   | .js d::k=>
     (match d.dB with
     |x::_=>(Fo P d x v h).map fun (d',h')=>({fr with todo:= .js d'::k},h')
     | []=>none)
   |_=>none)
 |_=>none
def Gk (P:Program)(h:ai)(fn:Func)(dw:List BV):Option BV:=
 match fn.results.toList.mapM fun
  | .tmp t=>some (dw.getD t BV.undef)
  | .cell a t=>Ag P h t (dw.getD a BV.undef)with
 |some [v]=>some v
 |some vs=>some (.tuple vs)
 |none=>none
def sS (P:Program)(fr:bE)(cs:List bE)(kind:CallKind):bP×ai->Option av
 | (.value v,h)=>(qB P fr v h).map fun (fr,h)=>{fr,cs,h}
 | (.skip,h)=>(qB P fr BV.undef h).map fun (fr,h)=>{fr,cs,h}
 | (.defer d,h)=>if fr.roundOf.isSome then none else (qB P {fr with defers:=d::fr.defers} BV.undef h).map fun (fr,h)=>{fr,cs,h}
 | (.recover,h)=>if fr.roundOf.isSome||cs.isEmpty then none else (qB P fr .IZ h).map fun (fr,h)=>{fr,cs,h}
 | (.enter f args,h)=>(fj P f args kind).map fun c=>{fr:=c,cs:=fr::cs,h}
def zw (P:Program)(fr:bE)(cs:List bE)(v:BV)(h:ai):Option av:=
 match cs with
 |caller::rest=>
  match fr.kind with
  | .normal=>(qB P caller v h).map fun (c,h)=>{fr:=c,cs:=rest,h}
  | .deferred=>(match caller.mode with| .returning=>some {fr:=caller,cs:=rest,h}| .run=>none)
  |_=>none
 | []=>none
def Af (P:Program)(fr:bE)(cs:List bE)(h:ai)(A:Option Code):Option av:=
 match fr.roundOf with
 |none=>(match A with|none|some .ret=>some {fr:={fr with mode:= .returning},cs,h}|_=>none)
 |some _=>none
def BB (P:Program)(fr:bE)(cs:List bE)(h:ai):Option av:=
 match fr.defers with
 |d::ds=>
  match GP P h d.target d.args with
  |some (.enter f args,h)=>(fj P f args .deferred).map fun c=>{fr:=c,cs:={fr with defers:=ds}::cs,h}
  |_=>none
 | []=>
   match fr.mode with
   | .run=>none
   | .returning=>
     match P.funcs[fr.fn]? with
     |none=>none
     |some fn=>
      match Gk P h fn fr.dw with
      |some v=>zw P fr cs v h
      |none=>none
def fX (P:Program)(s:av):Option av:=
 let {fr,cs,h}:=s
 match fr.mode with
 | .run=>
   let to (todo:List ig):Option av:=some {fr:={fr with todo},cs,h}
   match fr.todo with
   | []=>Af P fr cs h none
   | .code .ret::_=>Af P fr cs h (some .ret)
   | .code .skip::k| .code (.label _)::k| .inBlock _::k| .inScope _::k=>to k
   | .code (.seq a b)::k=>to (.code a:: .code b::k)
   | .code (.cond c J O)::k=>
     (match AV fr.dw c with
     | .bool b=>to (.code (if b then J else O)::k)
     |_=>none)
   | .code (.block id body)::k=>to (.code body:: .inBlock id::k)
   | .code (.loop body)::k| .inLoop body::k=>to (.code body:: .inLoop body::k)
   | .code (.scope body)::k=>to (.code body:: .inScope body::k)
   | .code (.exit id)::k=>(match yK id k with|some k'=>to k'|none=>Af P fr cs h (some (.exit id)))
   | .code (.goto l)::k=>(match yM l k with|some k'=>to k'|none=>Af P fr cs h (some (.goto l)))
   | .code (.rangeFunc ..)::_=>none
   | .code (.refuse _)::_=>none
   | .code (.region _ aZ I)::k=>
     if !I then to (.inRegion aZ (List.range aZ.size)::k)else
     if !(LQ aZ&&LR aZ fr.dw.length)then none else
     let dB:=tW aZ
     (wy P aZ (bj aZ) fr.dw dB (List.range aZ.size) h (List.replicate aZ.size none)).map fun (h',aN)=>{fr:={fr with todo:= .js {aZ,cN:=fr.dw,aN,dB}::k},cs,h:=h'}
   | .inRegion _ []::k=>to k
   | .inRegion aZ (i::rest)::k=>
     (match aZ[i]? with
     |none=>to (.inRegion aZ rest::k)
     |some o=>
      match nP o aZ (fun t=>fr.dw[t]?)with
      |some true=>(opR P h (AV fr.dw) o).bind (sS P fr cs .normal)
      |some false=>to (.inRegion aZ rest::k) |>.map fun s=>{s with fr:={s.fr with dw:=yc fr.dw o.dst BV.undef}}
      |none=>none)
   | .js d::k=>
     (match d.dB with
     | []=>some {fr:={fr with dw:=rL d.aZ d.aN 0 d.cN,todo:=k},cs,h}
     |x::_=>
      match d.aZ[x]? with
      |none=>none
      |some o=>
       let A:=bj d.aZ
       match nP o d.aZ (fun t=>some (qi d.aZ A d.cN d.aN x t))with
       |some true=>(HB P h (nF d.aZ A d.cN d.aN x) o).bind (sS P fr cs .normal)
       |some false=>(qB P fr BV.undef h).map fun (fr,h)=>{fr,cs,h}
       |none=>none)
 |_=>BB P fr cs h
def av.ended (s:av):Bool:=s.cs.isEmpty&&(s.fr.mode matches .returning)&&s.fr.defers.isEmpty
def hS:ai:={next:=0,tr:= .leaf}
end
end
section
structure Gh where
 m:Nat->Option (Nat×Nat)
 fz:Nat->Prop
 s:Nat->D->Option (Nat×Nat)
def gA (w:World)(aS off:Nat)(vs:List Value):Prop:=∀i x,vs[i]?=some x->w.cell? ⟨aS,off+i,none⟩=some x
def alR (P:Program)(w:World)(aS off c:Nat):Prop:=∃e n,w.shape? aS=some (e,n)/\off+c*P.cellsOf e<=n
inductive qk (P:Program)(fz:Nat->Prop)(w:World):TypeId->D->List Value->Prop where
 |int {t:TypeId} {k:IntKind} {d:D} (h:P.underlying t=some (.int k)):qk P fz w t d [.int k d.int]
 |bool {t:TypeId} {d:D} (h:P.underlying t=some .bool):qk P fz w t d [.bool d.bool]
 |ax {t:TypeId} {d:D} (h:P.underlying t=some .string):qk P fz w t d [.string ⟨d.ax.toArray⟩]
 |cS {t e:TypeId} {d:D} (h:P.underlying t=some (.slice e)) (h0:d.ae=[]):qk P fz w t d [.slice none 0 0]
 |empty {t e:TypeId} {d:D} (h:P.underlying t=some (.slice e)) (h0:d.ae=[]) (a:Addr) (c:Nat):qk P fz w t d [.slice (some a) 0 c]
 |slice {t e:TypeId} {d:D} (h:P.underlying t=some (.slice e)) (aS off c:Nat) (vs:List Value) (hf:fz aS) (hc:d.ae.length<=c) (hl:vs.length=d.ae.length*P.cellsOf e)
   (hi:∀i x,d.ae[i]?=some x->qk P fz w e x ((vs.drop (i*P.cellsOf e)).take (P.cellsOf e))) (hat:gA w aS off vs):qk P fz w t d [.slice (some ⟨aS,off,none⟩) d.ae.length c]
 |struct {t:TypeId} {fs:Array Field} {d:D} (h:P.underlying t=some (.struct fs)) (css:List (List Value)) (hl:css.length=fs.toList.length)
   (hi:∀i f cs,fs.toList[i]?=some f->css[i]?=some cs->qk P fz w f.type (d.af i) cs):qk P fz w t d css.flatten
def dm (P:Program)(fz:Nat->Prop)(w:World)(e:TypeId)(l:List D)(vs:List Value):Prop:=
 vs.length=l.length*P.cellsOf e/\∀i x,l[i]?=some x->qk P fz w e x ((vs.drop (i*P.cellsOf e)).take (P.cellsOf e))
def MJ (P:Program)(fz:Nat->Prop)(w:World)(e:TypeId)(l:List D)(aS off:Nat):Prop:=
 fz aS/\∃vs,dm P fz w e l vs/\gA w aS off vs
mutual
def aw (P:Program)(g:Gh)(w:World):BV->Value->Prop
 | .qd,_=>True
 | .bool b,v=>v= .bool b
 | .int k n,v=>v= .int k n
 | .ax s,v=>v= .string ⟨s.toArray⟩
 | .gF,v=>v= .pointer none
 | .ie b off,v=>∃aS aD,g.m b=some (aS,aD)/\v= .pointer (some ⟨aS,aD+off,none⟩)
 | .ze cs,v=>∃aS off,v= .pointer (some ⟨aS,off,none⟩)/\g.fz aS/\∃vs,ay P g w cs vs/\gA w aS off vs
 | .cS,v=>v= .slice none 0 0
 | .nE,v=>∃a c,v= .slice (some a) 0 c
 | .bx e l,v=>(l=[]/\(v= .slice none 0 0\/∃a c,v= .slice (some a) 0 c))\/∃aS off c,v= .slice (some ⟨aS,off,none⟩) l.length c/\l.length<=c/\MJ P g.fz w e l aS off
 | .IL e l,v=>(l=[]/\(v= .slice none 0 0\/∃a,v= .slice (some a) 0 0))\/∃aS off,v= .slice (some ⟨aS,off,none⟩) l.length l.length/\MJ P g.fz w e l aS off
 | .hY b n vt,v=>((vt=true/\n=0)/\(v= .slice none 0 0\/∃a,v= .slice (some a) 0 0))\/∃aS aD c,g.m b=some (aS,aD)/\v= .slice (some ⟨aS,aD,none⟩) n c/\n<=c/\alR P w aS aD c
 | .Z0 b n,v=>∃aS aD,g.m b=some (aS,aD)/\v= .slice (some ⟨aS,aD,none⟩) n n
 | .IZ,v=>v= .nilIface
 | .TY,v=>v= .nilFunc
 | .nX _ _,_=>False
 | .yJ b e i off,v=>∃aS aD,g.m b=some (aS,aD)/\v= .pointer (some ⟨aS,aD+(i*P.cellsOf e+off),none⟩)
 | .sW b f k off,v=>∃aS aD,g.s f k=some (aS,aD)/\v= .pointer (some ⟨aS,aD+off,none⟩)/\∃y,g.m b=some y
 | .Ri,v=>v= .map none
 | .map b,v=>∃aS,g.m b=some (aS,0)/\v= .map (some aS)
 | .func fn a c,v=>∃I A,v= .func fn I A/\ay P g w a I.toList/\ay P g w c A.toList
 | .agg cs,v=>∃vs,v= .agg vs/\ay P g w cs vs.toList
 | .tuple cs,v=>∃vs,v= .tuple vs/\ay P g w cs vs.toList
def ay (P:Program)(g:Gh)(w:World):List BV->List Value->Prop
 | [],vs=>vs=[]
 |b::bs,vs=>∃v A,vs=v::A/\aw P g w b v/\ay P g w bs A
end
section lists
variable {P:Program} {g:Gh} {w:World}
def ay.length {bs:List BV}:∀{vs:List Value},ay P g w bs vs->vs.length=bs.length:=by
 induction bs with
 |nil=>intro vs h;simp[ay]at h;simp[h]
 |cons b bs A=>intro vs h;simp only[ay]at h;obtain⟨v,I,rfl,_,h⟩:=h;simp[A h]
def ay.get {bs:List BV}:∀{vs:List Value},ay P g w bs vs->∀{i:Nat} {b:BV},bs[i]?=some b->∃v,vs[i]?=some v/\aw P g w b v:=by
 induction bs with
 |nil=>intro vs _ i b h;simp at h
 |cons x bs J=>
  intro vs h i b hb;simp only[ay]at h;obtain⟨v,V,rfl,I,O⟩:=h
  cases i with
  |zero=>simp at hb;subst hb;exact⟨v,by simp,I⟩
  |succ i=>simp at hb;obtain⟨u,U,A⟩:=J O hb;exact⟨u,by simpa using U,A⟩
def ay.ajK {bs:List BV}{vs:List Value}(h:ay P g w bs vs){i:Nat}{v:Value}(A:vs[i]?=some v):∃b,bs[i]?=some b/\aw P g w b v:=by
 have hl:=h.length;have hi:i<bs.length:=by have:=(amw.1 A).1;omega
 obtain⟨u,I,J⟩:=h.get (amr hi);rw[A]at I;cases I;exact⟨_,amr hi,J⟩
def ay.vi {bs:List BV}:∀{vs:List Value},vs.length=bs.length->(∀(i:Nat) b v,bs[i]?=some b->vs[i]?=some v->aw P g w b v)->ay P g w bs vs:=by
 induction bs with
 |nil=>intro vs hl _;simp at hl;simp[ay,hl]
 |cons b bs J=>
  intro vs hl h
  cases vs with
  |nil=>simp at hl
  |cons v O=>simp only[ay];exact⟨v,O,rfl,h 0 b v (by simp) (by simp),J (by simpa using hl) fun i b' I hb A=>h (i+1) b' I (by simpa using hb) (by simpa using A)⟩
def ay.append {as bs:List BV}{J vs:List Value}(h:ay P g w as J)(k:ay P g w bs vs):ay P g w (as++bs) (J++vs):=by
 refine ay.vi (by simp[h.length,k.length]) fun i b v hb A=>?_;rw[anj]at hb A;rw[h.length]at A
 split at hb
 ·rename_i I;rw[amu I]at A;obtain⟨O,h1,h2⟩:=h.get hb;rw[h1]at A;cases A;exact h2
 rename_i I;rw[amt I]at A;obtain⟨O,h1,h2⟩:=k.get hb;rw[h1]at A;cases A;exact h2
def ay.take {bs:List BV}{vs:List Value}(n:Nat)(h:ay P g w bs vs):ay P g w (bs.take n) (vs.take n):=by
 refine ay.vi (by simp[h.length]) fun i b v hb A=>?_;rw[ane]at hb A
 split at hb
 ·rename_i I;rw[amu I]at A;obtain⟨J,h1,h2⟩:=h.get hb;rw[h1]at A;cases A;exact h2
 cases hb
def ay.drop {bs:List BV}{vs:List Value}(n:Nat)(h:ay P g w bs vs):ay P g w (bs.drop n) (vs.drop n):=by
 refine ay.vi (by simp[h.length]) fun i b v hb A=>?_;rw[anG]at hb A;obtain⟨I,h1,h2⟩:=h.get hb;rw[h1]at A;cases A;exact h2
def ay.set {bs:List BV}{vs:List Value}{b:BV}{v:Value}(n:Nat)(h:ay P g w bs vs)(J:aw P g w b v):ay P g w (bs.set n b) (vs.set n v):=by
 refine ay.vi (by simp[h.length]) fun i b' O hb A=>?_;rw[aon]at hb A
 split at hb
 ·rename_i e;subst e
  split at hb
  ·simp at hb;subst hb;rename_i I;rw[amu rfl,amu (by rw[h.length];exact I)]at A;cases A;exact J
  cases hb
 rename_i e;rw[amt e]at A;obtain⟨u,h1,h2⟩:=h.get hb;rw[h1]at A;cases A;exact h2
def ay.map {α:Type}{l:List α}{f:α->BV}{f':α->Value}(h:∀a∈l,aw P g w (f a) (f' a)):ay P g w (l.map f) (l.map f'):=by
 induction l with
 |nil=>simp[ay]
 |cons a l A=>simp only[anb,ay];exact⟨_,_,rfl,h a (by simp),A fun b hb=>h b (by simp[hb])⟩
def ay.replicate {b:BV}{v:Value}(h:aw P g w b v)(n:Nat):ay P g w (List.replicate n b) (List.replicate n v):=by
 refine ay.vi (by simp) fun i b' J hb I=>?_;rw[anQ]at hb I
 split at hb
 ·rename_i A;rw[amu A]at I;cases hb;cases I;exact h
 cases hb
def ay.cons {b:BV}{v:Value}{bs:List BV}{vs:List Value}(h:aw P g w b v)(k:ay P g w bs vs):ay P g w (b::bs) (v::vs):=by
 simp only[ay];exact⟨v,vs,rfl,h,k⟩
def ay.nil:ay P g w [] []:=by simp[ay]
def ay.one {b:BV}{vs:List Value}(h:ay P g w [b] vs):∃v,vs=[v]/\aw P g w b v:=by
 simp only[ay]at h;obtain⟨v,I,rfl,A,rfl⟩:=h;exact⟨v,rfl,A⟩
def ay.two {a b:BV}{vs:List Value}(h:ay P g w [a,b] vs):∃u v,vs=[u,v]/\aw P g w a u/\aw P g w b v:=by
 simp only[ay]at h;obtain⟨u,O,rfl,I,v,J,rfl,A,rfl⟩:=h;exact⟨u,v,rfl,I,A⟩
def aw.undef:aw P g w BV.undef Go.undef:=by
 simp only[BV.undef,Go.undef,aw];exact⟨#[],rfl,ay.nil⟩
def aw.one {b:BV}{v:Value}(h:aw P g w b v)(ho:b.one=true):v.cells=#[v]/\(∀cs,v≠ .agg cs)/\∀cs,v≠ .tuple cs:=by
 cases b<;>simp only[BV.one,amp]at ho<;>simp only[aw]at h
 case ie=>obtain⟨_,_,_,rfl⟩:=h;simp[Value.cells]
 case ze=>obtain⟨_,_,rfl,_⟩:=h;simp[Value.cells]
 case nE=>obtain⟨_,_,rfl⟩:=h;simp[Value.cells]
 case bx=>obtain⟨_,rfl| ⟨_,_,rfl⟩⟩| ⟨_,_,_,rfl,_⟩:=h<;>simp[Value.cells]
 case IL=>obtain⟨_,rfl| ⟨_,rfl⟩⟩| ⟨_,_,rfl,_⟩:=h<;>simp[Value.cells]
 case hY=>obtain⟨_,rfl| ⟨_,rfl⟩⟩| ⟨_,_,_,_,rfl,_⟩:=h<;>simp[Value.cells]
 case yJ=>obtain⟨_,_,_,rfl⟩:=h;simp[Value.cells]
 case Z0=>obtain⟨_,_,_,rfl⟩:=h;simp[Value.cells]
 case sW=>obtain⟨_,_,_,rfl,_⟩:=h;simp[Value.cells]
 case map=>obtain⟨_,_,rfl⟩:=h;simp[Value.cells]
 case func=>obtain⟨_,_,rfl,_⟩:=h;simp[Value.cells]
 all_goals (subst h;simp[Value.cells])
def aw.cells {b:BV}{v:Value}(h:aw P g w b v)(ho:b.cells.all BV.one=true):ay P g w b.cells v.cells.toList:=by
 by_cases hb:∃cs,b= .agg cs
 ·obtain⟨cs,rfl⟩:=hb;simp only[aw]at h;obtain⟨vs,rfl,h⟩:=h;simpa [BV.cells,Value.cells]using h
 have e:b.cells=[b]:=by cases b<;>first|rfl| (exact absurd ⟨_,rfl⟩ hb)
 rw[e]at ho ⊢;have ho':b.one=true:=by simpa using ho
 rw[(h.one ho').1];exact ay.cons h ay.nil
end lists
structure iL (g:Gh)(w:World)(g':Gh)(w':World):Prop where
 mm:∀b x,g.m b=some x->g'.m b=some x
 mf:∀c,g.fz c->g'.fz c
 mc:∀c,g.fz c->w'.heap[c]?=w.heap[c]?
 ms:∀c s,w.shape? c=some s->w'.shape? c=some s
 mse:∀f k x,g.s f k=some x->g'.s f k=some x
def iL.refl (g:Gh)(w:World):iL g w g w:=⟨fun _ _ h=>h,fun _ h=>h,fun _ _=>rfl,fun _ _ h=>h,fun _ _ _ h=>h⟩
def iL.trans {g g' A:Gh}{w w' I:World}(h:iL g w g' w')(k:iL g' w' A I):iL g w A I:=
 ⟨fun b x e=>k.mm b x (h.mm b x e),fun c e=>k.mf c (h.mf c e),fun c e=>(k.mc c (h.mf c e)).trans (h.mc c e),fun c s e=>k.ms c s (h.ms c s e),fun f d x e=>k.mse f d x (h.mse f d x e)⟩
def BK {w w':World}{b off:Nat}(h:w'.heap[b]?=w.heap[b]?):w'.cell? ⟨b,off,none⟩=w.cell? ⟨b,off,none⟩:=by
 simp[World.cell?,h]
def iL.aha {g g':Gh}{w w':World}(h:iL g w g' w'){aS off:Nat}{vs:List Value}(hf:g.fz aS)(hc:gA w aS off vs):gA w' aS off vs:=by
 intro i x hi;rw[BK (h.mc aS hf)];exact hc i x hi
def gA.Wd {w w':World}{aS off:Nat}{vs:List Value}(h:w'.heap[aS]?=w.heap[aS]?)(hc:gA w aS off vs):gA w' aS off vs:=by
 intro i x hi;rw[BK h];exact hc i x hi
def qk.mono {P:Program}{fz fz':Nat->Prop}{w w':World}(hf:∀c,fz c->fz' c)(hw:∀c,fz c->w'.heap[c]?=w.heap[c]?){t:TypeId}{d:D}{cs:List Value}(h:qk P fz w t d cs):qk P fz' w' t d cs:=by
 induction h with
 |int h=>exact .int h
 |bool h=>exact .bool h
 |ax h=>exact .ax h
 |cS h h0=>exact .cS h h0
 |empty h h0 a c=>exact .empty h h0 a c
 |slice h aS off c vs hb hc hl hi hat A=>exact .slice h aS off c vs (hf _ hb) hc hl A (hat.Wd (hw _ hb))
 |struct h css hl hi A=>exact .struct h css hl A
def dm.mono {P:Program}{fz fz':Nat->Prop}{w w':World}(hf:∀c,fz c->fz' c)(hw:∀c,fz c->w'.heap[c]?=w.heap[c]?){e:TypeId}{l:List D}{vs:List Value}(h:dm P fz w e l vs):dm P fz' w' e l vs:=
 ⟨h.1,fun i x A=>(h.2 i x A).mono hf hw⟩
def MJ.mono {P:Program}{fz fz':Nat->Prop}{w w':World}(hf:∀c,fz c->fz' c)(hw:∀c,fz c->w'.heap[c]?=w.heap[c]?){e:TypeId}{l:List D}{aS off:Nat}(h:MJ P fz w e l aS off):MJ P fz' w' e l aS off:=by
 obtain⟨hb,vs,h1,h2⟩:=h;exact⟨hf _ hb,vs,h1.mono hf hw,h2.Wd (hw _ hb)⟩
mutual
def aw.mono {P:Program}{g g':Gh}{w w':World}(A:iL g w g' w'):∀(b:BV) (v:Value),aw P g w b v->aw P g' w' b v
 | .qd,_,_=>by simp[aw]
 | .bool _,_,h=>by simpa [aw]using h
 | .int _ _,_,h=>by simpa [aw]using h
 | .ax _,_,h=>by simpa [aw]using h
 | .gF,_,h=>by simpa [aw]using h
 | .ie b off,v,h=>by simp only[aw]at h ⊢;obtain⟨aS,aD,hb,rfl⟩:=h;exact⟨aS,aD,A.mm _ _ hb,rfl⟩
 | .ze cs,v,h=>by simp only[aw]at h ⊢;obtain⟨aS,off,rfl,hf,vs,I,hc⟩:=h;exact⟨aS,off,rfl,A.mf _ hf,vs,ay.mono A cs vs I,A.aha hf hc⟩
 | .cS,_,h=>by simpa [aw]using h
 | .nE,_,h=>by simpa [aw]using h
 | .bx e l,v,h=>by
   simp only[aw]at h ⊢;rcases h with h| ⟨aS,off,c,rfl,hc,J⟩
   ·exact .inl h
   exact .inr ⟨aS,off,c,rfl,hc,J.mono A.mf A.mc⟩
 | .IL e l,v,h=>by
   simp only[aw]at h ⊢;rcases h with h| ⟨aS,off,rfl,J⟩
   ·exact .inl h
   exact .inr ⟨aS,off,rfl,J.mono A.mf A.mc⟩
 | .hY b n vt,v,h=>by
   simp only[aw]at h ⊢;rcases h with h| ⟨aS,aD,c,hb,rfl,hc,Y,O,hs,hn⟩
   ·exact .inl h
   exact .inr ⟨aS,aD,c,A.mm _ _ hb,rfl,hc,Y,O,A.ms _ _ hs,hn⟩
 | .yJ b e i off,v,h=>by simp only[aw]at h ⊢;obtain⟨aS,aD,hb,rfl⟩:=h;exact⟨aS,aD,A.mm _ _ hb,rfl⟩
 | .Z0 b n,v,h=>by simp only[aw]at h ⊢;obtain⟨aS,aD,hb,rfl⟩:=h;exact⟨aS,aD,A.mm _ _ hb,rfl⟩
 | .IZ,_,h=>by simpa [aw]using h
 | .TY,_,h=>by simpa [aw]using h
 | .nX _ _,_,h=>by simp[aw]at h
 | .sW b f k off,v,h=>by simp only[aw]at h ⊢;obtain⟨aS,aD,hb,rfl,y,Z⟩:=h;exact⟨aS,aD,A.mse _ _ _ hb,rfl,y,A.mm _ _ Z⟩
 | .Ri,_,h=>by simpa [aw]using h
 | .map b,v,h=>by simp only[aw]at h ⊢;obtain⟨aS,hb,rfl⟩:=h;exact⟨aS,A.mm _ _ hb,rfl⟩
 | .func fn a c,v,h=>by simp only[aw]at h ⊢;obtain⟨V,U,rfl,ha,hc⟩:=h;exact⟨V,U,rfl,ay.mono A a _ ha,ay.mono A c _ hc⟩
 | .agg cs,v,h=>by simp only[aw]at h ⊢;obtain⟨vs,rfl,I⟩:=h;exact⟨vs,rfl,ay.mono A cs _ I⟩
 | .tuple cs,v,h=>by simp only[aw]at h ⊢;obtain⟨vs,rfl,I⟩:=h;exact⟨vs,rfl,ay.mono A cs _ I⟩
def ay.mono {P:Program}{g g':Gh}{w w':World}(A:iL g w g' w'):∀(bs:List BV) (vs:List Value),ay P g w bs vs->ay P g' w' bs vs
 | [],_,h=>by simpa [ay]using h
 |b::bs,vs,h=>by simp only[ay]at h ⊢;obtain⟨v,I,rfl,J,O⟩:=h;exact⟨v,I,rfl,aw.mono A b v J,ay.mono A bs I O⟩
end
def Ef (P:Program)(g:Gh)(w:World):Db->Target->Prop
 | .fn fn c,t=>∃A,t= .fn fn A/\ay P g w c A.toList
 | .builtin b I J cs,t=>t= .builtin b I J cs
def XY (P:Program)(g:Gh)(w:World)(b:Ay)(d:Deferred):Prop:=
 Ef P g w b.target d.target/\ay P g w b.args d.args.toList
def mL (P:Program)(g:Gh)(w:World):List Ay->List Deferred->Prop
 | [],ds=>ds=[]
 |b::bs,ds=>∃d A,ds=d::A/\XY P g w b d/\mL P g w bs A
inductive Dc (P:Program):TypeId->D->Prop where
 |int {t:TypeId} {k:IntKind} (h:P.underlying t=some (.int k)) (n:Int):Dc P t (.z n)
 |bool {t:TypeId} (h:P.underlying t=some .bool) (b:Bool):Dc P t (.b b)
 |ax {t:TypeId} (h:P.underlying t=some .string) (s:List UInt8):Dc P t (.s s)
 |struct {t:TypeId} {fs:Array Field} (h:P.underlying t=some (.struct fs)) (ds:List D) (hl:ds.length=fs.toList.length) (hi:∀(i:Nat) (f:Field) (d:D),fs.toList[i]?=some f->ds[i]?=some d->Dc P f.type d):Dc P t (.r ds)
def E1 (P:Program)(g:Gh)(w:World)(vk:VK)(k d:D)(v:Value):Prop:=
 match vk with
 | .data A=>aw P g w (de P A d) v
 | .dD f _=>∃x,g.s f k=some x/\v= .pointer (some ⟨x.1,x.2,none⟩)
 | .Oq=>v= .func (.func d.int.toNat) #[] #[]
structure BE (P:Program)(g:Gh)(w:World)(kt:TypeId)(vk:VK)(l:List (D×D))(st:List Nat)(clock:Nat)(es:List MapEntry):Prop where
 len:es.length=l.length
 sl:st.length=l.length
 key:∀(i:Nat) p e,l[i]?=some p->es[i]?=some e->aw P g w (de P kt p.1) e.key
 born:∀(i:Nat) s e,st[i]?=some s->es[i]?=some e->e.born=s
 val:∀(i:Nat) p e,l[i]?=some p->es[i]?=some e->E1 P g w vk p.1 p.2 e.val
 IG:∀p∈l,Dc P kt p.1
 nd:(D.fh l).Nodup
 snd:st.Nodup
 Ny:∀s∈st,s<clock
def BF (P:Program)(e:TypeId)(c:Array Value)(lo hi:Nat):Prop:=(∀i,i<c.size->¬(lo<=i/\i<hi))/\(ML P e=false->lo=0/\hi=0)
def BF.zero (P:Program)(e:TypeId)(c:Array Value):BF P e c 0 0:=⟨fun i _=>by omega,fun _=>⟨rfl,rfl⟩⟩
def fO (P:Program)(g:Gh)(w:World):aE->Nat->Obj->Prop
 | .cells cs e s,aD,o=>∃c lo hi,o= .cells c e (lo,hi)/\(∃vs,ay P g w cs vs/\∀i x,vs[i]?=some x->c[aD+i]?=some x)/\
    (∀i,i<c.size->¬(lo<=i/\i<hi))/\(s=false->lo=0/\hi=0)
 | .bY e l _,aD,o=>∃c lo hi,o= .cells c e (lo,hi)/\BF P e c lo hi/\∃vs,dm P g.fz w e l vs/\∀i x,vs[i]?=some x->c[aD+i]?=some x
 | .cd kt vk l st clock,aD,o=>aD=0/\∃es,o= .map es clock/\BE P g w kt vk l st clock es.toList
 | .nb m ks st clock seen,aD,o=>aD=0/\∃aS,g.m m=some (aS,0)/\(∀k∈seen,k∈ks)/\o= .mapIter (some aS) clock (seen.reverse.map (D.kP ks st)).toArray clock
 | .tQ _ _ _,_,_=>False
section mono
variable {P:Program} {g g':Gh} {w w':World}
def Ef.mono (A:iL g w g' w'){b:Db}{t:Target}(h:Ef P g w b t):Ef P g' w' b t:=by
 cases b<;>simp only[Ef]at h ⊢
 case fn=>obtain⟨I,rfl,hc⟩:=h;exact⟨I,rfl,ay.mono A _ _ hc⟩
 exact h
def XY.mono (A:iL g w g' w'){b:Ay}{d:Deferred}(h:XY P g w b d):XY P g' w' b d:=⟨h.1.mono A,ay.mono A _ _ h.2⟩
def mL.mono (A:iL g w g' w'){bs:List Ay}:∀{ds:List Deferred},mL P g w bs ds->mL P g' w' bs ds:=by
 induction bs with
 |nil=>intro ds h;simpa [mL]using h
 |cons b bs I=>intro ds h;simp only[mL]at h ⊢;obtain⟨d,O,rfl,hd,J⟩:=h;exact⟨d,O,rfl,hd.mono A,I J⟩
def mL.append {bs cs:List Ay}{ds es:List Deferred}(h:mL P g w bs ds)(k:mL P g w cs es):mL P g w (bs++cs) (ds++es):=by
 induction bs generalizing ds with
 |nil=>simp only[mL]at h;subst h;simpa using k
 |cons b bs A=>simp only[mL]at h;obtain⟨d,J,rfl,hd,I⟩:=h;exact⟨d,J++es,rfl,hd,A I⟩
def E1.mono (A:iL g w g' w'){vk:VK}{k d:D}{v:Value}(h:E1 P g w vk k d v):E1 P g' w' vk k d v:=by
 unfold E1 at h ⊢
 cases vk with
 |data I=>exact aw.mono A _ _ h
 |dD f e=>obtain⟨x,h1,h2⟩:=h;exact⟨x,A.mse _ _ _ h1,h2⟩
 |Oq=>exact h
def BE.mono (A:iL g w g' w'){kt:TypeId}{vk:VK}{l:List (D×D)}{st:List Nat}{clock:Nat}{es:List MapEntry}(h:BE P g w kt vk l st clock es):BE P g' w' kt vk l st clock es:=
 ⟨h.len,h.sl,fun i p e h1 h2=>aw.mono A _ _ (h.key i p e h1 h2),h.born,fun i p e h1 h2=>(h.val i p e h1 h2).mono A,h.IG,h.nd,h.snd,h.Ny⟩
def fO.mono (A:iL g w g' w'){b:aE}{aD:Nat}{o:Obj}(h:fO P g w b aD o):fO P g' w' b aD o:=by
 cases b with
 |cells cs e s=>simp only[fO]at h ⊢;obtain⟨c,lo,hi,rfl,⟨vs,J,hc⟩,I⟩:=h;exact⟨c,lo,hi,rfl,⟨vs,ay.mono A _ _ J,hc⟩,I⟩
 |bY e l vt=>simp only[fO]at h ⊢;obtain⟨c,lo,hi,rfl,I,vs,h1,h2⟩:=h;exact⟨c,lo,hi,rfl,I,vs,h1.mono A.mf A.mc,h2⟩
 |cd kt vk l st clock=>simp only[fO]at h ⊢;obtain⟨rfl,es,rfl,he⟩:=h;exact⟨rfl,es,rfl,he.mono A⟩
 |nb m ks st clock seen=>simp only[fO]at h ⊢;obtain⟨rfl,aS,hb,hs,rfl⟩:=h;exact⟨rfl,aS,A.mm _ _ hb,hs,rfl⟩
 |tQ b f k=>simp only[fO]at h
end mono
def Pw {α:Type}(n m:Nat)(a b:α):cond (Nat.beq n m) a b=if n=m then a else b:=by
 by_cases h:n=m
 ·subst h;rw[amu rfl,aqc];rfl
 rw[amt h]
 cases e:Nat.beq n m with
 |true=>exact absurd (amC e) h
 |false=>rfl
def Tr.rM {α:Type}(n:Nat):Tr.get (.leaf:Tr α) n=none:=rfl
def Tr.CH {α:Type}(n:Nat)(v:Option α)(l r:Tr α):Tr.get (.node v l r) n=if n=0 then v else if n % 2=1 then Tr.get l (n/2)else Tr.get r (n/2-1):=by
 show cond (Nat.beq n 0) v (cond (Nat.beq (Nat.mod n 2) 1) (Tr.get l (Nat.div n 2)) (Tr.get r (Nat.sub (Nat.div n 2) 1)))=_;simp only[Pw];rfl
def Tr.adp {α:Type}(f n:Nat)(v:Option α)(l r:Tr α)(x:Option α):Tr.Hf (f+1) (.node v l r) n x=if n=0 then .node x l r else if n % 2=1 then .node v (Tr.Hf f l (n/2) x) r else .node v l (Tr.Hf f r (n/2-1) x):=by
 simp only[Tr.Hf,Pw];rfl
def Tr.ado {α:Type}(f n:Nat)(x:Option α):Tr.Hf (f+1) .leaf n x=if n=0 then .node x .leaf .leaf else if n % 2=1 then .node none (Tr.Hf f .leaf (n/2) x) .leaf else .node none .leaf (Tr.Hf f .leaf (n/2-1) x):=by
 simp only[Tr.Hf,Pw];rfl
def Tr.DL {α:Type}:∀(f n:Nat) (t:Tr α) (x:Option α) (j:Nat),n<f->Tr.get (Tr.Hf f t n x) j=if j=n then x else Tr.get t j:=by
 intro f
 induction f with
 |zero=>intro n t x j h;omega
 |succ f O=>
  intro n t x j U
  ·cases t with
   |leaf=>
    rw[Tr.ado,Tr.rM j]
    by_cases J:n=0
    ·subst J;simp only[am5,Tr.CH]
     by_cases A:j=0
     ·simp[A]
     simp[A,Tr.rM]
    rw[amt J]
    by_cases nm:n % 2=1
    ·rw[amu nm];simp only[Tr.CH]
     by_cases A:j=0
     ·subst A;rw[amu rfl,ifN]
     rw[amt A]
     by_cases I:j % 2=1
     ·rw[amu I,O (n/2) .leaf x (j/2) (by omega),Tr.rM]
      by_cases e:j=n
      ·subst e;simp
      rw[amt e,ifN]
     rw[amt I,Tr.rM,ifN]
    rw[amt nm];simp only[Tr.CH]
    by_cases A:j=0
    ·subst A;rw[amu rfl,ifN]
    rw[amt A]
    by_cases I:j % 2=1
    ·rw[amu I,Tr.rM,ifN]
    rw[amt I,O (n/2-1) .leaf x (j/2-1) (by omega),Tr.rM]
    by_cases e:j=n
    ·subst e;simp
    rw[amt e,ifN]
   |node v l r=>
    rw[Tr.adp]
    by_cases J:n=0
    ·subst J;simp only[am5,Tr.CH]
     by_cases A:j=0
     ·simp[A]
     simp[A]
    rw[amt J]
    by_cases nm:n % 2=1
    ·rw[amu nm];simp only[Tr.CH]
     by_cases A:j=0
     ·subst A;rw[amu rfl,ifN,amu rfl]
     rw[amt A,amt A]
     by_cases I:j % 2=1
     ·rw[amu I,amu I,O (n/2) l x (j/2) (by omega)]
      by_cases e:j=n
      ·subst e;simp
      rw[amt e,ifN]
     rw[amt I,amt I,ifN]
    rw[amt nm];simp only[Tr.CH]
    by_cases A:j=0
    ·subst A;rw[amu rfl,ifN,amu rfl]
    rw[amt A,amt A]
    by_cases I:j % 2=1
    ·rw[amu I,amu I,ifN]
    rw[amt I,amt I,O (n/2-1) r x (j/2-1) (by omega)]
    by_cases e:j=n
    ·subst e;simp
    rw[amt e,ifN]
def ai.iR (h:ai)(b:Nat)(o:Option aE)(j:Nat):(h.put b o).get j=if j=b then o else h.get j:=by
 unfold ai.get ai.put;exact Tr.DL _ _ _ _ _ (by omega)
def ai.gY (h:ai)(o:aE)(j:Nat):(h.new o).get j=if j=h.next then some o else h.get j:=by
 unfold ai.get ai.new;exact Tr.DL _ _ _ _ _ (by omega)
@[simp] def ai.aln (h:ai)(b:Nat)(o:Option aE):(h.put b o).next=h.next:=rfl
@[simp] def ai.alm (h:ai)(o:aE):(h.new o).next=h.next+1:=rfl
@[simp] def ai.akr (h:ai):h.akC.next=h.next+1:=rfl
@[simp] def ai.akY (h:ai)(b:Nat):h.akC.get b=h.get b:=rfl
inductive Loc where
 |aS (b:Nat)
 |el (b f:Nat) (k:D)
def aE.CF:aE->Option Nat
 | .cd _ (.dD f _) _ _ _=>some f
 |_=>none
def aE.BM:aE->Nat->D->Option aE
 | .cd _ (.dD f' e) l _ _,f,k=>if f'=f then (D.ia l k).map fun d=> .bY e [d] false else none
 |_,_,_=>none
def aE.nf:aE->Option aE
 | .tQ _ _ _=>none
 |o=>some o
def ai.at (h:ai):Loc->Option aE
 | .aS b=>(h.get b).bind aE.nf
 | .el b f k=>(h.get b).bind fun o=>o.BM f k
def Gh.at (g:Gh):Loc->Option (Nat×Nat)
 | .aS b=>g.m b
 | .el _ f k=>g.s f k
structure bq (P:Program)(g:Gh)(h:ai)(w:World):Prop where
 PJ:∀b o,h.get b=some o->b<h.next
 lt:∀b x,g.m b=some x->b<h.next
 Ny:∀f k x,g.s f k=some x->f<h.next
 Hv:∀b o f,h.get b=some o->o.CF=some f->f<h.next
 fu:∀b b' o o' f,h.get b=some o->h.get b'=some o'->o.CF=some f->o'.CF=some f->b=b'
 sk:∀b o f k x,h.get b=some o->o.CF=some f->g.s f k=some x->(∃o1,o.BM f k=some o1)/\∃y,g.m b=some y
 al:∀b b' f k,h.get b=some (.tQ b' f k)->(∃x,g.m b=some x/\g.s f k=some x)/\∃y,g.m b'=some y
 rV:∀l aS aD,g.at l=some (aS,aD)->aS<w.heap.size
 rW:∀l l' aS aD base' o o',h.at l=some o->h.at l'=some o'->g.at l=some (aS,aD)->g.at l'=some (aS,base')->l=l'
 vL:∀l o aS aD,h.at l=some o->g.at l=some (aS,aD)->¬g.fz aS/\∃o',w.heap[aS]?=some o'/\fO P g w o aD o'
 oU:∀c,g.fz c->c<w.heap.size
def ru (g:Gh)(h:ai)(c:Nat):Prop:=∃l o aD,h.at l=some o/\g.at l=some (c,aD)
section
variable {P:Program} {g:Gh} {h:ai} {w:World}
def ai.jH {b:Nat}{o:aE}(hb:h.get b=some o)(ho:o.nf=some o):h.at (.aS b)=some o:=by
 show (h.get b).bind aE.nf=_;rw[hb];exact ho
def aE.Wi {o o':aE}(e:o.nf=some o'):o'=o/\o.nf=some o:=by
 cases o<;>first| (cases e;exact⟨rfl,rfl⟩)|cases e
def ai.CP {b:Nat}{o:aE}(hb:h.at (.aS b)=some o):h.get b=some o/\o.nf=some o:=by
 change (h.get b).bind aE.nf=_ at hb
 cases A:h.get b with
 |none=>rw[A]at hb;cases hb
 |some x=>rw[A]at hb;obtain⟨rfl,h2⟩:=aE.Wi hb;exact⟨rfl,h2⟩
def bq.img (A:bq P g h w):∀b aS aD,g.m b=some (aS,aD)->aS<w.heap.size:=fun b aS aD e=>A.rV (.aS b) aS aD e
def bq.inj (I:bq P g h w):∀b b' aS aD base' o o',h.get b=some o->h.get b'=some o'->g.m b=some (aS,aD)->g.m b'=some (aS,base')->(ho:o.nf=some o:=by rfl)->(ho':o'.nf=some o':=by rfl)->b=b':=
 fun b b' aS aD base' o o' h1 h2 J A ho ho'=>by
  have:=I.rW (.aS b) (.aS b') aS aD base' o o' (ai.jH h1 ho) (ai.jH h2 ho') J A
  cases this;rfl
def bq.obj (A:bq P g h w):∀b o aS aD,h.get b=some o->g.m b=some (aS,aD)->(ho:o.nf=some o:=by rfl)->¬g.fz aS/\∃o',w.heap[aS]?=some o'/\fO P g w o aD o':=
 fun b o aS aD h1 I ho=>A.vL (.aS b) o aS aD (ai.jH h1 ho) I
def ru.aS {b c aD:Nat}{o:aE}(hb:h.get b=some o)(A:g.m b=some (c,aD))(ho:o.nf=some o:=by rfl):ru g h c:=⟨.aS b,o,aD,ai.jH hb ho,A⟩
end
structure mO (g:Gh)(h:ai)(w:World)(g':Gh)(h':ai)(w':World):Prop where
 mono:iL g w g' w'
 size:w.heap.size<=w'.heap.size
 FB:∀c,c<w.heap.size->¬ru g h c->w'.heap[c]?=w.heap[c]?
 nf:∀c,c<w.heap.size->ru g' h' c->ru g h c
 YC:∀c,c<w.heap.size->g'.fz c->g.fz c\/ru g h c
 next:h.next<=h'.next
 os:w'.os=w.os/\w'.output=w.output/\w'.tape=w.tape
def mO.refl (g:Gh)(h:ai)(w:World):mO g h w g h w:=⟨iL.refl g w,amG _,fun _ _ _=>rfl,fun _ _ h=>h,fun _ _ h=> .inl h,amG _,rfl,rfl,rfl⟩
def mO.trans {g g' g'':Gh}{h h' h'':ai}{w w' w'':World}(a:mO g h w g' h' w')(b:mO g' h' w' g'' h'' w''):mO g h w g'' h'' w'' where
 mono:=a.mono.trans b.mono
 size:=am8 a.size b.size
 FB:=fun c hc ho=>(b.FB c (amX hc a.size) fun h=>ho (a.nf c hc h)).trans (a.FB c hc ho)
 nf:=fun c hc ho=>a.nf c hc (b.nf c (amX hc a.size) ho)
 YC:=fun c hc hf=>(b.YC c (amX hc a.size) hf).elim (fun h=>a.YC c hc h) (fun h=> .inr (a.nf c hc h))
 next:=am8 a.next b.next
 os:=⟨b.os.1.trans a.os.1,b.os.2.1.trans a.os.2.1,b.os.2.2.trans a.os.2.2⟩
end
section
section
variable {P:Program} {g:Gh} {h:ai} {w w':World}
def kE {r:Nat}(e:w'.heap[r]?=w.heap[r]?):w'.shape? r=w.shape? r:=by simp[World.shape?,e]
def bq.TO (I:bq P g h w){c:Nat}(hf:g.fz c):¬ru g h c:=by
 rintro⟨l,o,aD,hb,A⟩;exact(I.vL l o c aD hb A).1 hf
def aE.JU {o:aE}(e:o.CF=none)(f:Nat)(k:D):o.BM f k=none:=by
 cases o<;>try rfl
 case cd kt vk l st c=>cases vk<;>first|rfl|cases e
def aE.wv {o o1:aE}{f:Nat}{k:D}(e:o.BM f k=some o1):o.CF=some f:=by
 cases o<;>try (cases e;done)
 case cd kt vk l st c=>
  cases vk with
  |data A=>cases e
  |Oq=>cases e
  |dD f' A=>
   simp only[aE.BM]at e
   split at e
   ·rename_i h;subst h;rfl
   cases e
def ai.RU {h:ai}{b f:Nat}{k:D}{o:aE}(e:h.at (.el b f k)=some o):∃x,h.get b=some x/\x.BM f k=some o:=by
 change (h.get b).bind (fun x=>x.BM f k)=_ at e
 cases A:h.get b with
 |none=>rw[A]at e;cases e
 |some x=>rw[A]at e;exact⟨x,rfl,e⟩
def ai.Hs {h:ai}{b f:Nat}{k:D}{o x:aE}(A:h.get b=some x)(e:x.BM f k=some o):h.at (.el b f k)=some o:=by
 show (h.get b).bind (fun x=>x.BM f k)=_;rw[A];exact e
structure Ob (g:Gh)(h:ai):Prop where
 PJ:∀b o,h.get b=some o->b<h.next
 lt:∀b x,g.m b=some x->b<h.next
 Ny:∀f k x,g.s f k=some x->f<h.next
 Hv:∀b o f,h.get b=some o->o.CF=some f->f<h.next
 fu:∀b b' o o' f,h.get b=some o->h.get b'=some o'->o.CF=some f->o'.CF=some f->b=b'
 sk:∀b o f k x,h.get b=some o->o.CF=some f->g.s f k=some x->(∃o1,o.BM f k=some o1)/\∃y,g.m b=some y
 al:∀b b' f k,h.get b=some (.tQ b' f k)->(∃x,g.m b=some x/\g.s f k=some x)/\∃y,g.m b'=some y
def bq.nm (A:bq P g h w):Ob g h:=⟨A.PJ,A.lt,A.Ny,A.Hv,A.fu,A.sk,A.al⟩
def Ob.UH (n:Ob g h)(a:∀l aS aD,g.at l=some (aS,aD)->aS<w.heap.size)
 (b:∀l l' aS aD base' o o',h.at l=some o->h.at l'=some o'->g.at l=some (aS,aD)->g.at l'=some (aS,base')->l=l')
 (c:∀l o aS aD,h.at l=some o->g.at l=some (aS,aD)->¬g.fz aS/\∃o',w.heap[aS]?=some o'/\fO P g w o aD o')
 (d:∀c,g.fz c->c<w.heap.size):bq P g h w:=⟨n.PJ,n.lt,n.Ny,n.Hv,n.fu,n.sk,n.al,a,b,c,d⟩
def aE.CO {o:aE}(ho:o.nf=some o){b f:Nat}{k:D}:o≠ .tQ b f k:=fun e=>by subst e;cases ho
def Ob.put (n:Ob g h){b:Nat}{o o':aE}(hb:h.get b=some o)(hf:o'.CF=none)(ho:o'.nf=some o'):Ob g (h.put b (some o')):=by
 have A:∀I o1,(h.put b (some o')).get I=some o1->(I=b/\o1=o')\/(I≠b/\h.get I=some o1):=fun I o1 h1=>by
  rw[ai.iR]at h1
  by_cases e:I=b
  ·rw[amu e]at h1;cases h1;exact .inl ⟨e,rfl⟩
  rw[amt e]at h1;exact .inr ⟨e,h1⟩
 refine⟨fun I o1 h1=>?_,n.lt,n.Ny,fun I o1 f h1 h2=>?_,fun I U o1 V f h1 h2 J O=>?_,fun I o1 f k x h1 h2 J=>?_,fun I U f k h1=>?_⟩
 ·rcases A _ _ h1 with ⟨rfl,_⟩| ⟨_,h1⟩
  ·exact n.PJ _ _ hb
  exact n.PJ _ _ h1
 ·rcases A _ _ h1 with ⟨_,rfl⟩| ⟨_,h1⟩
  ·rw[hf]at h2;cases h2
  exact n.Hv _ _ _ h1 h2
 ·rcases A _ _ h1 with ⟨_,rfl⟩| ⟨_,h1⟩
  ·rw[hf]at J;cases J
  rcases A _ _ h2 with ⟨_,rfl⟩| ⟨_,h2⟩
  ·rw[hf]at O;cases O
  exact n.fu _ _ _ _ _ h1 h2 J O
 ·rcases A _ _ h1 with ⟨_,rfl⟩| ⟨_,h1⟩
  ·rw[hf]at h2;cases h2
  exact n.sk _ _ _ _ _ h1 h2 J
 rcases A _ _ h1 with ⟨_,e⟩| ⟨_,h1⟩
 ·exact absurd e.symm (aE.CO ho)
 exact n.al _ _ _ _ h1
def Ob.drop (n:Ob g h)(b:Nat):Ob g (h.put b none):=by
 have A:∀I o1,(h.put b none).get I=some o1->h.get I=some o1:=fun I o1 h1=>by
  rw[ai.iR]at h1
  by_cases e:I=b
  ·rw[amu e]at h1;cases h1
  rwa [amt e]at h1
 exact⟨fun I o1 h1=>n.PJ _ _ (A _ _ h1),n.lt,n.Ny,fun I o1 f h1 h2=>n.Hv _ _ _ (A _ _ h1) h2,fun I U o1 V f h1 h2 J O=>n.fu _ _ _ _ _ (A _ _ h1) (A _ _ h2) J O,
  fun I o1 f k x h1 h2 J=>n.sk _ _ _ _ _ (A _ _ h1) h2 J,fun I U f k h1=>n.al _ _ _ _ (A _ _ h1)⟩
def Ob.new (n:Ob g h){o:aE}(hf:∀f,o.CF=some f->f=h.next)(ho:o.nf=some o):Ob g (h.new o):=by
 have A:∀I o1,(h.new o).get I=some o1->(I=h.next/\o1=o)\/(I≠h.next/\h.get I=some o1):=fun I o1 h1=>by
  rw[ai.gY]at h1
  by_cases e:I=h.next
  ·rw[amu e]at h1;cases h1;exact .inl ⟨e,rfl⟩
  rw[amt e]at h1;exact .inr ⟨e,h1⟩
 refine⟨fun I o1 h1=>?_,fun b x h1=>ao4 (n.lt b x h1),fun f k x h1=>ao4 (n.Ny f k x h1),fun I o1 f h1 h2=>?_,fun I Y o1 o2 f h1 h2 J O=>?_,fun I o1 f k x h1 h2 J=>?_,fun I Y f k h1=>?_⟩
 ·rcases A _ _ h1 with ⟨rfl,_⟩| ⟨_,h1⟩
  ·exact Nat.lt_succ_self _
  exact ao4 (n.PJ _ _ h1)
 ·rcases A _ _ h1 with ⟨_,rfl⟩| ⟨_,h1⟩
  ·rw[hf _ h2];exact Nat.lt_succ_self _
  exact ao4 (n.Hv _ _ _ h1 h2)
 ·rcases A _ _ h1 with ⟨Z,rfl⟩| ⟨_,_⟩
  ·rcases A _ _ h2 with ⟨V,rfl⟩| ⟨_,h2⟩
   ·rw[Z,V]
   have:=n.Hv _ _ _ h2 O;rw[hf _ J]at this;exact absurd this (aoE _)
  rename_i U
  rcases A _ _ h2 with ⟨V,rfl⟩| ⟨_,h2⟩
  ·have:=n.Hv _ _ _ U J;rw[hf _ O]at this;exact absurd this (aoE _)
  exact n.fu _ _ _ _ _ U h2 J O
 ·rcases A _ _ h1 with ⟨_,rfl⟩| ⟨_,h1⟩
  ·have:=n.Ny _ _ _ J;rw[hf _ h2]at this;exact absurd this (aoE _)
  exact n.sk _ _ _ _ _ h1 h2 J
 rcases A _ _ h1 with ⟨_,e⟩| ⟨_,h1⟩
 ·exact absurd e.symm (aE.CO ho)
 exact n.al _ _ _ _ h1
def Gh.Gp (g:Gh)(b aS aD:Nat):Gh:={g with m:=fun x=>if x=b then some (aS,aD)else g.m x}
def Gh.ou (g:Gh)(b aS aD:Nat):(g.Gp b aS aD).m b=some (aS,aD):=by simp[Gh.Gp]
def Gh.j8 (g:Gh){b aS aD x:Nat}(e:x≠b):(g.Gp b aS aD).m x=g.m x:=by simp[Gh.Gp,e]
def Gh.agJ (g:Gh){b aS aD:Nat}{l:Loc}(e:l≠ .aS b):(g.Gp b aS aD).at l=g.at l:=by
 cases l with
 |aS x=>exact Gh.j8 g fun h=>e (by rw[h])
 |el x f k=>rfl
def Gh.NB (g:Gh)(b aS aD:Nat):(g.Gp b aS aD).at (.aS b)=some (aS,aD):=Gh.ou g b aS aD
def Ob.Gp (n:Ob g h){b aS aD:Nat}(hb:b<h.next)(Y:∀b' f k,h.get b≠some (.tQ b' f k)):Ob (g.Gp b aS aD) h:=by
 refine⟨n.PJ,fun A x h1=>?_,n.Ny,n.Hv,n.fu,fun A o f k x h1 h2 V=>?_,fun A U f k h1=>?_⟩
 ·by_cases e:A=b
  ·rw[e];exact hb
  rw[Gh.j8 g e]at h1;exact n.lt _ _ h1
 ·obtain⟨I,y,J⟩:=n.sk _ _ _ _ _ h1 h2 V;refine⟨I,?_⟩
  by_cases e:A=b
  ·exact⟨_,by rw[e];exact Gh.ou g b aS aD⟩
  exact⟨y,by rw[Gh.j8 g e];exact J⟩
 by_cases e:A=b
 ·rw[e]at h1;exact absurd h1 (Y _ _ _)
 obtain⟨I,y,J⟩:=n.al _ _ _ _ h1;refine⟨by rw[Gh.j8 g e];exact I,?_⟩
 by_cases O:U=b
 ·exact⟨_,by rw[O];exact Gh.ou g b aS aD⟩
 exact⟨y,by rw[Gh.j8 g O];exact J⟩
def ai.E7 {b:Nat}{o':aE}(ho:o'.nf=some o'):(h.put b (some o')).at (.aS b)=some o':=ai.jH (by rw[ai.iR,amu rfl]) ho
def ai.X6 {b:Nat}{o o':aE}(hb:h.get b=some o)(hf:o.CF=none)(hf':o'.CF=none){l:Loc}(e:l≠ .aS b):(h.put b (some o')).at l=h.at l:=by
 cases l with
 |aS x=>show ((h.put b (some o')).get x).bind _=(h.get x).bind _;rw[ai.iR,amt fun h=>e (by rw[h])]
 |el x f k=>
  show ((h.put b (some o')).get x).bind (fun o=>o.BM f k)=(h.get x).bind (fun o=>o.BM f k);rw[ai.iR]
  by_cases A:x=b
  ·subst A;rw[amu rfl,hb];show o'.BM f k=o.BM f k;rw[aE.JU hf,aE.JU hf']
  rw[amt A]
def ai.Jz {b:Nat}{l:Loc}{o:aE}(e:(h.put b none).at l=some o):h.at l=some o:=by
 cases l with
 |aS x=>
  change ((h.put b none).get x).bind _=_ at e
  rw[ai.iR]at e
  by_cases A:x=b
  ·rw[amu A]at e;cases e
  rw[amt A]at e;exact e
 |el x f k=>
  change ((h.put b none).get x).bind (fun o=>o.BM f k)=_ at e
  rw[ai.iR]at e
  by_cases A:x=b
  ·rw[amu A]at e;cases e
  rw[amt A]at e;exact e
def ai.X5 {b:Nat}{l:Loc}{o:aE}(e:(h.put b none).at l=some o):l≠ .aS b:=by
 intro h1;subst h1
 change ((h.put b none).get b).bind _=_ at e
 rw[ai.iR,amu rfl]at e;cases e
def ai.aec {o:aE}(hf:∀f k,o.BM f k=none){l:Loc}{o1:aE}(e:(h.new o).at l=some o1)(I:l≠ .aS h.next):h.at l=some o1:=by
 cases l with
 |aS x=>
  change ((h.new o).get x).bind _=_ at e
  rw[ai.gY,amt fun h1=>I (by rw[h1])]at e;exact e
 |el x f k=>
  change ((h.new o).get x).bind (fun o=>o.BM f k)=_ at e
  rw[ai.gY]at e
  by_cases A:x=h.next
  ·rw[amu A]at e;have:=hf f k
   change o.BM f k=_ at e
   rw[this]at e;cases e
  rw[amt A]at e;exact e
def bq.XS (hr:bq P g h w){b aS aD:Nat}{o o':aE}{co co':Obj}(hb:h.get b=some o)(hm:g.m b=some (aS,aD))
 (d6:w.heap[aS]?=some co)(J:w'.heap=w.heap.setIfInBounds aS co')(d4:w'.os=w.os/\w'.output=w.output/\w'.tape=w.tape)
 (Z:∀s,w.shape? aS=some s->w'.shape? aS=some s)
 (ho:iL g w g w'->fO P g w' o' aD co')(hf:o.CF=none:=by rfl)(hf':o'.CF=none:=by rfl)(b6:o.nf=some o:=by rfl)(a6:o'.nf=some o':=by rfl):
 bq P g (h.put b (some o')) w'/\mO g h w g (h.put b (some o')) w':=by
 have d0:aS<w.heap.size:=hr.img b aS aD hm;have A:∀c,c≠aS->w'.heap[c]?=w.heap[c]?:=fun c hc=>by rw[J,anc (by omega)]
 have a8:w'.heap[aS]?=some co':=by rw[J,amV d0]
 have b4:w'.heap.size=w.heap.size:=by rw[J];simp
 have b1:¬g.fz aS:=(hr.obj b o aS aD hb hm b6).1
 have O:iL g w g w':=⟨fun _ _ e=>e,fun _ e=>e,fun c hc=>A c (fun e=>b1 (e▸hc)),fun c s hs=>by
  by_cases e:c=aS
  ·subst e;exact Z s hs
  rw[kE (A c e)];exact hs,fun _ _ _ e=>e⟩
 have hat:∀l o1,(h.put b (some o')).at l=some o1->(l= .aS b/\o1=o')\/(l≠ .aS b/\h.at l=some o1):=fun l o1 e=>by
  by_cases e1:l= .aS b
  ·subst e1;rw[ai.E7 a6]at e;cases e;exact .inl ⟨rfl,rfl⟩
  rw[ai.X6 hb hf hf' e1]at e;exact .inr ⟨e1,e⟩
 have Y:=ai.jH hb b6;have V:∀l o1,(h.put b (some o')).at l=some o1->∃o2,h.at l=some o2:=fun l o1 e=>by
  rcases hat l o1 e with ⟨rfl,_⟩| ⟨_,h1⟩
  ·exact⟨o,Y⟩
  exact⟨o1,h1⟩
 refine⟨(hr.nm.put hb hf' a6).UH ?_ ?_ ?_ ?_,⟨O,by omega,?_,fun c _ hc=>?_,fun _ _ h=> .inl h,amG _,d4⟩⟩
 ·intro l U I h1;rw[b4];exact hr.rV _ _ _ h1
 ·intro l1 l2 U I d2 o1 o2 h1 h2 m1 m2;obtain⟨_,g1⟩:=V _ _ h1;obtain⟨_,g2⟩:=V _ _ h2;exact hr.rW _ _ _ _ _ _ _ g1 g2 m1 m2
 ·intro l o1 U I h1 m1;rcases hat l o1 h1 with ⟨rfl,rfl⟩| ⟨a7,h1⟩
  ·change g.m b=_ at m1
   rw[hm]at m1;cases m1;exact⟨b1,co',a8,ho O⟩
  obtain⟨n1,o2,d5,d1⟩:=hr.vL _ _ _ _ h1 m1;have a7:U≠aS:=fun ee=>a7 (hr.rW _ _ _ _ _ _ _ h1 Y (ee▸m1) hm);exact⟨n1,o2,(A _ a7).trans d5,d1.mono O⟩
 ·intro c hc;rw[b4];exact hr.oU c hc
 ·intro c hc hno;exact A c (fun e=>hno ⟨.aS b,o,aD,Y,e▸hm⟩)
 obtain⟨l,o1,I,hl,d3⟩:=hc;obtain⟨o2,h2⟩:=V _ _ hl;exact⟨l,o2,I,h2,d3⟩
def iL.push (J:bq P g h w){b:Nat}(I:g.m b=none){co:Obj}(A:w'.heap=w.heap.push co)(aD:Nat):
 iL g w (g.Gp b w.heap.size aD) w':=
 ⟨fun O x h1=>by rw[Gh.j8 g fun e=>by subst e;rw[I]at h1;cases h1];exact h1,fun _ e=>e,
   fun c hc=>by rw[A];have:=J.oU c hc;rw[aou];rw[ifN],
   fun c s hs=>by
    have hc:c<w.heap.size:=by
     unfold World.shape? at hs
     cases e:w.heap[c]? with
     |none=>rw[e]at hs;cases hs
     |some _=>exact(amL.1 e).1
    rw[kE (w:=w)]
    ·exact hs
    rw[A,aou,ifN],fun _ _ _ e=>e⟩
def bq.real (Y:bq P g h w){b:Nat}{o:aE}{co:Obj}(hb:h.get b=some o)(hm:g.m b=none)
 (O:w'.heap=w.heap.push co)(b4:w'.os=w.os/\w'.output=w.output/\w'.tape=w.tape)
 (ho:iL g w (g.Gp b w.heap.size 0) w'->fO P (g.Gp b w.heap.size 0) w' o 0 co)(a7:o.nf=some o:=by rfl):
 bq P (g.Gp b w.heap.size 0) h w'/\mO g h w (g.Gp b w.heap.size 0) h w':=by
 have U:=iL.push Y hm O 0;have V:∀c,c<w.heap.size->w'.heap[c]?=w.heap[c]?:=fun c hc=>by rw[O,aou,ifN]
 have d0:w'.heap.size=w.heap.size+1:=by rw[O];simp
 have I:∀l J A,(g.Gp b w.heap.size 0).at l=some (J,A)->(l= .aS b/\J=w.heap.size/\A=0)\/(l≠ .aS b/\g.at l=some (J,A)):=fun l J A h1=>by
  by_cases e:l= .aS b
  ·subst e;rw[Gh.NB]at h1;cases h1;exact .inl ⟨rfl,rfl,rfl⟩
  rw[Gh.agJ g e]at h1;exact .inr ⟨e,h1⟩
 refine⟨(Y.nm.Gp (Y.PJ _ _ hb) fun b' f k e=>by rw[hb]at e;cases e;cases a7).UH ?_ ?_ ?_ ?_,⟨U,by omega,fun c hc _=>V c hc,?_,fun _ _ h=> .inl h,amG _,b4⟩⟩
 ·intro l J A h1;rcases I _ _ _ h1 with ⟨_,rfl,_⟩| ⟨_,h1⟩
  ·omega
  have:=Y.rV _ _ _ h1;omega
 ·intro l1 l2 J A b1 o1 o2 h1 h2 Z m2;rcases I _ _ _ Z with ⟨rfl,rfl,_⟩| ⟨_,Z⟩
  ·rcases I _ _ _ m2 with ⟨rfl,_,_⟩| ⟨_,m2⟩
   ·rfl
   have:=Y.rV _ _ _ m2;omega
  rcases I _ _ _ m2 with ⟨rfl,rfl,_⟩| ⟨_,m2⟩
  ·have:=Y.rV _ _ _ Z;omega
  exact Y.rW _ _ _ _ _ _ _ h1 h2 Z m2
 ·intro l o1 J A h1 Z;rcases I _ _ _ Z with ⟨rfl,rfl,rfl⟩| ⟨_,Z⟩
  ·rw[ai.jH hb a7]at h1;cases h1;exact⟨fun hf=>by have:=Y.oU _ hf;omega,co,by rw[O];simp,ho U⟩
  obtain⟨n1,o2,b6,a8⟩:=Y.vL _ _ _ _ h1 Z;exact⟨n1,o2,(V _ (Y.rV _ _ _ Z)).trans b6,a8.mono U⟩
 ·intro c hc;have:=Y.oU c hc;omega
 rintro c hc ⟨l,o1,A,hl,a6⟩;rcases I _ _ _ a6 with ⟨_,rfl,_⟩| ⟨_,a6⟩
 ·omega
 exact⟨l,o1,A,hl,a6⟩
def bq.CM (A:bq P g h w):g.m h.next=none:=by
 cases e:g.m h.next with
 |none=>rfl
 |some x=>exact absurd (A.lt _ _ e) (aoE _)
structure rr (n:Nat)(o:aE):Prop where
 CF:∀f,o.CF=some f->f=n
 BM:∀f k,o.BM f k=none
 nf:o.nf=some o
def rr.bare {n:Nat}{o:aE}(hf:o.CF=none)(ho:o.nf=some o):rr n o:=⟨fun f e=>(by rw[hf]at e;cases e),aE.JU hf,ho⟩
def rr.map (n kt e c:Nat):rr n (.cd kt (.dD n e) [] [] c):=⟨fun f h=>(by cases h;rfl),fun f k=>(by
 simp only[aE.BM]
 split
 ·rfl
 rfl),rfl⟩
def bq.V9 (J:bq P g h w)(o:aE)(hno:rr h.next o:=by exact rr.bare rfl rfl):bq P g (h.new o) w/\mO g h w g (h.new o) w:=by
 obtain⟨hf,hf',U⟩:=hno;have hat:∀l o1 aS aD,(h.new o).at l=some o1->g.at l=some (aS,aD)->h.at l=some o1:=fun l o1 aS aD h1 A=>ai.aec hf' h1 (fun e=>by subst e;have:g.m h.next=some (aS,aD):=A;rw[J.CM]at this;cases this);refine⟨(J.nm.new hf U).UH J.rV ?_ ?_ J.oU,⟨iL.refl g w,amG _,fun _ _ _=>rfl,?_,fun _ _ h=> .inl h,by simp,rfl,rfl,rfl⟩⟩
 ·intro l l' aS aD base' o1 Y h1 h2 A V;exact J.rW _ _ _ _ _ _ _ (hat _ _ _ _ h1 A) (hat _ _ _ _ h2 V) A V
 ·intro l o1 aS aD h1 A;exact J.vL _ _ _ _ (hat _ _ _ _ h1 A) A
 rintro c _ ⟨l,o1,I,hl,O⟩;exact⟨l,o1,I,hat _ _ _ _ hl O,O⟩
def bq.drop (I:bq P g h w)(b:Nat):bq P g (h.put b none) w/\mO g h w g (h.put b none) w:=by
 refine⟨(I.nm.drop b).UH I.rV ?_ ?_ I.oU,⟨iL.refl g w,amG _,fun _ _ _=>rfl,?_,fun _ _ h=> .inl h,amG _,rfl,rfl,rfl⟩⟩
 ·intro V Y aS aD base' o1 Z h1 h2 J U;exact I.rW _ _ _ _ _ _ _ (ai.Jz h1) (ai.Jz h2) J U
 ·intro l o1 aS aD h1 J;exact I.vL _ _ _ _ (ai.Jz h1) J
 rintro c _ ⟨l,o1,A,hl,O⟩;exact⟨l,o1,A,ai.Jz hl,O⟩
def bq.same (J:bq P g h w)(A:w'.heap=w.heap)(U:w'.os=w.os/\w'.output=w.output/\w'.tape=w.tape):bq P g h w'/\mO g h w g h w':=by
 have I:iL g w g w':=⟨fun _ _ e=>e,fun _ e=>e,fun c _=>by rw[A],fun c s hs=>by rw[kE (w:=w) (by rw[A])];exact hs,fun _ _ _ e=>e⟩
 refine⟨J.nm.UH (fun b x y e=>by rw[A];exact J.rV b x y e) J.rW ?_ (fun c hc=>by rw[A];exact J.oU c hc),
  ⟨I,by rw[A];exact amG _,fun c _ _=>by rw[A],fun _ _ e=>e,fun _ _ h=> .inl h,amG _,U⟩⟩
 intro l o aS aD h1 V;obtain⟨n,o',ho,O⟩:=J.vL _ _ _ _ h1 V;exact⟨n,o',by rw[A];exact ho,O.mono I⟩
def bq.move (hr:bq P g h w){b aS aD off:Nat}{o o':aE}{co co':Obj}(hb:h.get b=some o)(hm:g.m b=some (aS,aD))
 (e3:w.heap[aS]?=some co)(Y:w'.heap=w.heap.setIfInBounds aS co')(d8:w'.os=w.os/\w'.output=w.output/\w'.tape=w.tape)
 (a7:∀s,w.shape? aS=some s->w'.shape? aS=some s)
 (ho:iL g w (g.Gp h.next aS (aD+off)) w'->fO P (g.Gp h.next aS (aD+off)) w' o' (aD+off) co')(hf:o.CF=none:=by rfl)(hf':o'.CF=none:=by rfl)(d4:o.nf=some o:=by rfl)(a6:o'.nf=some o':=by rfl):
 bq P (g.Gp h.next aS (aD+off)) ((h.put b none).new o') w'/\mO g h w (g.Gp h.next aS (aD+off)) ((h.put b none).new o') w':=by
 have hn:g.m h.next=none:=hr.CM;have b6:aS<w.heap.size:=hr.img b aS aD hm;have O:∀c,c≠aS->w'.heap[c]?=w.heap[c]?:=fun c hc=>by rw[Y,anc (by omega)]
 have b4:w'.heap[aS]?=some co':=by rw[Y,amV b6]
 have d3:w'.heap.size=w.heap.size:=by rw[Y];simp
 have d1:¬g.fz aS:=(hr.obj b o aS aD hb hm d4).1;have U:=ai.jH hb d4
 have Z:iL g w (g.Gp h.next aS (aD+off)) w':=⟨fun b1 x h1=>by rw[Gh.j8 g fun e=>by subst e;rw[hn]at h1;cases h1];exact h1,fun _ e=>e,
  fun c hc=>O c (fun e=>d1 (e▸hc)),fun c s hs=>by
  by_cases e:c=aS
  ·subst e;exact a7 s hs
  rw[kE (O c e)];exact hs,fun _ _ _ e=>e⟩
 have V:∀l o1,((h.put b none).new o').at l=some o1->l≠ .aS h.next->l≠ .aS b/\h.at l=some o1:=fun l o1 h1 e=>by have h2:=ai.aec (fun f k=>aE.JU hf' f k) h1 (by simpa using e);exact⟨ai.X5 h2,ai.Jz h2⟩
 have d2:((h.put b none).new o').at (.aS h.next)=some o':=ai.jH (by rw[ai.gY,amu (by simp)]) a6;have I:∀l J A,(g.Gp h.next aS (aD+off)).at l=some (J,A)->(l= .aS h.next/\J=aS/\A=aD+off)\/(l≠ .aS h.next/\g.at l=some (J,A)):=fun l J A h1=>by
  by_cases e:l= .aS h.next
  ·subst e;rw[Gh.NB]at h1;cases h1;exact .inl ⟨rfl,rfl,rfl⟩
  rw[Gh.agJ g e]at h1;exact .inr ⟨e,h1⟩
 have d9:Ob (g.Gp h.next aS (aD+off)) ((h.put b none).new o'):=
  ((hr.nm.drop b).new (fun f e=>by rw[hf']at e;cases e) a6).Gp (by simp) (fun b' f k e=>by rw[ai.gY,amu (by simp)]at e;cases e;cases a6)
 refine⟨d9.UH ?_ ?_ ?_ ?_,⟨Z,by omega,?_,fun c _ hc=>?_,fun _ _ h=> .inl h,by simp,d8⟩⟩
 ·intro l J A h1;rw[d3];rcases I _ _ _ h1 with ⟨_,rfl,_⟩| ⟨_,h1⟩
  ·exact b6
  exact hr.rV _ _ _ h1
 ·intro l1 l2 J A d7 o1 o2 h1 h2 m1 m2;rcases I _ _ _ m1 with ⟨rfl,rfl,_⟩| ⟨e1,m0⟩
  ·rcases I _ _ _ m2 with ⟨rfl,_,_⟩| ⟨e2,m2⟩
   ·rfl
   obtain⟨n2,g2⟩:=V _ _ h2 e2;exact absurd (hr.rW _ _ _ _ _ _ _ g2 U m2 hm) n2
  obtain⟨n1,g1⟩:=V _ _ h1 e1;have d0:=m0;rcases I _ _ _ m2 with ⟨rfl,rfl,_⟩| ⟨e2,m2⟩
  ·exact absurd (hr.rW _ _ _ _ _ _ _ g1 U d0 hm) n1
  exact hr.rW _ _ _ _ _ _ _ g1 (V _ _ h2 e2).2 d0 m2
 ·intro l o1 J A h1 m1;rcases I _ _ _ m1 with ⟨rfl,rfl,rfl⟩| ⟨e,m1⟩
  ·rw[d2]at h1;cases h1;exact⟨d1,co',b4,ho Z⟩
  obtain⟨n1,g1⟩:=V _ _ h1 e;obtain⟨f1,o2,e0,d6⟩:=hr.vL _ _ _ _ g1 m1;have d5:J≠aS:=fun ee=>n1 (hr.rW _ _ _ _ _ _ _ g1 U (ee▸m1) hm);exact⟨f1,o2,(O _ d5).trans e0,d6.mono Z⟩
 ·intro c hc;rw[d3];exact hr.oU c hc
 ·intro c hc hno;exact O c (fun e=>hno ⟨.aS b,o,aD,U,e▸hm⟩)
 obtain⟨l,o1,A,hl,a8⟩:=hc;rcases I _ _ _ a8 with ⟨_,rfl,_⟩| ⟨e,a8⟩
 ·exact⟨.aS b,o,aD,U,hm⟩
 exact⟨l,o1,A,(V _ _ hl e).2,a8⟩
end
def gZ (c:Array Value)(k:Nat):List Value->Array Value
 | []=>c
 |v::r=>gZ (c.setIfInBounds k v) (k+1) r
@[simp] def lZ (c:Array Value)(k:Nat)(vs:List Value):(gZ c k vs).size=c.size:=by
 induction vs generalizing c k with
 |nil=>rfl
 |cons v r A=>simp[gZ,A]
def xS (vs:List Value):∀(c:Array Value) (k j:Nat),k+vs.length<=c.size->(gZ c k vs)[j]?=if k<=j/\j<k+vs.length then vs[j-k]? else c[j]?:=by
 induction vs with
 |nil=>intro c k j _;simp only[gZ,amM,anN];rw[ifN]
 |cons v r I=>
  intro c k j A;simp only[amB]at A;simp only[gZ];rw[I _ _ _ (by simp;omega)]
  by_cases h1:k+1<=j/\j<k+1+r.length
  ·rw[amu h1,amu (by simp only[amB];omega)];rw[show j-k=(j-(k+1))+1 by omega,anO]
  rw[amt h1]
  by_cases h2:j=k
  ·subst h2;rw[amu (by simp only[amB];omega),amV (by omega)];simp
  rw[anc (by omega),amt (by simp only[amB];omega)]
def ZS {w:World}{aS off:Nat}{c:Array Value}{e:TypeId}{fr:Nat×Nat}(h:w.heap[aS]?=some (.cells c e fr))(v:Value):
 w.setCell ⟨aS,off,none⟩ v=w.iI aS (.cells (c.setIfInBounds off v) e fr):=by
 obtain⟨A,hc⟩:=amL.1 h;unfold World.setCell World.iI;congr 1;apply aoA;intro i;rw[aoh]
 by_cases e:aS=i
 ·subst e;rw[amu rfl,amV A,h];rfl
 rw[amt e,anc e]
def Ry (w:World)(r:Nat)(o o':Obj):(w.iI r o).iI r o'=w.iI r o':=by
 unfold World.iI;congr 1;apply aoA;intro i
 by_cases e:r=i
 ·subst e;simp[ape]
 simp[e]
def iJ {w:World}{r:Nat}{o':Obj}(h:r<w.heap.size):(w.iI r o').heap[r]?=some o':=by
 unfold World.iI;exact amV h
def kD {P:Program}(aS off:Nat)(e:TypeId)(lo hi:Nat):∀(vs:List Value) (i:Nat) (c:Array Value) (w:World),
 w.heap[aS]?=some (.cells c e (lo,hi))->off+i+vs.length<=c.size->(∀v∈vs,v.oneCell'=true)->(∀j,j<c.size->¬(lo<=j/\j<hi))->
 (storeCells ⟨aS,off,none⟩ vs i).run P w= .ok () (w.iI aS (.cells (gZ c (off+i) vs) e (lo,hi))):=by
 intro vs
 induction vs with
 |nil=>
  intro i c w h _ _ _;simp only[storeCells,Sem.run_pure,gZ];congr 1;unfold World.iI;obtain⟨A,hc⟩:=amL.1 h;have:w.heap.setIfInBounds aS (.cells c e (lo,hi))=w.heap:=by
   apply aoA;intro j
   by_cases O:aS=j
   ·subst O;rw[amV A,h]
   rw[anc O]
  rw[this]
 |cons v r Y=>
  intro i c w h hb ho hf;simp only[amB]at hb;have A:=(amL.1 h).1;have V:(Addr.add ⟨aS,off,none⟩ i)=⟨aS,off+i,none⟩:=by
   unfold Addr.add;by_cases hi:i=0
   ·subst hi;simp
   simp[hi]
  have I:w.cell? ⟨aS,off+i,none⟩=some (c[off+i]'(by omega)):=by simp[World.cell?,h,show off+i<c.size by omega]
  have J:w.frozen? ⟨aS,off+i,none⟩=false:=by have:=hf (off+i) (by omega);simp only[World.frozen?,h];simpa using this
  simp only[storeCells,Sem.run_bind,V,run_store P w _ v _ (ho v (by simp)),I,J,amp,ann,Result.andThen_ok];rw[ZS h,Y (i+1) (c.setIfInBounds (off+i) v) _ (iJ A) (by simp;omega) (fun v U=>ho v (by simp[U])) (by simpa using hf),Ry];simp only[gZ,aof]
def qU {P:Program}{w:World}{aS off n:Nat}(vs:List Value)(I:vs.length=n)(h:gA w aS off vs):
 (loadCells ⟨aS,off,none⟩ n).run P w= .ok vs.toArray w:=by
 subst I;refine run_loadCells_list w _ vs fun j v A=>?_;have:(Addr.add ⟨aS,off,none⟩ j)=⟨aS,off+j,none⟩:=by
  unfold Addr.add;by_cases hi:j=0
  ·subst hi;simp
  simp[hi]
 rw[this];exact h j v A
def nW (aS off n:Nat):(Addr.add ⟨aS,off,none⟩ n)=⟨aS,off+n,none⟩:=by
 unfold Addr.add;by_cases hi:n=0
 ·subst hi;simp
 simp[hi]
end
end Go.PB
end
