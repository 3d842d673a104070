import GoSem.Claims
import Derived.Control
import Derived.Lone
set_option linter.all false
noncomputable section
namespace Go.PB
def aeS:=@decide_eq_false_iff_not
def aeT:=@decide_eq_true_eq
def aeU:=@List.mem_of_getElem?
def aeV:=@Bool.and_eq_true
def aeW:=@List.length_map
def aeX:=@if_neg
def aeY:=@List.getElem?_eq_getElem
def aeZ:=@if_pos
def ae0:=@Bool.false_eq_true
def ae1:=@List.getElem?_eq_some_iff
def ae2:=@Int.toNat_natCast
def ae3:=@Option.some.injEq
def ae4:=@List.length_append
def ae5:=@List.mem_cons
def ae6:=@Bool.true_eq_false
def ae7:=@List.take_of_length_le
def ae8:=@Nat.eq_of_beq_eq_true
def ae9:=@List.length_cons
def afa:=@Nat.le_refl
def afb:=@Option.map_some
def afc:=@false_implies
def afd:=@beq_eq_false_iff_ne
def afe:=@true_implies
def aff:=@Array.getElem?_eq_some_iff
def afg:=@congrArg
def afh:=@exists_and_left
def afi:=@Array.getElem?_setIfInBounds_self_of_lt
def afj:=@List.mem_singleton
def afk:=@Nat.lt_of_lt_of_le
def afl:=@Option.isSome_iff_exists
def afm:=@and_true
def afn:=@List.mem_cons_of_mem
def afo:=@Bool.eq_iff_iff
def afp:=@List.mem_append
def afq:=@if_true
def afr:=@List.length_eq_zero_iff
def afs:=@Array.getElem?_eq_getElem
def aft:=@decide_true
def afu:=@Bool.not_eq_true'
def afv:=@beq_iff_eq
def afw:=@Nat.le_trans
def afx:=@Array.getElem?_setIfInBounds_ne
def afy:=@List.mem_map
def afz:=@Option.map_eq_some_iff
def afA:=@List.getElem?_take
def afB:=@Bool.true_and
def afC:=@List.length_take
def afD:=@List.nodup_cons
def afE:=@List.getElem?_map
def afF:=@bne_eq_false_iff_eq
def afG:=@List.getElem?_append
def afH:=@List.getElem?_eq_none
def afI:=@List.map_append
def afJ:=@List.mem_cons_self
def afK:=@List.all_eq_true
def afL:=@true_and
def afM:=@Array.getElem?_toList
def afN:=@Array.getD_eq_getD_getElem?
def afO:=@Bool.not_eq_false'
def afP:=@List.map_cons
def afQ:=@Prod.mk.injEq
def afR:=@Nat.mul_le_mul_right
def afS:=@if_false
def afT:=@Nat.zero_add
def afU:=@List.append_nil
def afV:=@Classical.byContradiction
def afW:=@List.take_length
def afX:=@List.length_nil
def afY:=@Option.isSome_some
def afZ:=@List.getElem?_drop
def af0:=@List.getElem?_cons_zero
def af1:=@Option.getD_some
def af2:=@Bool.and_true
def af3:=@List.getElem?_of_mem
def af4:=@List.getD_cons_zero
def af5:=@List.length_replicate
def af6:=@Nat.add_zero
def af7:=@List.getElem?_cons_succ
def af8:=@List.cons_append
def af9:=@Option.bind_some
def aga:=@List.getElem?_eq_none_iff
def agb:=@Nat.lt_succ_of_lt
def agc:=@of_decide_eq_true
def agd:=@Bool.or_eq_true
def age:=@decide_false
def agf:=@List.getElem?_replicate
def agh:=@List.getElem?_set_ne
def agi:=@Nat.add_mul
def agj:=@Nat.add_assoc
def agk:=@List.drop_drop
def agl:=@List.getD_cons_succ
def agm:=@List.foldl_cons
def agn:=@Nat.min_eq_left
def ago:=@List.getElem?_append_left
def agp:=@List.pairwise_cons
def agq:=@ne_eq
def agr:=@Nat.zero_le
def agt:=@List.getElem?_set
def agu:=@List.length_set
def agv:=@List.nil_append
def agw:=@List.drop_set_of_lt
def agx:=@List.getElem?_set_self
def agy:=@List.length_drop
def agz:=@BitVec.toNat_ofInt
def agA:=@UInt8.toNat_lt
def agB:=@bne_iff_ne
def agC:=@List.mem_append_right
def agD:=@Array.all_eq_true_iff_forall_mem
def agE:=@List.mem_append_left
def agF:=@List.take_succ_eq_append_getElem
def agG:=@and_self
def agH:=@Array.ext'
def agI:=@Bool.not_true
def agJ:=@List.getElem?_take_of_lt
def agK:=@Array.getElem?_push
def agL:=@Array.length_toList
def agM:=@Array.toList_append
def agN:=@Array.isEmpty_iff_size_eq_zero
def agO:=@List.drop_zero
def agP:=@Nat.one_mul
def agQ:=@Array.ext_getElem?
def agR:=@Nat.add_comm
def agS:=@Nat.blt_eq
def agT:=@Option.some.inj
def agU:=@Bool.false_or
def agV:=@Nat.lt_irrefl
def agW:=@List.take_append_drop
def agX:=@Nat.le_of_ble_eq_true
def agY:=@List.ext_getElem?
def agZ:=@List.getElem?_inj
def ag0:=@List.nodup_append
def ag1:=@List.getElem?_append_right
def ag2:=@List.length_eraseIdx
def ag3:=@List.length_take_le'
def ag4:=@List.perm_ext_iff_of_nodup
def ag5:=@Nat.testBit_or
def ag6:=@Array.mem_filter
def ag7:=@List.any_eq_true
def ag8:=@List.drop_eq_getElem_cons
def ag9:=@List.map_congr_left
def aha:=@Array.getElem?_replicate
def ahb:=@Bool.and_self
def ahc:=@ByteArray.ext
def ahd:=@List.cons.injEq
def ahe:=@BitVec.toNat_ofNat
def ahf:=@Nat.eq_zero_or_pos
def ahg:=@Int.eq_ofNat_of_zero_le
def ahh:=@Nat.add_sub_cancel_left
def ahi:=@Option.bind_eq_some_iff
def ahj:=@Array.toList_replicate
def ahk:=@Bool.false_and
def ahl:=@List.Perm.refl
def ahm:=@List.append_assoc
def ahn:=@List.flatten_cons
def aho:=@List.length_pos_of_mem
def ahp:=@List.map_map
def ahq:=@List.nodup_nil
def ahr:=@List.tail_cons
def ahs:=@Array.toList_eraseIdxIfInBounds
def aht:=@Array.getElem?_modify
def ahu:=@BitVec.eq_of_toNat_eq
def ahv:=@List.contains_iff_mem
def ahw:=@Array.eq_empty_of_size_eq_zero
def ahx:=@Array.toList_map
def ahy:=@Nat.mod_lt
def ahz:=@Option.getD_none
def ahA:=@Bool.or_eq_false_iff
def ahB:=@List.getElem?_modify
def ahC:=@List.range_eq_range'
def ahD:=@Array.getElem?_setIfInBounds
def ahE:=@List.all_append
def ahF:=@List.length_pos_iff
def ahG:=@Nat.pow_succ
def ahH:=@Nat.zero_mul
def ahI:=@Array.forIn_toList
def ahJ:=@Array.getElem?_append_left
def ahK:=@List.mem_range
def ahL:=@List.take_zero
def ahM:=@Option.isSome_eq_false_iff
def ahN:=@Array.mapM_eq_mapM_toList
def ahO:=@List.extract_eq_take_drop
def ahP:=@Option.isNone_iff_eq_none
def ahQ:=@Array.toList_push
def ahR:=@Bool.eq_false_iff
def ahS:=@List.flatMap_cons
def ahT:=@Bool.or_false
def ahU:=@List.mem_of_mem_eraseIdx
def ahV:=@List.drop_append
def ahW:=@List.isEmpty_iff
def ahX:=@Nat.mod_eq_of_lt
def ahY:=@Array.getElem?_eq_none
def ahZ:=@Bool.true_or
def ah0:=@List.drop_of_length_le
def ah1:=@Nat.mul_comm
def ah2:=@List.drop_left'
def ah3:=@List.foldr_cons
def ah4:=@List.forIn_cons
def ah5:=@List.mem_filter
def ah6:=@List.take_left'
def ah7:=@Nat.not_lt_zero
def ah8:=@UInt8.toNat_inj
def ah9:=@List.contains_toArray
def aia:=@List.eraseIdx_sublist
def aib:=@List.length_filter_le
def aic:=@List.length_singleton
def aid:=@List.mem_iff_getElem?
def aie:=@List.singleton_append
def aif:=@Array.getElem?_range
def aih:=@BitVec.ofInt_natCast
def aii:=@Bool.and_false
def aij:=@Bool.not_false
def aik:=@Int.ofNat_eq_natCast
def ail:=@List.mapM_cons
def aim:=@List.map_id
def ain:=@List.take_take
def aio:=@and_assoc
def aip:=@List.getElem?_range
def aiq:=@List.length_reverse
def air:=@List.mem_map_of_mem
def ais:=@List.take_succ_cons
def ait:=@Nat.succ_eq_add_one
def aiu:=@Array.foldl_toList
def aiv:=@Array.getElem?_map
def aiw:=@List.getLast?_cons
def aix:=@Nat.beq_eq_true_eq
def aiy:=@Option.isSome_none
def aiz:=@UInt8.toNat_ofNat'
def aiA:=@Bool.or_true
def aiB:=@List.map_nil
def aiC:=@List.map_set
def aiD:=@Nat.beq_refl
def aiE:=@gt_iff_lt
def aiF:=@Nat.mul_one
def aiG:=@Nat.sub_mul
def aiH:=@false_or
def aiI:=@not_or
end Go.PB
namespace Go.PB
open Go
section
noncomputable section
inductive D where
 |z (n:Int)
 |b (b:Bool)
 |s (s:List UInt8)
 |r (l:List D)
 deriving Inhabited
def D.int:D->Int
 | .z n=>n
 |_=>0
def D.bool:D->Bool
 | .b x=>x
 |_=>false
def D.bj:D->List UInt8
 | .s x=>x
 |_=>[]
def D.aa:D->List D
 | .r x=>x
 |_=>[]
def D.at (l:List D)(i:Nat):D:=l.getD i (.z 0)
def D.ae (d:D)(i:Nat):D:=D.at d.aa i
mutual
def D.beq:Nat->D->D->Bool
 |0,_,_=>false
 |n+1,a,c=>
  match a,c with
  | .z x,.z y=>x==y
  | .b x,.b y=>x==y
  | .s x,.s y=>x==y
  | .r x,.r y=>D.Bj n x y
  |_,_=>false
def D.Bj:Nat->List D->List D->Bool
 |0,_,_=>false
 |n+1,a,c=>
  match a,c with
  | [],[]=>true
  |x::p,y::q=>D.beq n x y&&D.Bj n p q
  |_,_=>false
end
def D.AA (a b:D):Bool:=@decide (a=b) (Classical.propDecidable _)
def D.eu:List (D×D)->D->Option D
 | [],_=>none
 |p::q,k=>match D.AA p.1 k with|true=>some p.2|false=>D.eu q k
def D.jP:List (D×D)->D->D->List (D×D)
 | [],_,_=>[]
 |p::q,k,v=>match D.AA p.1 k with|true=>(p.1,v)::D.jP q k v|false=>p::D.jP q k v
def D.yg:List (D×D)->D->List (D×D)
 | [],_=>[]
 |p::q,k=>match D.AA p.1 k with|true=>D.yg q k|false=>p::D.yg q k
def D.fv (l:List (D×D))(k:D):Bool:=(D.eu l k).isSome
def D.val (l:List (D×D))(k:D):D:=(D.eu l k).getD (.z 0)
def D.cX:List (D×D)->List D
 | []=>[]
 |p::q=>p.1::D.cX q
def D.iA:List D->List Nat->D->Nat
 |p::q,x::t,k=>match D.AA p k with|true=>x|false=>D.iA q t k
 |_,_,_=>0
def D.B6:List (D×D)->List Nat->D->List Nat
 |p::q,x::t,k=>match D.AA p.1 k with|true=>D.B6 q t k|false=>x::D.B6 q t k
 |_,_,_=>[]
inductive VK where
 |data (e:TypeId)
 |cp (f:Nat) (e:TypeId)
 |Ho
 deriving Inhabited
inductive BV where
 |kC
 |bool (b:Bool)
 |int (k:IntKind) (n:Int)
 |bj (s:List UInt8)
 |gT
 |aG (b off:Nat)
 |vF (cs:List BV)
 |bJ
 |ku
 |bC (e:TypeId) (l:List D)
 |DO (e:TypeId) (l:List D)
 |PE (b n:Nat)
 |DW
 |Mm
 |aV (b n:Nat) (vt:Bool)
 |vd (b:Nat) (e:TypeId) (i off:Nat)
 |pt (b f:Nat) (k:D) (off:Nat)
 |Kq
 |map (b:Nat)
 |func (fn:Fn) (first captured:List BV)
 |yield (l:Nat)
 |agg (cs:List BV)
 |tuple (vs:List BV)
 deriving Inhabited
def BV.undef:BV:= .tuple []
def BV.one:BV->Bool
 | .kC| .agg _| .tuple _=>false
 |_=>true
def BV.tU:BV->Bool
 | .kC=>false
 |_=>true
def BV.cells:BV->List BV
 | .agg cs=>cs
 |v=>[v]
def BV.of:Nat->Value->BV
 |0,_=> .kC
 |n+1,v=>
  match v with
  | .bool b=> .bool b
  | .int k m=> .int k m
  | .string s=> .bj s.data.toList
  | .pointer none=> .gT
  | .slice none 0 0=> .bJ
  | .map none=> .Kq
  | .nilIface=> .DW
  | .nilFunc=> .Mm
  | .agg cs=> .agg (cs.toList.map (BV.of n))
  | .tuple cs=> .tuple (cs.toList.map (BV.of n))
  |_=> .kC
def BV.ofv (v:Value):BV:=BV.of 6 v
mutual
def BV.beq:Nat->BV->BV->Bool
 |0,_,_=>false
 |n+1,a,b=>
  match a,b with
  | .bool x,.bool y=>x==y
  | .int k x,.int j y=>k==j&&x==y
  | .bj x,.bj y=>x==y
  | .gT,.gT=>true
  | .aG x o,.aG y p=>x==y&&o==p
  | .vF x,.vF y=>BV.Bj n x y
  | .bJ,.bJ=>true
  | .bC e l,.bC f m=>e==f&&D.Bj n l m
  | .DO e l,.DO f m=>e==f&&D.Bj n l m
  | .aV x l v,.aV y m u=>x==y&&l==m&&v==u
  | .vd x e i o,.vd y f j p=>x==y&&e==f&&i==j&&o==p
  | .pt x e i o,.pt y f j p=>x==y&&e==f&&D.beq n i j&&o==p
  | .Kq,.Kq=>true
  | .DW,.DW=>true
  | .Mm,.Mm=>true
  | .PE x n,.PE y m=>x==y&&n==m
  | .map x,.map y=>x==y
  | .func f x y,.func g z w=>f==g&&BV.Bj n x z&&BV.Bj n y w
  | .yield x,.yield y=>x==y
  | .agg x,.agg y=>BV.Bj n x y
  | .tuple x,.tuple y=>BV.Bj n x y
  |_,_=>false
def BV.Bj:Nat->List BV->List BV->Bool
 |0,_,_=>false
 |n+1,a,b=>
  match a,b with
  | [],[]=>true
  |x::r,y::s=>BV.beq n x y&&BV.Bj n r s
  |_,_=>false
end
def BV.OY (u v:BV):Bool:=BV.beq 40 u v||@decide (u=v) (Classical.propDecidable _)
def BV.Q4 (u:BV):BV.OY u u=true:=by unfold BV.OY;simp
inductive zu where
 |fn (fn:Fn) (captured:List BV)
 |yield (l:Nat)
 |builtin (b:Builtin) (argTypes:Array TypeId) (type:TypeId) (consts:Array Bool)
 |collected (r:Nat)
 deriving Inhabited
structure tZ where
 target:zu
 args:List BV
 deriving Inhabited
structure RC where
 state:LoopState
 pending:Option Code
 fn:FuncId
 tmps:List BV
 params:Array Tmp
 assign:Code
 body:Code
 defers:Nat
 deriving Inhabited
inductive ax where
 |cells (cs:List BV) (elem:TypeId) (sish:Bool)
 |an (e:TypeId) (l:List D) (vt:Bool)
 |bo (kt:TypeId) (vk:VK) (l:List (D×D)) (st:List Nat) (clock:Nat)
 |jS (m:Nat) (ks:List D) (st:List Nat) (clock:Nat) (seen:List D)
 |ql (b f:Nat) (k:D)
 |loop (l:RC)
 |deferred (calls:Option (List tZ))
 deriving Inhabited
inductive Tr (α:Type) where
 |leaf
 |node (v:Option α) (l r:Tr α)
 deriving Inhabited
def Tr.get {α:Type}(t:Tr α):Nat->Option α:=
 Tr.rec (fun _=>none) (fun v _ _ ihl ihr n=>cond (Nat.beq n 0) v (cond (Nat.beq (Nat.mod n 2) 1) (ihl (Nat.div n 2)) (ihr (Nat.sub (Nat.div n 2) 1)))) t
def Tr.C4 {α:Type}:Nat->Tr α->Nat->Option α->Tr α
 |0,t,_,_=>t
 |f+1,t,n,x=>
  match t with
  | .leaf=>cond (Nat.beq n 0) (.node x .leaf .leaf) (cond (Nat.beq (Nat.mod n 2) 1) (.node none (Tr.C4 f .leaf (Nat.div n 2) x) .leaf) (.node none .leaf (Tr.C4 f .leaf (Nat.sub (Nat.div n 2) 1) x)))
  | .node v l r=>cond (Nat.beq n 0) (.node x l r) (cond (Nat.beq (Nat.mod n 2) 1) (.node v (Tr.C4 f l (Nat.div n 2) x) r) (.node v l (Tr.C4 f r (Nat.sub (Nat.div n 2) 1) x)))
structure af where
 next:Nat
 tr:Tr ax
 deriving Inhabited
def af.get (h:af)(b:Nat):Option ax:=Tr.get h.tr b
def af.put (h:af)(b:Nat)(o:Option ax):af:=
 match h with
 | ⟨next,tr⟩=>⟨next,Tr.C4 (b+1) tr b o⟩
def af.PR (h:af):af:=
 match h with
 | ⟨next,tr⟩=>⟨Nat.succ next,tr⟩
def af.new (h:af)(o:ax):af:=
 match h with
 | ⟨next,tr⟩=>⟨Nat.succ next,Tr.C4 (Nat.succ next) tr next (some o)⟩
section
variable (P:Program)
def ia (t:TypeId):Option Nat:=(P.info? t).map (·.size)
def hY (t:TypeId):Option Bool:=(P.underlying t).map fun| .struct _| .array _ _=>true|_=>false
def jr (t:TypeId):Option BV:=(P.info? t).bind fun i=>i.zero.map BV.ofv
end
def gi (S:TypeId->D->List BV):List Field->Nat->D->List BV
 | [],_,_=>[]
 |f::r,i,d=>S f.type (d.ae i)++gi S r (i+1) d
def dw (P:Program):Nat->TypeId->D->List BV
 |0,_,_=>[]
 |n+1,t,d=>
  match P.underlying t with
  |some (.int k)=>[.int k d.int]
  |some .bool=>[.bool d.bool]
  |some .string=>[.bj d.bj]
  |some (.slice e)=>[.bC e d.aa]
  |some (.struct fs)=>gi (dw P n) fs.toList 0 d
  |_=>[]
def aK (P:Program)(t:TypeId)(d:D):List BV:=dw P 8 t d
def GA (F:TypeId->Bool):List Field->Bool
 | []=>true
 |f::r=>F f.type&&GA F r
def yY (P:Program):Nat->TypeId->Bool
 |0,_=>false
 |n+1,t=>
  match P.underlying t with
  |some (.int _)=>true
  |some .bool=>true
  |some .string=>true
  |some (.slice _)=>true
  |some (.struct fs)=>GA (yY P n) fs.toList
  |_=>false
def cy (P:Program)(t:TypeId):Bool:=yY P 8 t&&(match ia P t with|some n=>Nat.blt 0 n&&Nat.beq (aK P t (.z 0)).length n|none=>false)
def ch (P:Program)(t:TypeId)(d:D):BV:=
 match hY P t with
 |some true=> .agg (aK P t d)
 |_=>(match aK P t d with| [v]=>v|_=> .kC)
def x9 (P:Program)(e:TypeId)(l:List D):List BV:=l.flatMap (aK P e)
def Pk (U:TypeId->List BV->Option (D×List BV)):List Field->List BV->Option (List D×List BV)
 | [],cs=>some ([],cs)
 |f::r,cs=>
  match U f.type cs with
  |some (d,cs1)=>(match Pk U r cs1 with|some (ds,cs2)=>some (d::ds,cs2)|none=>none)
  |none=>none
def Yz (P:Program):Nat->TypeId->List BV->Option (D×List BV)
 |0,_,_=>none
 |n+1,t,cs=>
  match P.underlying t with
  |some (.int k)=>(match cs with| .int k' m::r=>(match k,k' with|k,k'=>if k=k' then some (.z m,r)else none)|_=>none)
  |some .bool=>(match cs with| .bool b::r=>some (.b b,r)|_=>none)
  |some .string=>(match cs with| .bj s::r=>some (.s s,r)|_=>none)
  |some (.slice e)=>
   (match cs with
   | .bC e' l::r=>if e=e' then some (.r l,r)else none
   | .bJ::r=>some (.r [],r)
   | .ku::r=>some (.r [],r)
   | .DO e' l::r=>if e=e' then some (.r l,r)else none
   |_=>none)
  |some (.struct fs)=>(match Pk (Yz P n) fs.toList cs with|some (ds,r)=>some (.r ds,r)|none=>none)
  |_=>none
def Pj (P:Program)(t:TypeId)(cs:List BV):Option D:=match Yz P 8 t cs with|some (d,[])=>some d|_=>none
def J9 (P:Program)(t:TypeId)(size:Nat):Nat->List BV->Option (List D)
 |0,cs=>(match cs with| []=>some []|_=>none)
 |n+1,cs=>
  match Pj P t (cs.take size),J9 P t size n (cs.drop size)with
  |some d,some l=>some (d::l)
  |_,_=>none
def fy (cs:List BV)(off n:Nat):Option (List BV):=
 let r:=(cs.drop off).take n
 if r.length=n then some r else none
def putCells (cs:List BV)(off:Nat)(vs:List BV):Option (List BV):=
 if off+vs.length<=cs.length then some (cs.take off++(vs++cs.drop (off+vs.length)))else none
def Gy (P:Program)(h:af)(b f:Nat)(k:D):Option (TypeId×List (D×D)×TypeId×List Nat×Nat):=
 match h.get b with
 |some (.bo kt (.cp f' e) l st c)=>if Nat.beq f f'&&cy P e&&D.fv l k then some (e,l,kt,st,c)else none
 |_=>none
def Fl (P:Program)(h:af)(ag:Bool)(n:Nat)(b f:Nat)(k:D)(off:Nat):Option BV:=
 match Gy P h b f k with
 |some (e,l,_)=>if ag then (fy (aK P e (D.val l k)) off n).map .agg else (aK P e (D.val l k))[off]?
 |none=>none
def wJ (P:Program)(h:af)(t:TypeId)(a:BV):Option BV:=
 match hY P t,ia P t with
 |some ag,some n=>
  match a with
  | .aG b off=>
    match h.get b with
    |some (.cells cs _ _)=>if ag then (fy cs off n).map .agg else cs[off]?
    |some (.ql b' f k)=>Fl P h ag n b' f k off
    |_=>none
  | .pt b f k off=>Fl P h ag n b f k off
  | .vF cs=>if ag then (fy cs 0 n).map .agg else cs[0]?
  | .vd b e i off=>
    match h.get b with
    |some (.an e' l _)=>if Nat.beq e e'&&cy P e then (if i<l.length then (if ag then (fy (aK P e (D.at l i)) off n).map .agg else (aK P e (D.at l i))[off]?)else none)else none
    |_=>none
  |_=>none
 |_,_=>none
def G0 (P:Program)(h:af)(n:Nat)(b f:Nat)(k:D)(off:Nat)(v:BV):Option af:=
 if v.cells.length=n&&v.cells.all BV.one then
  (match Gy P h b f k with
  |some (e,l,kt,st,c)=>
   (match putCells (aK P e (D.val l k)) off v.cells with
   |some cs=>(match Pj P e cs with
    |some d=>some (h.put b (some (.bo kt (.cp f e) (D.jP l k d) st c)))
    |none=>none)
   |none=>none)
  |none=>none)
 else none
def Aq (P:Program)(h:af)(t:TypeId)(a v:BV):Option af:=
 match ia P t,a with
 |some n,.aG b off=>
  match h.get b with
  |some (.cells cs e s)=>
   if v.cells.length=n&&v.cells.all BV.one then (putCells cs off v.cells).map fun cs'=>h.put b (some (.cells cs' e s))else none
  |some (.ql b' f k)=>G0 P h n b' f k off v
  |_=>none
 |some n,.pt b f k off=>G0 P h n b f k off v
 |some n,.vd b e i off=>
  match h.get b with
  |some (.an e' l vt)=>
   if v.cells.length=n&&v.cells.all BV.one&&(Nat.beq e e'&&cy P e)then
    (match putCells (aK P e (D.at l i)) off v.cells with
    |some cs=>(match Pj P e cs with
     |some d=>if i<l.length then some (h.put b (some (.an e (l.set i d) vt)))else none
     |none=>none)
    |none=>none)
   else none
  |_=>none
 |_,_=>none
def Gp (P:Program)(h:af)(t:TypeId)(v:BV):Option (BV×af):=
 if v.cells.all BV.one then some (.aG h.next 0,h.new (.cells v.cells t false))else none
def Dm (P:Program)(t:TypeId)(cs:List BV)(off:Nat):Option BV:=
 match hY P t,ia P t with
 |some true,some n=>(fy cs off n).map .agg
 |some false,_=>cs[off]?
 |_,_=>none
def qx (P:Program)(E:TypeId->BV->BV->Option Bool):List Field->List BV->List BV->Option Bool
 | [],_,_=>some true
 |f::r,xs,ys=>
  if f.name≠ "_" then
   match Dm P f.type xs f.offset,Dm P f.type ys f.offset with
   |some a,some b=>(match E f.type a b with|some true=>qx P E r xs ys|some false=>some false|none=>none)
   |_,_=>none
  else qx P E r xs ys
def WU:BV->Option Bool
 | .gT=>some true
 | .aG _ _=>some false
 | .vF _=>some false
 | .pt _ _ _ _=>some false
 |_=>none
def Ml:BV->Option Bool
 | .bJ=>some true
 | .ku=>some false
 | .bC _ (_::_)=>some false
 | .aV _ (_+1) _=>some false
 |_=>none
def WT:BV->Option Bool
 | .Kq=>some true
 | .map _=>some false
 |_=>none
def Fq:Option Bool->Option Bool->Option Bool
 |some true,b=>b
 |b,some true=>b
 |_,_=>none
def Eg (P:Program):Nat->TypeId->BV->BV->Option Bool
 |0,_,_,_=>none
 |d+1,t,x,y=>
  match P.underlying t,x,y with
  |some .bool,.bool a,.bool b=>some (a==b)
  |some (.int _),.int k a,.int k' b=>if k=k' then some (a==b)else none
  |some .string,.bj a,.bj b=>some (a==b)
  |some (.pointer _),x,y=>Fq (WU x) (WU y)
  |some (.interface _),.DW,.DW=>some true
  |some (.slice _),x,y=>Fq (Ml x) (Ml y)
  |some (.map _ _),x,y=>Fq (WT x) (WT y)
  |some (.struct ft),.agg xs,.agg ys=>
   if P.stoodInHeld t then none else qx P (Eg P d) ft.toList xs ys
  |_,_,_=>none
def Bu (P:Program)(op:BinOp)(t:TypeId)(x y:Operand)(a b:BV):Bool:=
 match op with
 | .eql| .neq=>
   match a,b with
   | .agg _,.agg _=>!P.eqGuardType P.depth t
   | .DW,.DW=>(x matches .const _)||(y matches .const _)
   |_,_=>true
 |_=>true
def EN:List UInt8->List UInt8->Bool:=Op.bytesLess
def zJ (P:Program)(op:BinOp)(t:TypeId)(x y:BV):Option BV:=
 match op,x,y with
 | .shl,.int k a,.int _ b=>if b<0 then none else some (.int k (k.wrap (a*2^(min b.toNat k.bits))))
 | .shr,.int k a,.int _ b=>if b<0 then none else some (.int k (a.fdiv (2^(min b.toNat k.bits))))
 |_,.int k a,.int k' b=>
  if k≠k' then none else
  match op with
  | .add=>some (.int k (k.wrap (a+b)))
  | .sub=>some (.int k (k.wrap (a-b)))
  | .mul=>some (.int k (k.wrap (a*b)))
  | .quo=>if b=0 then none else some (.int k (k.wrap (a.tdiv b)))
  | .rem=>if b=0 then none else some (.int k (a.tmod b))
  | .and=>some (.int k (k.wrap (BitVec.ofInt k.bits a &&& BitVec.ofInt k.bits b).toNat))
  | .or=>some (.int k (k.wrap (BitVec.ofInt k.bits a ||| BitVec.ofInt k.bits b).toNat))
  | .xor=>some (.int k (k.wrap (BitVec.ofInt k.bits a ^^^ BitVec.ofInt k.bits b).toNat))
  | .andNot=>some (.int k (k.wrap (BitVec.ofInt k.bits a &&& ~~~(BitVec.ofInt k.bits b)).toNat))
  | .eql=>some (.bool (a==b))
  | .neq=>some (.bool (a !=b))
  | .lss=>some (.bool (decide (a<b)))
  | .leq=>some (.bool (decide (a<=b)))
  | .gtr=>some (.bool (decide (a>b)))
  | .geq=>some (.bool (decide (a≥b)))
  |_=>none
 |_,.bj a,.bj b=>
  match op with
  | .add=>if a.length+b.length<2^62 then some (.bj (a++b))else none
  | .eql=>some (.bool (a==b))
  | .neq=>some (.bool (!(a==b)))
  | .lss=>some (.bool (EN a b))
  | .leq=>some (.bool (EN a b||a==b))
  | .gtr=>some (.bool (!(EN a b||a==b)))
  | .geq=>some (.bool (!EN a b))
  |_=>none
 | .eql,x,y=>(Eg P 12 t x y).map .bool
 | .neq,x,y=>(Eg P 12 t x y).map fun b=> .bool (!b)
 |_,_,_=>none
def unB (op:UnOp)(x:BV):Option BV:=
 match op,x with
 | .neg,.int k n=>some (.int k (k.wrap (0-n)))
 | .xor,.int k n=>some (.int k (k.wrap (BitVec.ofInt k.bits (if k.signed then-1 else k.max) ^^^ BitVec.ofInt k.bits n).toNat))
 | .not,.bool b=>some (.bool !b)
 |_,_=>none
def Yx (n:Nat):BV:= .int .i64 n
def Zz:TypeDesc->Bool
 | .int _=>true
 |_=>false
def bg (bytes m:Nat):Bool:=decide ((2*m+1024)*bytes<=2^47)
def M6 (P:Program)(e:TypeId)(size:Nat):Bool:=
 match jr P e with
 |some z=>z.tU&&z.cells.length==size
 |none=>false
def Il (h:af)(e:TypeId):BV->Option (List D)
 | .bJ=>some []
 | .ku=>some []
 | .DO e' l=>if Nat.beq e e' then some l else none
 | .bC e' l=>if Nat.beq e e' then some l else none
 | .aV b n _=>(match h.get b with|some (.an e' l _)=>if Nat.beq e e' then (if n<=l.length then some (l.take n)else none)else none|_=>none)
 |_=>none
def cH (s:List UInt8):List D:=s.map fun b=> .z b.toNat
def bA (l:List D):List UInt8:=l.map fun d=>UInt8.ofNat d.int.toNat
def Hd (P:Program)(e:TypeId):Bool:=match P.underlying e with|some (.int .u8)=>true|_=>false
def UF (P:Program)(h:af)(e:TypeId):BV->Option (List D)
 | .bj s=>if Hd P e&&cy P e then some (cH s)else none
 |x=>Il h e x
def zI (h:af)(e:TypeId)(bytes:Nat)(s:BV)(xs:List D):Option (BV×af):=
 match s with
 | .aV b n vt=>
   (match h.get b with
   |some (.an e' l vt')=>if Nat.beq e e'&&(vt==vt')then (if decide (n=l.length)&&bg bytes (n+xs.length)then some (.aV h.next (n+xs.length) vt,(h.put b none).new (.an e (l++xs) vt))else none)else none
   |_=>none)
 | .bJ=>if bg bytes xs.length then some (.aV h.next xs.length true,h.new (.an e xs true))else none
 | .DO e' l=>if Nat.beq e e' then (if (decide (0<xs.length)||decide (l.length=0))&&bg bytes (l.length+xs.length)then some (.aV h.next (l.length+xs.length) true,h.new (.an e (l++xs) true))else none)else none
 |_=>none
def EK (P:Program)(h:af)(argTypes:Array TypeId)(args:List BV):Option (BV×af):=
 match argTypes[0]?,argTypes[1]?,args with
 |some st,some xt0,[s,x]=>
  match P.underlying st,P.underlying xt0 with
  |some (.slice e),some xt=>
   match P.info? e with
   |some i=>
    if cy P e&&!(Zz xt)&&!(i.bytes==0||!M6 P e i.size)then
     (match UF P h e x with
     |some xs=>zI h e i.bytes s xs
     |none=>none)else none
   |none=>none
  |_,_=>none
 |_,_,_=>none
def CF (P:Program)(K:TypeId->BV->Bool):List Field->List BV->Bool
 | [],_=>true
 |f::r,cs=>(if f.name≠ "_" then (match Dm P f.type cs f.offset with|some x=>K f.type x|none=>false)else true)&&CF P K r cs
def y7 (P:Program):Nat->TypeId->BV->Bool
 |0,_,_=>false
 |n+1,t,v=>
  match P.underlying t,v with
  |some (.struct fs),.agg cs=>CF P (y7 P n) fs.toList cs
  |some (.int _),.int _ _=>true
  |some .string,.bj _=>true
  |some .bool,.bool _=>true
  |_,_=>false
def wb:BV->Bool
 | .int .. | .bj _| .bool _=>true
 | .agg cs=>cs.all fun c=>match c with| .int .. | .bj _| .bool _=>true|_=>false
 |_=>false
def pb (P:Program):List Field->Nat->Bool
 | [],_=>true
 |f::r,i=>f.name != "_"&&Nat.beq f.offset i&&(match P.underlying f.type with|some (.int _)=>true|some .bool=>true|some .string=>true|_=>false)&&(match ia P f.type with|some n=>Nat.beq n 1|none=>false)&&pb P r (i+1)
def An (P:Program)(t:TypeId):Bool:=
 cy P t&&(match P.underlying t with
 |some (.int _)=>true
 |some .bool=>true
 |some .string=>true
 |some (.struct fs)=>pb P fs.toList 0&&!P.stoodInHeld t
 |_=>false)
def unV (P:Program)(t:TypeId)(v:BV):Option D:=
 match hY P t with
 |some true=>(match v with| .agg cs=>Pj P t cs|_=>none)
 |some false=>Pj P t [v]
 |none=>none
def NS (P:Program)(kt:TypeId)(k:BV):Option D:=if An P kt then unV P kt k else none
def wQ (P:Program)(b:Nat)(et:TypeId)(vk:VK)(l:List (D×D))(k:D):Option BV:=
 match vk with
 | .data et'=>if cy P et&&Nat.beq et et' then (if D.fv l k then some (ch P et (D.val l k))else jr P et)else none
 | .cp f _=>if D.fv l k then some (.pt b f k 0)else jr P et
 | .Ho=>if D.fv l k then some (.func (.func (D.val l k).int.toNat) [] [])else jr P et
def vA (P:Program)(h:af)(t:TypeId)(x k:BV)(ok:Bool):Option BV:=
 match P.underlying t with
 |some (.map kt et)=>
  if !y7 P 4 kt k then none else
  match x with
  | .map r=>
    (match h.get r with
    |some (.bo kt' vk l _ _)=>
     (match NS P kt k with
     |some d=>if Nat.beq kt kt' then (match wQ P r et vk l d with|some v=>some (if ok then .tuple [v,.bool (D.fv l d)]else v)|none=>none)else none
     |none=>none)
    |_=>none)
  |_=>none
 |_=>none
def HN (P:Program)(h:af)(r:Nat)(kt:TypeId)(vk:VK)(l:List (D×D))(st:List Nat)(clock:Nat)(k:D)(v:BV):Option af:=
 match vk with
 | .data et=>
   if cy P et then
    (match unV P et v with
    |some d=>if D.fv l k then some (h.put r (some (.bo kt vk (D.jP l k d) st clock)))else some (h.put r (some (.bo kt vk (l++[(k,d)]) (st++[clock]) (clock+1))))
    |none=>none)
   else none
 | .cp f e=>
   if cy P e then
   (match v with
   | .aG c off=>
     (match h.get c with
     |some (.cells cs e' false)=>
      if Nat.beq e e'&&Nat.beq off 0 then
       (match Pj P e cs with
       |some d=>if D.fv l k then none else some ((h.put c (some (.ql r f k))).put r (some (.bo kt vk (l++[(k,d)]) (st++[clock]) (clock+1))))
       |none=>none)
      else none
     |_=>none)
   |_=>none)
   else none
 | .Ho=>(match v with| .func (.func f) [] []=>if D.fv l k then none else some (h.put r (some (.bo kt .Ho (l++[(k,.z (Int.ofNat f))]) (st++[clock]) (clock+1))))|_=>none)
def jo (P:Program)(h:af)(t:TypeId)(m k v:BV):Option af:=
 match P.underlying t,m with
 |some (.map kt _),.map r=>
  if !y7 P 4 kt k then none else
  match h.get r with
  |some (.bo kt' vk l st clock)=>
   (match NS P kt k with
   |some d=>if Nat.beq kt kt' then HN P h r kt vk l st clock d v else none
   |none=>none)
  |_=>none
 |_,_=>none
def L0 (P:Program)(h:af)(argTypes:Array TypeId)(args:List BV):Option (BV×af):=
 match argTypes[0]?,args with
 |some t,[m,k]=>
  match P.underlying t with
  |some (.map kt _)=>
   if !y7 P 4 kt k then none else
   match m with
   | .map r=>
     match h.get r with
     |some (.bo kt' vk l st clock)=>
      (match NS P kt k with
      |some d=>if Nat.beq kt kt' then (match vk with
       | .data et=>some (.tuple [],h.put r (some (.bo kt (.data et) (D.yg l d) (D.B6 l st d) clock)))
       | .cp _ e=>some (.tuple [],(h.put r (some (.bo kt (.cp h.next e) (D.yg l d) (D.B6 l st d) clock))).PR)
       | .Ho=>none)else none
      |none=>none)
     |_=>none
   |_=>none
  |_=>none
 |_,_=>none
def P7 (P:Program)(h:af)(argTypes:Array TypeId)(args:List BV):Option (BV×af):=
 match argTypes[0]?,args with
 |some t,[x]=>
  match P.underlying t,x with
  |some (.map _ _),.map r=>
   match h.get r with
   |some (.bo kt (.data et) _ _ clock)=>some (.tuple [],h.put r (some (.bo kt (.data et) [] [] clock)))
   |_=>none
  |_,_=>none
 |_,_=>none
def QZ (P:Program)(h:af)(t:TypeId)(x:BV):Option (BV×af):=
 match P.underlying t,x with
 |some (.map _ _),.map m=>
  match h.get m with
  |some (.bo _ _ l st clock)=>some (.aG h.next 0,h.new (.jS m (D.cX l) st clock []))
  |_=>none
 |_,_=>none
def xN (P:Program)(b:Nat)(kt:TypeId)(vk:VK)(l:List (D×D))(k:D):Option (BV×BV):=
 if cy P kt then
 (match vk with
 | .data et=>if cy P et then some (ch P kt k,ch P et (D.val l k))else none
 | .cp f _=>some (ch P kt k,.pt b f k 0)
 | .Ho=>none)
 else none
def tR (l:List (D×D))(st:List Nat)(clock:Nat)(ks:List D)(st':List Nat)(clock':Nat):Bool:=@decide (D.cX l=ks/\st=st'/\clock=clock') (Classical.propDecidable _)
def yc (P:Program)(h:af)(it:BV):Option BV:=
 match it with
 | .aG r 0=>
   match h.get r with
   |some (.jS m ks st clock seen)=>
    (match seen.head?,h.get m with
    |some k,some (.bo kt vk l st' clock')=>if tR l st' clock' ks st clock then (xN P m kt vk l k).map fun p=> .tuple [p.1,p.2]else none
    |_,_=>none)
   |_=>none
 |_=>none
def DR (P:Program)(t:TypeId)(x:BV)(i:Nat):Option BV:=
 match P.underlying t with
 |some (.struct fs)=>
  match fs[i]? with
  |some f=>
   match ia P f.type with
   |some (_+1)=>
    match x with
    | .aG b off=>some (.aG b (off+f.offset))
    | .vF cs=>some (.vF (cs.drop f.offset))
    | .vd b e i off=>some (.vd b e i (off+f.offset))
    | .pt b g k off=>some (.pt b g k (off+f.offset))
    |_=>none
   |_=>none
  |none=>none
 |_=>none
def hU (P:Program)(t:TypeId)(x ix:BV):Option BV:=
 match ix with
 | .int _ i=>
   if i<0 then none else
   let i:=i.toNat
   match P.underlying t with
   |some (.slice e)=>
    match ia P e with
    |some size=>
     match x with
     | .bC e' l=>if Nat.beq e e'&&cy P e then (if i<l.length then some (.vF (aK P e (D.at l i)))else none)else none
     | .DO e' l=>if Nat.beq e e'&&cy P e then (if i<l.length then some (.vF (aK P e (D.at l i)))else none)else none
     | .aV b n _=>if cy P e then (if i<n then some (.vd b e i 0)else none)else none
     | .PE b n=>if i<n then some (.aG b (i*size))else none
     |_=>none
    |none=>none
   |some (.array len e)=>
    (match ia P e,x with
    |some size,.aG b off=>if i<len then some (.aG b (off+i*size))else none
    |_,_=>none)
   |_=>none
 |_=>none
def GF (P:Program)(t:TypeId)(x ix:BV):Option BV:=
 match ix with
 | .int _ i=>
   if i<0 then none else
   let i:=i.toNat
   match P.underlying t,x with
   |some .string,.bj s=>(match s[i]? with|some b=>some (.int .u8 b.toNat)|none=>none)
   |_,_=>none
 |_=>none
def Qk (P:Program)(t:TypeId)(x:BV)(i:Nat):Option BV:=
 match P.underlying t,x with
 |some (.struct fs),.agg cs=>(match fs[i]? with|some f=>Dm P f.type cs f.offset|none=>none)
 |_,_=>none
def jF:Option BV->Option (Option Nat)
 |none=>some none
 |some (.int _ i)=>if i<0 then none else some (some i.toNat)
 |_=>none
def kp (l:List D)(lo hi:Nat):List D:=match Nat.beq hi 0 with|true=>[]|false=>(l.take hi).drop lo
def sliceB (P:Program)(t:TypeId)(x:BV)(lo hi mx:Option BV):Option BV:=
 match jF lo,jF hi,jF mx with
 |some lo,some hi,some mx=>
  let l:=lo.getD 0
  match P.underlying t,x with
  |some .string,.bj s=>
   let hh:=hi.getD s.length
   if mx.isNone&&l<=hh&&hh<=s.length then some (.bj ((s.take hh).drop l))else none
  |some (.slice e),.bJ=>if l=0&&hi.getD 0=0&&mx.getD 0=0&&((ia P e).isSome&&(mx.isNone||hi.isSome))then some .bJ else none
  |some (.slice e),.bC e' l'=>
   if Nat.beq e e'&&cy P e then
    (match mx with
    |none=>if decide (l<=hi.getD l'.length)&&decide (hi.getD l'.length<=l'.length)then some (.bC e (kp l' l (hi.getD l'.length)))else none
    |some m=>if Nat.beq m (hi.getD l'.length)&&hi.isSome&&decide (l<=hi.getD l'.length)&&decide (hi.getD l'.length<=l'.length)then some (.DO e (kp l' l (hi.getD l'.length)))else none)
   else none
  |some (.slice e),.aV b n vt=>if cy P e&&Nat.beq l 0&&Nat.beq (hi.getD 1) 0&&Nat.beq (mx.getD 1) 0 then some (.DO e [])else if cy P e&&Nat.beq l 0&&(hi.isSome&&mx.isSome)&&Nat.beq (hi.getD 0) n&&Nat.beq (mx.getD 0) n then some (.aV b n vt)else none
  |some (.slice e),.DO e' l'=>
   if Nat.beq e e'&&cy P e then
    (match mx with
    |none=>if decide (l<=hi.getD l'.length)&&decide (hi.getD l'.length<=l'.length)then some (.bC e (kp l' l (hi.getD l'.length)))else none
    |some m=>if Nat.beq m (hi.getD l'.length)&&hi.isSome&&decide (l<=hi.getD l'.length)&&decide (hi.getD l'.length<=l'.length)then some (.DO e (kp l' l (hi.getD l'.length)))else none)
   else none
  |_,_=>none
 |_,_,_=>none
def De (place:Nat->Option (Nat×Nat))(cells:List BV):List (Nat×BV)->Option (List BV)
 | []=>some cells
 | (i,v)::rest=>
   match place i with
   |none=>none
   |some (off,size)=>
    if v.cells.length=size&&v.tU then (match putCells cells off v.cells with|some LR=>De place LR rest|none=>none)else none
def Xt (P:Program)(fs:Array Field):Option (List (Nat×Nat)):=
 fs.toList.mapM fun f=>(ia P f.type).map fun s=>(f.offset,s)
def PQ (P:Program)(t:TypeId)(parts:List (Nat×BV)):Option BV:=
 match jr P t,P.underlying t with
 |some (.agg zc),some (.struct fs)=>
  match Xt P fs with
  |some ps=>(De (fun i=>ps[i]?) zc parts).map .agg
  |none=>none
 |some (.agg zc),some (.array _ e)=>
  match ia P e with
  |some size=>(De (fun i=>some (i*size,size)) zc parts).map .agg
  |none=>none
 |_,_=>none
def GW (z:List BV):Nat->List BV
 |0=>[]
 |n+1=>z++GW z n
def xa (P:Program)(h:af)(t:TypeId)(len:Nat)(parts:List (Nat×BV)):Option (BV×af):=
 match P.underlying t with
 |some (.slice e)=>
  match ia P e,jr P e with
  |some (size'+1),some z=>
   let size:=size'+1
   if len*size>2^24\/z.cells.length≠size\/¬z.cells.all BV.one then none else
   match De (fun i=>some (i*size,size)) (GW z.cells len) parts with
   |some cs=>if cs.all BV.one then
     (match (if cy P e&&Nat.beq cs.length (len*size)then J9 P e size len cs else none)with
     |some l=>some (.aV h.next len false,h.new (.an e l false))
     |none=>some (.PE h.next len,h.new (.cells cs e false)))else none
   |none=>none
  |_,_=>none
 |_=>none
def sb (P:Program)(h:af)(t:TypeId)(len cap:BV):Option (BV×af):=
 match P.underlying t,len,cap with
 |some (.slice e),.int _ l,.int _ c=>
  match P.info? e,jr P e with
  |some i,some z=>
   if cy P e&&z.cells.all BV.one then
    (match Pj P e z.cells with
    |some d=>if decide (0<=l)&&decide (l<=c)&&decide (c<2^40)&&decide (i.bytes*c<=2^47)then some (.aV h.next l.toNat false,h.new (.an e (List.replicate l.toNat d) false))else none
    |none=>none)
   else none
  |_,_=>none
 |_,_,_=>none
def qp (P:Program)(h:af)(src dst:TypeId)(x:BV):Option BV:=
 match P.underlying src,P.underlying dst,x with
 |some _,some (.int k),.int _ n=>some (.int k (k.wrap n))
 |some _,some .string,.bj s=>some (.bj s)
 |some (.slice e),some .string,x=>if Hd P e&&cy P e then (Il h e x).map fun l=> .bj (bA l)else none
 |_,_,_=>none
def PS (P:Program)(h:af)(src dst:TypeId)(x:BV):Option (BV×af):=
 match P.underlying src,P.underlying dst,x with
 |some .string,some (.slice e),.bj s=>if Hd P e&&cy P e then some (.aV h.next s.length false,h.new (.an e (cH s) false))else none
 |_,_,_=>none
inductive bc where
 |defer (d:tZ)
 |recover
 |value (v:BV)
 |skip
 |enter (f:FuncId) (args:List BV)
 |round (l:Nat) (f:FuncId) (tmps:List BV) (assign body:Code)
 deriving Inhabited
def ZK:BV->BV->Option BV
 | .int k x,.int _ y=>some (.int k (if y<x then y else x))
 |_,_=>none
def ZG:BV->BV->Option BV
 | .int k x,.int _ y=>some (.int k (if y>x then y else x))
 |_,_=>none
def QB (P:Program)(h:af)(argTypes:Array TypeId)(args:List BV):Option BV:=
 match argTypes[0]?,args with
 |some t,[x]=>
  match P.underlying t,x with
  |some .string,.bj s=>some (Yx s.length)
  |some (.slice _),.bJ=>some (Yx 0)
  |some (.slice _),.ku=>some (Yx 0)
  |some (.slice _),.bC _ l=>some (Yx l.length)
  |some (.slice _),.DO _ l=>some (Yx l.length)
  |some (.slice _),.aV _ n _=>some (Yx n)
  |some (.slice _),.PE _ n=>some (Yx n)
  |some (.map _ _),.map r=>(match h.get r with|some (.bo _ _ l _ _)=>some (Yx l.length)|_=>none)
  |_,_=>none
 |_,_=>none
def Bl (P:Program)(h:af)(b:Builtin)(argTypes:Array TypeId)(args:List BV):Option (bc×af):=
 let v (r:Option (BV×af)):Option (bc×af):=r.map fun (x,h)=>(.value x,h)
 match b with
 | .append=>v (EK P h argTypes args)
 | .delete=>v (L0 P h argTypes args)
 | .clear=>v (P7 P h argTypes args)
 | .len=>(QB P h argTypes args).map fun x=>(.value x,h)
 | .min=>(match args with| []=>none|x::r=>(r.foldlM ZK x).map fun x=>(.value x,h))
 | .recover=>some (.recover,h)
 | .max=>(match args with| []=>none|x::r=>(r.foldlM ZG x).map fun x=>(.value x,h))
 |_=>none
def Sc (P:Program)(f:FuncId):Bool:=
 match P.funcs[f]? with
 |some fn=>fn.body.isSome&&!(fn.name== "runtime.NumGoroutine")
 |none=>false
def Cx (P:Program)(f:FuncId)(args:List BV):Option bc:=
 if Sc P f then some (.enter f args)else none
def xE (P:Program)(h:af)(t:zu)(args:List BV):Option (bc×af):=
 match t with
 | .builtin b argTypes _ _=>Bl P h b argTypes args
 | .fn (.func f) captured=>(Cx P f (args++captured)).map fun n=>(n,h)
 | .yield l=>
   match h.get l with
   |some (.loop r)=>
    if args.length≠r.params.size then none else
    some (.round l r.fn ((r.params.toList.zip args).foldl (fun tmps (t,a)=>tmps.set t a) r.tmps) r.assign r.body,h)
   |_=>none
 |_=>none
def Fw (f:BV)(args:List BV):Option tZ:=
 match f with
 | .func fn first captured=>some {target:= .fn fn captured,args:=first++args}
 | .yield l=>some {target:= .yield l,args}
 |_=>none
def tP (ρ:Operand->BV)(c:Call)(type:TypeId):Option tZ:=
 let args:=c.args.toList.map ρ
 match c.callee with
 | .builtin b=>some {target:= .builtin b c.argTypes type (c.args.map fun| .const _=>true|_=>false),args}
 | .value f=>Fw (ρ f) args
 |_=>none
def o0 (P:Program)(h:af)(kt et:TypeId):Option ax:=
 if An P kt then
  (if cy P et then some (.bo kt (.data et) [] [] 0)else
  match P.underlying et with
  |some (.pointer e)=>if cy P e then some (.bo kt (.cp h.next e) [] [] 0)else none
  |some (.func _ _ _)=>some (.bo kt .Ho [] [] 0)
  |_=>none)
 else none
def Dk (P:Program)(h:af)(ρ:Operand->BV)(o:Oper):Option (bc×af):=
 let v (r:Option BV):Option (bc×af):=r.map fun x=>(.value x,h)
 let vh (r:Option (BV×af)):Option (bc×af):=r.map fun (x,h)=>(.value x,h)
 let u (r:Option af):Option (bc×af):=r.map fun h=>(.skip,h)
 match o.op with
 | .move x| .assign x=>some (.value (ρ x),h)
 | .pick c a b=>(match ρ c with| .bool c=>some (.value (if c then ρ a else ρ b),h)|_=>none)
 | .alloc elem=>vh ((jr P elem).bind (Gp P h elem))
 | .box elem x=>vh (Gp P h elem (ρ x))
 | .build t parts=>v (PQ P t (parts.toList.map fun (i,x)=>(i,ρ x)))
 | .buildSlice t len parts=>vh (xa P h t len (parts.toList.map fun (i,x)=>(i,ρ x)))
 | .load t a=>v (wJ P h t (ρ a))
 | .store t a x=>u (Aq P h t (ρ a) (ρ x))
 | .nilCheck x=>
   (match ρ x with
   | .aG b o=>some (.value (.aG b o),h)
   | .vF cs=>some (.value (.vF cs),h)
   | .vd b e i o=>some (.value (.vd b e i o),h)
   | .pt b f k o=>some (.value (.pt b f k o),h)
   | .func fn a b=>(match fn with| .method _=>none|_=>some (.value (.func fn a b),h))
   | .yield l=>some (.value (.yield l),h)
   |_=>none)
 | .binOp op t x y _=>if Bu P op t x y (ρ x) (ρ y)then v (zJ P op t (ρ x) (ρ y))else none
 | .unOp op _ x=>v (unB op (ρ x))
 | .convert src dst x=>v (qp P h src dst (ρ x))
 | .makeFunc fn first captured=>(match fn with| .yield _=>none|_=>some (.value (.func fn (first.toList.map ρ) (captured.toList.map ρ)),h))
 | .makeMap t r=>(match r.map ρ with|none|some (.int _ _)=>(match P.underlying t with|some (.map kt et)=>(o0 P h kt et).map fun o=>(.value (.map h.next),h.new o)|_=>none)|_=>none)
 | .makeSlice t l c=>vh (sb P h t (ρ l) (ρ c))
 | .slice t x lo hi mx=>v (sliceB P t (ρ x) (lo.map ρ) (hi.map ρ) (mx.map ρ))
 | .fieldAddr t x i=>v (DR P t (ρ x) i)
 | .field t x i=>v (Qk P t (ρ x) i)
 | .indexAddr t x ix=>v (hU P t (ρ x) (ρ ix))
 | .index t x ix=>v (GF P t (ρ x) (ρ ix))
 | .lookup t x ix ok=>v (vA P h t (ρ x) (ρ ix) ok)
 | .mapUpdate t m k x| .insert t m k x=>u (jo P h t (ρ m) (ρ k) (ρ x))
 | .range t x=>vh (QZ P h t (ρ x))
 | .entry it=>v (yc P h (ρ it))
 | .extract t i=>(match ρ t with| .tuple vs=>v vs[i]? |_=>none)
 | .call c=>(tP ρ c o.type).bind fun d=>xE P h d.target d.args
 | .defer c=>(tP ρ c o.type).map fun d=>(.defer d,h)
 |_=>none
def opR (P:Program)(h:af)(ρ:Operand->BV)(o:Oper):Option (bc×af):=
 match o.op with
 | .convert src dst x=>(match PS P h src dst (ρ x)with|some r=>some (.value r.1,r.2)|none=>Dk P h ρ o)
 |_=>Dk P h ρ o
structure Gg where
 aN:Array Oper
 bW:List BV
 aF:List (Option BV)
 cI:List Nat
 deriving Inhabited
inductive dI where
 |code (c:Code)
 |inBlock (id:Nat)
 |inLoop (body:Code)
 |inScope (body:Code)
 |inRegion (aN:Array Oper) (todo:List Nat)
 |fQ (d:Gg)
 |inRangeFunc (l:Nat)
 |endRangeFunc (l:Nat)
 |beginRound
 deriving Inhabited
inductive RD where
 |run
 |returning
 deriving Inhabited
structure aZ where
 fn:FuncId
 cx:List BV
 todo:List dI
 defers:List tZ
 mode:RD
 kind:CallKind
 roundOf:Option Nat
 deriving Inhabited
structure av where
 fr:aZ
 cs:List aZ
 h:af
 deriving Inhabited
def uC (cx:List BV):Operand->BV
 | .tmp t=>cx.getD t BV.undef
 | .const v=>BV.ofv v
 | .global _=> .kC
 | .func f=> .func (.func f) [] []
def uh (cx:List BV)(dst:Option Nat)(v:BV):List BV:=
 match dst with
 |some d=>cx.set d v
 |none=>cx
def Kf (aN:Array Oper)(cx:Nat->Option BV)(j:Nat):Option (Option Bool):=
 match (aN[j]?).bind (·.dst)with
 |some d=>(match cx d with|some (.bool b)=>some (some b)|some .kC=>none|_=>some none)
 |none=>some none
def kF (o:Oper)(aN:Array Oper)(cx:Nat->Option BV):Option Bool:=
 match o.guard with
 |none=>some true
 |some (j,want)=>(Kf aN cx j).map fun r=>r==some want
def qy (id:Nat):List dI->Option (List dI)
 | .inBlock id'::k=>if id'==id then some k else qy id k
 |_::k=>qy id k
 | []=>none
def qH (l:Nat):List dI->Option (List dI)
 | .inScope body::k=>
   match findLabel body l with
   |some rest=>some (.code rest:: .inScope body::k)
   |none=>qH l k
 |_::k=>qH l k
 | []=>none
def dn (P:Program)(f:FuncId)(args:List BV)(kind:CallKind):Option aZ:=
 match P.funcs[f]? with
 |some fn=>
  match fn.body with
  |some c=>some {fn:=f,cx:=args++List.replicate (fn.ntmps-args.length) BV.undef,todo:=[.code c],defers:=[],mode:= .run,kind,roundOf:=none}
  |none=>none
 |none=>none
def jX (o:Oper):Bool:=
 match o.op with
 | .move _| .assign _| .pick .. | .alloc _| .box .. | .build .. | .buildSlice .. | .load .. | .nilCheck _| .binOp .. | .unOp ..
 | .makeFunc .. | .makeMap .. | .makeSlice .. | .slice .. | .fieldAddr .. | .field .. | .indexAddr .. | .index .. | .lookup .. | .entry _
 | .extract .. =>false
 | .convert s d _=>s==d
 | .call c=>(match c.callee with| .builtin .len| .builtin .min| .builtin .max=>false|_=>true)
 |_=>true
def kh (o:Oper):Bool:=
 match o.op with
 | .alloc _| .box .. | .buildSlice .. | .makeMap .. | .makeSlice .. =>true
 |_=>false
def GJ (o:Oper):Bool:=
 match o.op with
 | .load .. | .lookup .. | .binOp .. | .entry .. | .convert .. | .slice .. | .call .. =>true
 |_=>false
def gy:List Oper->List Nat->List Nat
 | [],acc=>acc
 |o::r,acc=>gy r (acc++[o.after.toList.foldl (fun s e=>if Region.binds .any e then s ||| 2^e.on ||| acc.getD e.on 0 else s) 0])
def aP (aN:Array Oper):List Nat:=gy aN.toList []
def dk (bits:List Nat)(i j:Nat):Bool:=(bits.getD i 0).testBit j
def B8 (t:Nat):List Oper->Nat->Option Nat
 | [],_=>none
 |o::r,k=>if o.dst==some t then some k else B8 t r (k+1)
def eR (aN:Array Oper)(t:Nat):Option Nat:=B8 t aN.toList 0
def II (o:Oper):List Nat:=o.op.operands.toList.filterMap fun| .tmp t=>some t|_=>none
def IJ (bits:List Nat):List Nat->Bool
 | []=>true
 |a::r=>r.all (fun b=>dk bits b a)&&IJ bits r
def Gv (aN:Array Oper):Bool:=
 let bits:=aP aN
 let l:=aN.toList
 let n:=l.length
 let cI:=(List.range n).filter fun i=>(l[i]?).any jX
 ((List.range n).all fun i=>match l[i]? with
   |some o=>(o.after.toList.all fun e=>!Region.binds .any e||decide (e.on<i))&&
     (match o.dst with|some t=>eR aN t==some i|none=>true)&&
     ((II o).all fun t=>match eR aN t with|some k=>dk bits i k||dk bits k i||k==i|none=>true)&&
     (match o.guard with|some (j,_)=>dk bits i j|none=>true)
   |none=>true)&&
 IJ bits cI
def Gw (aN:Array Oper)(n:Nat):Bool:=aN.toList.all fun o=>match o.dst with|some t=>Nat.blt t n|none=>true
def qq (aN:Array Oper):List Nat:=(List.range aN.size).filter fun i=>(aN[i]?).any jX
def mV (aN:Array Oper)(bits:List Nat)(bW:List BV)(aF:List (Option BV))(i t:Nat):BV:=
 match eR aN t with
 |some k=>if dk bits i k then (aF.getD k none).getD .kC else bW.getD t BV.undef
 |none=>bW.getD t BV.undef
def kv (aN:Array Oper)(bits:List Nat)(bW:List BV)(aF:List (Option BV))(i:Nat):Operand->BV
 | .tmp t=>mV aN bits bW aF i t
 | .const v=>BV.ofv v
 | .global _=> .kC
 | .func f=> .func (.func f) [] []
def r9 (P:Program)(aN:Array Oper)(bits:List Nat)(bW:List BV)(cI:List Nat):List Nat->af->List (Option BV)->Option (af×List (Option BV))
 | [],h,aF=>some (h,aF)
 |i::rest,h,aF=>
  match aN[i]?,aF.getD i none with
  |some o,none=>
   if jX o||cI.any (dk bits i)then r9 P aN bits bW cI rest h aF else
   match kF o aN (fun t=>some (mV aN bits bW aF i t))with
   |some true=>
    match Dk P h (kv aN bits bW aF i) o with
    |some (.value v,h')=>r9 P aN bits bW cI rest h' (aF.set i (some v))
    |_=>none
   |some false=>r9 P aN bits bW cI rest h (aF.set i (some BV.undef))
   |none=>none
  |_,_=>r9 P aN bits bW cI rest h aF
def CJ (P:Program)(aN:Array Oper)(bits:List Nat)(bW:List BV)(aF:List (Option BV))(x:Nat)(h:af):List Nat->Bool
 | []=>true
 |i::rest=>
  (match aN[i]?,aF.getD i none with
  |some o,some v=>
   if jX o||kh o||!GJ o||dk bits x i then true else
   match kF o aN (fun t=>some (mV aN bits bW aF i t))with
   |some true=>(match Dk P h (kv aN bits bW aF i) o with|some (.value u,_)=>BV.OY u v|_=>false)
   |some false=>true
   |none=>false
  |_,_=>true)&&CJ P aN bits bW aF x h rest
def qE (aN:Array Oper)(aF:List (Option BV)):Nat->List BV->List BV
 |_,[]=>[]
 |t,x::r=>(match eR aN t with|some k=>(aF.getD k none).getD .kC|none=>x)::qE aN aF (t+1) r
def Bp (P:Program)(d:Gg)(x:Nat)(v:BV)(h:af):Option (Gg×af):=
 let bits:=aP d.aN
 let aF:=d.aF.set x (some v)
 let cI:=d.cI.tail
 let is:=List.range d.aN.size
 if CJ P d.aN bits d.bW d.aF x h is then
  (r9 P d.aN bits d.bW cI is h aF).map fun (h',vals')=>({d with aF:=vals',cI},h')
 else none
def nv (P:Program)(fr:aZ)(v:BV)(h:af):Option (aZ×af):=
 match fr.mode with
 | .run=>
   (match fr.todo with
   | .inRegion aN (i::rest)::k=>some ({fr with cx:=uh fr.cx ((aN[i]?).bind (·.dst)) v,todo:= .inRegion aN rest::k},h)
   | .fQ d::k=>
     (match d.cI with
     |x::_=>(Bp P d x v h).map fun (d',h')=>({fr with todo:= .fQ d'::k},h')
     | []=>none)
   | .inRangeFunc l::k=>some ({fr with todo:= .endRangeFunc l::k},h)
   |_=>none)
 |_=>none
def B4 (P:Program)(h:af)(fn:Func)(cx:List BV):Option BV:=
 match fn.results.toList.mapM fun
  | .tmp t=>some (cx.getD t BV.undef)
  | .cell a t=>wJ P h t (cx.getD a BV.undef)with
 |some [v]=>some v
 |some vs=>some (.tuple vs)
 |none=>none
def lA (P:Program)(fr:aZ)(cs:List aZ)(kind:CallKind):bc×af->Option av
 | (.value v,h)=>(nv P fr v h).map fun (fr,h)=>{fr,cs,h}
 | (.skip,h)=>(nv P fr BV.undef h).map fun (fr,h)=>{fr,cs,h}
 | (.defer d,h)=>if fr.roundOf.isSome then none else (nv P {fr with defers:=d::fr.defers} BV.undef h).map fun (fr,h)=>{fr,cs,h}
 | (.recover,h)=>if fr.roundOf.isSome||cs.isEmpty then none else (nv P fr .DW h).map fun (fr,h)=>{fr,cs,h}
 | (.enter f args,h)=>(dn P f args kind).map fun c=>{fr:=c,cs:=fr::cs,h}
 | (.round l f tmps assign body,h)=>some {fr:={fn:=f,cx:=tmps,todo:=[.code assign,.beginRound,.code body],defers:=[],mode:= .run,kind:= .normal,roundOf:=some l},cs:=fr::cs,h}
def rV (P:Program)(fr:aZ)(cs:List aZ)(v:BV)(h:af):Option av:=
 match cs with
 |caller::rest=>
  match fr.kind with
  | .normal=>(nv P caller v h).map fun (c,h)=>{fr:=c,cs:=rest,h}
  | .deferred=>(match caller.mode with| .returning=>some {fr:=caller,cs:=rest,h}| .run=>none)
  |_=>none
 | []=>none
def ye (P:Program)(fr:aZ)(cs:List aZ)(h:af)(jump:Option Code):Option av:=
 match fr.roundOf with
 |none=>(match jump with|none|some .ret=>some {fr:={fr with mode:= .returning},cs,h}|_=>none)
 |some l=>
  match h.get l with
  |some (.loop r)=>rV P fr cs (.bool jump.isNone) (h.put l (some (.loop {r with state:=if jump.isNone then .ready else .done,pending:=jump})))
  |_=>none
def xP (P:Program)(fr:aZ)(cs:List aZ)(h:af):Option av:=
 match fr.defers with
 |d::ds=>
  match d.target with
  | .collected block=>
    (match h.get block with
    |some (.deferred (some calls))=>some {fr:={fr with defers:=calls++ds},cs,h:=h.put block (some (.deferred none))}
    |_=>none)
  |_=>
   (match xE P h d.target d.args with
   |some (.enter f args,h)=>(dn P f args .deferred).map fun c=>{fr:=c,cs:={fr with defers:=ds}::cs,h}
   |_=>none)
 | []=>
   match fr.mode with
   | .run=>none
   | .returning=>
     match P.funcs[fr.fn]? with
     |none=>none
     |some fn=>
      match B4 P h fn fr.cx with
      |some v=>rV P fr cs v h
      |none=>none
def dj (P:Program)(s:av):Option av:=
 let {fr,cs,h}:=s
 match fr.mode with
 | .run=>
   let to (todo:List dI):Option av:=some {fr:={fr with todo},cs,h}
   match fr.todo with
   | []=>ye P fr cs h none
   | .code .ret::_=>ye P fr cs h (some .ret)
   | .code .skip::k| .code (.label _)::k| .inBlock _::k| .inScope _::k=>to k
   | .code (.seq a b)::k=>to (.code a:: .code b::k)
   | .code (.cond c thn els)::k=>
     (match uC fr.cx c with
     | .bool b=>to (.code (if b then thn else els)::k)
     |_=>none)
   | .code (.block id body)::k=>to (.code body:: .inBlock id::k)
   | .code (.loop body)::k| .inLoop body::k=>to (.code body:: .inLoop body::k)
   | .code (.scope body)::k=>to (.code body:: .inScope body::k)
   | .code (.exit id)::k=>(match qy id k with|some k'=>to k'|none=>ye P fr cs h (some (.exit id)))
   | .code (.goto l)::k=>(match qH l k with|some k'=>to k'|none=>ye P fr cs h (some (.goto l)))
   | .code (.rangeFunc f params assign body)::k=>
     let (block,mark,h1):=match fr.roundOf with
      |some l=>(match h.get l with|some (.loop r)=>(some r.defers,[],h)|_=>(none,[],h))
      |none=>(some h.next,[({target:= .collected h.next,args:=[]}:tZ)],h.new (.deferred (some [])))
     (match block with
     |none=>none
     |some aA=>
      let l:=h1.next
      let h2:=h1.new (.loop {state:= .ready,pending:=none,fn:=fr.fn,tmps:=fr.cx,params,assign,body,defers:=aA})
      let fr':={fr with todo:= .inRangeFunc l::k,defers:=mark++fr.defers}
      (Fw (uC fr.cx f) [.yield l]).bind fun d=>
        (xE P h2 d.target d.args).bind fun r=>match r with| (.enter g args,h3)=>lA P fr' cs .normal (.enter g args,h3)|_=>none)
   | .inRangeFunc _::_=>none
   | .beginRound::k=>
     (match fr.roundOf with
     |some l=>
      (match h.get l with
      |some (.loop r)=>if r.state= .ready then some {fr:={fr with todo:=k},cs,h:=h.put l (some (.loop {r with state:= .busy}))}else none
      |_=>none)
     |none=>none)
   | .endRangeFunc l::k=>
     (match h.get l with
     |some (.loop r)=>if r.state= .busy then none else
       some {fr:={fr with todo:=(r.pending.map dI.code).toList++k},cs,h:=h.put l (some (.loop {r with state:= .exhausted}))}
     |_=>none)
   | .code (.refuse _)::_=>none
   | .code (.region _ aN draw)::k=>
     if !draw then to (.inRegion aN (List.range aN.size)::k)else
     if !(Gv aN&&Gw aN fr.cx.length)then none else
     let cI:=qq aN
     (r9 P aN (aP aN) fr.cx cI (List.range aN.size) h (List.replicate aN.size none)).map fun (h',aF)=>
       {fr:={fr with todo:= .fQ {aN,bW:=fr.cx,aF,cI}::k},cs,h:=h'}
   | .inRegion _ []::k=>to k
   | .inRegion aN (i::rest)::k=>
     (match aN[i]? with
     |none=>to (.inRegion aN rest::k)
     |some o=>
      match kF o aN (fun t=>fr.cx[t]?)with
      |some true=>(opR P h (uC fr.cx) o).bind (lA P fr cs .normal)
      |some false=>to (.inRegion aN rest::k) |>.map fun s=>{s with fr:={s.fr with cx:=uh fr.cx o.dst BV.undef}}
      |none=>none)
   | .fQ d::k=>
     (match d.cI with
     | []=>some {fr:={fr with cx:=qE d.aN d.aF 0 d.bW,todo:=k},cs,h}
     |x::_=>
      match d.aN[x]? with
      |none=>none
      |some o=>
       let bits:=aP d.aN
       match kF o d.aN (fun t=>some (mV d.aN bits d.bW d.aF x t))with
       |some true=>(Dk P h (kv d.aN bits d.bW d.aF x) o).bind (lA P fr cs .normal)
       |some false=>(nv P fr BV.undef h).map fun (fr,h)=>{fr,cs,h}
       |none=>none)
 |_=>xP P fr cs h
def av.ended (s:av):Bool:=s.cs.isEmpty&&(s.fr.mode matches .returning)&&s.fr.defers.isEmpty
def hS:af:={next:=0,tr:= .leaf}
end
end
section
structure Gh where
 m:Nat->Option (Nat×Nat)
 fz:Nat->Prop
 s:Nat->D->Option (Nat×Nat)
def ep (w:World)(aA off:Nat)(vs:List Value):Prop:=∀i x,vs[i]?=some x->w.cell? ⟨aA,off+i,none⟩=some x
def aew (P:Program)(w:World)(aA off c:Nat):Prop:=∃e n,w.shape? aA=some (e,n)/\off+c*P.cellsOf e<=n
inductive mW (P:Program)(fz:Nat->Prop)(w:World):TypeId->D->List Value->Prop where
 |int {t:TypeId} {k:IntKind} {d:D} (h:P.underlying t=some (.int k)):mW P fz w t d [.int k d.int]
 |bool {t:TypeId} {d:D} (h:P.underlying t=some .bool):mW P fz w t d [.bool d.bool]
 |bj {t:TypeId} {d:D} (h:P.underlying t=some .string):mW P fz w t d [.string ⟨d.bj.toArray⟩]
 |bJ {t e:TypeId} {d:D} (h:P.underlying t=some (.slice e)) (h0:d.aa=[]):mW P fz w t d [.slice none 0 0]
 |empty {t e:TypeId} {d:D} (h:P.underlying t=some (.slice e)) (h0:d.aa=[]) (a:Addr) (c:Nat):mW P fz w t d [.slice (some a) 0 c]
 |slice {t e:TypeId} {d:D} (h:P.underlying t=some (.slice e)) (aA off c:Nat) (vs:List Value) (hf:fz aA) (hc:d.aa.length<=c) (hl:vs.length=d.aa.length*P.cellsOf e)
   (hi:∀i x,d.aa[i]?=some x->mW P fz w e x ((vs.drop (i*P.cellsOf e)).take (P.cellsOf e))) (hat:ep w aA off vs):mW P fz w t d [.slice (some ⟨aA,off,none⟩) d.aa.length c]
 |struct {t:TypeId} {fs:Array Field} {d:D} (h:P.underlying t=some (.struct fs)) (css:List (List Value)) (hl:css.length=fs.toList.length)
   (hi:∀i f cs,fs.toList[i]?=some f->css[i]?=some cs->mW P fz w f.type (d.ae i) cs):mW P fz w t d css.flatten
def cD (P:Program)(fz:Nat->Prop)(w:World)(e:TypeId)(l:List D)(vs:List Value):Prop:=
 vs.length=l.length*P.cellsOf e/\∀i x,l[i]?=some x->mW P fz w e x ((vs.drop (i*P.cellsOf e)).take (P.cellsOf e))
def Ha (P:Program)(fz:Nat->Prop)(w:World)(e:TypeId)(l:List D)(aA off:Nat):Prop:=
 fz aA/\∃vs,cD P fz w e l vs/\ep w aA off vs
mutual
def ai (P:Program)(g:Gh)(w:World):BV->Value->Prop
 | .kC,_=>True
 | .bool b,v=>v= .bool b
 | .int k n,v=>v= .int k n
 | .bj s,v=>v= .string ⟨s.toArray⟩
 | .gT,v=>v= .pointer none
 | .aG b off,v=>∃aA au,g.m b=some (aA,au)/\v= .pointer (some ⟨aA,au+off,none⟩)
 | .vF cs,v=>∃aA off,v= .pointer (some ⟨aA,off,none⟩)/\g.fz aA/\∃vs,ak P g w cs vs/\ep w aA off vs
 | .bJ,v=>v= .slice none 0 0
 | .ku,v=>∃a c,v= .slice (some a) 0 c
 | .bC e l,v=>(l=[]/\(v= .slice none 0 0\/∃a c,v= .slice (some a) 0 c))\/∃aA off c,v= .slice (some ⟨aA,off,none⟩) l.length c/\l.length<=c/\Ha P g.fz w e l aA off
 | .DO e l,v=>(l=[]/\(v= .slice none 0 0\/∃a,v= .slice (some a) 0 0))\/∃aA off,v= .slice (some ⟨aA,off,none⟩) l.length l.length/\Ha P g.fz w e l aA off
 | .aV b n vt,v=>((vt=true/\n=0)/\(v= .slice none 0 0\/∃a,v= .slice (some a) 0 0))\/∃aA au c,g.m b=some (aA,au)/\v= .slice (some ⟨aA,au,none⟩) n c/\n<=c/\aew P w aA au c
 | .PE b n,v=>∃aA au,g.m b=some (aA,au)/\v= .slice (some ⟨aA,au,none⟩) n n
 | .DW,v=>v= .nilIface
 | .Mm,v=>v= .nilFunc
 | .vd b e i off,v=>∃aA au,g.m b=some (aA,au)/\v= .pointer (some ⟨aA,au+(i*P.cellsOf e+off),none⟩)
 | .pt b f k off,v=>∃aA au,g.s f k=some (aA,au)/\v= .pointer (some ⟨aA,au+off,none⟩)/\∃y,g.m b=some y
 | .Kq,v=>v= .map none
 | .map b,v=>∃aA,g.m b=some (aA,0)/\v= .map (some aA)
 | .func fn a c,v=>∃a' c',v= .func fn a' c'/\ak P g w a a'.toList/\ak P g w c c'.toList
 | .yield l,v=>∃aA,g.m l=some (aA,0)/\v= .func (.yield aA) #[] #[]
 | .agg cs,v=>∃vs,v= .agg vs/\ak P g w cs vs.toList
 | .tuple cs,v=>∃vs,v= .tuple vs/\ak P g w cs vs.toList
def ak (P:Program)(g:Gh)(w:World):List BV->List Value->Prop
 | [],vs=>vs=[]
 |b::bs,vs=>∃v vr,vs=v::vr/\ai P g w b v/\ak P g w bs vr
end
section lists
variable {P:Program} {g:Gh} {w:World}
def ak.length {bs:List BV}:∀{vs:List Value},ak P g w bs vs->vs.length=bs.length:=by
 induction bs with
 |nil=>intro vs h;simp[ak]at h;simp[h]
 |cons b bs ih=>intro vs h;simp only[ak]at h;obtain⟨v,vr,rfl,_,h⟩:=h;simp[ih h]
def ak.get {bs:List BV}:∀{vs:List Value},ak P g w bs vs->∀{i:Nat} {b:BV},bs[i]?=some b->∃v,vs[i]?=some v/\ai P g w b v:=by
 induction bs with
 |nil=>intro vs _ i b h;simp at h
 |cons x bs ih=>
  intro vs h i b hb
  simp only[ak]at h
  obtain⟨v,vr,rfl,hv,hr⟩:=h
  cases i with
  |zero=>simp at hb;subst hb;exact⟨v,by simp,hv⟩
  |succ i=>simp at hb;obtain⟨u,hu,hr'⟩:=ih hr hb;exact⟨u,by simpa using hu,hr'⟩
def ak.ab8 {bs:List BV}{vs:List Value}(h:ak P g w bs vs){i:Nat}{v:Value}(hv:vs[i]?=some v):∃b,bs[i]?=some b/\ai P g w b v:=by
 have hl:=h.length
 have hi:i<bs.length:=by have:=(ae1.1 hv).1;omega
 obtain⟨u,hu,hr⟩:=h.get (aeY hi)
 rw[hv]at hu;cases hu
 exact⟨_,aeY hi,hr⟩
def ak.qU {bs:List BV}:∀{vs:List Value},vs.length=bs.length->(∀(i:Nat) b v,bs[i]?=some b->vs[i]?=some v->ai P g w b v)->ak P g w bs vs:=by
 induction bs with
 |nil=>intro vs hl _;simp at hl;simp[ak,hl]
 |cons b bs ih=>
  intro vs hl h
  cases vs with
  |nil=>simp at hl
  |cons v vr=>
   simp only[ak]
   exact⟨v,vr,rfl,h 0 b v (by simp) (by simp),ih (by simpa using hl) fun i b' v' hb hv=>h (i+1) b' v' (by simpa using hb) (by simpa using hv)⟩
def ak.append {as bs:List BV}{us vs:List Value}(h:ak P g w as us)(k:ak P g w bs vs):ak P g w (as++bs) (us++vs):=by
 refine ak.qU (by simp[h.length,k.length]) fun i b v hb hv=>?_
 rw[afG]at hb hv
 rw[h.length]at hv
 split at hb
 ·rename_i hlt;rw[aeZ hlt]at hv;obtain⟨v',h1,h2⟩:=h.get hb;rw[h1]at hv;cases hv;exact h2
 ·rename_i hlt;rw[aeX hlt]at hv;obtain⟨v',h1,h2⟩:=k.get hb;rw[h1]at hv;cases hv;exact h2
def ak.take {bs:List BV}{vs:List Value}(n:Nat)(h:ak P g w bs vs):ak P g w (bs.take n) (vs.take n):=by
 refine ak.qU (by simp[h.length]) fun i b v hb hv=>?_
 rw[afA]at hb hv
 split at hb
 ·rename_i hlt;rw[aeZ hlt]at hv;obtain⟨v',h1,h2⟩:=h.get hb;rw[h1]at hv;cases hv;exact h2
 ·cases hb
def ak.drop {bs:List BV}{vs:List Value}(n:Nat)(h:ak P g w bs vs):ak P g w (bs.drop n) (vs.drop n):=by
 refine ak.qU (by simp[h.length]) fun i b v hb hv=>?_
 rw[afZ]at hb hv
 obtain⟨v',h1,h2⟩:=h.get hb;rw[h1]at hv;cases hv;exact h2
def ak.set {bs:List BV}{vs:List Value}{b:BV}{v:Value}(n:Nat)(h:ak P g w bs vs)(hv:ai P g w b v):ak P g w (bs.set n b) (vs.set n v):=by
 refine ak.qU (by simp[h.length]) fun i b' v' hb hv'=>?_
 rw[agt]at hb hv'
 split at hb
 ·rename_i e;subst e
  split at hb
  ·simp at hb;subst hb;rename_i hlt;rw[aeZ rfl,aeZ (by rw[h.length];exact hlt)]at hv';cases hv';exact hv
  ·cases hb
 ·rename_i e;rw[aeX e]at hv';obtain⟨u,h1,h2⟩:=h.get hb;rw[h1]at hv';cases hv';exact h2
def ak.map {α:Type}{l:List α}{f:α->BV}{f':α->Value}(h:∀a∈l,ai P g w (f a) (f' a)):ak P g w (l.map f) (l.map f'):=by
 induction l with
 |nil=>simp[ak]
 |cons a l ih=>
  simp only[afP,ak]
  exact⟨_,_,rfl,h a (by simp),ih fun b hb=>h b (by simp[hb])⟩
def ak.replicate {b:BV}{v:Value}(h:ai P g w b v)(n:Nat):ak P g w (List.replicate n b) (List.replicate n v):=by
 refine ak.qU (by simp) fun i b' v' hb hv=>?_
 rw[agf]at hb hv
 split at hb
 ·rename_i hlt;rw[aeZ hlt]at hv;cases hb;cases hv;exact h
 ·cases hb
def ak.cons {b:BV}{v:Value}{bs:List BV}{vs:List Value}(h:ai P g w b v)(k:ak P g w bs vs):ak P g w (b::bs) (v::vs):=by
 simp only[ak];exact⟨v,vs,rfl,h,k⟩
def ak.nil:ak P g w [] []:=by simp[ak]
def ak.one {b:BV}{vs:List Value}(h:ak P g w [b] vs):∃v,vs=[v]/\ai P g w b v:=by
 simp only[ak]at h;obtain⟨v,vr,rfl,hv,rfl⟩:=h;exact⟨v,rfl,hv⟩
def ak.two {a b:BV}{vs:List Value}(h:ak P g w [a,b] vs):∃u v,vs=[u,v]/\ai P g w a u/\ai P g w b v:=by
 simp only[ak]at h;obtain⟨u,vr,rfl,hu,v,vr',rfl,hv,rfl⟩:=h;exact⟨u,v,rfl,hu,hv⟩
def ai.undef:ai P g w BV.undef Go.undef:=by
 simp only[BV.undef,Go.undef,ai];exact⟨#[],rfl,ak.nil⟩
def ai.one {b:BV}{v:Value}(h:ai P g w b v)(ho:b.one=true):v.cells=#[v]/\(∀cs,v≠ .agg cs)/\∀cs,v≠ .tuple cs:=by
 cases b<;>simp only[BV.one,ae0]at ho<;>simp only[ai]at h
 case aG=>obtain⟨_,_,_,rfl⟩:=h;simp[Value.cells]
 case vF=>obtain⟨_,_,rfl,_⟩:=h;simp[Value.cells]
 case ku=>obtain⟨_,_,rfl⟩:=h;simp[Value.cells]
 case bC=>obtain⟨_,rfl| ⟨_,_,rfl⟩⟩| ⟨_,_,_,rfl,_⟩:=h<;>simp[Value.cells]
 case DO=>obtain⟨_,rfl| ⟨_,rfl⟩⟩| ⟨_,_,rfl,_⟩:=h<;>simp[Value.cells]
 case aV=>obtain⟨_,rfl| ⟨_,rfl⟩⟩| ⟨_,_,_,_,rfl,_⟩:=h<;>simp[Value.cells]
 case vd=>obtain⟨_,_,_,rfl⟩:=h;simp[Value.cells]
 case PE=>obtain⟨_,_,_,rfl⟩:=h;simp[Value.cells]
 case pt=>obtain⟨_,_,_,rfl,_⟩:=h;simp[Value.cells]
 case map=>obtain⟨_,_,rfl⟩:=h;simp[Value.cells]
 case func=>obtain⟨_,_,rfl,_⟩:=h;simp[Value.cells]
 case yield=>obtain⟨_,_,rfl⟩:=h;simp[Value.cells]
 all_goals (subst h;simp[Value.cells])
def ai.cells {b:BV}{v:Value}(h:ai P g w b v)(ho:b.cells.all BV.one=true):ak P g w b.cells v.cells.toList:=by
 by_cases hb:∃cs,b= .agg cs
 ·obtain⟨cs,rfl⟩:=hb
  simp only[ai]at h;obtain⟨vs,rfl,h⟩:=h
  simpa [BV.cells,Value.cells]using h
 ·have e:b.cells=[b]:=by cases b<;>first|rfl| (exact absurd ⟨_,rfl⟩ hb)
  rw[e]at ho ⊢
  have ho':b.one=true:=by simpa using ho
  rw[(h.one ho').1]
  exact ak.cons h ak.nil
end lists
structure eA (g:Gh)(w:World)(g':Gh)(w':World):Prop where
 mm:∀b x,g.m b=some x->g'.m b=some x
 mf:∀c,g.fz c->g'.fz c
 mc:∀c,g.fz c->w'.heap[c]?=w.heap[c]?
 ms:∀c s,w.shape? c=some s->w'.shape? c=some s
 mse:∀f k x,g.s f k=some x->g'.s f k=some x
def eA.refl (g:Gh)(w:World):eA g w g w:=⟨fun _ _ h=>h,fun _ h=>h,fun _ _=>rfl,fun _ _ h=>h,fun _ _ _ h=>h⟩
def eA.trans {g g' g'':Gh}{w w' w'':World}(h:eA g w g' w')(k:eA g' w' g'' w''):eA g w g'' w'':=
 ⟨fun b x e=>k.mm b x (h.mm b x e),fun c e=>k.mf c (h.mf c e),fun c e=>(k.mc c (h.mf c e)).trans (h.mc c e),fun c s e=>k.ms c s (h.ms c s e),fun f d x e=>k.mse f d x (h.mse f d x e)⟩
def x8 {w w':World}{b off:Nat}(h:w'.heap[b]?=w.heap[b]?):w'.cell? ⟨b,off,none⟩=w.cell? ⟨b,off,none⟩:=by
 simp[World.cell?,h]
def eA.YQ {g g':Gh}{w w':World}(h:eA g w g' w'){aA off:Nat}{vs:List Value}(hf:g.fz aA)(hc:ep w aA off vs):ep w' aA off vs:=by
 intro i x hi
 rw[x8 (h.mc aA hf)];exact hc i x hi
def ep.Od {w w':World}{aA off:Nat}{vs:List Value}(h:w'.heap[aA]?=w.heap[aA]?)(hc:ep w aA off vs):ep w' aA off vs:=by
 intro i x hi
 rw[x8 h];exact hc i x hi
def mW.mono {P:Program}{fz fz':Nat->Prop}{w w':World}(hf:∀c,fz c->fz' c)(hw:∀c,fz c->w'.heap[c]?=w.heap[c]?){t:TypeId}{d:D}{cs:List Value}(h:mW P fz w t d cs):mW P fz' w' t d cs:=by
 induction h with
 |int h=>exact .int h
 |bool h=>exact .bool h
 |bj h=>exact .bj h
 |bJ h h0=>exact .bJ h h0
 |empty h h0 a c=>exact .empty h h0 a c
 |slice h aA off c vs hb hc hl hi hat ih=>exact .slice h aA off c vs (hf _ hb) hc hl ih (hat.Od (hw _ hb))
 |struct h css hl hi ih=>exact .struct h css hl ih
def cD.mono {P:Program}{fz fz':Nat->Prop}{w w':World}(hf:∀c,fz c->fz' c)(hw:∀c,fz c->w'.heap[c]?=w.heap[c]?){e:TypeId}{l:List D}{vs:List Value}(h:cD P fz w e l vs):cD P fz' w' e l vs:=
 ⟨h.1,fun i x hx=>(h.2 i x hx).mono hf hw⟩
def Ha.mono {P:Program}{fz fz':Nat->Prop}{w w':World}(hf:∀c,fz c->fz' c)(hw:∀c,fz c->w'.heap[c]?=w.heap[c]?){e:TypeId}{l:List D}{aA off:Nat}(h:Ha P fz w e l aA off):Ha P fz' w' e l aA off:=by
 obtain⟨hb,vs,h1,h2⟩:=h
 exact⟨hf _ hb,vs,h1.mono hf hw,h2.Od (hw _ hb)⟩
mutual
def ai.mono {P:Program}{g g':Gh}{w w':World}(hm:eA g w g' w'):∀(b:BV) (v:Value),ai P g w b v->ai P g' w' b v
 | .kC,_,_=>by simp[ai]
 | .bool _,_,h=>by simpa [ai]using h
 | .int _ _,_,h=>by simpa [ai]using h
 | .bj _,_,h=>by simpa [ai]using h
 | .gT,_,h=>by simpa [ai]using h
 | .aG b off,v,h=>by
   simp only[ai]at h ⊢;obtain⟨aA,au,hb,rfl⟩:=h;exact⟨aA,au,hm.mm _ _ hb,rfl⟩
 | .vF cs,v,h=>by
   simp only[ai]at h ⊢;obtain⟨aA,off,rfl,hf,vs,hv,hc⟩:=h
   exact⟨aA,off,rfl,hm.mf _ hf,vs,ak.mono hm cs vs hv,hm.YQ hf hc⟩
 | .bJ,_,h=>by simpa [ai]using h
 | .ku,_,h=>by simpa [ai]using h
 | .bC e l,v,h=>by
   simp only[ai]at h ⊢
   rcases h with h| ⟨aA,off,c,rfl,hc,hr⟩
   ·exact .inl h
   ·exact .inr ⟨aA,off,c,rfl,hc,hr.mono hm.mf hm.mc⟩
 | .DO e l,v,h=>by
   simp only[ai]at h ⊢
   rcases h with h| ⟨aA,off,rfl,hr⟩
   ·exact .inl h
   ·exact .inr ⟨aA,off,rfl,hr.mono hm.mf hm.mc⟩
 | .aV b n vt,v,h=>by
   simp only[ai]at h ⊢
   rcases h with h| ⟨aA,au,c,hb,rfl,hc,e',n',hs,hn⟩
   ·exact .inl h
   ·exact .inr ⟨aA,au,c,hm.mm _ _ hb,rfl,hc,e',n',hm.ms _ _ hs,hn⟩
 | .vd b e i off,v,h=>by
   simp only[ai]at h ⊢;obtain⟨aA,au,hb,rfl⟩:=h;exact⟨aA,au,hm.mm _ _ hb,rfl⟩
 | .PE b n,v,h=>by
   simp only[ai]at h ⊢;obtain⟨aA,au,hb,rfl⟩:=h;exact⟨aA,au,hm.mm _ _ hb,rfl⟩
 | .DW,_,h=>by simpa [ai]using h
 | .Mm,_,h=>by simpa [ai]using h
 | .pt b f k off,v,h=>by
   simp only[ai]at h ⊢;obtain⟨aA,au,hb,rfl,y,hy⟩:=h;exact⟨aA,au,hm.mse _ _ _ hb,rfl,y,hm.mm _ _ hy⟩
 | .Kq,_,h=>by simpa [ai]using h
 | .map b,v,h=>by
   simp only[ai]at h ⊢;obtain⟨aA,hb,rfl⟩:=h;exact⟨aA,hm.mm _ _ hb,rfl⟩
 | .func fn a c,v,h=>by
   simp only[ai]at h ⊢;obtain⟨a',c',rfl,ha,hc⟩:=h
   exact⟨a',c',rfl,ak.mono hm a _ ha,ak.mono hm c _ hc⟩
 | .yield l,v,h=>by
   simp only[ai]at h ⊢;obtain⟨aA,hb,rfl⟩:=h;exact⟨aA,hm.mm _ _ hb,rfl⟩
 | .agg cs,v,h=>by
   simp only[ai]at h ⊢;obtain⟨vs,rfl,hv⟩:=h;exact⟨vs,rfl,ak.mono hm cs _ hv⟩
 | .tuple cs,v,h=>by
   simp only[ai]at h ⊢;obtain⟨vs,rfl,hv⟩:=h;exact⟨vs,rfl,ak.mono hm cs _ hv⟩
def ak.mono {P:Program}{g g':Gh}{w w':World}(hm:eA g w g' w'):∀(bs:List BV) (vs:List Value),ak P g w bs vs->ak P g' w' bs vs
 | [],_,h=>by simpa [ak]using h
 |b::bs,vs,h=>by
  simp only[ak]at h ⊢;obtain⟨v,vr,rfl,hv,hr⟩:=h
  exact⟨v,vr,rfl,ai.mono hm b v hv,ak.mono hm bs vr hr⟩
end
def ux (P:Program)(g:Gh)(w:World):zu->Target->Prop
 | .fn fn c,t=>∃c',t= .fn fn c'/\ak P g w c c'.toList
 | .yield l,t=>∃aA,g.m l=some (aA,0)/\t= .fn (.yield aA) #[]
 | .builtin b ts t' cs,t=>t= .builtin b ts t' cs
 | .collected r,t=>∃aA,g.m r=some (aA,0)/\t= .collected aA
def PF (P:Program)(g:Gh)(w:World)(b:tZ)(d:Deferred):Prop:=
 ux P g w b.target d.target/\ak P g w b.args d.args.toList
def iv (P:Program)(g:Gh)(w:World):List tZ->List Deferred->Prop
 | [],ds=>ds=[]
 |b::bs,ds=>∃d dr,ds=d::dr/\PF P g w b d/\iv P g w bs dr
def U7 (P:Program)(g:Gh)(w:World)(b:RC)(l:Loop):Prop:=
 b.state=l.state/\b.pending=l.pending/\b.fn=l.fn/\ak P g w b.tmps l.tmps.toList/\b.params=l.params/\b.assign=l.assign/\b.body=l.body/\g.m b.defers=some (l.defers,0)
inductive zv (P:Program):TypeId->D->Prop where
 |int {t:TypeId} {k:IntKind} (h:P.underlying t=some (.int k)) (n:Int):zv P t (.z n)
 |bool {t:TypeId} (h:P.underlying t=some .bool) (b:Bool):zv P t (.b b)
 |bj {t:TypeId} (h:P.underlying t=some .string) (s:List UInt8):zv P t (.s s)
 |struct {t:TypeId} {fs:Array Field} (h:P.underlying t=some (.struct fs)) (ds:List D) (hl:ds.length=fs.toList.length) (hi:∀(i:Nat) (f:Field) (d:D),fs.toList[i]?=some f->ds[i]?=some d->zv P f.type d):zv P t (.r ds)
def xV (P:Program)(g:Gh)(w:World)(vk:VK)(k d:D)(v:Value):Prop:=
 match vk with
 | .data et=>ai P g w (ch P et d) v
 | .cp f _=>∃x,g.s f k=some x/\v= .pointer (some ⟨x.1,x.2,none⟩)
 | .Ho=>v= .func (.func d.int.toNat) #[] #[]
structure sT (P:Program)(g:Gh)(w:World)(kt:TypeId)(vk:VK)(l:List (D×D))(st:List Nat)(clock:Nat)(es:List MapEntry):Prop where
 len:es.length=l.length
 sl:st.length=l.length
 key:∀(i:Nat) p e,l[i]?=some p->es[i]?=some e->ai P g w (ch P kt p.1) e.key
 born:∀(i:Nat) s e,st[i]?=some s->es[i]?=some e->e.born=s
 val:∀(i:Nat) p e,l[i]?=some p->es[i]?=some e->xV P g w vk p.1 p.2 e.val
 CV:∀p∈l,zv P kt p.1
 nd:(D.cX l).Nodup
 snd:st.Nodup
 Eh:∀s∈st,s<clock
def xZ (P:Program)(e:TypeId)(c:Array Value)(lo hi:Nat):Prop:=(∀i,i<c.size->¬(lo<=i/\i<hi))/\(Hd P e=false->lo=0/\hi=0)
def xZ.zero (P:Program)(e:TypeId)(c:Array Value):xZ P e c 0 0:=⟨fun i _=>by omega,fun _=>⟨rfl,rfl⟩⟩
def cL (P:Program)(g:Gh)(w:World):ax->Nat->Obj->Prop
 | .cells cs e s,au,o=>∃c lo hi,o= .cells c e (lo,hi)/\(∃vs,ak P g w cs vs/\∀i x,vs[i]?=some x->c[au+i]?=some x)/\
    (∀i,i<c.size->¬(lo<=i/\i<hi))/\(s=false->lo=0/\hi=0)
 | .an e l _,au,o=>∃c lo hi,o= .cells c e (lo,hi)/\xZ P e c lo hi/\∃vs,cD P g.fz w e l vs/\∀i x,vs[i]?=some x->c[au+i]?=some x
 | .bo kt vk l st clock,au,o=>au=0/\∃es,o= .map es clock/\sT P g w kt vk l st clock es.toList
 | .jS m ks st clock seen,au,o=>au=0/\∃aA,g.m m=some (aA,0)/\(∀k∈seen,k∈ks)/\o= .mapIter (some aA) clock (seen.reverse.map (D.iA ks st)).toArray clock
 | .ql _ _ _,_,_=>False
 | .loop b,au,o=>au=0/\∃l,o= .loop l/\U7 P g w b l
 | .deferred none,au,o=>au=0/\o= .deferred none
 | .deferred (some ds),au,o=>au=0/\∃ds',o= .deferred (some ds')/\iv P g w ds ds'
section mono
variable {P:Program} {g g':Gh} {w w':World}
def ux.mono (hm:eA g w g' w'){b:zu}{t:Target}(h:ux P g w b t):ux P g' w' b t:=by
 cases b<;>simp only[ux]at h ⊢
 case fn=>obtain⟨c',rfl,hc⟩:=h;exact⟨c',rfl,ak.mono hm _ _ hc⟩
 case yield=>obtain⟨aA,hb,rfl⟩:=h;exact⟨aA,hm.mm _ _ hb,rfl⟩
 case collected=>obtain⟨aA,hb,rfl⟩:=h;exact⟨aA,hm.mm _ _ hb,rfl⟩
 exact h
def PF.mono (hm:eA g w g' w'){b:tZ}{d:Deferred}(h:PF P g w b d):PF P g' w' b d:=⟨h.1.mono hm,ak.mono hm _ _ h.2⟩
def iv.mono (hm:eA g w g' w'){bs:List tZ}:∀{ds:List Deferred},iv P g w bs ds->iv P g' w' bs ds:=by
 induction bs with
 |nil=>intro ds h;simpa [iv]using h
 |cons b bs ih=>intro ds h;simp only[iv]at h ⊢;obtain⟨d,dr,rfl,hd,hr⟩:=h;exact⟨d,dr,rfl,hd.mono hm,ih hr⟩
def iv.append {bs cs:List tZ}{ds es:List Deferred}(h:iv P g w bs ds)(k:iv P g w cs es):iv P g w (bs++cs) (ds++es):=by
 induction bs generalizing ds with
 |nil=>simp only[iv]at h;subst h;simpa using k
 |cons b bs ih=>simp only[iv]at h;obtain⟨d,dr,rfl,hd,hr⟩:=h;exact⟨d,dr++es,rfl,hd,ih hr⟩
def U7.mono (hm:eA g w g' w'){b:RC}{l:Loop}(h:U7 P g w b l):U7 P g' w' b l:=by
 obtain⟨a1,a2,a3,a4,a5,a6,a7,a8⟩:=h
 exact⟨a1,a2,a3,ak.mono hm _ _ a4,a5,a6,a7,hm.mm _ _ a8⟩
def xV.mono (hm:eA g w g' w'){vk:VK}{k d:D}{v:Value}(h:xV P g w vk k d v):xV P g' w' vk k d v:=by
 unfold xV at h ⊢
 cases vk with
 |data et=>exact ai.mono hm _ _ h
 |cp f e=>obtain⟨x,h1,h2⟩:=h;exact⟨x,hm.mse _ _ _ h1,h2⟩
 |Ho=>exact h
def sT.mono (hm:eA g w g' w'){kt:TypeId}{vk:VK}{l:List (D×D)}{st:List Nat}{clock:Nat}{es:List MapEntry}(h:sT P g w kt vk l st clock es):sT P g' w' kt vk l st clock es:=
 ⟨h.len,h.sl,fun i p e h1 h2=>ai.mono hm _ _ (h.key i p e h1 h2),h.born,fun i p e h1 h2=>(h.val i p e h1 h2).mono hm,h.CV,h.nd,h.snd,h.Eh⟩
def cL.mono (hm:eA g w g' w'){b:ax}{au:Nat}{o:Obj}(h:cL P g w b au o):cL P g' w' b au o:=by
 cases b with
 |cells cs e s=>simp only[cL]at h ⊢;obtain⟨c,lo,hi,rfl,⟨vs,hv,hc⟩,hr⟩:=h;exact⟨c,lo,hi,rfl,⟨vs,ak.mono hm _ _ hv,hc⟩,hr⟩
 |an e l vt=>simp only[cL]at h ⊢;obtain⟨c,lo,hi,rfl,hr,vs,h1,h2⟩:=h;exact⟨c,lo,hi,rfl,hr,vs,h1.mono hm.mf hm.mc,h2⟩
 |bo kt vk l st clock=>simp only[cL]at h ⊢;obtain⟨rfl,es,rfl,he⟩:=h;exact⟨rfl,es,rfl,he.mono hm⟩
 |jS m ks st clock seen=>simp only[cL]at h ⊢;obtain⟨rfl,aA,hb,hs,rfl⟩:=h;exact⟨rfl,aA,hm.mm _ _ hb,hs,rfl⟩
 |ql b f k=>simp only[cL]at h
 |loop b=>simp only[cL]at h ⊢;obtain⟨rfl,l,rfl,hl⟩:=h;exact⟨rfl,l,rfl,hl.mono hm⟩
 |deferred ds=>
  cases ds with
  |none=>simpa [cL]using h
  |some ds=>simp only[cL]at h ⊢;obtain⟨rfl,ds',rfl,hd⟩:=h;exact⟨rfl,ds',rfl,hd.mono hm⟩
end mono
def Je {α:Type}(n m:Nat)(a b:α):cond (Nat.beq n m) a b=if n=m then a else b:=by
 by_cases h:n=m
 ·subst h;rw[aeZ rfl,aiD];rfl
 ·rw[aeX h]
  cases e:Nat.beq n m with
  |true=>exact absurd (ae8 e) h
  |false=>rfl
def Tr.oh {α:Type}(n:Nat):Tr.get (.leaf:Tr α) n=none:=rfl
def Tr.yZ {α:Type}(n:Nat)(v:Option α)(l r:Tr α):Tr.get (.node v l r) n=if n=0 then v else if n % 2=1 then Tr.get l (n/2)else Tr.get r (n/2-1):=by
 show cond (Nat.beq n 0) v (cond (Nat.beq (Nat.mod n 2) 1) (Tr.get l (Nat.div n 2)) (Tr.get r (Nat.sub (Nat.div n 2) 1)))=_
 simp only[Je];rfl
def Tr.Uo {α:Type}(f n:Nat)(v:Option α)(l r:Tr α)(x:Option α):Tr.C4 (f+1) (.node v l r) n x=if n=0 then .node x l r else if n % 2=1 then .node v (Tr.C4 f l (n/2) x) r else .node v l (Tr.C4 f r (n/2-1) x):=by
 simp only[Tr.C4,Je];rfl
def Tr.Un {α:Type}(f n:Nat)(x:Option α):Tr.C4 (f+1) .leaf n x=if n=0 then .node x .leaf .leaf else if n % 2=1 then .node none (Tr.C4 f .leaf (n/2) x) .leaf else .node none .leaf (Tr.C4 f .leaf (n/2-1) x):=by
 simp only[Tr.C4,Je];rfl
def Tr.z6 {α:Type}:∀(f n:Nat) (t:Tr α) (x:Option α) (j:Nat),n<f->Tr.get (Tr.C4 f t n x) j=if j=n then x else Tr.get t j:=by
 intro f
 induction f with
 |zero=>intro n t x j h;omega
 |succ f ih=>
  intro n t x j hn
  ·cases t with
   |leaf=>
    rw[Tr.Un,Tr.oh j]
    by_cases n0:n=0
    ·subst n0;simp only[afq,Tr.yZ]
     by_cases j0:j=0
     ·simp[j0]
     ·simp[j0,Tr.oh]
    ·rw[aeX n0]
     by_cases nm:n % 2=1
     ·rw[aeZ nm]
      simp only[Tr.yZ]
      by_cases j0:j=0
      ·subst j0;rw[aeZ rfl,aeX (by omega)]
      ·rw[aeX j0]
       by_cases jm:j % 2=1
       ·rw[aeZ jm,ih (n/2) .leaf x (j/2) (by omega),Tr.oh]
        by_cases e:j=n
        ·subst e;simp
        ·rw[aeX e,aeX (by omega)]
       ·rw[aeX jm,Tr.oh,aeX (by omega)]
     ·rw[aeX nm]
      simp only[Tr.yZ]
      by_cases j0:j=0
      ·subst j0;rw[aeZ rfl,aeX (by omega)]
      ·rw[aeX j0]
       by_cases jm:j % 2=1
       ·rw[aeZ jm,Tr.oh,aeX (by omega)]
       ·rw[aeX jm,ih (n/2-1) .leaf x (j/2-1) (by omega),Tr.oh]
        by_cases e:j=n
        ·subst e;simp
        ·rw[aeX e,aeX (by omega)]
   |node v l r=>
    rw[Tr.Uo]
    by_cases n0:n=0
    ·subst n0;simp only[afq,Tr.yZ]
     by_cases j0:j=0
     ·simp[j0]
     ·simp[j0]
    ·rw[aeX n0]
     by_cases nm:n % 2=1
     ·rw[aeZ nm]
      simp only[Tr.yZ]
      by_cases j0:j=0
      ·subst j0;rw[aeZ rfl,aeX (by omega),aeZ rfl]
      ·rw[aeX j0,aeX j0]
       by_cases jm:j % 2=1
       ·rw[aeZ jm,aeZ jm,ih (n/2) l x (j/2) (by omega)]
        by_cases e:j=n
        ·subst e;simp
        ·rw[aeX e,aeX (by omega)]
       ·rw[aeX jm,aeX jm,aeX (by omega)]
     ·rw[aeX nm]
      simp only[Tr.yZ]
      by_cases j0:j=0
      ·subst j0;rw[aeZ rfl,aeX (by omega),aeZ rfl]
      ·rw[aeX j0,aeX j0]
       by_cases jm:j % 2=1
       ·rw[aeZ jm,aeZ jm,aeX (by omega)]
       ·rw[aeX jm,aeX jm,ih (n/2-1) r x (j/2-1) (by omega)]
        by_cases e:j=n
        ·subst e;simp
        ·rw[aeX e,aeX (by omega)]
def af.fe (h:af)(b:Nat)(o:Option ax)(j:Nat):(h.put b o).get j=if j=b then o else h.get j:=by
 unfold af.get af.put
 exact Tr.z6 _ _ _ _ _ (by omega)
def af.dR (h:af)(o:ax)(j:Nat):(h.new o).get j=if j=h.next then some o else h.get j:=by
 unfold af.get af.new
 exact Tr.z6 _ _ _ _ _ (by omega)
@[simp] def af.ad4 (h:af)(b:Nat)(o:Option ax):(h.put b o).next=h.next:=rfl
@[simp] def af.ad3 (h:af)(o:ax):(h.new o).next=h.next+1:=rfl
@[simp] def af.ac3 (h:af):h.PR.next=h.next+1:=rfl
@[simp] def af.Wb (h:af)(b:Nat):h.PR.get b=h.get b:=rfl
inductive U8 where
 |aA (b:Nat)
 |el (b f:Nat) (k:D)
def ax.yp:ax->Option Nat
 | .bo _ (.cp f _) _ _ _=>some f
 |_=>none
def ax.wA:ax->Nat->D->Option ax
 | .bo _ (.cp f' e) l _ _,f,k=>if f'=f then (D.eu l k).map fun d=> .an e [d] false else none
 |_,_,_=>none
def ax.gH:ax->Option ax
 | .ql _ _ _=>none
 |o=>some o
def af.at (h:af):U8->Option ax
 | .aA b=>(h.get b).bind ax.gH
 | .el b f k=>(h.get b).bind fun o=>o.wA f k
def Gh.at (g:Gh):U8->Option (Nat×Nat)
 | .aA b=>g.m b
 | .el _ f k=>g.s f k
structure aR (P:Program)(g:Gh)(h:af)(w:World):Prop where
 HY:∀b o,h.get b=some o->b<h.next
 lt:∀b x,g.m b=some x->b<h.next
 Eh:∀f k x,g.s f k=some x->f<h.next
 AE:∀b o f,h.get b=some o->o.yp=some f->f<h.next
 fu:∀b b' o o' f,h.get b=some o->h.get b'=some o'->o.yp=some f->o'.yp=some f->b=b'
 sk:∀b o f k x,h.get b=some o->o.yp=some f->g.s f k=some x->(∃o1,o.wA f k=some o1)/\∃y,g.m b=some y
 al:∀b b' f k,h.get b=some (.ql b' f k)->(∃x,g.m b=some x/\g.s f k=some x)/\∃y,g.m b'=some y
 mR:∀l aA au,g.at l=some (aA,au)->aA<w.heap.size
 mS:∀l l' aA au base' o o',h.at l=some o->h.at l'=some o'->g.at l=some (aA,au)->g.at l'=some (aA,base')->l=l'
 pZ:∀l o aA au,h.at l=some o->g.at l=some (aA,au)->¬g.fz aA/\∃o',w.heap[aA]?=some o'/\cL P g w o au o'
 lF:∀c,g.fz c->c<w.heap.size
def nX (g:Gh)(h:af)(c:Nat):Prop:=∃l o au,h.at l=some o/\g.at l=some (c,au)
section
variable {P:Program} {g:Gh} {h:af} {w:World}
def af.fJ {b:Nat}{o:ax}(hb:h.get b=some o)(ho:o.gH=some o):h.at (.aA b)=some o:=by
 show (h.get b).bind ax.gH=_;rw[hb];exact ho
def ax.Oh {o o':ax}(e:o.gH=some o'):o'=o/\o.gH=some o:=by
 cases o<;>first| (cases e;exact⟨rfl,rfl⟩)|cases e
def af.wa {b:Nat}{o:ax}(hb:h.at (.aA b)=some o):h.get b=some o/\o.gH=some o:=by
 change (h.get b).bind ax.gH=_ at hb
 cases hg:h.get b with
 |none=>rw[hg]at hb;cases hb
 |some x=>rw[hg]at hb;obtain⟨rfl,h2⟩:=ax.Oh hb;exact⟨rfl,h2⟩
def aR.U0 (hr:aR P g h w):∀b aA au,g.m b=some (aA,au)->aA<w.heap.size:=fun b aA au e=>hr.mR (.aA b) aA au e
def aR.inj (hr:aR P g h w):∀b b' aA au base' o o',h.get b=some o->h.get b'=some o'->g.m b=some (aA,au)->g.m b'=some (aA,base')->(ho:o.gH=some o:=by rfl)->(ho':o'.gH=some o':=by rfl)->b=b':=
 fun b b' aA au base' o o' h1 h2 m1 m2 ho ho'=>by
  have:=hr.mS (.aA b) (.aA b') aA au base' o o' (af.fJ h1 ho) (af.fJ h2 ho') m1 m2
  cases this;rfl
def aR.U2 (hr:aR P g h w):∀b o aA au,h.get b=some o->g.m b=some (aA,au)->(ho:o.gH=some o:=by rfl)->¬g.fz aA/\∃o',w.heap[aA]?=some o'/\cL P g w o au o':=
 fun b o aA au h1 m1 ho=>hr.pZ (.aA b) o aA au (af.fJ h1 ho) m1
def nX.aA {b c au:Nat}{o:ax}(hb:h.get b=some o)(hm:g.m b=some (c,au))(ho:o.gH=some o:=by rfl):nX g h c:=⟨.aA b,o,au,af.fJ hb ho,hm⟩
end
structure gN (g:Gh)(h:af)(w:World)(g':Gh)(h':af)(w':World):Prop where
 mono:eA g w g' w'
 size:w.heap.size<=w'.heap.size
 AV:∀c,c<w.heap.size->¬nX g h c->w'.heap[c]?=w.heap[c]?
 gH:∀c,c<w.heap.size->nX g' h' c->nX g h c
 PA:∀c,c<w.heap.size->g'.fz c->g.fz c\/nX g h c
 next:h.next<=h'.next
 os:w'.os=w.os/\w'.output=w.output/\w'.tape=w.tape
def gN.refl (g:Gh)(h:af)(w:World):gN g h w g h w:=⟨eA.refl g w,afa _,fun _ _ _=>rfl,fun _ _ h=>h,fun _ _ h=> .inl h,afa _,rfl,rfl,rfl⟩
def gN.trans {g g' g'':Gh}{h h' h'':af}{w w' w'':World}(a:gN g h w g' h' w')(b:gN g' h' w' g'' h'' w''):gN g h w g'' h'' w'' where
 mono:=a.mono.trans b.mono
 size:=afw a.size b.size
 AV:=fun c hc ho=>(b.AV c (afk hc a.size) (fun h=>ho (a.gH c hc h))).trans (a.AV c hc ho)
 gH:=fun c hc ho=>a.gH c hc (b.gH c (afk hc a.size) ho)
 PA:=fun c hc hf=>(b.PA c (afk hc a.size) hf).elim (fun h=>a.PA c hc h) (fun h=> .inr (a.gH c hc h))
 next:=afw a.next b.next
 os:=⟨b.os.1.trans a.os.1,b.os.2.1.trans a.os.2.1,b.os.2.2.trans a.os.2.2⟩
end
end Go.PB
end
