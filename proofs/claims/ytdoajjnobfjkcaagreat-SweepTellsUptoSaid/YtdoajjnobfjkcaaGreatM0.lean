import GoSem.Claims
import Derived.Control
import Derived.Lone
set_option linter.all false
noncomputable section
namespace Go.PB
def agV:=@List.length_map
def agW:=@decide_eq_true_eq
def agX:=@decide_eq_false_iff_not
def agY:=@List.mem_of_getElem?
def agZ:=@Bool.false_eq_true
def ag0:=@Bool.true_eq_false
def ag1:=@false_implies
def ag2:=@Bool.and_eq_true
def ag3:=@true_implies
def ag4:=@if_neg
def ag5:=@List.take_of_length_le
def ag6:=@Int.toNat_natCast
def ag7:=@List.getElem?_eq_getElem
def ag8:=@if_pos
def ag9:=@List.mem_cons
def aha:=@List.getElem?_eq_some_iff
def ahb:=@List.mem_singleton
def ahc:=@List.length_append
def ahd:=@List.mem_append
def ahe:=@beq_eq_false_iff_ne
def ahf:=@and_true
def ahg:=@decide_true
def ahh:=@Nat.eq_of_beq_eq_true
def ahi:=@Option.some.injEq
def ahj:=@decide_false
def ahk:=@true_and
def ahl:=@Bool.not_eq_true'
def ahm:=@Option.map_some
def ahn:=@Array.getElem?_eq_some_iff
def aho:=@Nat.le_refl
def ahp:=@List.mem_map
def ahq:=@Bool.not_eq_false'
def ahr:=@List.map_append
def ahs:=@exists_and_left
def aht:=@beq_iff_eq
def ahu:=@Bool.eq_iff_iff
def ahv:=@List.length_cons
def ahw:=@Option.isSome_iff_exists
def ahx:=@List.length_take
def ahy:=@List.length_eq_zero_iff
def ahz:=@if_true
def ahA:=@Array.getElem?_setIfInBounds_self_of_lt
def ahB:=@List.mem_cons_of_mem
def ahC:=@Nat.lt_of_lt_of_le
def ahD:=@Nat.le_trans
def ahE:=@congrArg
def ahF:=@Array.getElem?_eq_getElem
def ahG:=@List.all_eq_true
def ahH:=@Array.getElem?_setIfInBounds_ne
def ahI:=@Bool.and_self
def ahJ:=@List.map_cons
def ahK:=@Classical.byContradiction
def ahL:=@List.getElem?_take
def ahM:=@List.append_nil
def ahN:=@if_false
def ahO:=@List.nodup_cons
def ahP:=@List.mem_append_left
def ahQ:=@List.getElem?_map
def ahR:=@List.getElem?_append
def ahS:=@List.getElem?_eq_none
def ahT:=@List.mem_cons_self
def ahU:=@Option.isSome_some
def ahV:=@bne_eq_false_iff_eq
def ahW:=@Array.getElem?_toList
def ahX:=@Array.getD_eq_getD_getElem?
def ahY:=@Option.map_eq_some_iff
def ahZ:=@bne_self_eq_false
def ah0:=@Bool.true_and
def ah1:=@List.length_filter_le
def ah2:=@Nat.zero_add
def ah3:=@Prod.mk.injEq
def ah4:=@Option.getD_some
def ah5:=@List.nodup_append
def ah6:=@Nat.mul_le_mul_right
def ah7:=@List.getElem?_drop
def ah8:=@List.length_replicate
def ah9:=@List.length_singleton
def aia:=@List.cons_append
def aib:=@Bool.and_true
def aic:=@ne_eq
def aid:=@List.getElem?_of_mem
def aie:=@List.take_append_of_le_length
def aif:=@List.take_length
def aih:=@List.mem_append_right
def aii:=@List.take_append_drop
def aij:=@List.append_assoc
def aik:=@List.getElem?_cons_succ
def ail:=@List.getElem?_cons_zero
def aim:=@List.getElem?_replicate
def ain:=@List.getElem?_set_ne
def aio:=@List.pairwise_cons
def aip:=@Bool.not_true
def aiq:=@List.mem_flatMap
def air:=@Nat.add_zero
def ais:=@Option.bind_some
def ait:=@List.getElem?_eq_none_iff
def aiu:=@Nat.add_mul
def aiv:=@Nat.lt_succ_of_lt
def aiw:=@of_decide_eq_true
def aix:=@List.length_nil
def aiy:=@List.not_mem_nil
def aiz:=@List.filter_sublist
def aiA:=@List.getD_cons_zero
def aiB:=@Bool.or_eq_true
def aiC:=@List.foldr_cons
def aiD:=@List.mem_filter
def aiE:=@List.nil_append
def aiF:=@Nat.min_eq_left
def aiG:=@List.drop_eq_getElem_cons
def aiH:=@List.getElem?_append_left
def aiI:=@bne_iff_ne
def aiJ:=@List.getElem?_take_of_lt
def aiK:=@List.getElem?_set
def aiL:=@List.all_append
def aiM:=@List.getD_cons_succ
def aiN:=@List.length_drop
def aiO:=@List.drop_drop
def aiP:=@List.filter_append
def aiQ:=@List.perm_ext_iff_of_nodup
def aiR:=@Array.all_eq_true_iff_forall_mem
def aiS:=@List.take_succ_eq_append_getElem
def aiT:=@Nat.one_mul
def aiU:=@and_self
def aiV:=@Array.ext'
def aiW:=@Nat.add_assoc
def aiX:=@Array.length_toList
def aiY:=@Array.toList_append
def aiZ:=@List.map_congr_left
def ai0:=@Array.isEmpty_iff_size_eq_zero
def ai1:=@Int.eq_ofNat_of_zero_le
def ai2:=@List.mem_range
def ai3:=@Nat.zero_le
def ai4:=@List.getElem?_set_self
def ai5:=@Nat.blt_eq
def ai6:=@List.cons.injEq
def ai7:=@Bool.false_or
def ai8:=@Nat.lt_irrefl
def ai9:=@Bool.and_eq_false_iff
def aja:=@Nat.le_of_ble_eq_true
def ajb:=@List.all_eq_false
def ajc:=@List.ext_getElem?
def ajd:=@List.filter_congr
def aje:=@List.getElem?_inj
def ajf:=@Bool.false_and
def ajg:=@List.length_eraseIdx
def ajh:=@List.length_take_le'
def aji:=@List.take_zero
def ajj:=@Nat.testBit_or
def ajk:=@or_false
def ajl:=@Array.mem_filter
def ajm:=@List.any_eq_true
def ajn:=@List.filter_cons
def ajo:=@List.getElem_mem
def ajp:=@List.map_nil
def ajq:=@Nat.add_comm
def ajr:=@List.drop_set_of_lt
def ajs:=@Array.getElem?_replicate
def ajt:=@List.foldl_cons
def aju:=@Option.some.inj
def ajv:=@Array.ext_getElem?
def ajw:=@Nat.eq_zero_or_pos
def ajx:=@Nat.add_sub_cancel_left
def ajy:=@Option.bind_eq_some_iff
def ajz:=@Array.toList_replicate
def ajA:=@List.flatten_cons
def ajB:=@List.length_pos_of_mem
def ajC:=@List.nodup_nil
def ajD:=@List.tail_cons
def ajE:=@Array.toList_eraseIdxIfInBounds
def ajF:=@List.contains_iff_mem
def ajG:=@Array.eq_empty_of_size_eq_zero
def ajH:=@Array.toList_map
def ajI:=@Option.getD_none
def ajJ:=@Bool.or_false
def ajK:=@Bool.or_eq_false_iff
def ajL:=@List.getElem?_modify
def ajM:=@List.range_eq_range'
def ajN:=@Array.getElem?_setIfInBounds
def ajO:=@Array.getElem?_push
def ajP:=@List.length_pos_iff
def ajQ:=@List.map_map
def ajR:=@Nat.zero_mul
def ajS:=@BitVec.toNat_ofInt
def ajT:=@Bool.and_false
def ajU:=@List.drop_zero
def ajV:=@List.getElem?_append_right
def ajW:=@List.take_take
def ajX:=@Option.isSome_none
def ajY:=@Array.mapM_eq_mapM_toList
def ajZ:=@List.extract_eq_take_drop
def aj0:=@List.pairwise_iff_getElem
def aj1:=@Array.toList_push
def aj2:=@Bool.eq_false_iff
def aj3:=@not_false_eq_true
def aj4:=@Int.lt_irrefl
def aj5:=@List.mem_of_mem_eraseIdx
def aj6:=@List.drop_append
def aj7:=@List.isEmpty_iff
def aj8:=@List.pairwise_mergeSort
def aj9:=@and_assoc
def aka:=@Array.getElem?_eq_none
def akb:=@Bool.true_or
def akc:=@List.drop_eq_nil_of_le
def akd:=@List.drop_of_length_le
def ake:=@Int.max_eq_left
def akf:=@Nat.not_lt_zero
def akg:=@Array.getElem?_modify
def akh:=@List.contains_toArray
def aki:=@List.eraseIdx_sublist
def akj:=@List.mem_iff_getElem?
def akk:=@Array.getElem?_range
def akl:=@Bool.not_false
def akm:=@List.mapM_cons
def akn:=@List.mem_of_mem_take
def ako:=@List.pairwise_append
def akp:=@gt_iff_lt
def akq:=@List.getElem?_range
def akr:=@List.length_reverse
def aks:=@List.mergeSort_perm
def akt:=@List.take_succ_cons
def aku:=@Nat.succ_eq_add_one
def akv:=@ByteArray.ext
def akw:=@List.all_cons
def akx:=@Array.foldl_toList
def aky:=@Array.forIn_toList
def akz:=@Array.getElem?_map
def akA:=@List.filter_filter
def akB:=@List.getLast?_cons
def akC:=@List.map_singleton
def akD:=@Nat.add_sub_cancel
def akE:=@Nat.beq_eq_true_eq
def akF:=@Nat.mod_lt
def akG:=@Bool.or_true
def akH:=@List.map_set
def akI:=@Nat.beq_refl
def akJ:=@Nat.le_of_lt
def akK:=@Nat.pow_succ
def akL:=@List.map_id
def akM:=@Nat.sub_mul
def akN:=@BEq.rfl
def akO:=@false_or
def akP:=@not_or
end Go.PB
namespace Go.PB
open Go
section
noncomputable section
inductive D where
 |z (n:Int)
 |b (b:Bool)
 |s (s:List UInt8)
 |r (l:List D)
 deriving Inhabited
def D.int:D->Int
 | .z n=>n
 |_=>0
def D.bool:D->Bool
 | .b x=>x
 |_=>false
def D.b8:D->List UInt8
 | .s x=>x
 |_=>[]
def D.ae:D->List D
 | .r x=>x
 |_=>[]
def D.at (l:List D)(i:Nat):D:=l.getD i (.z 0)
def D.aa (d:D)(i:Nat):D:=D.at d.ae i
mutual
def D.beq:Nat->D->D->Bool
 |0,_,_=>false
 |n+1,a,c=>
  match a,c with
  | .z x,.z y=>x==y
  | .b x,.b y=>x==y
  | .s x,.s y=>x==y
  | .r x,.r y=>D.Ct n x y
  |_,_=>false
def D.Ct:Nat->List D->List D->Bool
 |0,_,_=>false
 |n+1,a,c=>
  match a,c with
  | [],[]=>true
  |x::p,y::q=>D.beq n x y&&D.Ct n p q
  |_,_=>false
end
def D.A5 (a b:D):Bool:=@decide (a=b) (Classical.propDecidable _)
def D.ep:List (D×D)->D->Option D
 | [],_=>none
 |p::q,k=>match D.A5 p.1 k with|true=>some p.2|false=>D.ep q k
def D.fE:List (D×D)->D->D->List (D×D)
 | [],_,_=>[]
 |p::q,k,v=>match D.A5 p.1 k with|true=>(p.1,v)::D.fE q k v|false=>p::D.fE q k v
def D.pD:List (D×D)->D->List (D×D)
 | [],_=>[]
 |p::q,k=>match D.A5 p.1 k with|true=>D.pD q k|false=>p::D.pD q k
def D.cS (l:List (D×D))(k:D):Bool:=(D.ep l k).isSome
def D.val (l:List (D×D))(k:D):D:=(D.ep l k).getD (.z 0)
def D.ct:List (D×D)->List D
 | []=>[]
 |p::q=>p.1::D.ct q
def D.iJ:List D->List Nat->D->Nat
 |p::q,x::t,k=>match D.A5 p k with|true=>x|false=>D.iJ q t k
 |_,_,_=>0
def D.Ay:List (D×D)->List Nat->D->List Nat
 |p::q,x::t,k=>match D.A5 p.1 k with|true=>D.Ay q t k|false=>x::D.Ay q t k
 |_,_,_=>[]
inductive VK where
 |data (e:TypeId)
 |bY (f:Nat) (e:TypeId)
 |IZ
 deriving Inhabited
inductive BV where
 |lH
 |bool (b:Bool)
 |int (k:IntKind) (n:Int)
 |b8 (s:List UInt8)
 |nA
 |aP (b off:Nat)
 |wq (cs:List BV)
 |cX
 |kR
 |bw (e:TypeId) (l:List D)
 |Fi (e:TypeId) (l:List D)
 |aZ (b n:Nat) (vt:Bool)
 |vO (b:Nat) (e:TypeId) (i off:Nat)
 |oQ (b f:Nat) (k:D) (off:Nat)
 |LM
 |map (b:Nat)
 |func (fn:Fn) (first captured:List BV)
 |yield (l:Nat)
 |agg (cs:List BV)
 |tuple (vs:List BV)
 deriving Inhabited
def BV.undef:BV:= .tuple []
def BV.one:BV->Bool
 | .lH| .agg _| .tuple _=>false
 |_=>true
def BV.vd:BV->Bool
 | .lH=>false
 |_=>true
def BV.cells:BV->List BV
 | .agg cs=>cs
 |v=>[v]
def BV.of:Nat->Value->BV
 |0,_=> .lH
 |n+1,v=>
  match v with
  | .bool b=> .bool b
  | .int k m=> .int k m
  | .string s=> .b8 s.data.toList
  | .pointer none=> .nA
  | .slice none 0 0=> .cX
  | .map none=> .LM
  | .agg cs=> .agg (cs.toList.map (BV.of n))
  | .tuple cs=> .tuple (cs.toList.map (BV.of n))
  |_=> .lH
def BV.ofv (v:Value):BV:=BV.of 6 v
mutual
def BV.beq:Nat->BV->BV->Bool
 |0,_,_=>false
 |n+1,a,b=>
  match a,b with
  | .bool x,.bool y=>x==y
  | .int k x,.int j y=>k==j&&x==y
  | .b8 x,.b8 y=>x==y
  | .nA,.nA=>true
  | .aP x o,.aP y p=>x==y&&o==p
  | .wq x,.wq y=>BV.Ct n x y
  | .cX,.cX=>true
  | .bw e l,.bw f m=>e==f&&D.Ct n l m
  | .Fi e l,.Fi f m=>e==f&&D.Ct n l m
  | .aZ x l v,.aZ y m u=>x==y&&l==m&&v==u
  | .vO x e i o,.vO y f j p=>x==y&&e==f&&i==j&&o==p
  | .oQ x e i o,.oQ y f j p=>x==y&&e==f&&D.beq n i j&&o==p
  | .LM,.LM=>true
  | .map x,.map y=>x==y
  | .func f x y,.func g z w=>f==g&&BV.Ct n x z&&BV.Ct n y w
  | .yield x,.yield y=>x==y
  | .agg x,.agg y=>BV.Ct n x y
  | .tuple x,.tuple y=>BV.Ct n x y
  |_,_=>false
def BV.Ct:Nat->List BV->List BV->Bool
 |0,_,_=>false
 |n+1,a,b=>
  match a,b with
  | [],[]=>true
  |x::r,y::s=>BV.beq n x y&&BV.Ct n r s
  |_,_=>false
end
def BV.QT (u v:BV):Bool:=BV.beq 40 u v||@decide (u=v) (Classical.propDecidable _)
def BV.Tm (u:BV):BV.QT u u=true:=by unfold BV.QT;simp
inductive AE where
 |fn (fn:Fn) (captured:List BV)
 |yield (l:Nat)
 |builtin (b:Builtin) (argTypes:Array TypeId) (type:TypeId) (consts:Array Bool)
 |collected (r:Nat)
 deriving Inhabited
structure tN where
 target:AE
 args:List BV
 deriving Inhabited
structure TR where
 state:LoopState
 pending:Option Code
 fn:FuncId
 tmps:List BV
 params:Array Tmp
 assign:Code
 body:Code
 defers:Nat
 deriving Inhabited
inductive aI where
 |cells (cs:List BV) (elem:TypeId) (sish:Bool)
 |ak (e:TypeId) (l:List D) (vt:Bool)
 |bg (kt:TypeId) (vk:VK) (l:List (D×D)) (st:List Nat) (clock:Nat)
 |gV (m:Nat) (ks:List D) (st:List Nat) (clock:Nat) (seen:List D)
 |qQ (b f:Nat) (k:D)
 |loop (l:TR)
 |deferred (calls:Option (List tN))
 deriving Inhabited
inductive Tr (α:Type) where
 |leaf
 |node (v:Option α) (l r:Tr α)
 deriving Inhabited
def Tr.get {α:Type}(t:Tr α):Nat->Option α:=
 Tr.rec (fun _=>none) (fun v _ _ ihl ihr n=>cond (Nat.beq n 0) v (cond (Nat.beq (Nat.mod n 2) 1) (ihl (Nat.div n 2)) (ihr (Nat.sub (Nat.div n 2) 1)))) t
def Tr.Er {α:Type}:Nat->Tr α->Nat->Option α->Tr α
 |0,t,_,_=>t
 |f+1,t,n,x=>
  match t with
  | .leaf=>cond (Nat.beq n 0) (.node x .leaf .leaf) (cond (Nat.beq (Nat.mod n 2) 1) (.node none (Tr.Er f .leaf (Nat.div n 2) x) .leaf) (.node none .leaf (Tr.Er f .leaf (Nat.sub (Nat.div n 2) 1) x)))
  | .node v l r=>cond (Nat.beq n 0) (.node x l r) (cond (Nat.beq (Nat.mod n 2) 1) (.node v (Tr.Er f l (Nat.div n 2) x) r) (.node v l (Tr.Er f r (Nat.sub (Nat.div n 2) 1) x)))
structure aj where
 next:Nat
 tr:Tr aI
 deriving Inhabited
def aj.get (h:aj)(b:Nat):Option aI:=Tr.get h.tr b
def aj.put (h:aj)(b:Nat)(o:Option aI):aj:=
 match h with
 | ⟨next,tr⟩=>⟨next,Tr.Er (b+1) tr b o⟩
def aj.RU (h:aj):aj:=
 match h with
 | ⟨next,tr⟩=>⟨Nat.succ next,tr⟩
def aj.new (h:aj)(o:aI):aj:=
 match h with
 | ⟨next,tr⟩=>⟨Nat.succ next,Tr.Er (Nat.succ next) tr next (some o)⟩
section
variable (P:Program)
def kb (t:TypeId):Option Nat:=(P.info? t).map (·.size)
def il (t:TypeId):Option Bool:=(P.underlying t).map fun| .struct _| .array _ _=>true|_=>false
def oL (t:TypeId):Option BV:=(P.info? t).bind fun i=>i.zero.map BV.ofv
end
def gk (S:TypeId->D->List BV):List Field->Nat->D->List BV
 | [],_,_=>[]
 |f::r,i,d=>S f.type (d.aa i)++gk S r (i+1) d
def dM (P:Program):Nat->TypeId->D->List BV
 |0,_,_=>[]
 |n+1,t,d=>
  match P.underlying t with
  |some (.int k)=>[.int k d.int]
  |some .bool=>[.bool d.bool]
  |some .string=>[.b8 d.b8]
  |some (.slice e)=>[.bw e d.ae]
  |some (.struct fs)=>gk (dM P n) fs.toList 0 d
  |_=>[]
def aK (P:Program)(t:TypeId)(d:D):List BV:=dM P 8 t d
def Ic (F:TypeId->Bool):List Field->Bool
 | []=>true
 |f::r=>F f.type&&Ic F r
def z7 (P:Program):Nat->TypeId->Bool
 |0,_=>false
 |n+1,t=>
  match P.underlying t with
  |some (.int _)=>true
  |some .bool=>true
  |some .string=>true
  |some (.slice _)=>true
  |some (.struct fs)=>Ic (z7 P n) fs.toList
  |_=>false
def cQ (P:Program)(t:TypeId):Bool:=z7 P 8 t&&(match kb P t with|some n=>Nat.blt 0 n&&Nat.beq (aK P t (.z 0)).length n|none=>false)
def cj (P:Program)(t:TypeId)(d:D):BV:=
 match il P t with
 |some true=> .agg (aK P t d)
 |_=>(match aK P t d with| [v]=>v|_=> .lH)
def Fh (P:Program)(e:TypeId)(l:List D):List BV:=l.flatMap (aK P e)
def Rh (U:TypeId->List BV->Option (D×List BV)):List Field->List BV->Option (List D×List BV)
 | [],cs=>some ([],cs)
 |f::r,cs=>
  match U f.type cs with
  |some (d,cs1)=>(match Rh U r cs1 with|some (ds,cs2)=>some (d::ds,cs2)|none=>none)
  |none=>none
def unF (P:Program):Nat->TypeId->List BV->Option (D×List BV)
 |0,_,_=>none
 |n+1,t,cs=>
  match P.underlying t with
  |some (.int k)=>(match cs with| .int k' m::r=>(match k,k' with|k,k'=>if k=k' then some (.z m,r)else none)|_=>none)
  |some .bool=>(match cs with| .bool b::r=>some (.b b,r)|_=>none)
  |some .string=>(match cs with| .b8 s::r=>some (.s s,r)|_=>none)
  |some (.slice e)=>
   (match cs with
   | .bw e' l::r=>if e=e' then some (.r l,r)else none
   | .cX::r=>some (.r [],r)
   | .kR::r=>some (.r [],r)
   | .Fi e' l::r=>if e=e' then some (.r l,r)else none
   |_=>none)
  |some (.struct fs)=>(match Rh (unF P n) fs.toList cs with|some (ds,r)=>some (.r ds,r)|none=>none)
  |_=>none
def Rg (P:Program)(t:TypeId)(cs:List BV):Option D:=match unF P 8 t cs with|some (d,[])=>some d|_=>none
def Ls (P:Program)(t:TypeId)(size:Nat):Nat->List BV->Option (List D)
 |0,cs=>(match cs with| []=>some []|_=>none)
 |n+1,cs=>
  match Rg P t (cs.take size),Ls P t size n (cs.drop size)with
  |some d,some l=>some (d::l)
  |_,_=>none
def fF (cs:List BV)(off n:Nat):Option (List BV):=
 let r:=(cs.drop off).take n
 if r.length=n then some r else none
def putCells (cs:List BV)(off:Nat)(vs:List BV):Option (List BV):=
 if off+vs.length<=cs.length then some (cs.take off++(vs++cs.drop (off+vs.length)))else none
def Ia (P:Program)(h:aj)(b f:Nat)(k:D):Option (TypeId×List (D×D)×TypeId×List Nat×Nat):=
 match h.get b with
 |some (.bg kt (.bY f' e) l st c)=>if Nat.beq f f'&&cQ P e&&D.cS l k then some (e,l,kt,st,c)else none
 |_=>none
def GN (P:Program)(h:aj)(ag:Bool)(n:Nat)(b f:Nat)(k:D)(off:Nat):Option BV:=
 match Ia P h b f k with
 |some (e,l,_)=>if ag then (fF (aK P e (D.val l k)) off n).map .agg else (aK P e (D.val l k))[off]?
 |none=>none
def xy (P:Program)(h:aj)(t:TypeId)(a:BV):Option BV:=
 match il P t,kb P t with
 |some ag,some n=>
  match a with
  | .aP b off=>
    match h.get b with
    |some (.cells cs _ _)=>if ag then (fF cs off n).map .agg else cs[off]?
    |some (.qQ b' f k)=>GN P h ag n b' f k off
    |_=>none
  | .oQ b f k off=>GN P h ag n b f k off
  | .wq cs=>if ag then (fF cs 0 n).map .agg else cs[0]?
  | .vO b e i off=>
    match h.get b with
    |some (.ak e' l _)=>if Nat.beq e e'&&cQ P e then (if i<l.length then (if ag then (fF (aK P e (D.at l i)) off n).map .agg else (aK P e (D.at l i))[off]?)else none)else none
    |_=>none
  |_=>none
 |_,_=>none
def IC (P:Program)(h:aj)(n:Nat)(b f:Nat)(k:D)(off:Nat)(v:BV):Option aj:=
 if v.cells.length=n&&v.cells.all BV.one then
  (match Ia P h b f k with
  |some (e,l,kt,st,c)=>
   (match putCells (aK P e (D.val l k)) off v.cells with
   |some cs=>(match Rg P e cs with
    |some d=>some (h.put b (some (.bg kt (.bY f e) (D.fE l k d) st c)))
    |none=>none)
   |none=>none)
  |none=>none)
 else none
def Bx (P:Program)(h:aj)(t:TypeId)(a v:BV):Option aj:=
 match kb P t,a with
 |some n,.aP b off=>
  match h.get b with
  |some (.cells cs e s)=>
   if v.cells.length=n&&v.cells.all BV.one then (putCells cs off v.cells).map fun cs'=>h.put b (some (.cells cs' e s))else none
  |some (.qQ b' f k)=>IC P h n b' f k off v
  |_=>none
 |some n,.oQ b f k off=>IC P h n b f k off v
 |some n,.vO b e i off=>
  match h.get b with
  |some (.ak e' l vt)=>
   if v.cells.length=n&&v.cells.all BV.one&&(Nat.beq e e'&&cQ P e)then
    (match putCells (aK P e (D.at l i)) off v.cells with
    |some cs=>(match Rg P e cs with
     |some d=>if i<l.length then some (h.put b (some (.ak e (l.set i d) vt)))else none
     |none=>none)
    |none=>none)
   else none
  |_=>none
 |_,_=>none
def HM (P:Program)(h:aj)(t:TypeId)(v:BV):Option (BV×aj):=
 if v.cells.all BV.one then some (.aP h.next 0,h.new (.cells v.cells t false))else none
def ED (P:Program)(t:TypeId)(cs:List BV)(off:Nat):Option BV:=
 match il P t,kb P t with
 |some true,some n=>(fF cs off n).map .agg
 |some false,_=>cs[off]?
 |_,_=>none
def qX (P:Program)(E:TypeId->BV->BV->Option Bool):List Field->List BV->List BV->Option Bool
 | [],_,_=>some true
 |f::r,xs,ys=>
  if f.name≠ "_" then
   match ED P f.type xs f.offset,ED P f.type ys f.offset with
   |some a,some b=>(match E f.type a b with|some true=>qX P E r xs ys|some false=>some false|none=>none)
   |_,_=>none
  else qX P E r xs ys
def YO:BV->Option Bool
 | .nA=>some true
 | .aP _ _=>some false
 | .wq _=>some false
 | .oQ _ _ _ _=>some false
 |_=>none
def Oa:BV->Option Bool
 | .cX=>some true
 | .kR=>some false
 | .bw _ (_::_)=>some false
 | .aZ _ (_+1) _=>some false
 |_=>none
def YN:BV->Option Bool
 | .LM=>some true
 | .map _=>some false
 |_=>none
def GU:Option Bool->Option Bool->Option Bool
 |some true,b=>b
 |b,some true=>b
 |_,_=>none
def FI (P:Program):Nat->TypeId->BV->BV->Option Bool
 |0,_,_,_=>none
 |d+1,t,x,y=>
  match P.underlying t,x,y with
  |some .bool,.bool a,.bool b=>some (a==b)
  |some (.int _),.int k a,.int k' b=>if k=k' then some (a==b)else none
  |some .string,.b8 a,.b8 b=>some (a==b)
  |some (.pointer _),x,y=>GU (YO x) (YO y)
  |some (.slice _),x,y=>GU (Oa x) (Oa y)
  |some (.map _ _),x,y=>GU (YN x) (YN y)
  |some (.struct eK),.agg xs,.agg ys=>
   if P.stoodInHeld t then none else qX P (FI P d) eK.toList xs ys
  |_,_,_=>none
def Gy (P:Program)(op:BinOp)(t:TypeId)(x y:Operand)(a b:BV):Bool:=
 match op with
 | .eql| .neq=>
   match a,b with
   | .agg _,.agg _=>!P.eqGuardType P.depth t
   |_,_=>true
 |_=>true
def Gb:List UInt8->List UInt8->Bool:=Op.bytesLess
def AR (P:Program)(op:BinOp)(t:TypeId)(x y:BV):Option BV:=
 match op,x,y with
 | .shl,.int k a,.int _ b=>if b<0 then none else some (.int k (k.wrap (a*2^(min b.toNat k.bits))))
 | .shr,.int k a,.int _ b=>if b<0 then none else some (.int k (a.fdiv (2^(min b.toNat k.bits))))
 |_,.int k a,.int k' b=>
  if k≠k' then none else
  match op with
  | .add=>some (.int k (k.wrap (a+b)))
  | .sub=>some (.int k (k.wrap (a-b)))
  | .mul=>some (.int k (k.wrap (a*b)))
  | .quo=>if b=0 then none else some (.int k (k.wrap (a.tdiv b)))
  | .rem=>if b=0 then none else some (.int k (a.tmod b))
  | .and=>some (.int k (k.wrap (BitVec.ofInt k.bits a &&& BitVec.ofInt k.bits b).toNat))
  | .or=>some (.int k (k.wrap (BitVec.ofInt k.bits a ||| BitVec.ofInt k.bits b).toNat))
  | .xor=>some (.int k (k.wrap (BitVec.ofInt k.bits a ^^^ BitVec.ofInt k.bits b).toNat))
  | .andNot=>some (.int k (k.wrap (BitVec.ofInt k.bits a &&& ~~~(BitVec.ofInt k.bits b)).toNat))
  | .eql=>some (.bool (a==b))
  | .neq=>some (.bool (a !=b))
  | .lss=>some (.bool (decide (a<b)))
  | .leq=>some (.bool (decide (a<=b)))
  | .gtr=>some (.bool (decide (a>b)))
  | .geq=>some (.bool (decide (a≥b)))
  |_=>none
 |_,.b8 a,.b8 b=>
  match op with
  | .add=>if a.length+b.length<2^62 then some (.b8 (a++b))else none
  | .eql=>some (.bool (a==b))
  | .neq=>some (.bool (!(a==b)))
  | .lss=>some (.bool (Gb a b))
  | .leq=>some (.bool (Gb a b||a==b))
  | .gtr=>some (.bool (!(Gb a b||a==b)))
  | .geq=>some (.bool (!Gb a b))
  |_=>none
 | .eql,x,y=>(FI P 12 t x y).map .bool
 | .neq,x,y=>(FI P 12 t x y).map fun b=> .bool (!b)
 |_,_,_=>none
def unB (op:UnOp)(x:BV):Option BV:=
 match op,x with
 | .neg,.int k n=>some (.int k (k.wrap (0-n)))
 | .xor,.int k n=>some (.int k (k.wrap (BitVec.ofInt k.bits (if k.signed then-1 else k.max) ^^^ BitVec.ofInt k.bits n).toNat))
 | .not,.bool b=>some (.bool !b)
 |_,_=>none
def goI (n:Nat):BV:= .int .i64 n
def abw:TypeDesc->Bool
 | .int _=>true
 |_=>false
def aO (bytes m:Nat):Bool:=decide ((2*m+1024)*bytes<=2^47)
def OT (P:Program)(e:TypeId)(size:Nat):Bool:=
 match oL P e with
 |some z=>z.vd&&z.cells.length==size
 |none=>false
def TC (h:aj)(e:TypeId):BV->Option (List D)
 | .cX=>some []
 | .kR=>some []
 | .Fi e' l=>if Nat.beq e e' then some l else none
 | .bw e' l=>if Nat.beq e e' then some l else none
 | .aZ b n _=>(match h.get b with|some (.ak e' l _)=>if Nat.beq e e' then (if n<=l.length then some (l.take n)else none)else none|_=>none)
 |_=>none
def AQ (h:aj)(e:TypeId)(bytes:Nat)(s:BV)(xs:List D):Option (BV×aj):=
 match s with
 | .aZ b n vt=>
   (match h.get b with
   |some (.ak e' l vt')=>if Nat.beq e e'&&(vt==vt')then (if decide (n=l.length)&&aO bytes (n+xs.length)then some (.aZ h.next (n+xs.length) vt,(h.put b none).new (.ak e (l++xs) vt))else none)else none
   |_=>none)
 | .cX=>if aO bytes xs.length then some (.aZ h.next xs.length true,h.new (.ak e xs true))else none
 | .Fi e' l=>if Nat.beq e e' then (if (decide (0<xs.length)||decide (l.length=0))&&aO bytes (l.length+xs.length)then some (.aZ h.next (l.length+xs.length) true,h.new (.ak e (l++xs) true))else none)else none
 |_=>none
def F9 (P:Program)(h:aj)(argTypes:Array TypeId)(args:List BV):Option (BV×aj):=
 match argTypes[0]?,argTypes[1]?,args with
 |some st,some xt0,[s,x]=>
  match P.underlying st,P.underlying xt0 with
  |some (.slice e),some xt=>
   match P.info? e with
   |some i=>
    if cQ P e&&!(abw xt)&&!(i.bytes==0||!OT P e i.size)then
     (match TC h e x with
     |some xs=>AQ h e i.bytes s xs
     |none=>none)else none
   |none=>none
  |_,_=>none
 |_,_,_=>none
def D2 (P:Program)(K:TypeId->BV->Bool):List Field->List BV->Bool
 | [],_=>true
 |f::r,cs=>(if f.name≠ "_" then (match ED P f.type cs f.offset with|some x=>K f.type x|none=>false)else true)&&D2 P K r cs
def Ac (P:Program):Nat->TypeId->BV->Bool
 |0,_,_=>false
 |n+1,t,v=>
  match P.underlying t,v with
  |some (.struct fs),.agg cs=>D2 P (Ac P n) fs.toList cs
  |some (.int _),.int _ _=>true
  |some .string,.b8 _=>true
  |some .bool,.bool _=>true
  |_,_=>false
def wS:BV->Bool
 | .int .. | .b8 _| .bool _=>true
 | .agg cs=>cs.all fun c=>match c with| .int .. | .b8 _| .bool _=>true|_=>false
 |_=>false
def pZ (P:Program):List Field->Nat->Bool
 | [],_=>true
 |f::r,i=>f.name != "_"&&Nat.beq f.offset i&&(match P.underlying f.type with|some (.int _)=>true|some .bool=>true|some .string=>true|_=>false)&&(match kb P f.type with|some n=>Nat.beq n 1|none=>false)&&pZ P r (i+1)
def Br (P:Program)(t:TypeId):Bool:=
 cQ P t&&(match P.underlying t with
 |some (.int _)=>true
 |some .bool=>true
 |some .string=>true
 |some (.struct fs)=>pZ P fs.toList 0&&!P.stoodInHeld t
 |_=>false)
def unV (P:Program)(t:TypeId)(v:BV):Option D:=
 match il P t with
 |some true=>(match v with| .agg cs=>Rg P t cs|_=>none)
 |some false=>Rg P t [v]
 |none=>none
def PD (P:Program)(kt:TypeId)(k:BV):Option D:=if Br P kt then unV P kt k else none
def xI (P:Program)(b:Nat)(et:TypeId)(vk:VK)(l:List (D×D))(k:D):Option BV:=
 match vk with
 | .data et'=>if cQ P et&&Nat.beq et et' then (if D.cS l k then some (cj P et (D.val l k))else oL P et)else none
 | .bY f _=>if D.cS l k then some (.oQ b f k 0)else oL P et
 | .IZ=>if D.cS l k then some (.func (.func (D.val l k).int.toNat) [] [])else oL P et
def we (P:Program)(h:aj)(t:TypeId)(x k:BV)(ok:Bool):Option BV:=
 match P.underlying t with
 |some (.map kt et)=>
  if !Ac P 4 kt k then none else
  match x with
  | .map r=>
    (match h.get r with
    |some (.bg kt' vk l _ _)=>
     (match PD P kt k with
     |some d=>if Nat.beq kt kt' then (match xI P r et vk l d with|some v=>some (if ok then .tuple [v,.bool (D.cS l d)]else v)|none=>none)else none
     |none=>none)
    |_=>none)
  |_=>none
 |_=>none
def Jj (P:Program)(h:aj)(r:Nat)(kt:TypeId)(vk:VK)(l:List (D×D))(st:List Nat)(clock:Nat)(k:D)(v:BV):Option aj:=
 match vk with
 | .data et=>
   if cQ P et then
    (match unV P et v with
    |some d=>if D.cS l k then some (h.put r (some (.bg kt vk (D.fE l k d) st clock)))else some (h.put r (some (.bg kt vk (l++[(k,d)]) (st++[clock]) (clock+1))))
    |none=>none)
   else none
 | .bY f e=>
   if cQ P e then
   (match v with
   | .aP c off=>
     (match h.get c with
     |some (.cells cs e' false)=>
      if Nat.beq e e'&&Nat.beq off 0 then
       (match Rg P e cs with
       |some d=>if D.cS l k then none else some ((h.put c (some (.qQ r f k))).put r (some (.bg kt vk (l++[(k,d)]) (st++[clock]) (clock+1))))
       |none=>none)
      else none
     |_=>none)
   |_=>none)
   else none
 | .IZ=>(match v with| .func (.func f) [] []=>if D.cS l k then none else some (h.put r (some (.bg kt .IZ (l++[(k,.z (Int.ofNat f))]) (st++[clock]) (clock+1))))|_=>none)
def jD (P:Program)(h:aj)(t:TypeId)(m k v:BV):Option aj:=
 match P.underlying t,m with
 |some (.map kt _),.map r=>
  if !Ac P 4 kt k then none else
  match h.get r with
  |some (.bg kt' vk l st clock)=>
   (match PD P kt k with
   |some d=>if Nat.beq kt kt' then Jj P h r kt vk l st clock d v else none
   |none=>none)
  |_=>none
 |_,_=>none
def NS (P:Program)(h:aj)(argTypes:Array TypeId)(args:List BV):Option (BV×aj):=
 match argTypes[0]?,args with
 |some t,[m,k]=>
  match P.underlying t with
  |some (.map kt _)=>
   if !Ac P 4 kt k then none else
   match m with
   | .map r=>
     match h.get r with
     |some (.bg kt' vk l st clock)=>
      (match PD P kt k with
      |some d=>if Nat.beq kt kt' then (match vk with
       | .data et=>some (.tuple [],h.put r (some (.bg kt (.data et) (D.pD l d) (D.Ay l st d) clock)))
       | .bY _ e=>some (.tuple [],(h.put r (some (.bg kt (.bY h.next e) (D.pD l d) (D.Ay l st d) clock))).RU)
       | .IZ=>none)else none
      |none=>none)
     |_=>none
   |_=>none
  |_=>none
 |_,_=>none
def R3 (P:Program)(h:aj)(argTypes:Array TypeId)(args:List BV):Option (BV×aj):=
 match argTypes[0]?,args with
 |some t,[x]=>
  match P.underlying t,x with
  |some (.map _ _),.map r=>
   match h.get r with
   |some (.bg kt (.data et) _ _ clock)=>some (.tuple [],h.put r (some (.bg kt (.data et) [] [] clock)))
   |_=>none
  |_,_=>none
 |_,_=>none
def Tg (P:Program)(h:aj)(t:TypeId)(x:BV):Option (BV×aj):=
 match P.underlying t,x with
 |some (.map _ _),.map m=>
  match h.get m with
  |some (.bg _ _ l st clock)=>some (.aP h.next 0,h.new (.gV m (D.ct l) st clock []))
  |_=>none
 |_,_=>none
def yT (P:Program)(b:Nat)(kt:TypeId)(vk:VK)(l:List (D×D))(k:D):Option (BV×BV):=
 if cQ P kt then
 (match vk with
 | .data et=>if cQ P et then some (cj P kt k,cj P et (D.val l k))else none
 | .bY f _=>some (cj P kt k,.oQ b f k 0)
 | .IZ=>none)
 else none
def oK (l:List (D×D))(st:List Nat)(clock:Nat)(ks:List D)(st':List Nat)(clock':Nat):Bool:=@decide (D.ct l=ks/\st=st'/\clock=clock') (Classical.propDecidable _)
def zg (P:Program)(h:aj)(it:BV):Option BV:=
 match it with
 | .aP r 0=>
   match h.get r with
   |some (.gV m ks st clock seen)=>
    (match seen.head?,h.get m with
    |some k,some (.bg kt vk l st' clock')=>if oK l st' clock' ks st clock then (yT P m kt vk l k).map fun p=> .tuple [p.1,p.2]else none
    |_,_=>none)
   |_=>none
 |_=>none
def Fk (P:Program)(t:TypeId)(x:BV)(i:Nat):Option BV:=
 match P.underlying t with
 |some (.struct fs)=>
  match fs[i]? with
  |some f=>
   match kb P f.type with
   |some (_+1)=>
    match x with
    | .aP b off=>some (.aP b (off+f.offset))
    | .wq cs=>some (.wq (cs.drop f.offset))
    | .vO b e i off=>some (.vO b e i (off+f.offset))
    | .oQ b g k off=>some (.oQ b g k (off+f.offset))
    |_=>none
   |_=>none
  |none=>none
 |_=>none
def kZ (P:Program)(t:TypeId)(x ix:BV):Option BV:=
 match ix with
 | .int _ i=>
   if i<0 then none else
   let i:=i.toNat
   match P.underlying t with
   |some (.slice e)=>
    match kb P e with
    |some size=>
     match x with
     | .bw e' l=>if Nat.beq e e'&&cQ P e then (if i<l.length then some (.wq (aK P e (D.at l i)))else none)else none
     | .Fi e' l=>if Nat.beq e e'&&cQ P e then (if i<l.length then some (.wq (aK P e (D.at l i)))else none)else none
     | .aZ b n _=>if cQ P e then (if i<n then some (.vO b e i 0)else none)else none
     |_=>none
    |none=>none
   |_=>none
 |_=>none
def Ih (P:Program)(t:TypeId)(x ix:BV):Option BV:=
 match ix with
 | .int _ i=>
   if i<0 then none else
   let i:=i.toNat
   match P.underlying t,x with
   |some .string,.b8 s=>(match s[i]? with|some b=>some (.int .u8 b.toNat)|none=>none)
   |_,_=>none
 |_=>none
def Sf (P:Program)(t:TypeId)(x:BV)(i:Nat):Option BV:=
 match P.underlying t,x with
 |some (.struct fs),.agg cs=>(match fs[i]? with|some f=>ED P f.type cs f.offset|none=>none)
 |_,_=>none
def jM:Option BV->Option (Option Nat)
 |none=>some none
 |some (.int _ i)=>if i<0 then none else some (some i.toNat)
 |_=>none
def kg (l:List D)(lo hi:Nat):List D:=match Nat.beq hi 0 with|true=>[]|false=>(l.take hi).drop lo
def sliceB (P:Program)(t:TypeId)(x:BV)(lo hi mx:Option BV):Option BV:=
 match jM lo,jM hi,jM mx with
 |some lo,some hi,some mx=>
  let l:=lo.getD 0
  match P.underlying t,x with
  |some .string,.b8 s=>
   let hh:=hi.getD s.length
   if mx.isNone&&l<=hh&&hh<=s.length then some (.b8 ((s.take hh).drop l))else none
  |some (.slice e),.cX=>if l=0&&hi.getD 0=0&&mx.getD 0=0&&((kb P e).isSome&&(mx.isNone||hi.isSome))then some .cX else none
  |some (.slice e),.bw e' l'=>
   if Nat.beq e e'&&cQ P e then
    (match mx with
    |none=>if decide (l<=hi.getD l'.length)&&decide (hi.getD l'.length<=l'.length)then some (.bw e (kg l' l (hi.getD l'.length)))else none
    |some m=>if Nat.beq m (hi.getD l'.length)&&hi.isSome&&decide (l<=hi.getD l'.length)&&decide (hi.getD l'.length<=l'.length)then some (.Fi e (kg l' l (hi.getD l'.length)))else none)
   else none
  |some (.slice e),.aZ b n vt=>if cQ P e&&Nat.beq l 0&&Nat.beq (hi.getD 1) 0&&Nat.beq (mx.getD 1) 0 then some (.Fi e [])else if cQ P e&&Nat.beq l 0&&(hi.isSome&&mx.isSome)&&Nat.beq (hi.getD 0) n&&Nat.beq (mx.getD 0) n then some (.aZ b n vt)else none
  |some (.slice e),.Fi e' l'=>
   if Nat.beq e e'&&cQ P e then
    (match mx with
    |none=>if decide (l<=hi.getD l'.length)&&decide (hi.getD l'.length<=l'.length)then some (.bw e (kg l' l (hi.getD l'.length)))else none
    |some m=>if Nat.beq m (hi.getD l'.length)&&hi.isSome&&decide (l<=hi.getD l'.length)&&decide (hi.getD l'.length<=l'.length)then some (.Fi e (kg l' l (hi.getD l'.length)))else none)
   else none
  |_,_=>none
 |_,_,_=>none
def IX (place:Nat->Option (Nat×Nat))(cells:List BV):List (Nat×BV)->Option (List BV)
 | []=>some cells
 | (i,v)::ah=>
   match place i with
   |none=>none
   |some (off,size)=>
    if v.cells.length=size&&v.vd then (match putCells cells off v.cells with|some NL=>IX place NL ah|none=>none)else none
def Zr (P:Program)(fs:Array Field):Option (List (Nat×Nat)):=
 fs.toList.mapM fun f=>(kb P f.type).map fun s=>(f.offset,s)
def RR (P:Program)(t:TypeId)(parts:List (Nat×BV)):Option BV:=
 match oL P t,P.underlying t with
 |some (.agg zc),some (.struct fs)=>
  match Zr P fs with
  |some ps=>(IX (fun i=>ps[i]?) zc parts).map .agg
  |none=>none
 |_,_=>none
def Ix (z:List BV):Nat->List BV
 |0=>[]
 |n+1=>z++Ix z n
def xZ (P:Program)(h:aj)(t:TypeId)(len:Nat)(parts:List (Nat×BV)):Option (BV×aj):=
 match P.underlying t with
 |some (.slice e)=>
  match kb P e,oL P e with
  |some (size'+1),some z=>
   let size:=size'+1
   if len*size>2^24\/z.cells.length≠size\/¬z.cells.all BV.one then none else
   match IX (fun i=>some (i*size,size)) (Ix z.cells len) parts with
   |some cs=>if cs.all BV.one then
     (match (if cQ P e&&Nat.beq cs.length (len*size)then Ls P e size len cs else none)with
     |some l=>some (.aZ h.next len false,h.new (.ak e l false))
     |none=>none)else none
   |none=>none
  |_,_=>none
 |_=>none
def sY (P:Program)(h:aj)(t:TypeId)(len cap:BV):Option (BV×aj):=
 match P.underlying t,len,cap with
 |some (.slice e),.int _ l,.int _ c=>
  match P.info? e,oL P e with
  |some i,some z=>
   if cQ P e&&z.cells.all BV.one then
    (match Rg P e z.cells with
    |some d=>if decide (0<=l)&&decide (l<=c)&&decide (c<2^40)&&decide (i.bytes*c<=2^47)then some (.aZ h.next l.toNat false,h.new (.ak e (List.replicate l.toNat d) false))else none
    |none=>none)
   else none
  |_,_=>none
 |_,_,_=>none
def Ku (P:Program)(src dst:TypeId)(x:BV):Option BV:=
 match P.underlying src,P.underlying dst,x with
 |some _,some (.int k),.int _ n=>some (.int k (k.wrap n))
 |some _,some .string,.b8 s=>some (.b8 s)
 |_,_,_=>none
inductive bA where
 |value (v:BV)
 |skip
 |enter (f:FuncId) (args:List BV)
 |round (l:Nat) (f:FuncId) (tmps:List BV) (assign body:Code)
 deriving Inhabited
def abH:BV->BV->Option BV
 | .int k x,.int _ y=>some (.int k (if y<x then y else x))
 |_,_=>none
def abD:BV->BV->Option BV
 | .int k x,.int _ y=>some (.int k (if y>x then y else x))
 |_,_=>none
def Sx (P:Program)(h:aj)(argTypes:Array TypeId)(args:List BV):Option BV:=
 match argTypes[0]?,args with
 |some t,[x]=>
  match P.underlying t,x with
  |some .string,.b8 s=>some (goI s.length)
  |some (.slice _),.cX=>some (goI 0)
  |some (.slice _),.kR=>some (goI 0)
  |some (.slice _),.bw _ l=>some (goI l.length)
  |some (.slice _),.Fi _ l=>some (goI l.length)
  |some (.slice _),.aZ _ n _=>some (goI n)
  |some (.map _ _),.map r=>(match h.get r with|some (.bg _ _ l _ _)=>some (goI l.length)|_=>none)
  |_,_=>none
 |_,_=>none
def Cv (P:Program)(h:aj)(b:Builtin)(argTypes:Array TypeId)(args:List BV):Option (bA×aj):=
 let v (r:Option (BV×aj)):Option (bA×aj):=r.map fun (x,h)=>(.value x,h)
 match b with
 | .append=>v (F9 P h argTypes args)
 | .delete=>v (NS P h argTypes args)
 | .clear=>v (R3 P h argTypes args)
 | .len=>(Sx P h argTypes args).map fun x=>(.value x,h)
 | .min=>(match args with| []=>none|x::r=>(r.foldlM abH x).map fun x=>(.value x,h))
 | .max=>(match args with| []=>none|x::r=>(r.foldlM abD x).map fun x=>(.value x,h))
 |_=>none
def Uo (P:Program)(f:FuncId):Bool:=
 match P.funcs[f]? with
 |some fn=>fn.body.isSome&&!(fn.name== "runtime.NumGoroutine")
 |none=>false
def DR (P:Program)(f:FuncId)(args:List BV):Option bA:=
 if Uo P f then some (.enter f args)else none
def Bi (P:Program)(h:aj)(t:AE)(args:List BV):Option (bA×aj):=
 match t with
 | .builtin b argTypes _ _=>Cv P h b argTypes args
 | .fn (.func f) captured=>(DR P f (args++captured)).map fun n=>(n,h)
 | .yield l=>
   match h.get l with
   |some (.loop r)=>
    if args.length≠r.params.size then none else
    some (.round l r.fn ((r.params.toList.zip args).foldl (fun tmps (t,a)=>tmps.set t a) r.tmps) r.assign r.body,h)
   |_=>none
 |_=>none
def G0 (f:BV)(args:List BV):Option tN:=
 match f with
 | .func fn first captured=>some {target:= .fn fn captured,args:=first++args}
 | .yield l=>some {target:= .yield l,args}
 |_=>none
def Aw (ρ:Operand->BV)(c:Call)(type:TypeId):Option tN:=
 let args:=c.args.toList.map ρ
 match c.callee with
 | .builtin b=>some {target:= .builtin b c.argTypes type (c.args.map fun| .const _=>true|_=>false),args}
 | .value f=>G0 (ρ f) args
 |_=>none
def pY (P:Program)(h:aj)(kt et:TypeId):Option aI:=
 if Br P kt then
  (if cQ P et then some (.bg kt (.data et) [] [] 0)else
  match P.underlying et with
  |some (.pointer e)=>if cQ P e then some (.bg kt (.bY h.next e) [] [] 0)else none
  |some (.func _ _ _)=>some (.bg kt .IZ [] [] 0)
  |_=>none)
 else none
def Fw (P:Program)(h:aj)(ρ:Operand->BV)(o:Oper):Option (bA×aj):=
 let v (r:Option BV):Option (bA×aj):=r.map fun x=>(.value x,h)
 let vh (r:Option (BV×aj)):Option (bA×aj):=r.map fun (x,h)=>(.value x,h)
 let u (r:Option aj):Option (bA×aj):=r.map fun h=>(.skip,h)
 match o.op with
 | .move x| .assign x=>some (.value (ρ x),h)
 | .pick c a b=>(match ρ c with| .bool c=>some (.value (if c then ρ a else ρ b),h)|_=>none)
 | .alloc elem=>vh ((oL P elem).bind (HM P h elem))
 | .box elem x=>vh (HM P h elem (ρ x))
 | .build t parts=>v (RR P t (parts.toList.map fun (i,x)=>(i,ρ x)))
 | .buildSlice t len parts=>vh (xZ P h t len (parts.toList.map fun (i,x)=>(i,ρ x)))
 | .load t a=>v (xy P h t (ρ a))
 | .store t a x=>u (Bx P h t (ρ a) (ρ x))
 | .nilCheck x=>
   (match ρ x with
   | .aP b o=>some (.value (.aP b o),h)
   | .wq cs=>some (.value (.wq cs),h)
   | .vO b e i o=>some (.value (.vO b e i o),h)
   | .oQ b f k o=>some (.value (.oQ b f k o),h)
   | .func fn a b=>(match fn with| .method _=>none|_=>some (.value (.func fn a b),h))
   | .yield l=>some (.value (.yield l),h)
   |_=>none)
 | .binOp op t x y _=>if Gy P op t x y (ρ x) (ρ y)then v (AR P op t (ρ x) (ρ y))else none
 | .unOp op _ x=>v (unB op (ρ x))
 | .convert src dst x=>v (Ku P src dst (ρ x))
 | .makeFunc fn first captured=>(match fn with| .yield _=>none|_=>some (.value (.func fn (first.toList.map ρ) (captured.toList.map ρ)),h))
 | .makeMap t r=>(match r.map ρ with|none|some (.int _ _)=>(match P.underlying t with|some (.map kt et)=>(pY P h kt et).map fun o=>(.value (.map h.next),h.new o)|_=>none)|_=>none)
 | .makeSlice t l c=>vh (sY P h t (ρ l) (ρ c))
 | .slice t x lo hi mx=>v (sliceB P t (ρ x) (lo.map ρ) (hi.map ρ) (mx.map ρ))
 | .fieldAddr t x i=>v (Fk P t (ρ x) i)
 | .field t x i=>v (Sf P t (ρ x) i)
 | .indexAddr t x ix=>v (kZ P t (ρ x) (ρ ix))
 | .index t x ix=>v (Ih P t (ρ x) (ρ ix))
 | .lookup t x ix ok=>v (we P h t (ρ x) (ρ ix) ok)
 | .mapUpdate t m k x| .insert t m k x=>u (jD P h t (ρ m) (ρ k) (ρ x))
 | .range t x=>vh (Tg P h t (ρ x))
 | .entry it=>v (zg P h (ρ it))
 | .extract t i=>(match ρ t with| .tuple vs=>v vs[i]? |_=>none)
 | .call c=>(Aw ρ c o.type).bind fun d=>Bi P h d.target d.args
 |_=>none
structure HI where
 aX:Array Oper
 b7:List BV
 aJ:List (Option BV)
 cO:List Nat
 deriving Inhabited
inductive dI where
 |code (c:Code)
 |inBlock (id:Nat)
 |inLoop (body:Code)
 |inScope (body:Code)
 |inRegion (aX:Array Oper) (todo:List Nat)
 |fY (d:HI)
 |inRangeFunc (l:Nat)
 |endRangeFunc (l:Nat)
 |beginRound
 deriving Inhabited
inductive TS where
 |run
 |returning
 deriving Inhabited
structure bq where
 fn:FuncId
 cx:List BV
 todo:List dI
 defers:List tN
 mode:TS
 kind:CallKind
 roundOf:Option Nat
 deriving Inhabited
structure au where
 fr:bq
 cs:List bq
 h:aj
 deriving Inhabited
def vB (cx:List BV):Operand->BV
 | .tmp t=>cx.getD t BV.undef
 | .const v=>BV.ofv v
 | .global _=> .lH
 | .func f=> .func (.func f) [] []
def vo (cx:List BV)(dst:Option Nat)(v:BV):List BV:=
 match dst with
 |some d=>cx.set d v
 |none=>cx
def LB (aX:Array Oper)(cx:Nat->Option BV)(j:Nat):Option (Option Bool):=
 match (aX[j]?).bind (·.dst)with
 |some d=>(match cx d with|some (.bool b)=>some (some b)|some .lH=>none|_=>some none)
 |none=>some none
def lg (o:Oper)(aX:Array Oper)(cx:Nat->Option BV):Option Bool:=
 match o.guard with
 |none=>some true
 |some (j,want)=>(LB aX cx j).map fun r=>r==some want
def qY (id:Nat):List dI->Option (List dI)
 | .inBlock id'::k=>if id'==id then some k else qY id k
 |_::k=>qY id k
 | []=>none
def rp (l:Nat):List dI->Option (List dI)
 | .inScope body::k=>
   match findLabel body l with
   |some ah=>some (.code ah:: .inScope body::k)
   |none=>rp l k
 |_::k=>rp l k
 | []=>none
def gq (P:Program)(f:FuncId)(args:List BV)(kind:CallKind):Option bq:=
 match P.funcs[f]? with
 |some fn=>
  match fn.body with
  |some c=>some {fn:=f,cx:=args++List.replicate (fn.ntmps-args.length) BV.undef,todo:=[.code c],defers:=[],mode:= .run,kind,roundOf:=none}
  |none=>none
 |none=>none
def kq (o:Oper):Bool:=
 match o.op with
 | .move _| .assign _| .pick .. | .alloc _| .box .. | .build .. | .buildSlice .. | .load .. | .nilCheck _| .binOp .. | .unOp ..
 | .makeFunc .. | .makeMap .. | .makeSlice .. | .slice .. | .fieldAddr .. | .field .. | .indexAddr .. | .index .. | .lookup .. | .entry _
 | .extract .. =>false
 | .convert s d _=>s==d
 | .call c=>(match c.callee with| .builtin .len| .builtin .min| .builtin .max=>false|_=>true)
 |_=>true
def kK (o:Oper):Bool:=
 match o.op with
 | .alloc _| .box .. | .buildSlice .. | .makeMap .. | .makeSlice .. =>true
 |_=>false
def Il (o:Oper):Bool:=
 match o.op with
 | .load .. | .lookup .. | .binOp .. | .entry .. | .convert .. | .slice .. | .call .. =>true
 |_=>false
def gF:List Oper->List Nat->List Nat
 | [],acc=>acc
 |o::r,acc=>gF r (acc++[o.after.toList.foldl (fun s e=>if Region.binds .any e then s ||| 2^e.on ||| acc.getD e.on 0 else s) 0])
def aY (aX:Array Oper):List Nat:=gF aX.toList []
def dn (bits:List Nat)(i j:Nat):Bool:=(bits.getD i 0).testBit j
def Dp (t:Nat):List Oper->Nat->Option Nat
 | [],_=>none
 |o::r,k=>if o.dst==some t then some k else Dp t r (k+1)
def eO (aX:Array Oper)(t:Nat):Option Nat:=Dp t aX.toList 0
def JV (o:Oper):List Nat:=o.op.operands.toList.filterMap fun| .tmp t=>some t|_=>none
def JY (bits:List Nat):List Nat->Bool
 | []=>true
 |a::r=>r.all (fun b=>dn bits b a)&&JY bits r
def HV (aX:Array Oper):Bool:=
 let bits:=aY aX
 let l:=aX.toList
 let n:=l.length
 let cO:=(List.range n).filter fun i=>(l[i]?).any kq
 ((List.range n).all fun i=>match l[i]? with
   |some o=>(o.after.toList.all fun e=>!Region.binds .any e||decide (e.on<i))&&
     (match o.dst with|some t=>eO aX t==some i|none=>true)&&
     ((JV o).all fun t=>match eO aX t with|some k=>dn bits i k||dn bits k i||k==i|none=>true)&&
     (match o.guard with|some (j,_)=>dn bits i j|none=>true)
   |none=>true)&&
 JY bits cO
def HX (aX:Array Oper)(n:Nat):Bool:=aX.toList.all fun o=>match o.dst with|some t=>Nat.blt t n|none=>true
def qW (aX:Array Oper):List Nat:=(List.range aX.size).filter fun i=>(aX[i]?).any kq
def nF (aX:Array Oper)(bits:List Nat)(b7:List BV)(aJ:List (Option BV))(i t:Nat):BV:=
 match eO aX t with
 |some k=>if dn bits i k then (aJ.getD k none).getD .lH else b7.getD t BV.undef
 |none=>b7.getD t BV.undef
def kS (aX:Array Oper)(bits:List Nat)(b7:List BV)(aJ:List (Option BV))(i:Nat):Operand->BV
 | .tmp t=>nF aX bits b7 aJ i t
 | .const v=>BV.ofv v
 | .global _=> .lH
 | .func f=> .func (.func f) [] []
def sX (P:Program)(aX:Array Oper)(bits:List Nat)(b7:List BV)(cO:List Nat):List Nat->aj->List (Option BV)->Option (aj×List (Option BV))
 | [],h,aJ=>some (h,aJ)
 |i::ah,h,aJ=>
  match aX[i]?,aJ.getD i none with
  |some o,none=>
   if kq o||cO.any (dn bits i)then sX P aX bits b7 cO ah h aJ else
   match lg o aX (fun t=>some (nF aX bits b7 aJ i t))with
   |some true=>
    match Fw P h (kS aX bits b7 aJ i) o with
    |some (.value v,h')=>sX P aX bits b7 cO ah h' (aJ.set i (some v))
    |_=>none
   |some false=>sX P aX bits b7 cO ah h (aJ.set i (some BV.undef))
   |none=>none
  |_,_=>sX P aX bits b7 cO ah h aJ
def D6 (P:Program)(aX:Array Oper)(bits:List Nat)(b7:List BV)(aJ:List (Option BV))(x:Nat)(h:aj):List Nat->Bool
 | []=>true
 |i::ah=>
  (match aX[i]?,aJ.getD i none with
  |some o,some v=>
   if kq o||kK o||!Il o||dn bits x i then true else
   match lg o aX (fun t=>some (nF aX bits b7 aJ i t))with
   |some true=>(match Fw P h (kS aX bits b7 aJ i) o with|some (.value u,_)=>BV.QT u v|_=>false)
   |some false=>true
   |none=>false
  |_,_=>true)&&D6 P aX bits b7 aJ x h ah
def q8 (aX:Array Oper)(aJ:List (Option BV)):Nat->List BV->List BV
 |_,[]=>[]
 |t,x::r=>(match eO aX t with|some k=>(aJ.getD k none).getD .lH|none=>x)::q8 aX aJ (t+1) r
def CA (P:Program)(d:HI)(x:Nat)(v:BV)(h:aj):Option (HI×aj):=
 let bits:=aY d.aX
 let aJ:=d.aJ.set x (some v)
 let cO:=d.cO.tail
 let is:=List.range d.aX.size
 if D6 P d.aX bits d.b7 d.aJ x h is then
  (sX P d.aX bits d.b7 cO is h aJ).map fun (h',vals')=>({d with aJ:=vals',cO},h')
 else none
def q9 (P:Program)(fr:bq)(v:BV)(h:aj):Option (bq×aj):=
 match fr.mode with
 | .run=>
   (match fr.todo with
   | .inRegion aX (i::ah)::k=>some ({fr with cx:=vo fr.cx ((aX[i]?).bind (·.dst)) v,todo:= .inRegion aX ah::k},h)
   | .fY d::k=>
     (match d.cO with
     |x::_=>(CA P d x v h).map fun (d',h')=>({fr with todo:= .fY d'::k},h')
     | []=>none)
   | .inRangeFunc l::k=>some ({fr with todo:= .endRangeFunc l::k},h)
   |_=>none)
 |_=>none
def Di (P:Program)(h:aj)(fn:Func)(cx:List BV):Option BV:=
 match fn.results.toList.mapM fun
  | .tmp t=>some (cx.getD t BV.undef)
  | .cell a t=>xy P h t (cx.getD a BV.undef)with
 |some [v]=>some v
 |some vs=>some (.tuple vs)
 |none=>none
def qR (P:Program)(fr:bq)(cs:List bq)(kind:CallKind):bA×aj->Option au
 | (.value v,h)=>(q9 P fr v h).map fun (fr,h)=>{fr,cs,h}
 | (.skip,h)=>(q9 P fr BV.undef h).map fun (fr,h)=>{fr,cs,h}
 | (.enter f args,h)=>(gq P f args kind).map fun c=>{fr:=c,cs:=fr::cs,h}
 | (.round l f tmps assign body,h)=>some {fr:={fn:=f,cx:=tmps,todo:=[.code assign,.beginRound,.code body],defers:=[],mode:= .run,kind:= .normal,roundOf:=some l},cs:=fr::cs,h}
def sO (P:Program)(fr:bq)(cs:List bq)(v:BV)(h:aj):Option au:=
 match cs with
 |caller::ah=>
  match fr.kind with
  | .normal=>(q9 P caller v h).map fun (c,h)=>{fr:=c,cs:=ah,h}
  |_=>none
 | []=>none
def zk (P:Program)(fr:bq)(cs:List bq)(h:aj)(jump:Option Code):Option au:=
 match fr.roundOf with
 |none=>(match jump with|none|some .ret=>some {fr:={fr with mode:= .returning},cs,h}|_=>none)
 |some l=>
  match h.get l with
  |some (.loop r)=>sO P fr cs (.bool jump.isNone) (h.put l (some (.loop {r with state:=if jump.isNone then .ready else .done,pending:=jump})))
  |_=>none
def yW (P:Program)(fr:bq)(cs:List bq)(h:aj):Option au:=
 match fr.defers with
 |d::ds=>
  match d.target with
  | .collected block=>
    (match h.get block with
    |some (.deferred (some calls))=>some {fr:={fr with defers:=calls++ds},cs,h:=h.put block (some (.deferred none))}
    |_=>none)
  |_=>none
 | []=>
   match fr.mode with
   | .run=>none
   | .returning=>
     match P.funcs[fr.fn]? with
     |none=>none
     |some fn=>
      match Di P h fn fr.cx with
      |some v=>sO P fr cs v h
      |none=>none
def dm (P:Program)(s:au):Option au:=
 let {fr,cs,h}:=s
 match fr.mode with
 | .run=>
   let to (todo:List dI):Option au:=some {fr:={fr with todo},cs,h}
   match fr.todo with
   | []=>zk P fr cs h none
   | .code .ret::_=>zk P fr cs h (some .ret)
   | .code .skip::k| .code (.label _)::k| .inBlock _::k| .inScope _::k=>to k
   | .code (.seq a b)::k=>to (.code a:: .code b::k)
   | .code (.cond c thn els)::k=>
     (match vB fr.cx c with
     | .bool b=>to (.code (if b then thn else els)::k)
     |_=>none)
   | .code (.block id body)::k=>to (.code body:: .inBlock id::k)
   | .code (.loop body)::k| .inLoop body::k=>to (.code body:: .inLoop body::k)
   | .code (.scope body)::k=>to (.code body:: .inScope body::k)
   | .code (.exit id)::k=>(match qY id k with|some k'=>to k'|none=>zk P fr cs h (some (.exit id)))
   | .code (.goto l)::k=>(match rp l k with|some k'=>to k'|none=>zk P fr cs h (some (.goto l)))
   | .code (.rangeFunc f params assign body)::k=>
     let (block,mark,h1):=match fr.roundOf with
      |some l=>(match h.get l with|some (.loop r)=>(some r.defers,[],h)|_=>(none,[],h))
      |none=>(some h.next,[({target:= .collected h.next,args:=[]}:tN)],h.new (.deferred (some [])))
     (match block with
     |none=>none
     |some aL=>
      let l:=h1.next
      let h2:=h1.new (.loop {state:= .ready,pending:=none,fn:=fr.fn,tmps:=fr.cx,params,assign,body,defers:=aL})
      let fr':={fr with todo:= .inRangeFunc l::k,defers:=mark++fr.defers}
      (G0 (vB fr.cx f) [.yield l]).bind fun d=>
        (Bi P h2 d.target d.args).bind fun r=>match r with| (.enter g args,h3)=>qR P fr' cs .normal (.enter g args,h3)|_=>none)
   | .inRangeFunc _::_=>none
   | .beginRound::k=>
     (match fr.roundOf with
     |some l=>
      (match h.get l with
      |some (.loop r)=>if r.state= .ready then some {fr:={fr with todo:=k},cs,h:=h.put l (some (.loop {r with state:= .busy}))}else none
      |_=>none)
     |none=>none)
   | .endRangeFunc l::k=>
     (match h.get l with
     |some (.loop r)=>if r.state= .busy then none else
       some {fr:={fr with todo:=(r.pending.map dI.code).toList++k},cs,h:=h.put l (some (.loop {r with state:= .exhausted}))}
     |_=>none)
   | .code (.refuse _)::_=>none
   | .code (.region _ aX draw)::k=>
     if !draw then to (.inRegion aX (List.range aX.size)::k)else
     if !(HV aX&&HX aX fr.cx.length)then none else
     let cO:=qW aX
     (sX P aX (aY aX) fr.cx cO (List.range aX.size) h (List.replicate aX.size none)).map fun (h',aJ)=>
       {fr:={fr with todo:= .fY {aX,b7:=fr.cx,aJ,cO}::k},cs,h:=h'}
   | .inRegion _ []::k=>to k
   | .inRegion aX (i::ah)::k=>
     (match aX[i]? with
     |none=>to (.inRegion aX ah::k)
     |some o=>
      match lg o aX (fun t=>fr.cx[t]?)with
      |some true=>(Fw P h (vB fr.cx) o).bind (qR P fr cs .normal)
      |some false=>to (.inRegion aX ah::k) |>.map fun s=>{s with fr:={s.fr with cx:=vo fr.cx o.dst BV.undef}}
      |none=>none)
   | .fY d::k=>
     (match d.cO with
     | []=>some {fr:={fr with cx:=q8 d.aX d.aJ 0 d.b7,todo:=k},cs,h}
     |x::_=>
      match d.aX[x]? with
      |none=>none
      |some o=>
       let bits:=aY d.aX
       match lg o d.aX (fun t=>some (nF d.aX bits d.b7 d.aJ x t))with
       |some true=>(Fw P h (kS d.aX bits d.b7 d.aJ x) o).bind (qR P fr cs .normal)
       |some false=>(q9 P fr BV.undef h).map fun (fr,h)=>{fr,cs,h}
       |none=>none)
 |_=>yW P fr cs h
def au.ended (s:au):Bool:=s.cs.isEmpty&&(s.fr.mode matches .returning)&&s.fr.defers.isEmpty
def hS:aj:={next:=0,tr:= .leaf}
end
end
section
structure Gh where
 m:Nat->Option (Nat×Nat)
 fz:Nat->Prop
 s:Nat->D->Option (Nat×Nat)
def ei (w:World)(aL off:Nat)(vs:List Value):Prop:=∀i x,vs[i]?=some x->w.cell? ⟨aL,off+i,none⟩=some x
def Xu (P:Program)(w:World)(aL off c:Nat):Prop:=∃e n,w.shape? aL=some (e,n)/\off+c*P.cellsOf e<=n
inductive nG (P:Program)(fz:Nat->Prop)(w:World):TypeId->D->List Value->Prop where
 |int {t:TypeId} {k:IntKind} {d:D} (h:P.underlying t=some (.int k)):nG P fz w t d [.int k d.int]
 |bool {t:TypeId} {d:D} (h:P.underlying t=some .bool):nG P fz w t d [.bool d.bool]
 |b8 {t:TypeId} {d:D} (h:P.underlying t=some .string):nG P fz w t d [.string ⟨d.b8.toArray⟩]
 |cX {t e:TypeId} {d:D} (h:P.underlying t=some (.slice e)) (h0:d.ae=[]):nG P fz w t d [.slice none 0 0]
 |empty {t e:TypeId} {d:D} (h:P.underlying t=some (.slice e)) (h0:d.ae=[]) (a:Addr) (c:Nat):nG P fz w t d [.slice (some a) 0 c]
 |slice {t e:TypeId} {d:D} (h:P.underlying t=some (.slice e)) (aL off c:Nat) (vs:List Value) (hf:fz aL) (hc:d.ae.length<=c) (hl:vs.length=d.ae.length*P.cellsOf e)
   (hi:∀i x,d.ae[i]?=some x->nG P fz w e x ((vs.drop (i*P.cellsOf e)).take (P.cellsOf e))) (hat:ei w aL off vs):nG P fz w t d [.slice (some ⟨aL,off,none⟩) d.ae.length c]
 |struct {t:TypeId} {fs:Array Field} {d:D} (h:P.underlying t=some (.struct fs)) (css:List (List Value)) (hl:css.length=fs.toList.length)
   (hi:∀i f cs,fs.toList[i]?=some f->css[i]?=some cs->nG P fz w f.type (d.aa i) cs):nG P fz w t d css.flatten
def cI (P:Program)(fz:Nat->Prop)(w:World)(e:TypeId)(l:List D)(vs:List Value):Prop:=
 vs.length=l.length*P.cellsOf e/\∀i x,l[i]?=some x->nG P fz w e x ((vs.drop (i*P.cellsOf e)).take (P.cellsOf e))
def IM (P:Program)(fz:Nat->Prop)(w:World)(e:TypeId)(l:List D)(aL off:Nat):Prop:=
 fz aL/\∃vs,cI P fz w e l vs/\ei w aL off vs
mutual
def ao (P:Program)(g:Gh)(w:World):BV->Value->Prop
 | .lH,_=>True
 | .bool b,v=>v= .bool b
 | .int k n,v=>v= .int k n
 | .b8 s,v=>v= .string ⟨s.toArray⟩
 | .nA,v=>v= .pointer none
 | .aP b off,v=>∃aL az,g.m b=some (aL,az)/\v= .pointer (some ⟨aL,az+off,none⟩)
 | .wq cs,v=>∃aL off,v= .pointer (some ⟨aL,off,none⟩)/\g.fz aL/\∃vs,aq P g w cs vs/\ei w aL off vs
 | .cX,v=>v= .slice none 0 0
 | .kR,v=>∃a c,v= .slice (some a) 0 c
 | .bw e l,v=>(l=[]/\(v= .slice none 0 0\/∃a c,v= .slice (some a) 0 c))\/∃aL off c,v= .slice (some ⟨aL,off,none⟩) l.length c/\l.length<=c/\IM P g.fz w e l aL off
 | .Fi e l,v=>(l=[]/\(v= .slice none 0 0\/∃a,v= .slice (some a) 0 0))\/∃aL off,v= .slice (some ⟨aL,off,none⟩) l.length l.length/\IM P g.fz w e l aL off
 | .aZ b n vt,v=>((vt=true/\n=0)/\(v= .slice none 0 0\/∃a,v= .slice (some a) 0 0))\/∃aL az c,g.m b=some (aL,az)/\v= .slice (some ⟨aL,az,none⟩) n c/\n<=c/\Xu P w aL az c
 | .vO b e i off,v=>∃aL az,g.m b=some (aL,az)/\v= .pointer (some ⟨aL,az+(i*P.cellsOf e+off),none⟩)
 | .oQ b f k off,v=>∃aL az,g.s f k=some (aL,az)/\v= .pointer (some ⟨aL,az+off,none⟩)/\∃y,g.m b=some y
 | .LM,v=>v= .map none
 | .map b,v=>∃aL,g.m b=some (aL,0)/\v= .map (some aL)
 | .func fn a c,v=>∃a' c',v= .func fn a' c'/\aq P g w a a'.toList/\aq P g w c c'.toList
 | .yield l,v=>∃aL,g.m l=some (aL,0)/\v= .func (.yield aL) #[] #[]
 | .agg cs,v=>∃vs,v= .agg vs/\aq P g w cs vs.toList
 | .tuple cs,v=>∃vs,v= .tuple vs/\aq P g w cs vs.toList
def aq (P:Program)(g:Gh)(w:World):List BV->List Value->Prop
 | [],vs=>vs=[]
 |b::bs,vs=>∃v vr,vs=v::vr/\ao P g w b v/\aq P g w bs vr
end
section lists
variable {P:Program} {g:Gh} {w:World}
def aq.length {bs:List BV}:∀{vs:List Value},aq P g w bs vs->vs.length=bs.length:=by
 induction bs with
 |nil=>intro vs h;simp[aq]at h;simp[h]
 |cons b bs ih=>intro vs h;simp only[aq]at h;obtain⟨v,vr,rfl,_,h⟩:=h;simp[ih h]
def aq.get {bs:List BV}:∀{vs:List Value},aq P g w bs vs->∀{i:Nat} {b:BV},bs[i]?=some b->∃v,vs[i]?=some v/\ao P g w b v:=by
 induction bs with
 |nil=>intro vs _ i b h;simp at h
 |cons x bs ih=>
  intro vs h i b hb
  simp only[aq]at h
  obtain⟨v,vr,rfl,hv,hr⟩:=h
  cases i with
  |zero=>simp at hb;subst hb;exact⟨v,by simp,hv⟩
  |succ i=>simp at hb;obtain⟨u,hu,hr'⟩:=ih hr hb;exact⟨u,by simpa using hu,hr'⟩
def aq.aei {bs:List BV}{vs:List Value}(h:aq P g w bs vs){i:Nat}{v:Value}(hv:vs[i]?=some v):∃b,bs[i]?=some b/\ao P g w b v:=by
 have hl:=h.length
 have hi:i<bs.length:=by have:=(aha.1 hv).1;omega
 obtain⟨u,hu,hr⟩:=h.get (ag7 hi)
 rw[hv]at hu;cases hu
 exact⟨_,ag7 hi,hr⟩
def aq.rL {bs:List BV}:∀{vs:List Value},vs.length=bs.length->(∀(i:Nat) b v,bs[i]?=some b->vs[i]?=some v->ao P g w b v)->aq P g w bs vs:=by
 induction bs with
 |nil=>intro vs hl _;simp at hl;simp[aq,hl]
 |cons b bs ih=>
  intro vs hl h
  cases vs with
  |nil=>simp at hl
  |cons v vr=>
   simp only[aq]
   exact⟨v,vr,rfl,h 0 b v (by simp) (by simp),ih (by simpa using hl) fun i b' v' hb hv=>h (i+1) b' v' (by simpa using hb) (by simpa using hv)⟩
def aq.append {as bs:List BV}{us vs:List Value}(h:aq P g w as us)(k:aq P g w bs vs):aq P g w (as++bs) (us++vs):=by
 refine aq.rL (by simp[h.length,k.length]) fun i b v hb hv=>?_
 rw[ahR]at hb hv
 rw[h.length]at hv
 split at hb
 ·rename_i hlt;rw[ag8 hlt]at hv;obtain⟨v',h1,h2⟩:=h.get hb;rw[h1]at hv;cases hv;exact h2
 ·rename_i hlt;rw[ag4 hlt]at hv;obtain⟨v',h1,h2⟩:=k.get hb;rw[h1]at hv;cases hv;exact h2
def aq.take {bs:List BV}{vs:List Value}(n:Nat)(h:aq P g w bs vs):aq P g w (bs.take n) (vs.take n):=by
 refine aq.rL (by simp[h.length]) fun i b v hb hv=>?_
 rw[ahL]at hb hv
 split at hb
 ·rename_i hlt;rw[ag8 hlt]at hv;obtain⟨v',h1,h2⟩:=h.get hb;rw[h1]at hv;cases hv;exact h2
 ·cases hb
def aq.drop {bs:List BV}{vs:List Value}(n:Nat)(h:aq P g w bs vs):aq P g w (bs.drop n) (vs.drop n):=by
 refine aq.rL (by simp[h.length]) fun i b v hb hv=>?_
 rw[ah7]at hb hv
 obtain⟨v',h1,h2⟩:=h.get hb;rw[h1]at hv;cases hv;exact h2
def aq.set {bs:List BV}{vs:List Value}{b:BV}{v:Value}(n:Nat)(h:aq P g w bs vs)(hv:ao P g w b v):aq P g w (bs.set n b) (vs.set n v):=by
 refine aq.rL (by simp[h.length]) fun i b' v' hb hv'=>?_
 rw[aiK]at hb hv'
 split at hb
 ·rename_i e;subst e
  split at hb
  ·simp at hb;subst hb;rename_i hlt;rw[ag8 rfl,ag8 (by rw[h.length];exact hlt)]at hv';cases hv';exact hv
  ·cases hb
 ·rename_i e;rw[ag4 e]at hv';obtain⟨u,h1,h2⟩:=h.get hb;rw[h1]at hv';cases hv';exact h2
def aq.map {α:Type}{l:List α}{f:α->BV}{f':α->Value}(h:∀a∈l,ao P g w (f a) (f' a)):aq P g w (l.map f) (l.map f'):=by
 induction l with
 |nil=>simp[aq]
 |cons a l ih=>
  simp only[ahJ,aq]
  exact⟨_,_,rfl,h a (by simp),ih fun b hb=>h b (by simp[hb])⟩
def aq.replicate {b:BV}{v:Value}(h:ao P g w b v)(n:Nat):aq P g w (List.replicate n b) (List.replicate n v):=by
 refine aq.rL (by simp) fun i b' v' hb hv=>?_
 rw[aim]at hb hv
 split at hb
 ·rename_i hlt;rw[ag8 hlt]at hv;cases hb;cases hv;exact h
 ·cases hb
def aq.cons {b:BV}{v:Value}{bs:List BV}{vs:List Value}(h:ao P g w b v)(k:aq P g w bs vs):aq P g w (b::bs) (v::vs):=by
 simp only[aq];exact⟨v,vs,rfl,h,k⟩
def aq.nil:aq P g w [] []:=by simp[aq]
def aq.one {b:BV}{vs:List Value}(h:aq P g w [b] vs):∃v,vs=[v]/\ao P g w b v:=by
 simp only[aq]at h;obtain⟨v,vr,rfl,hv,rfl⟩:=h;exact⟨v,rfl,hv⟩
def aq.two {a b:BV}{vs:List Value}(h:aq P g w [a,b] vs):∃u v,vs=[u,v]/\ao P g w a u/\ao P g w b v:=by
 simp only[aq]at h;obtain⟨u,vr,rfl,hu,v,vr',rfl,hv,rfl⟩:=h;exact⟨u,v,rfl,hu,hv⟩
def ao.undef:ao P g w BV.undef Go.undef:=by
 simp only[BV.undef,Go.undef,ao];exact⟨#[],rfl,aq.nil⟩
def ao.one {b:BV}{v:Value}(h:ao P g w b v)(ho:b.one=true):v.cells=#[v]/\(∀cs,v≠ .agg cs)/\∀cs,v≠ .tuple cs:=by
 cases b<;>simp only[BV.one,agZ]at ho<;>simp only[ao]at h
 case aP=>obtain⟨_,_,_,rfl⟩:=h;simp[Value.cells]
 case wq=>obtain⟨_,_,rfl,_⟩:=h;simp[Value.cells]
 case kR=>obtain⟨_,_,rfl⟩:=h;simp[Value.cells]
 case bw=>obtain⟨_,rfl| ⟨_,_,rfl⟩⟩| ⟨_,_,_,rfl,_⟩:=h<;>simp[Value.cells]
 case Fi=>obtain⟨_,rfl| ⟨_,rfl⟩⟩| ⟨_,_,rfl,_⟩:=h<;>simp[Value.cells]
 case aZ=>obtain⟨_,rfl| ⟨_,rfl⟩⟩| ⟨_,_,_,_,rfl,_⟩:=h<;>simp[Value.cells]
 case vO=>obtain⟨_,_,_,rfl⟩:=h;simp[Value.cells]
 case oQ=>obtain⟨_,_,_,rfl,_⟩:=h;simp[Value.cells]
 case map=>obtain⟨_,_,rfl⟩:=h;simp[Value.cells]
 case func=>obtain⟨_,_,rfl,_⟩:=h;simp[Value.cells]
 case yield=>obtain⟨_,_,rfl⟩:=h;simp[Value.cells]
 all_goals (subst h;simp[Value.cells])
def ao.cells {b:BV}{v:Value}(h:ao P g w b v)(ho:b.cells.all BV.one=true):aq P g w b.cells v.cells.toList:=by
 by_cases hb:∃cs,b= .agg cs
 ·obtain⟨cs,rfl⟩:=hb
  simp only[ao]at h;obtain⟨vs,rfl,h⟩:=h
  simpa [BV.cells,Value.cells]using h
 ·have e:b.cells=[b]:=by cases b<;>first|rfl| (exact absurd ⟨_,rfl⟩ hb)
  rw[e]at ho ⊢
  have ho':b.one=true:=by simpa using ho
  rw[(h.one ho').1]
  exact aq.cons h aq.nil
end lists
structure eC (g:Gh)(w:World)(g':Gh)(w':World):Prop where
 mm:∀b x,g.m b=some x->g'.m b=some x
 mf:∀c,g.fz c->g'.fz c
 mc:∀c,g.fz c->w'.heap[c]?=w.heap[c]?
 ms:∀c s,w.shape? c=some s->w'.shape? c=some s
 mse:∀f k x,g.s f k=some x->g'.s f k=some x
def eC.refl (g:Gh)(w:World):eC g w g w:=⟨fun _ _ h=>h,fun _ h=>h,fun _ _=>rfl,fun _ _ h=>h,fun _ _ _ h=>h⟩
def eC.trans {g g' g'':Gh}{w w' w'':World}(h:eC g w g' w')(k:eC g' w' g'' w''):eC g w g'' w'':=
 ⟨fun b x e=>k.mm b x (h.mm b x e),fun c e=>k.mf c (h.mf c e),fun c e=>(k.mc c (h.mf c e)).trans (h.mc c e),fun c s e=>k.ms c s (h.ms c s e),fun f d x e=>k.mse f d x (h.mse f d x e)⟩
def ze {w w':World}{b off:Nat}(h:w'.heap[b]?=w.heap[b]?):w'.cell? ⟨b,off,none⟩=w.cell? ⟨b,off,none⟩:=by
 simp[World.cell?,h]
def eC.aaI {g g':Gh}{w w':World}(h:eC g w g' w'){aL off:Nat}{vs:List Value}(hf:g.fz aL)(hc:ei w aL off vs):ei w' aL off vs:=by
 intro i x hi
 rw[ze (h.mc aL hf)];exact hc i x hi
def ei.PX {w w':World}{aL off:Nat}{vs:List Value}(h:w'.heap[aL]?=w.heap[aL]?)(hc:ei w aL off vs):ei w' aL off vs:=by
 intro i x hi
 rw[ze h];exact hc i x hi
def nG.mono {P:Program}{fz fz':Nat->Prop}{w w':World}(hf:∀c,fz c->fz' c)(hw:∀c,fz c->w'.heap[c]?=w.heap[c]?){t:TypeId}{d:D}{cs:List Value}(h:nG P fz w t d cs):nG P fz' w' t d cs:=by
 induction h with
 |int h=>exact .int h
 |bool h=>exact .bool h
 |b8 h=>exact .b8 h
 |cX h h0=>exact .cX h h0
 |empty h h0 a c=>exact .empty h h0 a c
 |slice h aL off c vs hb hc hl hi hat ih=>exact .slice h aL off c vs (hf _ hb) hc hl ih (hat.PX (hw _ hb))
 |struct h css hl hi ih=>exact .struct h css hl ih
def cI.mono {P:Program}{fz fz':Nat->Prop}{w w':World}(hf:∀c,fz c->fz' c)(hw:∀c,fz c->w'.heap[c]?=w.heap[c]?){e:TypeId}{l:List D}{vs:List Value}(h:cI P fz w e l vs):cI P fz' w' e l vs:=
 ⟨h.1,fun i x hx=>(h.2 i x hx).mono hf hw⟩
def IM.mono {P:Program}{fz fz':Nat->Prop}{w w':World}(hf:∀c,fz c->fz' c)(hw:∀c,fz c->w'.heap[c]?=w.heap[c]?){e:TypeId}{l:List D}{aL off:Nat}(h:IM P fz w e l aL off):IM P fz' w' e l aL off:=by
 obtain⟨hb,vs,h1,h2⟩:=h
 exact⟨hf _ hb,vs,h1.mono hf hw,h2.PX (hw _ hb)⟩
mutual
def ao.mono {P:Program}{g g':Gh}{w w':World}(hm:eC g w g' w'):∀(b:BV) (v:Value),ao P g w b v->ao P g' w' b v
 | .lH,_,_=>by simp[ao]
 | .bool _,_,h=>by simpa [ao]using h
 | .int _ _,_,h=>by simpa [ao]using h
 | .b8 _,_,h=>by simpa [ao]using h
 | .nA,_,h=>by simpa [ao]using h
 | .aP b off,v,h=>by
   simp only[ao]at h ⊢;obtain⟨aL,az,hb,rfl⟩:=h;exact⟨aL,az,hm.mm _ _ hb,rfl⟩
 | .wq cs,v,h=>by
   simp only[ao]at h ⊢;obtain⟨aL,off,rfl,hf,vs,hv,hc⟩:=h
   exact⟨aL,off,rfl,hm.mf _ hf,vs,aq.mono hm cs vs hv,hm.aaI hf hc⟩
 | .cX,_,h=>by simpa [ao]using h
 | .kR,_,h=>by simpa [ao]using h
 | .bw e l,v,h=>by
   simp only[ao]at h ⊢
   rcases h with h| ⟨aL,off,c,rfl,hc,hr⟩
   ·exact .inl h
   ·exact .inr ⟨aL,off,c,rfl,hc,hr.mono hm.mf hm.mc⟩
 | .Fi e l,v,h=>by
   simp only[ao]at h ⊢
   rcases h with h| ⟨aL,off,rfl,hr⟩
   ·exact .inl h
   ·exact .inr ⟨aL,off,rfl,hr.mono hm.mf hm.mc⟩
 | .aZ b n vt,v,h=>by
   simp only[ao]at h ⊢
   rcases h with h| ⟨aL,az,c,hb,rfl,hc,e',n',hs,hn⟩
   ·exact .inl h
   ·exact .inr ⟨aL,az,c,hm.mm _ _ hb,rfl,hc,e',n',hm.ms _ _ hs,hn⟩
 | .vO b e i off,v,h=>by
   simp only[ao]at h ⊢;obtain⟨aL,az,hb,rfl⟩:=h;exact⟨aL,az,hm.mm _ _ hb,rfl⟩
 | .oQ b f k off,v,h=>by
   simp only[ao]at h ⊢;obtain⟨aL,az,hb,rfl,y,hy⟩:=h;exact⟨aL,az,hm.mse _ _ _ hb,rfl,y,hm.mm _ _ hy⟩
 | .LM,_,h=>by simpa [ao]using h
 | .map b,v,h=>by
   simp only[ao]at h ⊢;obtain⟨aL,hb,rfl⟩:=h;exact⟨aL,hm.mm _ _ hb,rfl⟩
 | .func fn a c,v,h=>by
   simp only[ao]at h ⊢;obtain⟨a',c',rfl,ha,hc⟩:=h
   exact⟨a',c',rfl,aq.mono hm a _ ha,aq.mono hm c _ hc⟩
 | .yield l,v,h=>by
   simp only[ao]at h ⊢;obtain⟨aL,hb,rfl⟩:=h;exact⟨aL,hm.mm _ _ hb,rfl⟩
 | .agg cs,v,h=>by
   simp only[ao]at h ⊢;obtain⟨vs,rfl,hv⟩:=h;exact⟨vs,rfl,aq.mono hm cs _ hv⟩
 | .tuple cs,v,h=>by
   simp only[ao]at h ⊢;obtain⟨vs,rfl,hv⟩:=h;exact⟨vs,rfl,aq.mono hm cs _ hv⟩
def aq.mono {P:Program}{g g':Gh}{w w':World}(hm:eC g w g' w'):∀(bs:List BV) (vs:List Value),aq P g w bs vs->aq P g' w' bs vs
 | [],_,h=>by simpa [aq]using h
 |b::bs,vs,h=>by
  simp only[aq]at h ⊢;obtain⟨v,vr,rfl,hv,hr⟩:=h
  exact⟨v,vr,rfl,ao.mono hm b v hv,aq.mono hm bs vr hr⟩
end
def xX (P:Program)(g:Gh)(w:World):AE->Target->Prop
 | .fn fn c,t=>∃c',t= .fn fn c'/\aq P g w c c'.toList
 | .yield l,t=>∃aL,g.m l=some (aL,0)/\t= .fn (.yield aL) #[]
 | .builtin b ts t' cs,t=>t= .builtin b ts t' cs
 | .collected r,t=>∃aL,g.m r=some (aL,0)/\t= .collected aL
def UU (P:Program)(g:Gh)(w:World)(b:tN)(d:Deferred):Prop:=
 xX P g w b.target d.target/\aq P g w b.args d.args.toList
def iC (P:Program)(g:Gh)(w:World):List tN->List Deferred->Prop
 | [],ds=>ds=[]
 |b::bs,ds=>∃d dr,ds=d::dr/\UU P g w b d/\iC P g w bs dr
def Xm (P:Program)(g:Gh)(w:World)(b:TR)(l:Loop):Prop:=
 b.state=l.state/\b.pending=l.pending/\b.fn=l.fn/\aq P g w b.tmps l.tmps.toList/\b.params=l.params/\b.assign=l.assign/\b.body=l.body/\g.m b.defers=some (l.defers,0)
inductive AF (P:Program):TypeId->D->Prop where
 |int {t:TypeId} {k:IntKind} (h:P.underlying t=some (.int k)) (n:Int):AF P t (.z n)
 |bool {t:TypeId} (h:P.underlying t=some .bool) (b:Bool):AF P t (.b b)
 |b8 {t:TypeId} (h:P.underlying t=some .string) (s:List UInt8):AF P t (.s s)
 |struct {t:TypeId} {fs:Array Field} (h:P.underlying t=some (.struct fs)) (ds:List D) (hl:ds.length=fs.toList.length) (hi:∀(i:Nat) (f:Field) (d:D),fs.toList[i]?=some f->ds[i]?=some d->AF P f.type d):AF P t (.r ds)
def y5 (P:Program)(g:Gh)(w:World)(vk:VK)(k d:D)(v:Value):Prop:=
 match vk with
 | .data et=>ao P g w (cj P et d) v
 | .bY f _=>∃x,g.s f k=some x/\v= .pointer (some ⟨x.1,x.2,none⟩)
 | .IZ=>v= .func (.func d.int.toNat) #[] #[]
structure tO (P:Program)(g:Gh)(w:World)(kt:TypeId)(vk:VK)(l:List (D×D))(st:List Nat)(clock:Nat)(es:List MapEntry):Prop where
 len:es.length=l.length
 sl:st.length=l.length
 key:∀(i:Nat) p e,l[i]?=some p->es[i]?=some e->ao P g w (cj P kt p.1) e.key
 born:∀(i:Nat) s e,st[i]?=some s->es[i]?=some e->e.born=s
 val:∀(i:Nat) p e,l[i]?=some p->es[i]?=some e->y5 P g w vk p.1 p.2 e.val
 B9:∀p∈l,AF P kt p.1
 nd:(D.ct l).Nodup
 snd:st.Nodup
 FJ:∀s∈st,s<clock
def cV (P:Program)(g:Gh)(w:World):aI->Nat->Obj->Prop
 | .cells cs e s,az,o=>∃c lo hi,o= .cells c e (lo,hi)/\(∃vs,aq P g w cs vs/\∀i x,vs[i]?=some x->c[az+i]?=some x)/\
    (∀i,i<c.size->¬(lo<=i/\i<hi))/\(s=false->lo=0/\hi=0)
 | .ak e l _,az,o=>∃c,o= .cells c e (0,0)/\∃vs,cI P g.fz w e l vs/\∀i x,vs[i]?=some x->c[az+i]?=some x
 | .bg kt vk l st clock,az,o=>az=0/\∃es,o= .map es clock/\tO P g w kt vk l st clock es.toList
 | .gV m ks st clock seen,az,o=>az=0/\∃aL,g.m m=some (aL,0)/\(∀k∈seen,k∈ks)/\o= .mapIter (some aL) clock (seen.reverse.map (D.iJ ks st)).toArray clock
 | .qQ _ _ _,_,_=>False
 | .loop b,az,o=>az=0/\∃l,o= .loop l/\Xm P g w b l
 | .deferred none,az,o=>az=0/\o= .deferred none
 | .deferred (some ds),az,o=>az=0/\∃ds',o= .deferred (some ds')/\iC P g w ds ds'
section mono
variable {P:Program} {g g':Gh} {w w':World}
def xX.mono (hm:eC g w g' w'){b:AE}{t:Target}(h:xX P g w b t):xX P g' w' b t:=by
 cases b<;>simp only[xX]at h ⊢
 case fn=>obtain⟨c',rfl,hc⟩:=h;exact⟨c',rfl,aq.mono hm _ _ hc⟩
 case yield=>obtain⟨aL,hb,rfl⟩:=h;exact⟨aL,hm.mm _ _ hb,rfl⟩
 case collected=>obtain⟨aL,hb,rfl⟩:=h;exact⟨aL,hm.mm _ _ hb,rfl⟩
 exact h
def UU.mono (hm:eC g w g' w'){b:tN}{d:Deferred}(h:UU P g w b d):UU P g' w' b d:=⟨h.1.mono hm,aq.mono hm _ _ h.2⟩
def iC.mono (hm:eC g w g' w'){bs:List tN}:∀{ds:List Deferred},iC P g w bs ds->iC P g' w' bs ds:=by
 induction bs with
 |nil=>intro ds h;simpa [iC]using h
 |cons b bs ih=>intro ds h;simp only[iC]at h ⊢;obtain⟨d,dr,rfl,hd,hr⟩:=h;exact⟨d,dr,rfl,hd.mono hm,ih hr⟩
def iC.append {bs cs:List tN}{ds es:List Deferred}(h:iC P g w bs ds)(k:iC P g w cs es):iC P g w (bs++cs) (ds++es):=by
 induction bs generalizing ds with
 |nil=>simp only[iC]at h;subst h;simpa using k
 |cons b bs ih=>simp only[iC]at h;obtain⟨d,dr,rfl,hd,hr⟩:=h;exact⟨d,dr++es,rfl,hd,ih hr⟩
def Xm.mono (hm:eC g w g' w'){b:TR}{l:Loop}(h:Xm P g w b l):Xm P g' w' b l:=by
 obtain⟨a1,a2,a3,a4,a5,a6,a7,a8⟩:=h
 exact⟨a1,a2,a3,aq.mono hm _ _ a4,a5,a6,a7,hm.mm _ _ a8⟩
def y5.mono (hm:eC g w g' w'){vk:VK}{k d:D}{v:Value}(h:y5 P g w vk k d v):y5 P g' w' vk k d v:=by
 unfold y5 at h ⊢
 cases vk with
 |data et=>exact ao.mono hm _ _ h
 |bY f e=>obtain⟨x,h1,h2⟩:=h;exact⟨x,hm.mse _ _ _ h1,h2⟩
 |IZ=>exact h
def tO.mono (hm:eC g w g' w'){kt:TypeId}{vk:VK}{l:List (D×D)}{st:List Nat}{clock:Nat}{es:List MapEntry}(h:tO P g w kt vk l st clock es):tO P g' w' kt vk l st clock es:=
 ⟨h.len,h.sl,fun i p e h1 h2=>ao.mono hm _ _ (h.key i p e h1 h2),h.born,fun i p e h1 h2=>(h.val i p e h1 h2).mono hm,h.B9,h.nd,h.snd,h.FJ⟩
def cV.mono (hm:eC g w g' w'){b:aI}{az:Nat}{o:Obj}(h:cV P g w b az o):cV P g' w' b az o:=by
 cases b with
 |cells cs e s=>simp only[cV]at h ⊢;obtain⟨c,lo,hi,rfl,⟨vs,hv,hc⟩,hr⟩:=h;exact⟨c,lo,hi,rfl,⟨vs,aq.mono hm _ _ hv,hc⟩,hr⟩
 |ak e l vt=>simp only[cV]at h ⊢;obtain⟨c,rfl,vs,h1,h2⟩:=h;exact⟨c,rfl,vs,h1.mono hm.mf hm.mc,h2⟩
 |bg kt vk l st clock=>simp only[cV]at h ⊢;obtain⟨rfl,es,rfl,he⟩:=h;exact⟨rfl,es,rfl,he.mono hm⟩
 |gV m ks st clock seen=>simp only[cV]at h ⊢;obtain⟨rfl,aL,hb,hs,rfl⟩:=h;exact⟨rfl,aL,hm.mm _ _ hb,hs,rfl⟩
 |qQ b f k=>simp only[cV]at h
 |loop b=>simp only[cV]at h ⊢;obtain⟨rfl,l,rfl,hl⟩:=h;exact⟨rfl,l,rfl,hl.mono hm⟩
 |deferred ds=>
  cases ds with
  |none=>simpa [cV]using h
  |some ds=>simp only[cV]at h ⊢;obtain⟨rfl,ds',rfl,hd⟩:=h;exact⟨rfl,ds',rfl,hd.mono hm⟩
end mono
def Ks {α:Type}(n m:Nat)(a b:α):cond (Nat.beq n m) a b=if n=m then a else b:=by
 by_cases h:n=m
 ·subst h;rw[ag8 rfl,akI];rfl
 ·rw[ag4 h]
  cases e:Nat.beq n m with
  |true=>exact absurd (ahh e) h
  |false=>rfl
def Tr.pj {α:Type}(n:Nat):Tr.get (.leaf:Tr α) n=none:=rfl
def Tr.Aa {α:Type}(n:Nat)(v:Option α)(l r:Tr α):Tr.get (.node v l r) n=if n=0 then v else if n % 2=1 then Tr.get l (n/2)else Tr.get r (n/2-1):=by
 show cond (Nat.beq n 0) v (cond (Nat.beq (Nat.mod n 2) 1) (Tr.get l (Nat.div n 2)) (Tr.get r (Nat.sub (Nat.div n 2) 1)))=_
 simp only[Ks];rfl
def Tr.WI {α:Type}(f n:Nat)(v:Option α)(l r:Tr α)(x:Option α):Tr.Er (f+1) (.node v l r) n x=if n=0 then .node x l r else if n % 2=1 then .node v (Tr.Er f l (n/2) x) r else .node v l (Tr.Er f r (n/2-1) x):=by
 simp only[Tr.Er,Ks];rfl
def Tr.WH {α:Type}(f n:Nat)(x:Option α):Tr.Er (f+1) .leaf n x=if n=0 then .node x .leaf .leaf else if n % 2=1 then .node none (Tr.Er f .leaf (n/2) x) .leaf else .node none .leaf (Tr.Er f .leaf (n/2-1) x):=by
 simp only[Tr.Er,Ks];rfl
def Tr.Bb {α:Type}:∀(f n:Nat) (t:Tr α) (x:Option α) (j:Nat),n<f->Tr.get (Tr.Er f t n x) j=if j=n then x else Tr.get t j:=by
 intro f
 induction f with
 |zero=>intro n t x j h;omega
 |succ f ih=>
  intro n t x j hn
  ·cases t with
   |leaf=>
    rw[Tr.WH,Tr.pj j]
    by_cases n0:n=0
    ·subst n0;simp only[ahz,Tr.Aa]
     by_cases j0:j=0
     ·simp[j0]
     ·simp[j0,Tr.pj]
    ·rw[ag4 n0]
     by_cases nm:n % 2=1
     ·rw[ag8 nm]
      simp only[Tr.Aa]
      by_cases j0:j=0
      ·subst j0;rw[ag8 rfl,ag4 (by omega)]
      ·rw[ag4 j0]
       by_cases jm:j % 2=1
       ·rw[ag8 jm,ih (n/2) .leaf x (j/2) (by omega),Tr.pj]
        by_cases e:j=n
        ·subst e;simp
        ·rw[ag4 e,ag4 (by omega)]
       ·rw[ag4 jm,Tr.pj,ag4 (by omega)]
     ·rw[ag4 nm]
      simp only[Tr.Aa]
      by_cases j0:j=0
      ·subst j0;rw[ag8 rfl,ag4 (by omega)]
      ·rw[ag4 j0]
       by_cases jm:j % 2=1
       ·rw[ag8 jm,Tr.pj,ag4 (by omega)]
       ·rw[ag4 jm,ih (n/2-1) .leaf x (j/2-1) (by omega),Tr.pj]
        by_cases e:j=n
        ·subst e;simp
        ·rw[ag4 e,ag4 (by omega)]
   |node v l r=>
    rw[Tr.WI]
    by_cases n0:n=0
    ·subst n0;simp only[ahz,Tr.Aa]
     by_cases j0:j=0
     ·simp[j0]
     ·simp[j0]
    ·rw[ag4 n0]
     by_cases nm:n % 2=1
     ·rw[ag8 nm]
      simp only[Tr.Aa]
      by_cases j0:j=0
      ·subst j0;rw[ag8 rfl,ag4 (by omega),ag8 rfl]
      ·rw[ag4 j0,ag4 j0]
       by_cases jm:j % 2=1
       ·rw[ag8 jm,ag8 jm,ih (n/2) l x (j/2) (by omega)]
        by_cases e:j=n
        ·subst e;simp
        ·rw[ag4 e,ag4 (by omega)]
       ·rw[ag4 jm,ag4 jm,ag4 (by omega)]
     ·rw[ag4 nm]
      simp only[Tr.Aa]
      by_cases j0:j=0
      ·subst j0;rw[ag8 rfl,ag4 (by omega),ag8 rfl]
      ·rw[ag4 j0,ag4 j0]
       by_cases jm:j % 2=1
       ·rw[ag8 jm,ag8 jm,ag4 (by omega)]
       ·rw[ag4 jm,ag4 jm,ih (n/2-1) r x (j/2-1) (by omega)]
        by_cases e:j=n
        ·subst e;simp
        ·rw[ag4 e,ag4 (by omega)]
def aj.fe (h:aj)(b:Nat)(o:Option aI)(j:Nat):(h.put b o).get j=if j=b then o else h.get j:=by
 unfold aj.get aj.put
 exact Tr.Bb _ _ _ _ _ (by omega)
def aj.eL (h:aj)(o:aI)(j:Nat):(h.new o).get j=if j=h.next then some o else h.get j:=by
 unfold aj.get aj.new
 exact Tr.Bb _ _ _ _ _ (by omega)
@[simp] def aj.af7 (h:aj)(b:Nat)(o:Option aI):(h.put b o).next=h.next:=rfl
@[simp] def aj.af6 (h:aj)(o:aI):(h.new o).next=h.next+1:=rfl
@[simp] def aj.afe (h:aj):h.RU.next=h.next+1:=rfl
@[simp] def aj.Yo (h:aj)(b:Nat):h.RU.get b=h.get b:=rfl
inductive Xn where
 |aL (b:Nat)
 |el (b f:Nat) (k:D)
def aI.zp:aI->Option Nat
 | .bg _ (.bY f _) _ _ _=>some f
 |_=>none
def aI.xi:aI->Nat->D->Option aI
 | .bg _ (.bY f' e) l _ _,f,k=>if f'=f then (D.ep l k).map fun d=> .ak e [d] false else none
 |_,_,_=>none
def aI.nC:aI->Option aI
 | .qQ _ _ _=>none
 |o=>some o
def aj.at (h:aj):Xn->Option aI
 | .aL b=>(h.get b).bind aI.nC
 | .el b f k=>(h.get b).bind fun o=>o.xi f k
def Gh.at (g:Gh):Xn->Option (Nat×Nat)
 | .aL b=>g.m b
 | .el _ f k=>g.s f k
structure bc (P:Program)(g:Gh)(h:aj)(w:World):Prop where
 Jt:∀b o,h.get b=some o->b<h.next
 lt:∀b x,g.m b=some x->b<h.next
 FJ:∀f k x,g.s f k=some x->f<h.next
 BF:∀b o f,h.get b=some o->o.zp=some f->f<h.next
 fu:∀b b' o o' f,h.get b=some o->h.get b'=some o'->o.zp=some f->o'.zp=some f->b=b'
 sk:∀b o f k x,h.get b=some o->o.zp=some f->g.s f k=some x->(∃o1,o.xi f k=some o1)/\∃y,g.m b=some y
 al:∀b b' f k,h.get b=some (.qQ b' f k)->(∃x,g.m b=some x/\g.s f k=some x)/\∃y,g.m b'=some y
 nv:∀l aL az,g.at l=some (aL,az)->aL<w.heap.size
 nw:∀l l' aL az base' o o',h.at l=some o->h.at l'=some o'->g.at l=some (aL,az)->g.at l'=some (aL,base')->l=l'
 qJ:∀l o aL az,h.at l=some o->g.at l=some (aL,az)->¬g.fz aL/\∃o',w.heap[aL]?=some o'/\cV P g w o az o'
 mE:∀c,g.fz c->c<w.heap.size
def qO (g:Gh)(h:aj)(c:Nat):Prop:=∃l o az,h.at l=some o/\g.at l=some (c,az)
section
variable {P:Program} {g:Gh} {h:aj} {w:World}
def aj.fO {b:Nat}{o:aI}(hb:h.get b=some o)(ho:o.nC=some o):h.at (.aL b)=some o:=by
 show (h.get b).bind aI.nC=_;rw[hb];exact ho
def aI.P1 {o o':aI}(e:o.nC=some o'):o'=o/\o.nC=some o:=by
 cases o<;>first| (cases e;exact⟨rfl,rfl⟩)|cases e
def aj.wR {b:Nat}{o:aI}(hb:h.at (.aL b)=some o):h.get b=some o/\o.nC=some o:=by
 change (h.get b).bind aI.nC=_ at hb
 cases hg:h.get b with
 |none=>rw[hg]at hb;cases hb
 |some x=>rw[hg]at hb;obtain⟨rfl,h2⟩:=aI.P1 hb;exact⟨rfl,h2⟩
def bc.Xd (hr:bc P g h w):∀b aL az,g.m b=some (aL,az)->aL<w.heap.size:=fun b aL az e=>hr.nv (.aL b) aL az e
def bc.inj (hr:bc P g h w):∀b b' aL az base' o o',h.get b=some o->h.get b'=some o'->g.m b=some (aL,az)->g.m b'=some (aL,base')->(ho:o.nC=some o:=by rfl)->(ho':o'.nC=some o':=by rfl)->b=b':=
 fun b b' aL az base' o o' h1 h2 m1 m2 ho ho'=>by
  have:=hr.nw (.aL b) (.aL b') aL az base' o o' (aj.fO h1 ho) (aj.fO h2 ho') m1 m2
  cases this;rfl
def bc.Xg (hr:bc P g h w):∀b o aL az,h.get b=some o->g.m b=some (aL,az)->(ho:o.nC=some o:=by rfl)->¬g.fz aL/\∃o',w.heap[aL]?=some o'/\cV P g w o az o':=
 fun b o aL az h1 m1 ho=>hr.qJ (.aL b) o aL az (aj.fO h1 ho) m1
def qO.aL {b c az:Nat}{o:aI}(hb:h.get b=some o)(hm:g.m b=some (c,az))(ho:o.nC=some o:=by rfl):qO g h c:=⟨.aL b,o,az,aj.fO hb ho,hm⟩
end
structure hJ (g:Gh)(h:aj)(w:World)(g':Gh)(h':aj)(w':World):Prop where
 mono:eC g w g' w'
 size:w.heap.size<=w'.heap.size
 oR:∀c,c<w.heap.size->¬qO g h c->w'.heap[c]?=w.heap[c]?
 nC:∀c,c<w.heap.size->qO g' h' c->qO g h c
 Sl:∀c,c<w.heap.size->g'.fz c->g.fz c\/qO g h c
 next:h.next<=h'.next
 os:w'.os=w.os/\w'.output=w.output/\w'.tape=w.tape
def hJ.refl (g:Gh)(h:aj)(w:World):hJ g h w g h w:=⟨eC.refl g w,aho _,fun _ _ _=>rfl,fun _ _ h=>h,fun _ _ h=> .inl h,aho _,rfl,rfl,rfl⟩
def hJ.trans {g g' g'':Gh}{h h' h'':aj}{w w' w'':World}(a:hJ g h w g' h' w')(b:hJ g' h' w' g'' h'' w''):hJ g h w g'' h'' w'' where
 mono:=a.mono.trans b.mono
 size:=ahD a.size b.size
 oR:=fun c hc ho=>(b.oR c (ahC hc a.size) (fun h=>ho (a.nC c hc h))).trans (a.oR c hc ho)
 nC:=fun c hc ho=>a.nC c hc (b.nC c (ahC hc a.size) ho)
 Sl:=fun c hc hf=>(b.Sl c (ahC hc a.size) hf).elim (fun h=>a.Sl c hc h) (fun h=> .inr (a.nC c hc h))
 next:=ahD a.next b.next
 os:=⟨b.os.1.trans a.os.1,b.os.2.1.trans a.os.2.1,b.os.2.2.trans a.os.2.2⟩
end
end Go.PB
end
