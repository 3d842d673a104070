import Derived.Orders
import Derived.RangeFuncRecord
import Derived.Test.YtemiekpfokoplaaGreatM3
set_option linter.all false
noncomputable section
namespace Go.PB
open Go
section
def eZ (g:Gh):dI->Item->Prop
 | .code c,i=>i= .code c
 | .inBlock id,i=>i= .inBlock id
 | .inLoop c,i=>i= .inLoop c
 | .inScope c,i=>i= .inScope c
 | .inRegion aN todo,i=>i= .inRegion aN todo
 | .fQ _,_=>False
 | .inRangeFunc l,i=>∃aA,g.m l=some (aA,0)/\i= .inRangeFunc aA
 | .endRangeFunc l,i=>∃aA,g.m l=some (aA,0)/\i= .endRangeFunc aA
 | .beginRound,i=>i= .beginRound
def bT (g:Gh):List dI->List Item->Prop
 | [],is=>is=[]
 |b::bs,is=>∃i ir,is=i::ir/\eZ g b i/\bT g bs ir
def sn (P:Program)(g:Gh)(w:World):RD->FrameMode->Prop
 | .run,m=>m= .run
 | .returning,m=>m= .returning
def kI (g:Gh):Option Nat->Option Nat->Prop
 |none,r=>r=none
 |some l,r=>∃aA,g.m l=some (aA,0)/\r=some aA
def Zg (aN:Array Oper)(i:Nat):Prop:=∃o,aN[i]?=some o/\jX o=true
def gf (aN:Array Oper)(bW:List BV)(aF:List (Option BV))(rest:List Nat)(t:Nat):BV:=
 match eR aN t with
 |some k=>if k∈rest then bW.getD t BV.undef else (aF.getD k none).getD .kC
 |none=>bW.getD t BV.undef
def ED (bits:List Nat):List Nat->Prop
 | []=>True
 |i::r=>(∀k∈i::r,dk bits i k=false)/\ED bits r
def HV (P:Program)(g:Gh)(h hp:af)(aN:Array Oper)(bW:List BV)(aF:List (Option BV))(b:Option Nat)(i:Nat)(o:Oper)(v:BV):Prop:=
 (kF o aN (fun t=>some (mV aN (aP aN) bW aF i t))=some false/\v=BV.undef)\/
 (kF o aN (fun t=>some (mV aN (aP aN) bW aF i t))=some true/\
   ((kh o=false/\Dk P hp (kv aN (aP aN) bW aF i) o=some (.value v,hp))\/
    (kh o=true/\∃h1 h2,b=some h1.next/\Dk P h1 (kv aN (aP aN) bW aF i) o=some (.value v,h2)/\g.m h1.next=none/\h.get h1.next=h2.get h1.next/\rC (h.get h1.next)=false)))
def po (aF:List (Option BV))(i:Nat):Prop:=∃v,aF[i]?=some (some v)
def zy (aN:Array Oper)(cI:List Nat)(i:Nat):Prop:=∀e∈cI,dk (aP aN) i e=false
structure iw (P:Program)(g:Gh)(h:af)(w:World)(lb ub:Nat)(hp:af)(ph:Nat->Option Nat)(d:Gg)(tmps:Array Value)(rest:List Nat):Prop where
 ok:Gv d.aN=true
 L3:Gw d.aN d.bW.length=true
 size:tmps.size=d.bW.length
 UO:d.aF.length=d.aN.size
 ze:rest.Nodup
 lt:∀i∈rest,i<d.aN.size
 W2:ED (aP d.aN) rest
 dc:∀i,i<d.aN.size->i∉rest->∀k,dk (aP d.aN) i k=true->k∉rest
 cI:∀e,e∈d.cI↔(e∈rest/\Zg d.aN e)
 zR:d.cI.Pairwise fun a b=>dk (aP d.aN) b a=true
 aF:∀i,i<d.aN.size->i∉rest->po d.aF i
 F3:∀(t:Nat) v,tmps[t]?=some v->ai P g w (gf d.aN d.bW d.aF rest t) v
 ready:∀i∈rest,∀o,d.aN[i]?=some o->jX o=false->zy d.aN d.cI i->po d.aF i
 yi:∀i∈rest,∀o v,d.aN[i]?=some o->jX o=false->d.aF[i]?=some (some v)->zy d.aN d.cI i/\HV P g h hp d.aN d.bW d.aF (ph i) i o v
 Lj:∀i j b,ph i=some b->ph j=some b->i=j
 OL:∀i b,ph i=some b->lb<=b/\b<ub
def Ir (P:Program)(g:Gh)(h:af)(w:World)(lb ub:Nat)(hp:af)(d:Gg)(tmps:Array Value)(rest:List Nat):Prop:=∃ph,iw P g h w lb ub hp ph d tmps rest
def cQ (P:Program)(g:Gh)(h:af)(w:World)(lb ub:Nat)(top:Bool)(b:aZ)(f:Frame):Prop:=
 match b.todo with
 | .fQ d::k=>b.cx=d.bW/\∃rest k',f.todo= .inRegion d.aN rest::k'/\bT g k k'/\∃hp,(top=true->hp=h)/\Ir P g h w lb ub hp d f.tmps rest/\
    (top=false->∃x r,rest=x::r/\d.cI.head?=some x)
 |_=>ak P g w b.cx f.tmps.toList/\bT g b.todo f.todo
structure mo (P:Program)(g:Gh)(h:af)(w:World)(lb ub:Nat)(top:Bool)(b:aZ)(f:Frame):Prop where
 fn:b.fn=f.fn
 kind:b.kind=f.kind
 jZ:b.kind= .normal\/b.kind= .deferred
 defers:iv P g w b.defers f.defers
 mode:sn P g w b.mode f.mode
 round:kI g b.roundOf f.roundOf
 run:b.mode= .run->cQ P g h w lb ub top b f
 cx:b.mode≠ .run->ak P g w b.cx f.tmps.toList
structure rG where
 K:Gh->af->Nat->List Frame->Prop
 mono:∀{g g':Gh} {h h':af} {lb:Nat} {cs:List Frame},(∀b,b<lb->g.m b=none->rC (h.get b)=false->g'.m b=none/\h'.get b=h.get b)->K g h lb cs->K g' h' lb cs
def rG.of (cs:List Frame):rG:=⟨fun _ _ _ c=>c=cs,fun _ h=>h⟩
def ly (P:Program)(g:Gh)(h:af)(w:World)(au:rG):Nat->List aZ->List Frame->Prop
 |lb,[],cs=>au.K g h lb cs
 |lb,b::bs,cs=>∃c cr lb',cs=c::cr/\lb'<=lb/\mo P g h w lb' lb false b c/\ly P g h w au lb' bs cr
def LA (P:Program)(au:rG)(g:Gh)(w:World)(lb:Nat)(s:av)(f:Frame)(cs:List Frame):Prop:=
 aR P g s.h w/\lb<=s.h.next/\mo P g s.h w lb s.h.next true s.fr f/\ly P g s.h w au lb s.cs cs
def rJ (lb:Nat)(g:Gh)(h:af)(g':Gh)(h':af):Prop:=∀b,b<lb->g.m b=none->rC (h.get b)=false->g'.m b=none/\h'.get b=h.get b
section
variable {P:Program} {g g':Gh} {h h':af} {w w':World}
def Ph.lt (hp:Ph g h g' h'){lb:Nat}(hl:lb<=h.next):rJ lb g h g' h':=fun b hb hm hv=>hp b (by omega) hm hv
def rJ.refl (lb:Nat)(g:Gh)(h:af):rJ lb g h g h:=fun _ _ hm _=>⟨hm,rfl⟩
def rJ.mono {lb lb':Nat}(hp:rJ lb g h g' h')(hl:lb'<=lb):rJ lb' g h g' h':=fun b hb hm hv=>hp b (by omega) hm hv
def rJ.trans {g'':Gh}{h'':af}{lb:Nat}(a:rJ lb g h g' h')(b:rJ lb g' h' g'' h''):rJ lb g h g'' h'':=fun x hx hm hv=>by
 obtain⟨m1,h1⟩:=a x hx hm hv
 obtain⟨m2,h2⟩:=b x hx m1 (by rw[h1];exact hv)
 exact⟨m2,h2.trans h1⟩
def eZ.mono (hm:eA g w g' w'){b:dI}{i:Item}(h:eZ g b i):eZ g' b i:=by
 cases b<;>simp only[eZ]at h ⊢
 case inRangeFunc=>obtain⟨aA,hb,rfl⟩:=h;exact⟨aA,hm.mm _ _ hb,rfl⟩
 case endRangeFunc=>obtain⟨aA,hb,rfl⟩:=h;exact⟨aA,hm.mm _ _ hb,rfl⟩
 all_goals exact h
def bT.mono (hm:eA g w g' w'){bs:List dI}:∀{is:List Item},bT g bs is->bT g' bs is:=by
 induction bs with
 |nil=>intro is h;exact h
 |cons b bs ih=>intro is h;simp only[bT]at h ⊢;obtain⟨i,ir,rfl,h1,h2⟩:=h;exact⟨i,ir,rfl,h1.mono hm,ih h2⟩
def sn.mono (hm:eA g w g' w'){b:RD}{m:FrameMode}(h:sn P g w b m):sn P g' w' b m:=by
 cases b<;>simp only[sn]at h ⊢
 all_goals exact h
def kI.mono (hm:eA g w g' w'){b r:Option Nat}(h:kI g b r):kI g' b r:=by
 cases b<;>simp only[kI]at h ⊢
 case some l=>obtain⟨aA,hb,rfl⟩:=h;exact⟨aA,hm.mm _ _ hb,rfl⟩
 all_goals exact h
def HV.mono {hp:af}{aN:Array Oper}{bW:List BV}{aF:List (Option BV)}{b:Option Nat}{i:Nat}{o:Oper}{v:BV}
 (hph:∀x,b=some x->g.m x=none->rC (h.get x)=false->g'.m x=none/\h'.get x=h.get x)(ho:HV P g h hp aN bW aF b i o v):HV P g' h' hp aN bW aF b i o v:=by
 rcases ho with h1| ⟨h1,h2| ⟨h2,h3,h4,k1,k2,k4,k5,k6⟩⟩
 ·exact .inl h1
 ·exact .inr ⟨h1,.inl h2⟩
 ·obtain⟨m1,m2⟩:=hph _ k1 k4 k6
  exact .inr ⟨h1,.inr ⟨h2,h3,h4,k1,k2,m1,m2.trans k5,by rw[m2];exact k6⟩⟩
def iw.mono (hm:eA g w g' w'){hp:af}{lb ub:Nat}(hph:rJ ub g h g' h'){ph:Nat->Option Nat}{d:Gg}{tmps:Array Value}{rest:List Nat}(hd:iw P g h w lb ub hp ph d tmps rest):
 iw P g' h' w' lb ub hp ph d tmps rest:=
 {hd with
  F3:=fun t v ht=>ai.mono hm _ _ (hd.F3 t v ht)
  yi:=fun i hi o v h1 h2 h3=>⟨(hd.yi i hi o v h1 h2 h3).1,(hd.yi i hi o v h1 h2 h3).2.mono fun x hx hx' hv'=>hph x (hd.OL i x hx).2 hx' hv'⟩}
def Ir.mono (hm:eA g w g' w'){hp:af}{lb ub:Nat}(hph:rJ ub g h g' h'){d:Gg}{tmps:Array Value}{rest:List Nat}(hd:Ir P g h w lb ub hp d tmps rest):
 Ir P g' h' w' lb ub hp d tmps rest:=by
 obtain⟨ph,hd⟩:=hd
 exact⟨ph,hd.mono hm hph⟩
def mo.mono (hm:eA g w g' w'){lb ub:Nat}(hph:rJ ub g h g' h'){b:aZ}{f:Frame}(hf:mo P g h w lb ub false b f):mo P g' h' w' lb ub false b f where
 fn:=hf.fn
 kind:=hf.kind
 jZ:=hf.jZ
 defers:=hf.defers.mono hm
 mode:=hf.mode.mono hm
 round:=hf.round.mono hm
 cx:=fun e=>ak.mono hm _ _ (hf.cx e)
 run:=fun e=>by
  have:=hf.run e
  unfold cQ at this ⊢
  split
  ·rename_i d k ht
   simp only[ht]at this
   obtain⟨h1,rest,k',h2,h3,hp,h4,h5,h6⟩:=this
   exact⟨h1,rest,k',h2,h3.mono hm,hp,(fun e=>by cases e),h5.mono hm hph,by simpa using h6⟩
  ·rename_i hno
   split at this
   ·rename_i d k ht;exact absurd ht (hno d k)
   ·exact⟨ak.mono hm _ _ this.1,this.2.mono hm⟩
def ly.mono (hm:eA g w g' w'){au:rG}{bs:List aZ}:∀{lb:Nat} {cs:List Frame},rJ lb g h g' h'->ly P g h w au lb bs cs->ly P g' h' w' au lb bs cs:=by
 induction bs with
 |nil=>intro lb cs hph h;exact au.mono hph h
 |cons b bs ih=>
  intro lb cs hph h
  simp only[ly]at h ⊢
  obtain⟨c,cr,lb',rfl,h1,h2,h3⟩:=h
  exact⟨c,cr,lb',rfl,h1,h2.mono hm hph,ih (hph.mono h1) h3⟩
def E6 {cx:List BV}{tmps:Array Value}(hv:ak P g w cx tmps.toList)(f:Frame)(hf:f.tmps=tmps)(x:Operand):ai P g w (uC cx x) (f.eval x):=by
 subst hf
 cases x with
 |tmp t=>
  simp only[uC,Frame.eval]
  cases hb:cx[t]? with
  |none=>
   have:f.tmps.toList[t]?=none:=by rw[afH];have:=hv.length;have:=aga.1 hb;omega
   simp only[List.getD,hb,ahz,afN]
   rw[<-afM,this]
   exact ai.undef
  |some b=>
   obtain⟨v,h1,h2⟩:=hv.get hb
   simp only[List.getD,hb,af1,afN]
   rw[<-afM,h1]
   exact h2
 |const v=>exact ai.ofv P g w v
 |global a=>simp[uC,ai]
 |func f'=>simp only[uC,Frame.eval,ai];exact⟨#[],#[],rfl,ak.nil,ak.nil⟩
def Xx {cx:List BV}{tmps:Array Value}(hv:ak P g w cx tmps.toList){b:BV}{v:Value}(hb:ai P g w b v)(d:Option Nat):
 ak P g w (uh cx d b) (match d with|some d=>tmps.setIfInBounds d v|none=>tmps).toList:=by
 cases d with
 |none=>exact hv
 |some d=>simpa [uh]using hv.set d hb
def Zj {id:Nat}:∀{bs:List dI} {is:List Item},bT g bs is->
 (∀k,qy id bs=some k->∃k',exitTo id is=some k'/\bT g k k')/\(qy id bs=none->exitTo id is=none):=by
 intro bs
 induction bs with
 |nil=>intro is h;simp only[bT]at h;subst h;exact⟨fun k hk=>by simp[qy]at hk,fun _=>rfl⟩
 |cons b bs ih=>
  intro is h
  simp only[bT]at h
  obtain⟨i,ir,rfl,h1,h2⟩:=h
  have:=ih h2
  cases b<;>simp only[eZ]at h1
  case inBlock id'=>
   subst h1
   simp only[qy,exitTo]
   by_cases hc:(id'==id)=true
   ·rw[aeZ hc,aeZ hc];exact⟨fun k hk=>by cases hk;exact⟨ir,rfl,h2⟩,fun hk=>by cases hk⟩
   ·rw[aeX hc,aeX hc];exact this
  case inRangeFunc l=>obtain⟨aA,_,rfl⟩:=h1;simpa only[qy,exitTo]using this
  case endRangeFunc l=>obtain⟨aA,_,rfl⟩:=h1;simpa only[qy,exitTo]using this
  all_goals (subst h1;simpa only[qy,exitTo]using this)
def Zw {l:Nat}:∀{bs:List dI} {is:List Item},bT g bs is->
 (∀k,qH l bs=some k->∃k',gotoIn l is=some k'/\bT g k k')/\(qH l bs=none->gotoIn l is=none):=by
 intro bs
 induction bs with
 |nil=>intro is h;simp only[bT]at h;subst h;exact⟨fun k hk=>by simp[qH]at hk,fun _=>rfl⟩
 |cons b bs ih=>
  intro is h
  simp only[bT]at h
  obtain⟨i,ir,rfl,h1,h2⟩:=h
  have:=ih h2
  cases b<;>simp only[eZ]at h1
  case inScope body=>
   subst h1
   simp only[qH,gotoIn]
   cases hf:findLabel body l with
   |none=>exact this
   |some rest=>exact⟨fun k hk=>by cases hk;exact⟨_,rfl,_,_,rfl,rfl,_,_,rfl,rfl,h2⟩,fun hk=>by cases hk⟩
  case inRangeFunc l=>obtain⟨aA,_,rfl⟩:=h1;simpa only[qH,gotoIn]using this
  case endRangeFunc l=>obtain⟨aA,_,rfl⟩:=h1;simpa only[qH,gotoIn]using this
  all_goals (subst h1;simpa only[qH,gotoIn]using this)
end
end
section
section
variable {P:Program} {w w':World} {cs cs':List Frame} {fn:FuncId} {tmps:Array Value} {ds:List Deferred} {kd:CallKind} {ro:Option Nat} {k:List Item}
abbrev rf (fn:FuncId)(tmps:Array Value)(todo:List Item)(ds:List Deferred)(kd:CallKind)(ro:Option Nat):Frame:=
 {fn:=fn,tmps:=tmps,todo:=todo,defers:=ds,mode:= .run,kind:=kd,roundOf:=ro}
def abo:step P (lone (rf fn tmps (.code .skip::k) ds kd ro) cs w)= .next (lone (rf fn tmps k ds kd ro) cs w):=step_lone_go (by simp[stepG,stepG.exec])
def YI {l:Nat}:step P (lone (rf fn tmps (.code (.label l)::k) ds kd ro) cs w)= .next (lone (rf fn tmps k ds kd ro) cs w):=step_lone_go (by simp[stepG,stepG.exec])
def SP {l:Nat}:step P (lone (rf fn tmps (.inBlock l::k) ds kd ro) cs w)= .next (lone (rf fn tmps k ds kd ro) cs w):=step_lone_go (by simp[stepG,stepG.exec])
def SQ {c:Code}:step P (lone (rf fn tmps (.inScope c::k) ds kd ro) cs w)= .next (lone (rf fn tmps k ds kd ro) cs w):=step_lone_go (by simp[stepG,stepG.exec])
def ac9 {a b:Code}:step P (lone (rf fn tmps (.code (.seq a b)::k) ds kd ro) cs w)= .next (lone (rf fn tmps (.code a:: .code b::k) ds kd ro) cs w):=step_lone_go (by simp[stepG,stepG.exec])
def YF {l:Nat}{c:Code}:step P (lone (rf fn tmps (.code (.block l c)::k) ds kd ro) cs w)= .next (lone (rf fn tmps (.code c:: .inBlock l::k) ds kd ro) cs w):=step_lone_go (by simp[stepG,stepG.exec])
def abn {c:Code}:step P (lone (rf fn tmps (.code (.loop c)::k) ds kd ro) cs w)= .next (lone (rf fn tmps (.code c:: .inLoop c::k) ds kd ro) cs w):=step_lone_go (by simp[stepG,stepG.exec])
def Vk {c:Code}:step P (lone (rf fn tmps (.inLoop c::k) ds kd ro) cs w)= .next (lone (rf fn tmps (.code c:: .inLoop c::k) ds kd ro) cs w):=step_lone_go (by simp[stepG,stepG.exec])
def YK {c:Code}:step P (lone (rf fn tmps (.code (.scope c)::k) ds kd ro) cs w)= .next (lone (rf fn tmps (.code c:: .inScope c::k) ds kd ro) cs w):=step_lone_go (by simp[stepG,stepG.exec])
def abj {x:Operand}{a b:Code}{t:Bool}(h:(rf fn tmps (.code (.cond x a b)::k) ds kd ro).eval x= .bool t):
 step P (lone (rf fn tmps (.code (.cond x a b)::k) ds kd ro) cs w)= .next (lone (rf fn tmps (.code (if t then a else b)::k) ds kd ro) cs w):=step_lone_go (by simp[stepG,stepG.exec,h])
def abl {id:Nat}{k':List Item}(h:exitTo id k=some k'):step P (lone (rf fn tmps (.code (.exit id)::k) ds kd ro) cs w)= .next (lone (rf fn tmps k' ds kd ro) cs w):=step_lone_go (by simp[stepG,stepG.exec,h])
def abm {l:Nat}{k':List Item}(h:gotoIn l k=some k'):step P (lone (rf fn tmps (.code (.goto l)::k) ds kd ro) cs w)= .next (lone (rf fn tmps k' ds kd ro) cs w):=step_lone_go (by simp[stepG,stepG.exec,h])
def Vl {id:Nat}{aN:Array Oper}:step P (lone (rf fn tmps (.code (.region id aN false)::k) ds kd ro) cs w)= .next (lone (rf fn tmps (.inRegion aN (List.range aN.size)::k) ds kd ro) cs w):=step_lone_go (by simp[stepG,stepG.exec])
def abk {id:Nat}{aN:Array Oper}(hm:P.follows .mixedOrders=true):∃t,step P (lone (rf fn tmps (.code (.region id aN true)::k) ds kd ro) cs w)=
 .next (lone (rf fn tmps (.inRegion aN (Region.linearise .any aN t)::k) ds kd ro) cs {w with drawn:=w.drawn+1}):=
 ⟨w.tape w.drawn (.order fn id),step_lone_go (by simp[stepG,stepG.exec,choose,Sem.run,Question.forced,Question.cut,Region.schedule,hm])⟩
def Hb {aN:Array Oper}:step P (lone (rf fn tmps (.inRegion aN []::k) ds kd ro) cs w)= .next (lone (rf fn tmps k ds kd ro) cs w):=step_lone_go (by simp[stepG,stepG.exec])
def I1 {aN:Array Oper}{i:Nat}{r:List Nat}(h:((aN[i]?).map (Region.wanted · (yielded aN tmps))).getD false=false):
 step P (lone (rf fn tmps (.inRegion aN (i::r)::k) ds kd ro) cs w)= .next (lone ((rf fn tmps (.inRegion aN (i::r)::k) ds kd ro).finish undef) cs w):=step_lone_go (by
 have h':=h
 simp[stepG,stepG.exec,h'])
def LD {aN:Array Oper}{i:Nat}{r:List Nat}{o:Oper}(ho:aN[i]?=some o)(hw:Region.wanted o (yielded aN tmps)=true)(hd:ro=none\/∀c,o.op≠ .defer c):
 stepG P true {frame:=rf fn tmps (.inRegion aN (i::r)::k) ds kd ro,callers:=cs,status:= .running,dying:=none} w=
  stepG.apply P true (rf fn tmps (.inRegion aN (i::r)::k) ds kd ro) cs none (execOp (rf fn tmps (.inRegion aN (i::r)::k) ds kd ro).eval o) w:=by
 simp only[stepG,stepG.exec,ho,afb,hw,af1,afq]
 simp only[stepG.oper,Frame.oper?,ho]
 rcases hd with rfl|hd
 ·rfl
 ·cases ro with
  |none=>rfl
  |some l=>
   obtain⟨dst,op,ty,pos,after,guard⟩:=o
   cases op<;>first
    |rfl
    | (exact absurd rfl (hd _))
def LF {f:Frame}{s:Sem Next}{v:Value}(hr:s.run P w= .ok (.value v) w'):(stepG.apply P true f cs none s w).bare= .go {frame:=f.finish v,callers:=cs,status:= .running,dying:=none} w':=by
 simp[stepG.apply,Sem.runT_eq,hr]
def PI {f:Frame}{s:Sem Next}(hr:s.run P w= .ok .skip w'):(stepG.apply P true f cs none s w).bare= .go {frame:=f.finish undef,callers:=cs,status:= .running,dying:=none} w':=by
 simp[stepG.apply,Sem.runT_eq,hr]
def YG {f:Frame}{s:Sem Next}{d:Deferred}(hr:s.run P w= .ok (.defer d) w'):(stepG.apply P true f cs none s w).bare= .go {frame:=({f with defers:=d::f.defers}:Frame).finish undef,callers:=cs,status:= .running,dying:=none} w':=by
 simp[stepG.apply,Sem.runT_eq,hr]
def YH {f:Frame}{s:Sem Next}{g:FuncId}{args:Array Value}(hr:s.run P w= .ok (.enter g args) w')(hk:∀d r sv rest b,f.todo≠ .call d b r sv::rest):
 (stepG.apply P true f cs none s w).bare= .go {frame:=Frame.enter P g args .normal,callers:=f::cs,status:= .running,dying:=none} w':=by
 simp only[stepG.apply,Sem.runT_eq,hr,afq,GStep.bare_after]
 simp only[GStep.bare]
 congr 2
 split
 ·rename_i ht;exact absurd ht (hk _ _ _ _ _)
 ·rfl
def YJ {f:Frame}{s:Sem Next}{l:Nat}{g:FuncId}{ts:Array Value}{a b:Code}(hr:s.run P w= .ok (.round l g ts a b) w'):
 (stepG.apply P true f cs none s w).bare= .go {frame:=Frame.round l g ts a b .normal,callers:=f::cs,status:= .running,dying:=none} w':=by
 simp[stepG.apply,Sem.runT_eq,hr]
def SR {f:Frame}{s:Sem Next}(hro:f.roundOf=none)(hr:s.run P w= .ok .recover w'):
 (stepG.apply P true f cs none s w).bare=(match tryRecover f cs with
   |some (v,cs')=> .go {frame:=f.finish v,callers:=cs',status:= .running,dying:=none} w'
   |none=> .go {frame:=f.finish .nilIface,callers:=cs,status:= .running,dying:=none} w'):=by
 simp only[stepG.apply,Sem.runT_eq,hr,afq,GStep.bare_after,hro]
 cases tryRecover f cs with
 |none=>rfl
 |some x=>rfl
end
end
def QA {l:Array Bool}{i:Nat}(hi:l[i]?=some false):∃(m:Nat),l[m]?=some false/\∀(j:Nat),j<m->l[j]?=some true:=by
 induction i using Nat.strongRecOn with
 |_ i ih=>
  by_cases hall:∀(j:Nat),j<i->l[j]?=some true
  ·exact⟨i,hi,hall⟩
  ·have:∃(j:Nat),j<i/\l[j]?≠some true:=by
    apply afV
    intro hn
    exact hall fun j hj=>afV fun hne=>hn ⟨j,hj,hne⟩
   obtain⟨j,hj,hne⟩:=this
   have hlt:j<l.size:=by
    have:=(aff.1 hi).1;omega
   refine ih j hj ?_
   rw[afs hlt]at hne ⊢
   cases hb:l[j]with
   |true=>rw[hb]at hne;exact absurd rfl hne
   |false=>rfl
def V4 (acc:List Nat):∀(es:List Edge) (s k:Nat),(es.foldl (fun s e=>if Region.binds .any e then s ||| 2^e.on ||| acc.getD e.on 0 else s) s).testBit k=true->
 s.testBit k=true\/∃e∈es,Region.binds .any e=true/\(k=e.on\/(acc.getD e.on 0).testBit k=true):=by
 intro es
 induction es with
 |nil=>intro s k h;exact .inl h
 |cons e es ih=>
  intro s k h
  simp only[agm]at h
  rcases ih _ k h with h1| ⟨e',h1,h2,h3⟩
  ·by_cases hb:Region.binds .any e=true
   ·rw[aeZ hb]at h1
    rw[ag5,ag5,agd,agd]at h1
    rcases h1 with (h1|h1)|h1
    ·exact .inl h1
    ·rw[Nat.testBit_two_pow]at h1
     have h2:e.on=k:=by simpa using h1
     exact .inr ⟨e,by simp,hb,.inl h2.symm⟩
    ·exact .inr ⟨e,by simp,hb,.inr h1⟩
   ·rw[aeX hb]at h1;exact .inl h1
  ·exact .inr ⟨e',by simp[h1],h2,h3⟩
def EJ:∀(l:List Oper) (acc:List Nat),(gy l acc).take acc.length=acc/\
 ∀(j:Nat) (o:Oper),l[j]?=some o->∀k,((gy l acc).getD (acc.length+j) 0).testBit k=true->
  ∃e∈o.after.toList,Region.binds .any e=true/\(k=e.on\/(((gy l acc).take (acc.length+j)).getD e.on 0).testBit k=true):=by
 intro l
 induction l with
 |nil=>intro acc;exact⟨by simp[gy],fun j o h=>by simp at h⟩
 |cons x l ih=>
  intro acc
  simp only[gy]
  generalize hx:(x.after.toList.foldl (fun s e=>if Region.binds .any e then s ||| 2^e.on ||| acc.getD e.on 0 else s) 0)=b
  obtain⟨h1,h2⟩:=ih (acc++[b])
  have hacc:(gy l (acc++[b])).take acc.length=acc:=by
   have:=afg (List.take acc.length) h1
   simpa [ain]using this
  have hb:(gy l (acc++[b])).getD acc.length 0=b:=by
   have:=afg (fun l=>l.getD acc.length 0) h1
   simp only[List.getD,afA,ae4,ae9,afX]at this
   rw[aeZ (by omega)]at this
   simpa [List.getD]using this
  refine⟨hacc,fun j o hj k hk=>?_⟩
  cases j with
  |zero=>
   simp at hj;subst hj
   simp only[af6]at hk ⊢
   rw[hb,<-hx]at hk
   rw[hacc]
   rcases V4 acc _ _ _ hk with h0|h0
   ·simp at h0
   ·exact h0
  |succ j=>
   simp at hj
   have:=h2 j o hj k (by simpa [agj,agR 1 j]using hk)
   simpa [agj,agR 1 j]using this
def Gq {aN:Array Oper}{i k:Nat}(h:dk (aP aN) i k=true):∃o,aN[i]?=some o/\∃e∈o.after.toList,Region.binds .any e=true/\(k=e.on\/(e.on<i/\dk (aP aN) e.on k=true)):=by
 unfold dk aP at*
 cases ho:aN.toList[i]? with
 |none=>
  exfalso
  have hlen:∀(l:List Oper) (acc:List Nat),(gy l acc).length=acc.length+l.length:=by
   intro l
   induction l with
   |nil=>intro acc;simp[gy]
   |cons x l ih=>intro acc;simp only[gy,ih];simp;omega
  have:(gy aN.toList []).getD i 0=0:=by
   rw[aga]at ho
   simp only[List.getD]
   rw[afH (by rw[hlen];simpa using ho)]
   rfl
  rw[this]at h;simp at h
 |some o=>
  obtain⟨e,h1,h2,h3⟩:=(EJ aN.toList []).2 i o ho k (by simpa using h)
  refine⟨o,by simpa using ho,e,h1,h2,?_⟩
  rcases h3 with h3|h3
  ·exact .inl h3
  ·right
   simp only[afX,afT,List.getD,afA]at h3
   split at h3
   ·rename_i hlt;exact⟨hlt,by simpa [List.getD]using h3⟩
   ·simp at h3
def Is {aN:Array Oper}(hlow:∀i o,aN[i]?=some o->∀e∈o.after.toList,Region.binds .any e=true->e.on<i):∀(i k:Nat),dk (aP aN) i k=true->k<i:=by
 intro i
 induction i using Nat.strongRecOn with
 |_ i ih=>
  intro k h
  obtain⟨o,ho,e,he,hb,hk⟩:=Gq h
  have:=hlow i o ho e he hb
  rcases hk with rfl| ⟨h1,h2⟩
  ·exact this
  ·have:=ih e.on h1 k h2;omega
def NV {aN:Array Oper}(hlow:∀i o,aN[i]?=some o->∀e∈o.after.toList,Region.binds .any e=true->e.on<i):
 ∀(fuel t:Nat) (listed:Array Bool),listed.size=aN.size->(∀i,listed[i]?=some true->∀k,dk (aP aN) i k=true->listed[k]?=some true)->
  let S:=Region.linearise.go .any aN fuel t listed []
  S.Nodup/\(∀i∈S,listed[i]?=some false)/\ED (aP aN) S/\((listed.toList.filter (!·)).length<=fuel->∀i,listed[i]?=some false->i∈S):=by
 intro fuel
 induction fuel with
 |zero=>
  intro t listed hsz hcl
  simp only[Region.linearise.go]
  refine⟨by simp,by simp,by simp[ED],fun hle i hi=>?_⟩
  exfalso
  have:false∈listed.toList.filter (!·):=by
   rw[ah5];exact⟨by rw[<-afM]at hi;exact aeU hi,rfl⟩
  have:=aho this
  omega
 |succ fuel ih=>
  intro t listed hsz hcl
  simp only[Region.linearise.go]
  generalize hrs:(List.range aN.size).filter (fun i=>!listed.getD i true&&((aN[i]?).map (·.after.all fun e=>!Region.binds .any e||listed.getD e.on false)).getD false)=rs
  have hmem:∀i,i∈rs↔(i<aN.size/\listed[i]?=some false/\∃o,aN[i]?=some o/\∀e∈o.after.toList,Region.binds .any e=true->listed[e.on]?=some true):=by
   intro i
   rw[<-hrs,ah5,ahK,aeV]
   constructor
   ·rintro⟨h1,h2,h3⟩
    refine⟨h1,?_,?_⟩
    ·simp only[afN,afu]at h2
     cases hl:listed[i]? with
     |none=>simp[hl]at h2
     |some b=>simp[hl]at h2;rw[h2]
    ·cases ho:aN[i]? with
     |none=>simp[ho]at h3
     |some o=>
      simp only[ho,afb,af1]at h3
      refine⟨o,rfl,fun e he hb=>?_⟩
      have:=agD.1 h3 e (by simpa using he)
      simp only[hb,agI,agU,afN]at this
      cases hl:listed[e.on]? with
      |none=>simp[hl]at this
      |some b=>simp[hl]at this;rw[this]
   ·rintro⟨h1,h2,o,h3,h4⟩
    refine⟨h1,by simp[afN,h2],?_⟩
    simp only[h3,afb,af1]
    rw[agD]
    intro e he
    by_cases hb:Region.binds .any e=true
    ·simp[hb,afN,h4 e (by simpa using he) hb]
    ·simp[hb]
  cases hr:rs[t % rs.length]? with
  |none=>
   simp only[List.reverse_nil]
   refine⟨by simp,by simp,by simp[ED],fun _ i hi=>?_⟩
   exfalso
   have hne:rs≠[]:=by
    obtain⟨m,hmin,hleast⟩:=QA hi
    have hlt:m<aN.size:=by
     have:=(aff.1 hmin).1;omega
    have:m∈rs:=(hmem _).2 ⟨hlt,hmin,_,afs hlt,fun e he hb=>hleast _ (hlow _ _ (afs hlt) e he hb)⟩
    intro h0;rw[h0]at this;simp at this
   have:t % rs.length<rs.length:=ahy _ (ahF.2 hne)
   rw[aga]at hr
   omega
  |some i=>
   dsimp only
   rw[linearise_go_acc]
   simp only[List.reverse_cons,List.reverse_nil,agv,aie]
   have hi:=(hmem i).1 (aeU hr)
   obtain⟨hlt,hfalse,o,ho,hedges⟩:=hi
   have hahead:∀k,dk (aP aN) i k=true->listed[k]?=some true:=by
    intro k hk
    obtain⟨o',ho',e,he,hb,hc⟩:=Gq hk
    rw[ho]at ho';cases ho'
    have h1:=hedges e he hb
    rcases hc with rfl| ⟨_,h2⟩
    ·exact h1
    ·exact hcl _ h1 _ h2
   have hltl:i<listed.size:=by omega
   have hset:∀k,(listed.setIfInBounds i true)[k]?=if k=i then some true else listed[k]?:=fun k=>by
    by_cases hk:k=i
    ·subst hk;rw[aeZ rfl,afi hltl]
    ·rw[aeX hk,afx (by omega)]
   obtain⟨n1,n2,n3,n4⟩:=ih (t/rs.length) (listed.setIfInBounds i true) (by simpa using hsz) (by
    intro j hj k hk
    rw[hset]at hj ⊢
    by_cases hki:k=i
    ·rw[aeZ hki]
    ·rw[aeX hki]
     by_cases hji:j=i
     ·subst hji;exact hahead k hk
     ·rw[aeX hji]at hj;exact hcl j hj k hk)
   have hnot:i∉Region.linearise.go .any aN fuel (t/rs.length) (listed.setIfInBounds i true) []:=fun hm=>by
    have:=n2 i hm;rw[hset,aeZ rfl]at this;cases this
   refine⟨afD.2 ⟨hnot,n1⟩,?_,?_,?_⟩
   ·intro j hj
    rcases ae5.1 hj with rfl|hj
    ·exact hfalse
    ·have:=n2 j hj
     rw[hset]at this
     by_cases hji:j=i
     ·rw[aeZ hji]at this;cases this
     ·rwa [aeX hji]at this
   ·refine⟨fun k hk=>?_,n3⟩
    cases ht:dk (aP aN) i k with
    |false=>rfl
    |true=>
     exfalso
     have h1:=hahead k ht
     rcases ae5.1 hk with rfl|hk
     ·rw[hfalse]at h1;cases h1
     ·have:=n2 k hk
      rw[hset]at this
      by_cases hki:k=i
      ·rw[aeZ hki]at this;cases this
      ·rw[aeX hki,h1]at this;cases this
   ·intro hle j hj
    by_cases hji:j=i
    ·subst hji;simp
    ·refine afn _ (n4 ?_ j (by rw[hset,aeX hji];exact hj))
     have hcount:∀(l:List Bool) (i:Nat),l[i]?=some false->((l.set i true).filter (!·)).length+1=(l.filter (!·)).length:=by
      intro l
      induction l with
      |nil=>intro i h;simp at h
      |cons b l ihl=>
       intro i h
       cases i with
       |zero=>simp at h;subst h;simp
       |succ i=>
        simp at h
        have:=ihl i h
        cases b<;>simp[List.set]<;>omega
     have:=hcount listed.toList i (by simpa using hfalse)
     rw[Array.toList_setIfInBounds]
     omega
def NI (acc:List Nat):∀(es:List Edge) (s k:Nat),(s.testBit k=true\/∃e∈es,Region.binds .any e=true/\(k=e.on\/(acc.getD e.on 0).testBit k=true))->
 (es.foldl (fun s e=>if Region.binds .any e then s ||| 2^e.on ||| acc.getD e.on 0 else s) s).testBit k=true:=by
 intro es
 induction es with
 |nil=>intro s k h;rcases h with h| ⟨e,he,_⟩;· exact h
       ·simp at he
 |cons e es ih=>
  intro s k h
  simp only[agm]
  apply ih
  rcases h with h| ⟨e',he,hb,hc⟩
  ·left
   by_cases hb:Region.binds .any e=true
   ·rw[aeZ hb,ag5,ag5,h];rfl
   ·rw[aeX hb];exact h
  ·rcases ae5.1 he with rfl|he
   ·left
    rw[aeZ hb,ag5,ag5]
    rcases hc with rfl|hc
    ·rw[Nat.testBit_two_pow_self];simp
    ·rw[hc];simp
   ·exact .inr ⟨e',he,hb,hc⟩
def PJ:∀(l:List Oper) (acc:List Nat) (j:Nat) (o:Oper),l[j]?=some o->
 (gy l acc).getD (acc.length+j) 0=o.after.toList.foldl (fun s e=>if Region.binds .any e then s ||| 2^e.on ||| ((gy l acc).take (acc.length+j)).getD e.on 0 else s) 0:=by
 intro l
 induction l with
 |nil=>intro acc j o h;simp at h
 |cons x l ih=>
  intro acc j o hj
  cases j with
  |zero=>
   simp at hj;subst hj
   simp only[gy,af6]
   generalize hx:(x.after.toList.foldl (fun s e=>if Region.binds .any e then s ||| 2^e.on ||| acc.getD e.on 0 else s) 0)=b
   have h1:=(EJ l (acc++[b])).1
   have hacc:(gy l (acc++[b])).take acc.length=acc:=by
    have:=afg (List.take acc.length) h1
    simpa [ain]using this
   have hb:(gy l (acc++[b])).getD acc.length 0=b:=by
    have:=afg (fun l=>l.getD acc.length 0) h1
    simp only[List.getD,afA,ae4,ae9,afX]at this
    rw[aeZ (by omega)]at this
    simpa [List.getD]using this
   rw[hb,hacc,hx]
  |succ j=>
   simp at hj
   simp only[gy]
   have:=ih (acc++[(x.after.toList.foldl (fun s e=>if Region.binds .any e then s ||| 2^e.on ||| acc.getD e.on 0 else s) 0)]) j o hj
   simpa [agj,agR 1 j]using this
def RU {aN:Array Oper}{i k:Nat}{o:Oper}{e:Edge}(ho:aN[i]?=some o)(he:e∈o.after.toList)(hb:Region.binds .any e=true)
 (hk:k=e.on\/(e.on<i/\dk (aP aN) e.on k=true)):dk (aP aN) i k=true:=by
 unfold dk aP at*
 have:=PJ aN.toList [] i o (by simpa using ho)
 simp only[afX,afT]at this
 rw[this]
 refine NI _ _ _ _ (.inr ⟨e,he,hb,?_⟩)
 rcases hk with hk| ⟨h1,h2⟩
 ·exact .inl hk
 ·right
  simp only[List.getD,afA,aeZ h1]
  simpa [List.getD]using h2
def PO {aN:Array Oper}(hlow:∀(i:Nat) o,aN[i]?=some o->∀e∈o.after.toList,Region.binds .any e=true->e.on<i):∀(i k j:Nat),dk (aP aN) i k=true->dk (aP aN) k j=true->dk (aP aN) i j=true:=by
 intro i
 induction i using Nat.strongRecOn with
 |_ i ih=>
  intro k j h1 h2
  obtain⟨o,ho,e,he,hb,hc⟩:=Gq h1
  rcases hc with rfl| ⟨hlt,hc⟩
  ·exact RU ho he hb (.inr ⟨hlow i o ho e he hb,h2⟩)
  ·exact RU ho he hb (.inr ⟨hlt,ih _ hlt _ _ hc h2⟩)
def MH {bits:List Nat}:∀{l:List Nat},IJ bits l=true->l.Pairwise fun a b=>dk bits b a=true:=by
 intro l
 induction l with
 |nil=>intro _;exact List.Pairwise.nil
 |cons a l ih=>
  intro h
  simp only[IJ,aeV,afK]at h
  exact agp.2 ⟨fun b hb=>h.1 b hb,ih h.2⟩
structure aev (aN:Array Oper)(i:Nat)(o:Oper):Prop where
 low:∀e∈o.after.toList,Region.binds .any e=true->e.on<i
 dst:∀t,o.dst=some t->eR aN t=some i
 Fp:∀t,t∈II o->∀k,eR aN t=some k->dk (aP aN) i k=true\/dk (aP aN) k i=true\/k=i
 guard:∀j b,o.guard=some (j,b)->dk (aP aN) i j=true
def mD {aN:Array Oper}(h:Gv aN=true):(∀(i:Nat) o,aN[i]?=some o->aev aN i o)/\(qq aN).Pairwise fun a b=>dk (aP aN) b a=true:=by
 unfold Gv at h
 simp only[aeV]at h
 obtain⟨h1,h2⟩:=h
 constructor
 ·intro i o ho
  have hlt:i<aN.toList.length:=by have:=(aff.1 ho).1;simpa using this
  rw[afK]at h1
  have:=h1 i (ahK.2 hlt)
  have hol:aN.toList[i]?=some o:=by simpa using ho
  rw[hol]at this
  simp only[aeV,afK]at this
  obtain⟨⟨⟨a,b⟩,c⟩,d⟩:=this
  refine⟨fun e he hb=>?_,fun t ht=>?_,fun t ht k hk=>?_,fun j b' hg=>?_⟩
  ·have:=a e he;simpa [hb]using this
  ·rw[ht]at b;simpa using b
  ·have:=c t ht
   rw[hk]at this
   simp only[agd,afv]at this
   rcases this with (h|h)|h
   ·exact .inl h
   ·exact .inr (.inl h)
   ·exact .inr (.inr h)
  ·rw[hg]at d;exact d
 ·have:=MH h2
  unfold qq
  simpa using this
section
def Ye (h h':af):Prop:=∀b o,h.get b=some o->h'.get b=some o
section
variable {P:Program} {h h':af}
def Zk (hl:Ye h h'){b f:Nat}{k:D}{x:TypeId×List (D×D)×TypeId×List Nat×Nat}(e:Gy P h b f k=some x):Gy P h' b f k=some x:=by
 unfold Gy at e ⊢
 split at e
 ·rename_i hb;rw[hl _ _ hb];exact e
 ·cases e
def NY (hl:Ye h h'){ag:Bool}{n b f:Nat}{k:D}{off:Nat}{v:BV}(e:Fl P h ag n b f k off=some v):Fl P h' ag n b f k off=some v:=by
 unfold Fl at e ⊢
 cases hf:Gy P h b f k with
 |none=>rw[hf]at e;cases e
 |some x=>rw[Zk hl hf];rw[hf]at e;exact e
def Wk (hl:Ye h h'){t:TypeId}{a v:BV}(e:wJ P h t a=some v):wJ P h' t a=some v:=by
 unfold wJ at e ⊢
 split at e
 ·rename_i ag n h1 h2
  try simp only[h1,h2]
  split at e
  ·rename_i b off
   split at e
   ·rename_i hb
    simp only[hl _ _ hb];exact e
   ·rename_i hb
    simp only[hl _ _ hb];exact NY hl e
   ·cases e
  ·exact NY hl e
  ·exact e
  ·split at e
   ·rename_i hb
    simp only[hl _ _ hb];exact e
   ·cases e
  ·cases e
 ·cases e
def QC (hl:Ye h h'){t:TypeId}{x k:BV}{ok:Bool}{v:BV}(e:vA P h t x k ok=some v):vA P h' t x k ok=some v:=by
 unfold vA at e ⊢
 split at e
 ·rename_i kt et hu
  try simp only[hu]
  split at e
  ·cases e
  ·rename_i hk
   rw[aeX hk]
   cases x<;>try (simp at e;done)
   case map r=>
    dsimp only at e ⊢
    cases hb:h.get r with
    |none=>simp[hb]at e
    |some o=>
     rw[hl _ _ hb]
     rw[hb]at e
     exact e
 ·cases e
def Tc (hl:Ye h h'){it v:BV}(e:yc P h it=some v):yc P h' it=some v:=by
 unfold yc at e ⊢
 split at e
 ·rename_i r
  split at e
  ·rename_i hb
   try simp only[hl _ _ hb]
   split at e
   ·rename_i h1 h2
    simp only[h1,hl _ _ h2];exact e
   ·cases e
  ·cases e
 ·cases e
def ZE (hl:Ye h h'){ts:Array TypeId}{args:List BV}{v:BV}(e:QB P h ts args=some v):QB P h' ts args=some v:=by
 unfold QB at e ⊢
 split at e
 ·rename_i t x ht
  try simp only[ht]
  split at e
  case h_8=>
   rename_i hu
   try simp only[hu]
   split at e
   ·rename_i hb;simp only[hl _ _ hb];exact e
   ·cases e
  all_goals first|exact e|cases e
 ·cases e
def aaA (hl:Ye h h'){e:TypeId}{x:BV}{l:List D}(hs:Il h e x=some l):Il h' e x=some l:=by
 unfold Il at hs ⊢
 split at hs
 case h_5=>
  split at hs
  ·rename_i hb;simp only[hl _ _ hb];exact hs
  ·cases hs
 all_goals first|exact hs|cases hs
def Nt (hl:Ye h h'){s d:TypeId}{x v:BV}(e:qp P h s d x=some v):qp P h' s d x=some v:=by
 unfold qp at e ⊢
 split at e
 case h_3=>
  split at e
  ·rename_i hs hd _ hc
   obtain⟨l,h1,rfl⟩:=afz.1 e
   simp only[hs,hd,hc,afq,aaA hl h1,afb]
  ·cases e
 all_goals first|exact e|cases e
def QK (hl:Ye h h'){ρ:Operand->BV}{o:Oper}{v:BV}{h1:af}(he:jX o=false)(ha:kh o=false)(e:Dk P h ρ o=some (.value v,h1)):h1=h/\Dk P h' ρ o=some (.value v,h'):=by
 obtain⟨dst,op,ty,pos,after,guard⟩:=o
 have hv:∀{r r':Option BV},(∀v,r=some v->r'=some v)->(r.map fun x=>(bc.value x,h))=some (.value v,h1)->h1=h/\(r'.map fun x=>(bc.value x,h'))=some (.value v,h'):=by
  intro r r' hr e
  cases r with
  |none=>cases e
  |some x=>simp at e;obtain⟨rfl,rfl⟩:=e;exact⟨rfl,by rw[hr _ rfl];rfl⟩
 have hs:∀{u:BV},some (bc.value u,h)=some (bc.value v,h1)->h1=h/\some (bc.value u,h')=some (bc.value v,h'):=by
  intro u e;cases e;exact⟨rfl,rfl⟩
 cases op<;>simp only[Dk,jX,kh,ae6,ae0,reduceCtorEq]at e he ha ⊢
 case move=>exact hs e
 case assign=>exact hs e
 case pick=>split at e;· exact hs e
            ·cases e
 case build=>exact hv (fun v e=>e) e
 case load=>exact hv (fun v e=>Wk hl e) e
 case nilCheck=>split at e
                case h_5=>split at e<;>first|cases e;done|exact hs e
                all_goals first|cases e;done|exact hs e
 case binOp=>split at e
             ·rename_i hg;rw[aeZ hg];exact hv (fun v e=>e) e
             ·cases e
 case unOp=>exact hv (fun v e=>e) e
 case convert=>exact hv (fun v e=>Nt hl e) e
 case makeFunc=>split at e<;>first|cases e;done|exact hs e
 case slice=>exact hv (fun v e=>e) e
 case fieldAddr=>exact hv (fun v e=>e) e
 case field=>exact hv (fun v e=>e) e
 case indexAddr=>exact hv (fun v e=>e) e
 case index=>exact hv (fun v e=>e) e
 case lookup=>exact hv (fun v e=>QC hl e) e
 case entry=>exact hv (fun v e=>Tc hl e) e
 case extract=>split at e
               ·exact hv (fun v e=>e) e
               ·cases e
 case call c=>
  split at he
  case h_4=>cases he
  all_goals
   rename_i hc
   simp only[tP,hc,af9,xE,Bl]at e ⊢
  ·exact hv (fun v e=>ZE hl e) e
  ·split at e
   ·cases e
   ·exact hv (fun v e=>e) e
  ·split at e
   ·cases e
   ·exact hv (fun v e=>e) e
def WZ {ρ:Operand->BV}{o:Oper}{v:BV}{h1:af}(he:jX o=false)(ha:kh o=false)(hlo:GJ o=false)(e:Dk P h ρ o=some (.value v,h1))(h':af):Dk P h' ρ o=some (.value v,h'):=by
 obtain⟨dst,op,ty,pos,after,guard⟩:=o
 have hv:∀{r:Option BV},(r.map fun x=>(bc.value x,h))=some (.value v,h1)->(r.map fun x=>(bc.value x,h'))=some (.value v,h'):=by
  intro r e
  cases r with
  |none=>cases e
  |some x=>simp at e;obtain⟨rfl,rfl⟩:=e;rfl
 have hs:∀{u:BV},some (bc.value u,h)=some (bc.value v,h1)->some (bc.value u,h')=some (bc.value v,h'):=by
  intro u e;cases e;rfl
 cases op<;>simp only[Dk,jX,kh,GJ,ae6,ae0,reduceCtorEq]at e he ha hlo ⊢
 case pick=>split at e;· exact hs e
            ·cases e
 case nilCheck=>split at e
                case h_5=>split at e<;>first|cases e;done|exact hs e
                all_goals first|cases e;done|exact hs e
 case makeFunc=>split at e<;>first|cases e;done|exact hs e
 case extract=>split at e
               ·exact hv e
               ·cases e
 case move=>exact hs e
 case assign=>exact hs e
 all_goals exact hv e
end
end
section
def C2 (tmps:Array Value)(dst:Option Nat)(v:Value):Array Value:=
 match dst with|some d=>tmps.setIfInBounds d v|none=>tmps
def KM {t:Nat}:∀(l:List Oper) (k j:Nat),B8 t l k=some j->∃i o,j=k+i/\l[i]?=some o/\o.dst=some t:=by
 intro l
 induction l with
 |nil=>intro k j h;simp[B8]at h
 |cons x l ih=>
  intro k j h
  simp only[B8]at h
  split at h
  ·rename_i hd;cases h;exact⟨0,x,rfl,rfl,by simpa using hd⟩
  ·obtain⟨i,o,h1,h2,h3⟩:=ih _ _ h
   exact⟨i+1,o,by omega,by simpa using h2,h3⟩
def oz {aN:Array Oper}{t k:Nat}(h:eR aN t=some k):∃o,aN[k]?=some o/\o.dst=some t:=by
 obtain⟨i,o,h1,h2,h3⟩:=KM _ _ _ h
 exact⟨o,by simp at h1;subst h1;simpa using h2,h3⟩
def F2 {aN:Array Oper}{bW:List BV}{aF vals':List (Option BV)}{i:Nat}(hv:∀k,dk (aP aN) i k=true->vals'.getD k none=aF.getD k none):
 mV aN (aP aN) bW vals' i=mV aN (aP aN) bW aF i:=by
 funext t
 unfold mV
 cases hw:eR aN t with
 |none=>rfl
 |some k=>
  dsimp only
  cases hb:dk (aP aN) i k with
  |true=>rw[hv k hb]
  |false=>rfl
def L5 {aN:Array Oper}{bW:List BV}{aF vals':List (Option BV)}{i:Nat}(hv:∀k,dk (aP aN) i k=true->vals'.getD k none=aF.getD k none):
 kv aN (aP aN) bW vals' i=kv aN (aP aN) bW aF i:=by
 funext x
 cases x<;>simp only[kv]
 rw[F2 hv]
def HV.congr {P:Program}{g:Gh}{h hp:af}{aN:Array Oper}{bW:List BV}{aF vals':List (Option BV)}{b:Option Nat}{i:Nat}{o:Oper}{v:BV}
 (hv:∀k,dk (aP aN) i k=true->vals'.getD k none=aF.getD k none)(ho:HV P g h hp aN bW aF b i o v):HV P g h hp aN bW vals' b i o v:=by
 unfold HV at*
 rw[L5 hv,F2 hv]
 exact ho
section
variable {P:Program} {g g':Gh} {h h' hp:af} {w w':World} {lb ub:Nat} {ph:Nat->Option Nat} {d:Gg} {tmps:Array Value} {i:Nat} {r:List Nat} {o:Oper}
def G4 {aN:Array Oper}{o:Oper}{cx:Nat->Option BV}{tmps:Array Value}
 (hs:∀j b,o.guard=some (j,b)->∀d,(aN[j]?).bind (·.dst)=some d->(cx d=none/\tmps[d]?=none)\/∃b v,cx d=some b/\tmps[d]?=some v/\ai P g w b v){r:Bool}(e:kF o aN cx=some r):
 Region.wanted o (yielded aN tmps)=r:=by
 unfold kF at e
 unfold Region.wanted
 split at e
 ·rename_i hg;rw[hg];cases e;rfl
 ·rename_i j want hg
  rw[hg]
  dsimp only
  unfold Kf at e
  unfold yielded
  cases hd:(aN[j]?).bind (·.dst)with
  |none=>simp[hd]at e;rw[e];rfl
  |some d=>
   simp only[hd,af9]at e ⊢
   rcases hs j want hg d hd with ⟨h1,h2⟩| ⟨b,v,h1,h2,h3⟩
   ·simp[h1]at e;rw[h2,e];rfl
   ·rw[h1]at e
    rw[h2]
    cases b<;>first
     | (simp at e;done)
     | (simp only[ai]at h3;subst h3;simpa using e)
     | (have:∀b,v≠ .bool b:=by
         intro b hb;subst hb
         simp only[ai]at h3
         first
          | (cases h3;done)
          | (rcases h3 with ⟨_,h3| ⟨_,_,h3⟩⟩| ⟨_,_,_,h3,_⟩<;>cases h3;done)
          | (rcases h3 with ⟨_,h3| ⟨_,h3⟩⟩| ⟨_,_,h3,_⟩<;>cases h3;done)
          | (rcases h3 with ⟨_,h3| ⟨_,h3⟩⟩| ⟨_,_,_,_,h3,_⟩<;>cases h3;done)
          | (obtain⟨_,h3,_⟩:=h3;cases h3;done)
          | (obtain⟨_,_,h3⟩:=h3;cases h3;done)
          | (obtain⟨_,_,h3,_⟩:=h3;cases h3;done)
          | (obtain⟨_,_,_,h3⟩:=h3;cases h3;done)
          | (obtain⟨_,_,_,h3,_⟩:=h3;cases h3;done)
          | (obtain⟨_,_,_,_,h3,_⟩:=h3;cases h3;done)
          | (obtain⟨_,h3⟩:=h3;cases h3;done)
        simp at e;rw[e]
        cases v<;>first|rfl|exact absurd rfl (this _))
def xr {aN:Array Oper}{n:Nat}(h:Gw aN n=true){i:Nat}{o:Oper}{t:Nat}(ho:aN[i]?=some o)(hd:o.dst=some t):t<n:=by
 unfold Gw at h
 rw[afK]at h
 have:=h o (by have:aN.toList[i]?=some o:=by simpa using ho
               exact aeU this)
 rw[hd]at this
 simpa using this
def iw.aeK (hd:iw P g h w lb ub hp ph d tmps (i::r)){t:Nat}
 (hk:∀k,eR d.aN t=some k->dk (aP d.aN) i k=true\/dk (aP d.aN) k i=true\/k=i):
 mV d.aN (aP d.aN) d.bW d.aF i t=gf d.aN d.bW d.aF (i::r) t:=by
 unfold mV gf
 cases hw:eR d.aN t with
 |none=>rfl
 |some k=>
  dsimp only
  have hlow:=fun i o ho=>((mD hd.ok).1 i o ho).low
  cases hb:dk (aP d.aN) i k with
  |true=>
   have hn:k∉i::r:=fun hm=>by
    have:=hd.W2.1 k hm;rw[this]at hb;cases hb
   rw[aeX hn];rfl
  |false=>
   have hm:k∈i::r:=by
    rcases hk k hw with h1|h1|rfl
    ·rw[h1]at hb;cases hb
    ·apply afV
     intro hn
     obtain⟨o',ho',_⟩:=oz hw
     have hlt:k<d.aN.size:=(aff.1 ho').1
     exact hd.dc k hlt hn i h1 (by simp)
    ·simp
   rw[aeZ hm];rfl
def iw.SG (hd:iw P g h w lb ub hp ph d tmps (i::r)){t:Nat}
 (hk:∀k,eR d.aN t=some k->dk (aP d.aN) i k=true\/dk (aP d.aN) k i=true\/k=i):
 ai P g w (mV d.aN (aP d.aN) d.bW d.aF i t) (tmps.getD t undef):=by
 rw[hd.aeK hk]
 cases ht:tmps[t]? with
 |some v=>rw[afN,ht];exact hd.F3 t v ht
 |none=>
  rw[afN,ht]
  have hle:tmps.size<=t:=by rw[Array.getElem?_eq_none_iff]at ht;exact ht
  rw[hd.size]at hle
  unfold gf
  cases hw:eR d.aN t with
  |none=>
   dsimp only
   rw[List.getD,afH hle];exact ai.undef
  |some k=>
   exfalso
   obtain⟨o',ho',hd'⟩:=oz hw
   have:=xr hd.L3 ho' hd'
   omega
def N2 {o:Oper}{t:Nat}(h:Operand.tmp t∈o.op.operands.toList):t∈II o:=by
 unfold II
 rw[List.mem_filterMap]
 exact⟨_,h,rfl⟩
def iw.eval (hd:iw P g h w lb ub hp ph d tmps (i::r))(ho:d.aN[i]?=some o)(f:Frame)(hf:f.tmps=tmps):
 ∀x∈o.op.operands.toList,ai P g w (kv d.aN (aP d.aN) d.bW d.aF i x) (f.eval x):=by
 intro x hx
 subst hf
 cases x with
 |tmp t=>
  simp only[kv,Frame.eval]
  exact hd.SG fun k hk=>((mD hd.ok).1 i o ho).Fp t (N2 hx) k hk
 |const v=>exact ai.ofv P g w v
 |global a=>simp[kv,ai]
 |func f'=>simp only[kv,Frame.eval,ai];exact⟨#[],#[],rfl,ak.nil,ak.nil⟩
def iw.wanted (hd:iw P g h w lb ub hp ph d tmps (i::r))(ho:d.aN[i]?=some o){b:Bool}
 (e:kF o d.aN (fun t=>some (mV d.aN (aP d.aN) d.bW d.aF i t))=some b):Region.wanted o (yielded d.aN tmps)=b:=by
 refine G4 (P:=P) (g:=g) (w:=w) (fun j b' hg t ht=>?_) e
 right
 cases hj:d.aN[j]? with
 |none=>rw[hj]at ht;cases ht
 |some oj=>
  rw[hj]at ht
  simp only[af9]at ht
  have hlt:=xr hd.L3 hj ht
  have hlt':t<tmps.size:=by rw[hd.size];exact hlt
  refine⟨_,tmps[t],rfl,afs hlt',?_⟩
  have hw:=((mD hd.ok).1 j oj hj).dst t ht
  have hb:=((mD hd.ok).1 i o ho).guard j b' hg
  have:=hd.SG (t:=t) (fun k hk=>by rw[hw]at hk;cases hk;exact .inl hb)
  rw[afN,afs hlt']at this
  exact this
def Jl (hd:iw P g h w lb ub hp ph d tmps (i::r))(ho:d.aN[i]?=some o)(he:jX o=false){v:BV}{v':Value}(hv:d.aF[i]?=some (some v))(hm:eA g w g' w')
 (hop:∀j∈r,∀x,ph j=some x->g.m x=none->rC (h.get x)=false->g'.m x=none)(hvr:ai P g' w' v v'):iw P g' h w' lb ub hp ph d (C2 tmps o.dst v') r where
 ok:=hd.ok
 L3:=hd.L3
 size:=by unfold C2;split<;>simp[hd.size]
 UO:=hd.UO
 ze:=(afD.1 hd.ze).2
 lt:=fun j hj=>hd.lt j (by simp[hj])
 W2:=hd.W2.2
 dc:=fun j hj hn k hk=>by
  by_cases hji:j=i
  ·subst hji
   intro hm
   have:=hd.W2.1 k (by simp[hm]);rw[this]at hk;cases hk
  ·intro hm
   exact hd.dc j hj (by simp[hji,hn]) k hk (by simp[hm])
 cI:=fun e=>by
  rw[hd.cI e]
  constructor
  ·rintro⟨h1,h2⟩
   rcases ae5.1 h1 with rfl|h1
   ·obtain⟨o',ho',he'⟩:=h2;rw[ho]at ho';cases ho';rw[he]at he';cases he'
   ·exact⟨h1,h2⟩
  ·rintro⟨h1,h2⟩;exact⟨by simp[h1],h2⟩
 zR:=hd.zR
 aF:=fun j hj hn=>by
  by_cases hji:j=i
  ·subst hji;exact⟨v,hv⟩
  ·exact hd.aF j hj (by simp[hji,hn])
 F3:=fun t u hu=>by
  have hnr:=(afD.1 hd.ze).1
  by_cases hdt:o.dst=some t
  ·have hw:=((mD hd.ok).1 i o ho).dst t hdt
   have hcs:gf d.aN d.bW d.aF r t=v:=by
    unfold gf
    rw[hw]
    dsimp only
    rw[aeX hnr,List.getD,hv];rfl
   rw[hcs]
   have hlt:=xr hd.L3 ho hdt
   have:u=v':=by
    unfold C2 at hu
    rw[hdt]at hu
    dsimp only at hu
    rw[afi (by rw[hd.size];exact hlt)]at hu
    cases hu;rfl
   rw[this];exact hvr
  ·have hut:tmps[t]?=some u:=by
    unfold C2 at hu
    cases hdd:o.dst with
    |none=>rw[hdd]at hu;exact hu
    |some t'=>
     rw[hdd]at hu hdt
     dsimp only at hu
     rwa [afx (fun e=>hdt (by rw[e]))]at hu
   have hcs:gf d.aN d.bW d.aF r t=gf d.aN d.bW d.aF (i::r) t:=by
    unfold gf
    cases hw:eR d.aN t with
    |none=>rfl
    |some k=>
     dsimp only
     have hki:k≠i:=fun e=>by
      subst e
      obtain⟨o',ho',hd'⟩:=oz hw
      rw[ho]at ho';cases ho'
      exact hdt hd'
     by_cases hkr:k∈r
     ·rw[aeZ hkr,aeZ (by simp[hkr])]
     ·rw[aeX hkr,aeX (by simp[hkr,hki])]
   rw[hcs]
   exact ai.mono hm _ _ (hd.F3 t u hut)
 ready:=fun j hj=>hd.ready j (by simp[hj])
 yi:=fun j hj o' u h1 h2 h3=>by
  obtain⟨k1,k2⟩:=hd.yi j (by simp[hj]) o' u h1 h2 h3
  exact⟨k1,k2.mono fun x hx hx' hv'=>⟨hop j hj x hx hx' hv',rfl⟩⟩
 Lj:=hd.Lj
 OL:=hd.OL
def Ny {o:Oper}(he:jX o=false):∀c,o.op≠ .defer c:=fun c hc=>by simp[jX,hc]at he
section
variable {fn:FuncId} {ds:List Deferred} {kd:CallKind} {ro:Option Nat} {k:List Item} {cs:List Frame}
def CD {aN:Array Oper}(ho:aN[i]?=some o)(v:Value):
 (rf fn tmps (.inRegion aN (i::r)::k) ds kd ro).finish v=rf fn (C2 tmps o.dst v) (.inRegion aN r::k) ds kd ro:=by
 cases hd:o.dst<;>simp[Frame.finish,ho,C2,hd]
def Qb (hr:aR P g h w)(hd:iw P g h w lb ub h ph d tmps (i::r))(ho:d.aN[i]?=some o)(he:jX o=false):
 ∃v' g' w',Steps P (lone (rf fn tmps (.inRegion d.aN (i::r)::k) ds kd ro) cs w) (lone (rf fn (C2 tmps o.dst v') (.inRegion d.aN r::k) ds kd ro) cs w')/\
  aR P g' h w'/\gN g h w g' h w'/\rJ lb g h g' h/\iw P g' h w' lb ub h ph d (C2 tmps o.dst v') r:=by
 have hnw:zy d.aN d.cI i:=fun e hee=>hd.W2.1 e ((hd.cI e).1 hee).1
 obtain⟨v,hv⟩:=hd.ready i (by simp) o ho he hnw
 obtain⟨_,hopen⟩:=hd.yi i (by simp) o v ho he hv
 have hnr:=(afD.1 hd.ze).1
 rcases hopen with ⟨hw,rfl⟩| ⟨hw,hopen⟩
 ·have hw':=hd.wanted ho hw
  refine⟨undef,g,w,Steps.one ?_,hr,gN.refl _ _ _,rJ.refl _ _ _,Jl hd ho he hv (eA.refl _ _) (fun _ _ _ _ h _=>h) ai.undef⟩
  rw[I1 (by simp[ho,hw']),CD ho]
 ·have hw':=hd.wanted ho hw
  have heval:=hd.eval ho (rf fn tmps (.inRegion d.aN (i::r)::k) ds kd ro) rfl
  have hstep:=LD (P:=P) (w:=w) (cs:=cs) (fn:=fn) (tmps:=tmps) (ds:=ds) (kd:=kd) (ro:=ro) (k:=k) (r:=r) ho hw' (.inr (Ny he))
  rcases hopen with ⟨_,hop⟩| ⟨ha,h1,h2,hb,hop,hgm,hget,hvt⟩
  ·obtain⟨g',w',k1,k2,k3,v',k4,k5⟩:=MU hr heval hop
   refine⟨v',g',w',Steps.one ?_,k1,k2,fun x hx hxm hxv=>?_,Jl hd ho he hv k2.mono (fun j hj x hx hxm hxv=>?_) k5⟩
   ·exact step_lone_go (by rw[hstep,LF k4,CD ho])
   ·cases hx':decide (x<h.next)with
    |true=>exact k3 x (by simpa using hx') hxm hxv
    |false=>
     have:h.get x=none:=by
      cases hq:h.get x with
      |none=>rfl
      |some q=>have:=hr.HY _ _ hq;simp at hx';omega
     refine⟨?_,by rfl⟩
     cases hq:g'.m x with
     |none=>rfl
     |some q=>have:=k1.lt _ _ hq;simp at hx';omega
   ·cases hx':decide (x<h.next)with
    |true=>exact(k3 x (by simpa using hx') hxm hxv).1
    |false=>
     cases hq:g'.m x with
     |none=>rfl
     |some q=>have:=k1.lt _ _ hq;simp at hx';omega
  ·obtain⟨v',w',k4,k1,k2,k5⟩:=Sy hr ha heval hop hget hgm
   refine⟨v',_,w',Steps.one ?_,k1,k2,fun x hx hxm hxv=>?_,Jl hd ho he hv k2.mono (fun j hj x hx hxm hxv=>?_) k5⟩
   ·exact step_lone_go (by rw[hstep,LF k4,CD ho])
   ·have:=(hd.OL i _ hb).1
    exact⟨by rw[Gh.gk g (by omega)];exact hxm,rfl⟩
   ·rw[Gh.gk g (fun e=>hnr ?_)];exact hxm
    subst e
    rw[hd.Lj _ _ _ hb hx];exact hj
def VM:∀{rest:List Nat} {g:Gh} {w:World} {tmps:Array Value},aR P g h w->iw P g h w lb ub h ph d tmps rest->
 ∃tmps' rest' g' w',Steps P (lone (rf fn tmps (.inRegion d.aN rest::k) ds kd ro) cs w) (lone (rf fn tmps' (.inRegion d.aN rest'::k) ds kd ro) cs w')/\
  aR P g' h w'/\gN g h w g' h w'/\rJ lb g h g' h/\iw P g' h w' lb ub h ph d tmps' rest'/\((rest'=[]/\d.cI=[])\/∃x r cI,rest'=x::r/\d.cI=x::cI):=by
 intro rest
 induction rest with
 |nil=>
  intro g w tmps hr hd
  refine⟨tmps,[],g,w,Steps.refl _ _,hr,gN.refl _ _ _,rJ.refl _ _ _,hd,.inl ⟨rfl,?_⟩⟩
  cases he:d.cI with
  |nil=>rfl
  |cons x l=>have:=(hd.cI x).1 (by simp[he]);simp at this
 |cons i r ih=>
  intro g w tmps hr hd
  have hlt:=hd.lt i (by simp)
  have ho:=afs hlt
  cases he:jX d.aN[i]with
  |false=>
   obtain⟨v',g1,w1,s1,h1,e1,p1,d1⟩:=Qb (fn:=fn) (ds:=ds) (kd:=kd) (ro:=ro) (k:=k) (cs:=cs) hr hd ho he
   obtain⟨tmps',rest',g2,w2,s2,h2,e2,p2,d2,hc⟩:=ih h1 d1
   exact⟨tmps',rest',g2,w2,s1.trans s2,h2,e1.trans e2,p1.trans p2,d2,hc⟩
  |true=>
   refine⟨tmps,i::r,g,w,Steps.refl _ _,hr,gN.refl _ _ _,rJ.refl _ _ _,hd,.inr ⟨i,r,?_⟩⟩
   have him:i∈d.cI:=(hd.cI i).2 ⟨by simp,_,ho,he⟩
   cases hl:d.cI with
   |nil=>rw[hl]at him;cases him
   |cons x l=>
    refine⟨l,rfl,?_⟩
    rw[hl]at him
    rcases ae5.1 him with rfl|hil
    ·rfl
    ·exfalso
     have hp:=hd.zR
     rw[hl]at hp
     have h1:=(agp.1 hp).1 i hil
     have h2:=hd.W2.1 x ((hd.cI x).1 (by simp[hl])).1
     rw[h2]at h1;cases h1
end
end
end
section
section
variable {P:Program} {g:Gh} {h h' hp:af} {w:World} {lb ub:Nat}
def YA (P:Program)(g:Gh)(h:af)(lb:Nat)(aN:Array Oper)(bW:List BV)(cI:List Nat)(aF:List (Option BV))(ph:Nat->Option Nat)(rest:List Nat):Prop:=
 (∀i∈rest,∀o v,aN[i]?=some o->jX o=false->aF[i]?=some (some v)->zy aN cI i/\HV P g h h aN bW aF (ph i) i o v)/\
 (∀i j b,ph i=some b->ph j=some b->i=j)/\(∀i b,ph i=some b->lb<=b/\b<h.next)
def U5 (aN:Array Oper)(aF:List (Option BV))(rest:List Nat):Prop:=
 ∀i∈rest,∀o,aN[i]?=some o->jX o=false->po aF i->∀k,dk (aP aN) i k=true->po aF k
def Vf (aN:Array Oper)(cI:List Nat)(aF:List (Option BV))(m:Nat):Prop:=
 ∀i,i<m->∀o,aN[i]?=some o->jX o=false->zy aN cI i->po aF i
def BG {aF:List (Option BV)}{m k:Nat}(h:k≠m)(x:Option BV):(aF.set m x).getD k none=aF.getD k none:=by
 simp only[List.getD];rw[agh (by omega)]
def wU {aF:List (Option BV)}{m k:Nat}{v:BV}(h:po aF k):po (aF.set m (some v)) k:=by
 obtain⟨u,hu⟩:=h
 by_cases hk:k=m
 ·subst hk;exact⟨v,by rw[agx (ae1.1 hu).1]⟩
 ·exact⟨u,by rw[agh (by omega)];exact hu⟩
def Zy (hr:aR P g h w)(o:ax):Ye h (h.new o):=fun b ob hb=>by
 have:=hr.HY _ _ hb
 rw[af.dR,aeX (by omega)];exact hb
def Fv {aN:Array Oper}{cI:List Nat}{i k:Nat}(hlow:∀(i:Nat) o,aN[i]?=some o->∀e∈o.after.toList,Region.binds .any e=true->e.on<i)
 (hn:zy aN cI i)(hk:dk (aP aN) i k=true):zy aN cI k:=fun e he=>by
 cases hb:dk (aP aN) k e with
 |false=>rfl
 |true=>have:=PO hlow _ _ _ hk hb;rw[hn e he]at this;cases this
def Fg {aN:Array Oper}{bW:List BV}{cI rest:List Nat}(hlow:∀(i:Nat) o,aN[i]?=some o->∀e∈o.after.toList,Region.binds .any e=true->e.on<i)
 (heff:∀k∈rest,Zg aN k->k∈cI){h':af}{vals':List (Option BV)}:
 ∀(n m:Nat) (h:af) (aF:List (Option BV)) (ph:Nat->Option Nat),r9 P aN (aP aN) bW cI (List.range' m n) h aF=some (h',vals')->aR P g h w->
  YA P g h lb aN bW cI aF ph rest->lb<=h.next->aF.length=aN.size->m+n=aN.size->U5 aN aF rest->Vf aN cI aF m->(∀i,i<aN.size->¬po aF i->i∈rest)->
  ∃ph',aR P g h' w/\gN g h w g h' w/\Ph g h g h'/\vals'.length=aN.size/\(∀(i:Nat) v,aF[i]?=some (some v)->vals'[i]?=some (some v))/\YA P g h' lb aN bW cI vals' ph' rest/\Vf aN cI vals' aN.size:=by
 intro n
 induction n with
 |zero=>
  intro m h aF ph e hr hf hlb hlen hmn hcl hrd hpend
  simp only[List.range'_zero,r9]at e
  cases e
  exact⟨ph,hr,gN.refl _ _ _,Ph.refl _ _,hlen,fun _ _ h=>h,hf,by rw[<-hmn];simpa using hrd⟩
 |succ n ih=>
  intro m h aF ph e hr hf hlb hlen hmn hcl hrd hpend
  have hmlt:m<aN.size:=by omega
  have ho:=afs hmlt
  generalize aN[m]=o at ho
  rw[List.range'_succ]at e
  simp only[r9,ho]at e
  cases hvm:aF.getD m none with
  |some u=>
   rw[hvm]at e
   have hval:po aF m:=by
    have hml:m<aF.length:=by omega
    rw[List.getD,aeY hml]at hvm
    exact⟨u,by rw[aeY hml];simpa using hvm⟩
   refine ih (m+1) h aF ph e hr hf hlb hlen (by omega) hcl (fun i hi o' ho' he hn=>?_) hpend
   by_cases him:i=m
   ·subst him;exact hval
   ·exact hrd i (by omega) o' ho' he hn
  |none=>
   rw[hvm]at e
   dsimp only at e
   have hnone:¬po aF m:=fun ⟨v,hv⟩=>by rw[List.getD,hv]at hvm;cases hvm
   split at e
   ·rename_i hc
    refine ih (m+1) h aF ph e hr hf hlb hlen (by omega) hcl (fun i hi o' ho' he hn=>?_) hpend
    by_cases him:i=m
    ·subst him
     rw[ho]at ho';cases ho'
     rw[he,agU,ag7]at hc
     obtain⟨e',h1,h2⟩:=hc
     rw[hn e' h1]at h2;cases h2
    ·exact hrd i (by omega) o' ho' he hn
   ·rename_i hc
    rw[agd,aiI]at hc
    obtain⟨he,hnw⟩:=hc
    have he:jX o=false:=by simpa using he
    have hnw:zy aN cI m:=fun e' h1=>by
     cases hb:dk (aP aN) m e' with
     |false=>rfl
     |true=>exact absurd (ag7.2 ⟨e',h1,hb⟩) hnw
    have hmrest:m∈rest:=hpend m hmlt hnone
    have hahead:∀k,dk (aP aN) m k=true->po aF k:=fun k hk=>by
     have hkm:=Is hlow m k hk
     apply afV
     intro hnv
     have hkr:=hpend k (by omega) hnv
     have hko:=afs (show k<aN.size by omega)
     cases hke:jX aN[k]with
     |true=>
      have:=heff k hkr ⟨_,hko,hke⟩
      rw[hnw k this]at hk;cases hk
     |false=>exact hnv (hrd k hkm _ hko hke (Fv hlow hnw hk))
    have hstep:∀(v:BV) (h1:af) (ph1:Nat->Option Nat),aR P g h1 w->gN g h w g h1 w->Ph g h g h1->h.next<=h1.next->
     r9 P aN (aP aN) bW cI (List.range' (m+1) n) h1 (aF.set m (some v))=some (h',vals')->
     (∀i∈rest,i≠m->∀o' u,aN[i]?=some o'->jX o'=false->aF[i]?=some (some u)->HV P g h1 h1 aN bW aF (ph1 i) i o' u)->
     HV P g h1 h1 aN bW aF (ph1 m) m o v->
     (∀i j b,ph1 i=some b->ph1 j=some b->i=j)->(∀i b,ph1 i=some b->lb<=b/\b<h1.next)->
     ∃ph',aR P g h' w/\gN g h w g h' w/\Ph g h g h'/\vals'.length=aN.size/\(∀(i:Nat) v,aF[i]?=some (some v)->vals'[i]?=some (some v))/\YA P g h' lb aN bW cI vals' ph' rest/\Vf aN cI vals' aN.size:=by
     intro v h1 ph1 hr1 hx1 hp1 hn1 e1 hold hnew hinj hlt
     obtain⟨ph',k1,k2,k3,k4,k5,k6,k7⟩:=ih (m+1) h1 (aF.set m (some v)) ph1 e1 hr1 (by
      refine⟨fun i hi o' u ho' he' hv'=>?_,hinj,hlt⟩
      by_cases him:i=m
      ·subst him
       rw[agx (by omega)]at hv'
       cases hv'
       rw[ho]at ho';cases ho'
       exact⟨hnw,hnew.congr fun k hk=>BG (by have:=Is hlow _ _ hk;omega) _⟩
      ·rw[agh (by omega)]at hv'
       refine⟨(hf.1 i hi o' u ho' he' hv').1,(hold i hi him o' u ho' he' hv').congr fun k hk=>BG (fun e=>?_) _⟩
       subst e
       exact hnone (hcl i hi o' ho' he' ⟨u,hv'⟩ _ hk)) (by omega) (by simpa using hlen) (by omega) (by
      intro i hi o' ho' he' hv' k hk
      by_cases him:i=m
      ·subst him;exact wU (hahead k hk)
      ·obtain⟨u,hu⟩:=hv'
       rw[agh (by omega)]at hu
       exact wU (hcl i hi o' ho' he' ⟨u,hu⟩ k hk)) (by
      intro i hi o' ho' he' hn'
      by_cases him:i=m
      ·subst him;exact⟨v,by rw[agx (by omega)]⟩
      ·exact wU (hrd i (by omega) o' ho' he' hn')) (by
      intro i hi hnv
      exact hpend i hi fun hv=>hnv (wU hv))
     refine⟨ph',k1,hx1.trans k2,hp1.trans hn1 k3,k4,fun i u hu=>?_,k6,k7⟩
     refine k5 i u ?_
     rw[agh (fun e=>?_)];exact hu
     subst e;exact hnone ⟨u,hu⟩
    split at e
    ·rename_i hw
     cases hop:Dk P h (kv aN (aP aN) bW aF m) o with
     |none=>rw[hop]at e;cases e
     |some q=>
      obtain⟨nx,h1⟩:=q
      rw[hop]at e
      cases nx<;>try (cases e;done)
      rename_i v
      dsimp only at e
      cases ha:kh o with
      |false=>
       obtain⟨hh,_⟩:=QK (h':=h) (fun _ _ h=>h) he ha hop
       subst hh
       exact hstep v h1 ph hr (gN.refl _ _ _) (Ph.refl _ _) (afa _) e (fun i hi _ o' u ho' he' hv'=>(hf.1 i hi o' u ho' he' hv').2)
        (.inr ⟨hw,.inl ⟨ha,hop⟩⟩) hf.2.1 hf.2.2
      |true=>
       obtain⟨_,ob,_,rfl,hvo,hno⟩:=Li ha hop
       obtain⟨hr1,hx1⟩:=hr.Kp ob hno
       refine hstep v (h.new ob) (fun j=>if j=m then some h.next else ph j) hr1 hx1 (Ph.new ob) (by simp) e (fun i hi him o' u ho' he' hv'=>?_) ?_ (fun i j b hi hj=>?_) (fun i b hi=>?_)
       ·obtain⟨_,ho2⟩:=hf.1 i hi o' u ho' he' hv'
        simp only[aeX him]
        rcases ho2 with k1| ⟨k1,⟨k2,k3⟩| ⟨k2,a,b,k3,k4,k5,k6,k7⟩⟩
        ·exact .inl k1
        ·exact .inr ⟨k1,.inl ⟨k2,(QK (Zy hr ob) he' k2 k3).2⟩⟩
        ·have:=(hf.2.2 i _ k3).2
         have hg:(h.new ob).get a.next=h.get a.next:=by rw[af.dR,aeX (by omega)]
         exact .inr ⟨k1,.inr ⟨k2,a,b,k3,k4,k5,by rw[hg];exact k6,by rw[hg];exact k7⟩⟩
       ·simp only[aeZ]
        exact .inr ⟨hw,.inr ⟨ha,h,_,rfl,hop,hr.v7,rfl,by rw[af.dR,aeZ rfl];exact hvo⟩⟩
       ·by_cases h1:i=m
        ·by_cases h2:j=m
         ·rw[h1,h2]
         ·simp only[aeZ h1]at hi
          simp only[aeX h2]at hj
          cases hi
          exact absurd (hf.2.2 j _ hj).2 (agV _)
        ·by_cases h2:j=m
         ·simp only[aeX h1]at hi
          simp only[aeZ h2]at hj
          cases hj
          exact absurd (hf.2.2 i _ hi).2 (agV _)
         ·simp only[aeX h1]at hi
          simp only[aeX h2]at hj
          exact hf.2.1 i j b hi hj
       ·by_cases h1:i=m
        ·simp only[aeZ h1]at hi;cases hi;exact⟨hlb,by simp⟩
        ·simp only[aeX h1]at hi
         have:=hf.2.2 i b hi
         exact⟨this.1,by simp;omega⟩
    ·rename_i hw
     exact hstep BV.undef h ph hr (gN.refl _ _ _) (Ph.refl _ _) (afa _) e (fun i hi _ o' u ho' he' hv'=>(hf.1 i hi o' u ho' he' hv').2) (.inl ⟨hw,rfl⟩) hf.2.1 hf.2.2
    ·cases e
def BV.OZ {u v:BV}(e:BV.OY u v=true):u=v:=by
 unfold BV.OY at e
 simp only[agd]at e
 rcases e with e|e
 ·exact(SU 40).1 _ _ e
 ·exact @of_decide_eq_true _ (Classical.propDecidable _) e
def KC {aN:Array Oper}{bW:List BV}{aF:List (Option BV)}{x:Nat}:∀(is:List Nat),CJ P aN (aP aN) bW aF x h is=true->
 ∀i∈is,∀o v,aN[i]?=some o->aF[i]?=some (some v)->jX o=false->kh o=false->GJ o=true->dk (aP aN) x i=false->
  kF o aN (fun t=>some (mV aN (aP aN) bW aF i t))=some true->Dk P h (kv aN (aP aN) bW aF i) o=some (.value v,h):=by
 intro is
 induction is with
 |nil=>intro _ i hi;cases hi
 |cons j is ih=>
  intro e i hi o v ho hv he ha hlo hb hw
  simp only[CJ,aeV]at e
  obtain⟨e1,e2⟩:=e
  rcases ae5.1 hi with rfl|hi
  ·have hv':aF.getD i none=some v:=by rw[List.getD,hv];rfl
   rw[ho,hv']at e1
   simp only[he,ha,hlo,hb,hw,ahT,agI,ae0,afS]at e1
   cases hop:Dk P h (kv aN (aP aN) bW aF i) o with
   |none=>rw[hop]at e1;cases e1
   |some q=>
    obtain⟨nx,h1⟩:=q
    rw[hop]at e1
    cases nx<;>try (cases e1;done)
    have:=BV.OZ e1
    subst this
    have:=(QK (h':=h) (fun _ _ h=>h) he ha hop).1
    subst this
    rfl
  ·exact ih e2 i hi o v ho hv he ha hlo hb hw
end
end
section
section
variable {P:Program} {g:Gh} {h h' hp:af} {w:World} {lb ub:Nat} {ph:Nat->Option Nat} {d d':Gg} {tmps:Array Value} {x:Nat} {r:List Nat} {o:Oper}
def Tb (hr:aR P g h w)(hd:iw P g h w lb ub hp ph d tmps (x::r)){effs':List Nat}(hde:d.cI=x::effs')(ho:d.aN[x]?=some o)(hlb:lb<=h.next)(hub:ub<=h.next)
 {v:BV}{v':Value}(hv:ai P g w v v')(e:Bp P d x v h=some (d',h')):
 ∃ph',aR P g h' w/\gN g h w g h' w/\Ph g h g h'/\d'.aN=d.aN/\d'.bW=d.bW/\iw P g h' w lb h'.next h' ph' d' (C2 tmps o.dst v') r:=by
 have hok:=mD hd.ok
 have hlow:∀(i:Nat) o,d.aN[i]?=some o->∀e∈o.after.toList,Region.binds .any e=true->e.on<i:=fun i o ho=>(hok.1 i o ho).low
 have hxm:x∈d.cI:=by rw[hde];simp
 obtain⟨_,ox,hox,hxe⟩:=(hd.cI x).1 hxm
 rw[ho]at hox;cases hox
 have hxlt:x<d.aN.size:=hd.lt x (by simp)
 have hxnr:=(afD.1 hd.ze).1
 unfold Bp at e
 dsimp only at e
 split at e
 ·rename_i hre
  simp only[afz]at e
  obtain⟨⟨h1,vals'⟩,e,e2⟩:=e
  simp only[afQ]at e2
  obtain⟨rfl,rfl⟩:=e2
  rw[hde,ahr,ahC]at e
  rw[ahC]at hre
  have hvx:∀i,i≠x->(d.aF.set x (some v))[i]?=d.aF[i]?:=fun i hi=>by rw[agh (by omega)]
  have hxl:x<d.aF.length:=by rw[hd.UO];exact hxlt
  have hvxx:(d.aF.set x (some v))[x]?=some (some v):=by rw[agx hxl]
  have hinv:YA P g h lb d.aN d.bW effs' (d.aF.set x (some v)) ph r:=by
   refine⟨fun i hi o' u ho' he' hv'=>?_,hd.Lj,fun i b hb=>⟨(hd.OL i b hb).1,afk (hd.OL i b hb).2 hub⟩⟩
   have hix:i≠x:=fun e=>hxnr (e▸hi)
   have hv0:d.aF[i]?=some (some u):=by rw[<-hvx i hix];exact hv'
   obtain⟨hnw,hopen⟩:=hd.yi i (by simp[hi]) o' u ho' he' hv0
   have hcong:∀k,dk (aP d.aN) i k=true->(d.aF.set x (some v)).getD k none=d.aF.getD k none:=fun k hk=>BG (fun e=>by subst e;rw[hnw _ hxm]at hk;cases hk) _
   refine⟨fun e' he'=>hnw e' (by rw[hde];simp[he']),?_⟩
   refine HV.congr hcong ?_
   rcases hopen with k1| ⟨k1,⟨k2,k3⟩|k2⟩
   ·exact .inl k1
   ·refine .inr ⟨k1,.inl ⟨k2,?_⟩⟩
    cases hlo:GJ o' with
    |false=>exact WZ he' k2 hlo k3 h
    |true=>
     refine KC _ hre i ?_ o' u ho' hv0 he' k2 hlo (hd.W2.1 i (by simp[hi])) k1
     rw[List.mem_range'_1]
     have:=hd.lt i (by simp[hi]);omega
   ·exact .inr ⟨k1,.inr k2⟩
  have hval1:∀i,po d.aF i->po (d.aF.set x (some v)) i:=fun i h=>wU h
  have hcl:U5 d.aN (d.aF.set x (some v)) r:=by
   intro i hi o' ho' he' hv' k hk
   have hix:i≠x:=fun e=>hxnr (e▸hi)
   obtain⟨u,hu⟩:=hv'
   rw[hvx i hix]at hu
   have hnw:=(hd.yi i (by simp[hi]) o' u ho' he' hu).1
   have hkl:k<d.aN.size:=by have:=Is hlow i k hk;have:=hd.lt i (by simp[hi]);omega
   by_cases hkr:k∈x::r
   ·have hko:=afs hkl
    cases hke:jX d.aN[k]with
    |true=>have:=hnw k ((hd.cI k).2 ⟨hkr,_,hko,hke⟩);rw[this]at hk;cases hk
    |false=>exact hval1 k (hd.ready k hkr _ hko hke (Fv hlow hnw hk))
   ·exact hval1 k (hd.aF k hkl hkr)
  have hpend:∀i,i<d.aN.size->¬po (d.aF.set x (some v)) i->i∈r:=by
   intro i hi hn
   apply afV
   intro hir
   by_cases hix:i=x
   ·subst hix;exact hn ⟨v,hvxx⟩
   ·exact hn (hval1 i (hd.aF i hi (by simp[hix,hir])))
  have heff:∀k∈r,Zg d.aN k->k∈effs':=by
   intro k hk he
   have:=(hd.cI k).2 ⟨by simp[hk],he⟩
   rw[hde]at this
   rcases ae5.1 this with rfl|h1
   ·exact absurd hk hxnr
   ·exact h1
  obtain⟨ph',k1,k2,k3,k4,k5,k6,k7⟩:=Fg hlow heff d.aN.size 0 h _ ph e hr hinv hlb (by simpa using hd.UO) (by omega) hcl (fun i hi=>by omega) hpend
  refine⟨ph',k1,k2,k3,rfl,rfl,?_⟩
  exact{
   ok:=hd.ok
   L3:=hd.L3
   size:=by unfold C2;split<;>simp[hd.size]
   UO:=k4
   ze:=(afD.1 hd.ze).2
   lt:=fun j hj=>hd.lt j (by simp[hj])
   W2:=hd.W2.2
   dc:=fun j hj hn k hk=>by
    by_cases hji:j=x
    ·subst hji
     intro hm
     have:=hd.W2.1 k (by simp[hm]);rw[this]at hk;cases hk
    ·intro hm
     exact hd.dc j hj (by simp[hji,hn]) k hk (by simp[hm])
   cI:=fun e'=>by
    simp only[hde,ahr]
    constructor
    ·intro h1
     obtain⟨h2,h3⟩:=(hd.cI e').1 (by rw[hde];simp[h1])
     refine⟨?_,h3⟩
     rcases ae5.1 h2 with rfl|h2
     ·exfalso
      have hp:=hd.zR
      rw[hde]at hp
      have:=Is hlow _ _ ((agp.1 hp).1 _ h1)
      omega
     ·exact h2
    ·rintro⟨h1,h2⟩;exact heff _ h1 h2
   zR:=by
    have hp:=hd.zR
    rw[hde]at hp
    simp only[hde,ahr]
    exact(agp.1 hp).2
   aF:=fun j hj hn=>by
    have:po (d.aF.set x (some v)) j:=afV fun h=>hn (hpend j hj h)
    obtain⟨u,hu⟩:=this
    exact⟨u,k5 j u hu⟩
   F3:=fun t u hu=>by
    by_cases hdt:o.dst=some t
    ·have hw:=(hok.1 x o ho).dst t hdt
     have hcs:gf d.aN d.bW vals' r t=v:=by
      unfold gf
      rw[hw]
      dsimp only
      rw[aeX hxnr,List.getD,k5 x v hvxx];rfl
     show ai P g w (gf d.aN d.bW vals' r t) u
     rw[hcs]
     have hlt:=xr hd.L3 ho hdt
     have:u=v':=by
      unfold C2 at hu
      rw[hdt]at hu
      dsimp only at hu
      rw[afi (by rw[hd.size];exact hlt)]at hu
      cases hu;rfl
     rw[this];exact hv
    ·have hut:tmps[t]?=some u:=by
      unfold C2 at hu
      cases hdd:o.dst with
      |none=>rw[hdd]at hu;exact hu
      |some t'=>
       rw[hdd]at hu hdt
       dsimp only at hu
       rwa [afx (fun e=>hdt (by rw[e]))]at hu
     have hcs:gf d.aN d.bW vals' r t=gf d.aN d.bW d.aF (x::r) t:=by
      unfold gf
      cases hw:eR d.aN t with
      |none=>rfl
      |some k=>
       dsimp only
       obtain⟨o',ho',hd'⟩:=oz hw
       have hki:k≠x:=fun e=>by
        subst e
        rw[ho]at ho';cases ho'
        exact hdt hd'
       by_cases hkr:k∈r
       ·rw[aeZ hkr,aeZ (by simp[hkr])]
       ·rw[aeX hkr,aeX (by simp[hkr,hki])]
        obtain⟨u',hu'⟩:=hd.aF k (aff.1 ho').1 (by simp[hkr,hki])
        have:=k5 k u' (by rw[hvx k hki];exact hu')
        rw[List.getD,List.getD,this,hu']
     show ai P g w (gf d.aN d.bW vals' r t) u
     rw[hcs]
     exact hd.F3 t u hut
   ready:=fun j hj o' ho' he' hn=>by
    have hn':zy d.aN effs' j:=by simpa only[hde,ahr]using hn
    exact k7 j (hd.lt j (by simp[hj])) o' ho' he' hn'
   yi:=fun j hj o' u ho' he' hv'=>by
    have:=k6.1 j hj o' u ho' he' hv'
    simpa only[hde,ahr]using this
   Lj:=k6.2.1
   OL:=k6.2.2}
 ·cases e
def Ta (hr:aR P g h w){aN:Array Oper}{cx:List BV}(hv:ak P g w cx tmps.toList)(hok:Gv aN=true)(hds:Gw aN cx.length=true)(hlb:lb<=h.next)(t:Nat){aF:List (Option BV)}
 (e:r9 P aN (aP aN) cx (qq aN) (List.range aN.size) h (List.replicate aN.size none)=some (h',aF)):
 ∃ph,aR P g h' w/\gN g h w g h' w/\Ph g h g h'/\iw P g h' w lb h'.next h' ph {aN,bW:=cx,aF,cI:=qq aN} tmps (Region.linearise .any aN t):=by
 have hsp:=mD hok
 have hlow:∀(i:Nat) o,aN[i]?=some o->∀e∈o.after.toList,Region.binds .any e=true->e.on<i:=fun i o ho=>(hsp.1 i o ho).low
 have hlin:=NV hlow aN.size t (Array.replicate aN.size false) (by simp) (fun i hi=>by
  rw[aha]at hi;split at hi<;>cases hi)
 obtain⟨l1,l2,l3,l4⟩:=hlin
 have hall:∀i,i<aN.size->i∈Region.linearise .any aN t:=fun i hi=>l4 (by
  simp only[ahj]
  exact afw (aib _ _) (by simp)) i (by rw[aha,aeZ hi])
 have hlt:∀i∈Region.linearise .any aN t,i<aN.size:=fun i hi=>by
  have:=l2 i hi
  rw[aha]at this
  split at this
  ·assumption
  ·cases this
 rw[ahC]at e
 have hnone:∀(i:Nat) v,(List.replicate aN.size (none:Option BV))[i]?≠some (some v):=fun i v h=>by
  rw[agf]at h;split at h<;>cases h
 have hmem:∀e,e∈qq aN↔Zg aN e:=fun e=>by
  unfold qq
  rw[ah5,ahK]
  constructor
  ·rintro⟨h1,h2⟩
   exact⟨_,afs h1,by simpa [afs h1]using h2⟩
  ·rintro⟨o,h1,h2⟩
   exact⟨(aff.1 h1).1,by simpa [h1]using h2⟩
 obtain⟨ph',k1,k2,k3,k4,k5,k6,k7⟩:=Fg (P:=P) (g:=g) (w:=w) (lb:=lb) (rest:=Region.linearise .any aN t) hlow (fun k _ he=>(hmem k).2 he) aN.size 0 h _ (fun _=>none) e hr
  ⟨fun i _ o v _ _ h=>absurd h (hnone i v),(fun i j b h=>by cases h),(fun i b h=>by cases h)⟩ hlb (by simp) (by omega)
  (fun i _ o _ _ ⟨v,hv⟩=>absurd hv (hnone i v)) (fun i hi=>by omega) (fun i hi _=>hall i hi)
 refine⟨ph',k1,k2,k3,?_⟩
 exact{
  ok:=hok
  L3:=hds
  size:=by have:=hv.length;simpa using this
  UO:=k4
  ze:=l1
  lt:=hlt
  W2:=l3
  dc:=fun i hi hn=>absurd (hall i hi) hn
  cI:=fun e=>by
   rw[hmem]
   constructor
   ·intro h1
    obtain⟨o,h2,h3⟩:=h1
    exact⟨hall e (aff.1 h2).1,o,h2,h3⟩
   ·exact fun h=>h.2
  zR:=hsp.2
  aF:=fun i hi hn=>absurd (hall i hi) hn
  F3:=fun s u hu=>by
   have hcs:gf aN cx aF (Region.linearise .any aN t) s=cx.getD s BV.undef:=by
    unfold gf
    cases hw:eR aN s with
    |none=>rfl
    |some k=>
     dsimp only
     obtain⟨o',ho',_⟩:=oz hw
     rw[aeZ (hall k (aff.1 ho').1)]
   show ai P g w (gf aN cx aF (Region.linearise .any aN t) s) u
   rw[hcs]
   obtain⟨b,hb,hbv⟩:=hv.ab8 (show tmps.toList[s]?=some u by simpa using hu)
   rw[List.getD,hb];exact hbv
  ready:=fun j hj o' ho' he' hn=>k7 j (hlt j hj) o' ho' he' hn
  yi:=fun j hj o' u ho' he' hv'=>k6.1 j hj o' u ho' he' hv'
  Lj:=k6.2.1
  OL:=k6.2.2}
def L6 {aN:Array Oper}{aF:List (Option BV)}:∀(l:List BV) (t s:Nat) (y:BV),l[s]?=some y->
 (qE aN aF t l)[s]?=some (match eR aN (t+s)with|some k=>(aF.getD k none).getD .kC|none=>y):=by
 intro l
 induction l with
 |nil=>intro t s y h;simp at h
 |cons a l ih=>
  intro t s y h
  cases s with
  |zero=>simp at h;subst h;simp only[qE,af0,af6];cases eR aN t<;>rfl
  |succ s=>
   simp at h
   have:=ih (t+1) s y h
   simp only[qE,af7]
   rw[this]
   have e:t+1+s=t+(s+1):=by omega
   rw[e]
def AD {aN:Array Oper}{aF:List (Option BV)}:∀(l:List BV) (t:Nat),(qE aN aF t l).length=l.length:=by
 intro l
 induction l with
 |nil=>intro t;rfl
 |cons a l ih=>intro t;simp[qE,ih]
def VL (hd:iw P g h w lb ub hp ph d tmps []):ak P g w (qE d.aN d.aF 0 d.bW) tmps.toList:=by
 refine ak.qU (by rw[AD];simpa using hd.size) fun i b v hb hv=>?_
 have hil:i<d.bW.length:=by have:=(ae1.1 hb).1;rw[AD]at this;exact this
 have:=L6 (aN:=d.aN) (aF:=d.aF) d.bW 0 i _ (aeY hil)
 rw[hb]at this
 have hs:=hd.F3 i v (by simpa using hv)
 cases this
 unfold gf at hs
 simp only[afT]
 cases hw:eR d.aN i with
 |none=>rw[hw]at hs;dsimp only at hs;rw[List.getD,aeY hil]at hs;exact hs
 |some k=>rw[hw]at hs;dsimp only at hs;rw[aeX (by simp)]at hs;exact hs
end
end
section
section
variable {P:Program} {g g':Gh} {h h':af} {w w':World} {lb ub:Nat} {au:rG} {b b':aZ} {f:Frame}
def mo.adu (hf:mo P g h w lb ub false b f)(hm:b.mode= .run):∀d r sv rest x,f.todo≠ .call d x r sv::rest:=by
 intro d r sv rest x e
 have:=hf.run hm
 unfold cQ at this
 split at this
 ·obtain⟨_,rest',k',h1,_⟩:=this;rw[h1]at e;cases e
 ·obtain⟨_,h1⟩:=this
  rw[e]at h1
  cases ht:b.todo with
  |nil=>rw[ht]at h1;simp only[bT]at h1;cases h1
  |cons i k=>
   rw[ht]at h1
   simp only[bT]at h1
   obtain⟨i',ir,h2,h3,_⟩:=h1
   cases h2
   cases i<;>simp only[eZ]at h3<;>first
    | (cases h3;done)
    | (obtain⟨_,_,h3⟩:=h3;cases h3;done)
    |exact h3
def Ap (hr:aR P g h w)(hf:mo P g h w lb ub false b f)(hlb:lb<=h.next)(hub:ub<=h.next){v:BV}{v':Value}(hv:ai P g w v v')(e:nv P b v h=some (b',h')):
 aR P g h' w/\gN g h w g h' w/\Ph g h g h'/\mo P g h' w lb h'.next true b' (f.finish v')/\h.next<=h'.next:=by
 unfold nv at e
 split at e
 case h_2=>cases e
 rename_i hmode
 have hrun:=hf.run hmode
 obtain⟨ffn,ftmps,ftodo,fdefers,fmode,fkind,fround⟩:=f
 have hfm:fmode= .run:=by have:=hf.mode;rw[hmode]at this;exact this
 subst hfm
 split at e
 ·rename_i aN i rest k ht
  cases e
  unfold cQ at hrun
  rw[ht]at hrun
  dsimp only at hrun
  obtain⟨h1,h2⟩:=hrun
  simp only[bT]at h2
  obtain⟨it,ir,hft,h3,h4⟩:=h2
  simp only[eZ]at h3
  subst h3 hft
  refine⟨hr,gN.refl _ _ _,Ph.refl _ _,?_,afa _⟩
  have hfin:(Frame.finish {fn:=ffn,tmps:=ftmps,todo:= .inRegion aN (i::rest)::ir,defers:=fdefers,mode:= .run,kind:=fkind,roundOf:=fround} v')=
   {fn:=ffn,tmps:=C2 ftmps ((aN[i]?).bind (·.dst)) v',todo:= .inRegion aN rest::ir,defers:=fdefers,mode:= .run,kind:=fkind,roundOf:=fround}:=by
   simp only[Frame.finish]
   cases (aN[i]?).bind (·.dst)<;>rfl
  rw[hfin]
  refine⟨hf.fn,hf.kind,hf.jZ,hf.defers,hf.mode,hf.round,fun _=>?_,fun hn=>absurd hmode hn⟩
  unfold cQ
  dsimp only
  exact⟨Xx h1 hv _,_,_,rfl,rfl,h4⟩
 ·rename_i d k ht
  split at e
  ·rename_i x cI he
   simp only[afz]at e
   obtain⟨⟨d',h1⟩,e1,e2⟩:=e
   simp only[afQ]at e2
   obtain⟨rfl,rfl⟩:=e2
   unfold cQ at hrun
   rw[ht]at hrun
   dsimp only at hrun
   obtain⟨h2,rest,k',hft,h3,hp,_,⟨ph,hd⟩,h5⟩:=hrun
   subst hft
   obtain⟨x',r,hrest,hx'⟩:=h5 rfl
   rw[he]at hx'
   simp at hx'
   subst hx' hrest
   obtain⟨o,ho,_⟩:=((hd.cI x).1 (by rw[he];simp)).2
   obtain⟨ph',k1,k2,k3,k4,k5,k6⟩:=Tb hr hd he ho hlb hub hv e1
   refine⟨k1,k2,k3,?_,k2.next⟩
   have hfin:(Frame.finish {fn:=ffn,tmps:=ftmps,todo:= .inRegion d.aN (x::r)::k',defers:=fdefers,mode:= .run,kind:=fkind,roundOf:=fround} v')=
    {fn:=ffn,tmps:=C2 ftmps o.dst v',todo:= .inRegion d.aN r::k',defers:=fdefers,mode:= .run,kind:=fkind,roundOf:=fround}:=by
    simp only[Frame.finish,ho,af9]
    cases o.dst<;>rfl
   rw[hfin]
   refine⟨hf.fn,hf.kind,hf.jZ,hf.defers,hf.mode,hf.round,fun _=>?_,fun hn=>absurd hmode hn⟩
   unfold cQ
   dsimp only
   refine⟨by rw[k5];exact h2,r,k',by rw[k4],h3,h1,fun _=>rfl,⟨ph',k6⟩,fun h=>by cases h⟩
  ·cases e
 ·rename_i l k ht
  cases e
  unfold cQ at hrun
  rw[ht]at hrun
  dsimp only at hrun
  obtain⟨h1,h2⟩:=hrun
  simp only[bT]at h2
  obtain⟨it,ir,hft,h3,h4⟩:=h2
  simp only[eZ]at h3
  obtain⟨aA,hm,rfl⟩:=h3
  subst hft
  refine⟨hr,gN.refl _ _ _,Ph.refl _ _,?_,afa _⟩
  refine⟨hf.fn,hf.kind,hf.jZ,hf.defers,hf.mode,hf.round,fun _=>?_,fun hn=>absurd hmode hn⟩
  unfold cQ
  dsimp only
  exact⟨h1,_,_,rfl,⟨aA,hm,rfl⟩,h4⟩
 ·cases e
def E5 {fid:FuncId}{args:List BV}{args':Array Value}{kind:CallKind}(hk:kind= .normal\/kind= .deferred)(ha:ak P g w args args'.toList)(e:dn P fid args kind=some b):
 mo P g h w lb ub true b (Frame.enter P fid args' kind):=by
 unfold dn at e
 split at e
 ·rename_i fn hfn
  split at e
  ·rename_i c hb
   cases e
   have hlen:args'.size=args.length:=by have:=ha.length;simpa using this
   have henv:ak P g w (args++List.replicate (fn.ntmps-args.length) BV.undef) (args'++Array.replicate (fn.ntmps-args'.size) undef).toList:=by
    rw[agM,ahj,hlen]
    refine ak.append ha ?_
    refine ak.qU (by simp) fun i b v hb hv=>?_
    rw[agf]at hb hv
    split at hb
    ·rename_i hc
     rw[aeZ hc]at hv
     cases hb;cases hv;exact ai.undef
    ·cases hb
   unfold Frame.enter
   simp only[hfn,afb,af1,af9,hb]
   refine⟨rfl,rfl,hk,by simp[iv],rfl,by simp[kI],fun _=>?_,fun hn=>absurd rfl hn⟩
   unfold cQ
   dsimp only
   exact⟨henv,_,_,rfl,rfl,by simp[bT]⟩
  ·cases e
 ·cases e
end
end
section
section
variable {P:Program} {g g':Gh} {h h':af} {w w':World} {lb ub:Nat} {au:rG} {b b':aZ} {f:Frame} {bs:List aZ} {cs:List Frame}
def uo (P:Program)(au:rG)(g:Gh)(h:af)(w:World)(s':av)(r:GStep):Prop:=
 ∃g' w' lb' f' cs',r.bare= .go {frame:=f',callers:=cs',status:= .running,dying:=none} w'/\LA P au g' w' lb' s' f' cs'/\gN g h w g' s'.h w'
def uo.ext {g0:Gh}{h0:af}{w0:World}(e:gN g0 h0 w0 g h w){s':av}{r:GStep}(h':uo P au g h w s' r):uo P au g0 h0 w0 s' r:=by
 obtain⟨g',w',lb',f',cs',h1,h2,h3⟩:=h'
 exact⟨g',w',lb',f',cs',h1,h2,e.trans h3⟩
def nJ (hr:aR P g h w)(hlb:lb<=h.next)(hub:ub<=h.next)(hf:mo P g h w lb ub false b f)(hc:ly P g h w au lb bs cs){v:BV}{v':Value}(hv:ai P g w v v')
 {s':av}(e:((nv P b v h).map fun (fr,h)=>({fr,cs:=bs,h}:av))=some s'){r:GStep}(hb:r.bare= .go {frame:=f.finish v',callers:=cs,status:= .running,dying:=none} w):uo P au g h w s' r:=by
 simp only[afz]at e
 obtain⟨⟨b',h'⟩,e1,rfl⟩:=e
 obtain⟨h1,h2,h3,h4,h5⟩:=Ap hr hf hlb hub hv e1
 exact⟨g,w,lb,_,cs,hb,⟨h1,afw hlb h5,h4,hc.mono h2.mono (h3.lt hlb)⟩,h2⟩
def CO (hr:aR P g h w)(hlb:lb<=h.next)(hf:mo P g h w lb h.next false b f)(hmode:b.mode= .run)(hc:ly P g h w au lb bs cs){s:Sem Next}{n:bc}{h1:af}
 (hdone:jg P g h w n h1 (s.run P w)){s':av}(e:lA P b bs .normal (n,h1)=some s'):uo P au g h w s' (stepG.apply P true f cs none s w):=by
 obtain⟨g1,w1,hr1,x1,p1,hn⟩:=hdone
 have hf1:=hf.mono x1.mono (p1.lt (afa _))
 have hc1:=hc.mono x1.mono (p1.lt hlb)
 have hlb1:lb<=h1.next:=afw hlb x1.next
 have hfm:f.mode= .run:=by have:=hf.mode;rw[hmode]at this;exact this
 refine uo.ext x1 ?_
 cases n with
 |value v=>
  obtain⟨v',hv,hvr⟩:=hn
  exact nJ hr1 hlb1 x1.next hf1 hc1 hvr e (LF hv)
 |skip=>exact nJ hr1 hlb1 x1.next hf1 hc1 ai.undef e (PI hn)
 |enter fid args=>
  obtain⟨args',hv,ha⟩:=hn
  simp only[lA,afz]at e
  obtain⟨c,e1,rfl⟩:=e
  refine⟨g1,w1,h.next,_,_,YH hv (hf.adu hmode),⟨hr1,x1.next,E5 (.inl rfl) ha e1,?_⟩,gN.refl _ _ _⟩
  simp only[ly]
  exact⟨f,cs,lb,rfl,hlb,hf1,hc1⟩
 |round l fid tmps assign body=>
  obtain⟨l',tmps',hv,hl,ht⟩:=hn
  simp only[lA]at e
  cases e
  refine⟨g1,w1,h.next,_,_,YJ hv,⟨hr1,x1.next,?_,?_⟩,gN.refl _ _ _⟩
  ·refine⟨rfl,rfl,.inl rfl,by simp[iv,Frame.round],rfl,⟨l',hl,rfl⟩,fun _=>?_,fun hn=>absurd rfl hn⟩
   unfold cQ
   dsimp only
   exact⟨ht,_,_,rfl,rfl,_,_,rfl,rfl,_,_,rfl,rfl,rfl⟩
  ·simp only[ly]
   exact⟨f,cs,lb,rfl,hlb,hf1,hc1⟩
 |defer d=>
  obtain⟨d',hv,hd⟩:=hn
  have hf2:mo P g1 h1 w1 lb h.next false {b with defers:=d::b.defers} {f with defers:=d'::f.defers}:=
   ⟨hf1.fn,hf1.kind,hf1.jZ,⟨_,_,rfl,hd,hf1.defers⟩,hf1.mode,hf1.round,hf1.run,hf1.cx⟩
  simp only[lA]at e
  split at e
  ·cases e
  ·exact nJ hr1 hlb1 x1.next hf2 hc1 ai.undef e (YG hv)
 |recover=>
  simp only[lA]at e
  split at e
  ·cases e
  ·rename_i hro
   simp only[agd,aiI,Bool.not_eq_true,ahM,List.isEmpty_eq_false_iff]at hro
   have hro':f.roundOf=none:=by
    have:=hf.round
    cases hb:b.roundOf with
    |some l=>rw[hb]at hro;simp at hro
    |none=>rw[hb]at this;exact this
   have hstep:=SR (P:=P) (cs:=cs) (f:=f) hro' hn
   have hnone:tryRecover f cs=none:=by
    cases bs with
    |nil=>simp at hro
    |cons cb rb=>
     simp only[ly]at hc
     obtain⟨c,cr,lb',rfl,_,h2,_⟩:=hc
     have hmode:=h2.mode
     unfold tryRecover
     rw[<-hf.kind]
     rcases hf.jZ with hk|hk<;>rw[hk]
     cases hcm:cb.mode<;>rw[hcm]at hmode<;>simp only[sn]at hmode<;>simp only[hmode]
   rw[hnone]at hstep
   exact nJ hr1 hlb1 x1.next hf1 hc1 (by simp[ai]) e hstep
def mo.adH {top:Bool}(hf:mo P g h w lb ub top b f)(hm:b.mode≠ .run)(lb' ub':Nat)(top':Bool):mo P g h w lb' ub' top' b f:=
 ⟨hf.fn,hf.kind,hf.jZ,hf.defers,hf.mode,hf.round,fun h=>absurd h hm,hf.cx⟩
def F0 (hr:aR P g h w)(hlb:lb<=h.next)(hk:b.kind=f.kind)(hc:ly P g h w au lb bs cs){v:BV}{v':Value}(hv:ai P g w v v'){s':av}(e:rV P b bs v h=some s'):
 uo P au g h w s' (doReturn P true f cs none v' w):=by
 unfold rV at e
 split at e
 ·rename_i cb rb
  simp only[ly]at hc
  obtain⟨c,cr,lb',rfl,h1,h2,h3⟩:=hc
  split at e
  ·rename_i hkd
   refine nJ hr (afw h1 hlb) hlb h2 h3 hv e ?_
   unfold doReturn
   rw[<-hk,hkd];rfl
  ·rename_i hkd
   split at e
   ·rename_i hcm
    cases e
    have hmode:=h2.mode
    rw[hcm]at hmode
    simp only[sn]at hmode
    refine⟨g,w,lb',c,cr,?_,⟨hr,afw h1 hlb,h2.adH (by rw[hcm];exact fun h=>by cases h) _ _ _,h3⟩,gN.refl _ _ _⟩
    unfold doReturn
    rw[<-hk,hkd]
    dsimp only
    rw[hmode];rfl
   ·cases e
  ·cases e
 ·cases e
def Ag (hr:aR P g h w){l aA:Nat}{r:RC}(hb:h.get l=some (.loop r))(hm:g.m l=some (aA,0)):
 ∃r',w.heap[aA]?=some (.loop r')/\U7 P g w r r'/\∀st pd,aR P g (h.put l (some (.loop {r with state:=st,pending:=pd}))) (w.putObj aA (.loop {r' with state:=st,pending:=pd}))/\
  gN g h w g (h.put l (some (.loop {r with state:=st,pending:=pd}))) (w.putObj aA (.loop {r' with state:=st,pending:=pd})):=by
 obtain⟨_,o',hw,ho⟩:=hr.U2 _ _ _ _ hb hm
 simp only[cL]at ho
 obtain⟨_,r',rfl,hl⟩:=ho
 refine⟨r',hw,hl,fun st pd=>hr.Kd hb hm hw rfl ⟨rfl,rfl,rfl⟩ (fun s hs=>?_) fun hmono=>?_⟩
 ·simp[World.shape?,hw]at hs
 ·simp only[cL]
  refine⟨trivial,_,rfl,?_⟩
  have:=hl.mono hmono
  exact⟨rfl,rfl,this.2.2⟩
def Uw (hr:aR P g h w)(hlb:lb<=h.next)(hf:mo P g h w lb h.next true b f)(hmode:b.mode= .run)(henv:ak P g w b.cx f.tmps.toList)(hc:ly P g h w au lb bs cs){jump:Option Code}{s':av}
 (e:ye P b bs h jump=some s'){r:GStep}
 (hret:f.roundOf=none->(jump=none\/jump=some .ret)->r.bare= .go {frame:={f with mode:= .returning},callers:=cs,status:= .running,dying:=none} w)
 (hround:∀l v w1,f.roundOf=some l->(Instr.endRound l jump).run P w= .ok v w1->r.bare=(doReturn P true f cs none v w1).bare):uo P au g h w s' r:=by
 unfold ye at e
 have hro:=hf.round
 split at e
 ·rename_i hb
  rw[hb]at hro
  simp only[kI]at hro
  have hfin:∀s',some ({fr:={b with mode:= .returning},cs:=bs,h:=h}:av)=some s'->(jump=none\/jump=some .ret)->uo P au g h w s' r:=by
   intro s' e hj
   cases e
   refine⟨g,w,lb,_,cs,hret hro hj,⟨hr,hlb,?_,hc⟩,gN.refl _ _ _⟩
   exact⟨hf.fn,hf.kind,hf.jZ,hf.defers,rfl,hf.round,(fun h=>by cases h),fun _=>henv⟩
  split at e
  ·exact hfin _ e (.inl rfl)
  ·exact hfin _ e (.inr rfl)
  ·cases e
 ·rename_i l hb
  rw[hb]at hro
  simp only[kI]at hro
  obtain⟨aA,hm,hfr⟩:=hro
  split at e
  ·rename_i r0 hl
   obtain⟨r',hw,hlr,hwr⟩:=Ag hr hl hm
   obtain⟨h1,h2⟩:=hwr (if jump.isNone then .ready else .done) jump
   have hrun:=run_endRound (P:=P) jump hw
   have hb:=hround aA _ _ hfr hrun
   have:=F0 (f:=f) h1 (by simpa using hlb) hf.kind (hc.mono h2.mono ((Ph.put hm _).lt hlb)) (v:= .bool jump.isNone) (v':= .bool jump.isNone) (by simp[ai]) e
   obtain⟨g',w',lb',f',cs',k1,k2,k3⟩:=this
   exact⟨g',w',lb',f',cs',hb.trans k1,k2,h2.trans k3⟩
  ·cases e
end
end
section
section
variable {P:Program} {g g':Gh} {h h':af} {w w':World} {lb ub:Nat} {au:rG} {b b':aZ} {f:Frame} {bs:List aZ} {cs:List Frame}
def Wa {cx:List BV}{tmps:Array Value}(hv:ak P g w cx tmps.toList)(t:Nat):ai P g w (cx.getD t BV.undef) (tmps.getD t undef):=by
 have:=E6 hv {(default:Frame)with tmps:=tmps} rfl (.tmp t)
 simpa only[uC,Frame.eval]using this
def HJ (hr:aR P g h w){fn:Func}{cx:List BV}{tmps:Array Value}(hv:ak P g w cx tmps.toList){v:BV}(e:B4 P h fn cx=some v):
 ∃v',(results fn tmps).run P w= .ok v' w/\ai P g w v v':=by
 have key:∀(l:List ResultVar) (vs:List BV),(l.mapM fun| .tmp t=>some (cx.getD t BV.undef)| .cell a t=>wJ P h t (cx.getD a BV.undef))=some vs->
  ∃us,(l.mapM (fun| .tmp t=>pure (tmps.getD t undef)| .cell a t=>do loadVar t (<-asAddr (tmps.getD a undef)):ResultVar->Sem Value)).run P w= .ok us w/\ak P g w vs us:=by
  intro l
  induction l with
  |nil=>intro vs e;simp at e;subst e;exact⟨[],by simp,by simp[ak]⟩
  |cons x l ih=>
   intro vs e
   simp only[ail,Option.bind_eq_bind,ahi,Option.pure_def,ae3]at e
   obtain⟨y,h1,ys,h2,rfl⟩:=e
   obtain⟨us,h3,h4⟩:=ih ys h2
   have hx:∃u,((fun| .tmp t=>pure (tmps.getD t undef)| .cell a t=>do loadVar t (<-asAddr (tmps.getD a undef)):ResultVar->Sem Value) x).run P w= .ok u w/\ai P g w y u:=by
    cases x with
    |tmp t=>
     simp only[ae3]at h1
     subst h1
     exact⟨_,by simp,Wa hv t⟩
    |cell a t=>
     obtain⟨ad,v',ha,hl,hvr⟩:=HH hr (Wa hv a) h1
     refine⟨v',?_,hvr⟩
     dsimp only
     rw[ha]
     simp[asAddr,hl]
   obtain⟨u,k1,k2⟩:=hx
   refine⟨u::us,?_,by simp only[ak];exact⟨u,us,rfl,k2,h4⟩⟩
   rw[ail]
   refine(Sem.run_bind P w _ _).trans ?_
   rw[k1,Result.andThen_ok]
   refine(Sem.run_bind P w _ _).trans ?_
   rw[h3,Result.andThen_ok]
   simp
 unfold B4 at e
 have hres:∀us,((fn.results.toList).mapM (fun| .tmp t=>pure (tmps.getD t undef)| .cell a t=>do loadVar t (<-asAddr (tmps.getD a undef)):ResultVar->Sem Value)).run P w= .ok us w->
  (results fn tmps).run P w= .ok (if h:us.toArray.size=1 then us.toArray[0]else .tuple us.toArray) w:=by
  intro us hus
  unfold results
  refine(Sem.run_bind P w _ _).trans ?_
  rw[ahN]
  have:((Functor.map List.toArray ((fn.results.toList).mapM (fun| .tmp t=>pure (tmps.getD t undef)| .cell a t=>do loadVar t (<-asAddr (tmps.getD a undef)):ResultVar->Sem Value))):Sem (Array Value)).run P w= .ok us.toArray w:=by
   rw[map_eq_pure_bind]
   refine(Sem.run_bind P w _ _).trans ?_
   rw[hus,Result.andThen_ok];simp
  exact(afg (fun r=>Result.andThen r (fun a w'=>Sem.run P (pure (if h:a.size=1 then a[0]else Value.tuple a)) w')) this).trans rfl
 split at e
 ·rename_i x hm
  cases e
  obtain⟨us,h1,h2⟩:=key _ _ hm
  obtain⟨u,rfl,hu⟩:=ak.one (by simpa using h2)
  exact⟨u,by rw[hres _ h1];simp,hu⟩
 ·rename_i vs hne hm
  cases e
  obtain⟨us,h1,h2⟩:=key _ _ hm
  refine⟨.tuple us.toArray,?_,by simp only[ai];exact⟨_,rfl,by simpa using h2⟩⟩
  rw[hres _ h1,dif_neg]
  intro hs
  have hl:=h2.length
  simp only[List.size_toArray]at hs
  cases vs with
  |nil=>simp at hl;simp[hl]at hs
  |cons a r=>
   cases r with
   |nil=>exact hne a rfl
   |cons b r=>simp at hl;omega
 ·cases e
def Rf (hr:aR P g h w)(hlb:lb<=h.next)(hf:mo P g h w lb h.next true b f)(hmode:b.mode≠ .run)(hc:ly P g h w au lb bs cs){s':av}(e:xP P b bs h=some s'):
 uo P au g h w s' (unwind P true f cs none w):=by
 have henv:=hf.cx hmode
 obtain⟨ffn,ftmps,ftodo,fdefers,fmode,fkind,fround⟩:=f
 have hds:=hf.defers
 have hfm:=hf.mode
 unfold xP at e
 split at e
 ·rename_i d ds hbd
  rw[hbd]at hds
  simp only[iv]at hds
  obtain⟨d',dr,hfd,⟨ht,ha⟩,hdr⟩:=hds
  subst hfd
  obtain⟨tgt,args⟩:=d'
  dsimp only at ht ha
  split at e
  ·rename_i block hbt
   rw[hbt]at ht
   simp only[ux]at ht
   obtain⟨aA,hm,rfl⟩:=ht
   split at e
   ·rename_i calls hb
    cases e
    obtain⟨_,o',hw,ho⟩:=hr.U2 _ _ _ _ hb hm
    simp only[cL]at ho
    obtain⟨_,ds',rfl,hdd⟩:=ho
    obtain⟨h1,h2⟩:=hr.Kd (w':=w.putObj aA (.deferred none)) (o':= .deferred none) (co':= .deferred none) hb hm hw rfl ⟨rfl,rfl,rfl⟩ (fun s hs=>by simp[World.shape?,hw]at hs) (fun _=>by simp[cL])
    have hrun:=run_takeDeferred (P:=P) hw
    refine⟨g,_,lb,{fn:=ffn,tmps:=ftmps,todo:=ftodo,defers:=ds'++dr,mode:=fmode,kind:=fkind,roundOf:=fround},cs,?_,⟨h1,by simpa using hlb,?_,hc.mono h2.mono ((Ph.put hm _).lt hlb)⟩,h2⟩
    ·simp only[unwind,Sem.runT_eq,hrun,GStep.bare_after,GStep.bare_go]
    ·exact⟨hf.fn,hf.kind,hf.jZ,(hdd.mono h2.mono).append (hdr.mono h2.mono),hf.mode.mono h2.mono,hf.round.mono h2.mono,fun h=>absurd h hmode,fun _=>ak.mono h2.mono _ _ henv⟩
   ·cases e
  ·rename_i hnc
   have hntc:∀r,tgt≠ .collected r:=fun r hr'=>by
    subst hr'
    cases hbt:d.target<;>rw[hbt]at ht<;>simp only[ux]at ht<;>first
     | (cases ht;done)
     | (obtain⟨_,ht,_⟩:=ht;cases ht;done)
     | (obtain⟨_,_,ht⟩:=ht;cases ht;done)
     | (exact absurd hbt (hnc _))
   have hntn:tgt≠ .nil:=fun hr'=>by
    subst hr'
    cases hbt:d.target<;>rw[hbt]at ht<;>simp only[ux]at ht<;>first
     | (cases ht;done)
     | (obtain⟨_,ht,_⟩:=ht;cases ht;done)
     | (obtain⟨_,_,ht⟩:=ht;cases ht;done)
   have hun:unwind P true {fn:=ffn,tmps:=ftmps,todo:=ftodo,defers:=⟨tgt,args⟩::dr,mode:=fmode,kind:=fkind,roundOf:=fround} cs none w=
    callDeferred P {fn:=ffn,tmps:=ftmps,todo:=ftodo,defers:=dr,mode:=fmode,kind:=fkind,roundOf:=fround} cs none ⟨tgt,args⟩ w:=by
    cases tgt<;>first
     |rfl
     |exact absurd rfl (hntc _)
   rw[hun]
   have hf':mo P g h w lb h.next true {b with defers:=ds} {fn:=ffn,tmps:=ftmps,todo:=ftodo,defers:=dr,mode:=fmode,kind:=fkind,roundOf:=fround}:=
    ⟨hf.fn,hf.kind,hf.jZ,hdr,hf.mode,hf.round,fun h=>absurd h hmode,fun _=>henv⟩
   split at e
   ·rename_i fid eargs h1 hi
    obtain⟨g1,w1,hr1,x1,p1,hn⟩:=D9 hr ht ha hi
    have hf1:mo P g1 h1 w1 lb h.next false {b with defers:=ds} _:=(hf'.adH hmode lb h.next false).mono x1.mono (p1.lt (afa _))
    have hc1:=hc.mono x1.mono (p1.lt hlb)
    obtain⟨args',hv,hva⟩:=hn
    simp only[afz]at e
    obtain⟨c,e1,rfl⟩:=e
    refine⟨g1,w1,h.next,_,{fn:=ffn,tmps:=ftmps,todo:=ftodo,defers:=dr,mode:=fmode,kind:=fkind,roundOf:=fround}::cs,?_,⟨hr1,x1.next,E5 (.inr rfl) hva e1,?_⟩,x1⟩
    ·unfold callDeferred
     dsimp only
     rw[aeX (by clear hun hf hfm henv ht hf' hf1;cases tgt<;>first| (exact Bool.false_ne_true)|exact absurd rfl hntn)]
     simp only[Sem.runT_eq,hv,GStep.bare_after,GStep.bare_go]
    ·simp only[ly]
     exact⟨_,cs,lb,rfl,hlb,hf1,hc1⟩
   ·cases e
 ·rename_i hbd
  rw[hbd]at hds
  simp only[iv]at hds
  subst hds
  cases hbm:b.mode with
  |run=>exact absurd hbm hmode
  |returning=>
   rw[hbm]at e hfm
   simp only[sn]at hfm
   subst hfm
   dsimp only at e
   split at e
   ·cases e
   ·rename_i fn0 hfn
    split at e
    ·rename_i v hres
     have hfn':P.funcs[ffn]?=some fn0:=by rw[<-hfn,hf.fn]
     obtain⟨v',hrun,hv⟩:=HJ hr henv hres
     have:=F0 (f:={fn:=ffn,tmps:=ftmps,todo:=ftodo,defers:=[],mode:= .returning,kind:=fkind,roundOf:=fround}) hr hlb hf.kind hc hv e
     obtain⟨g',w',lb',f',cs',k1,k2,k3⟩:=this
     refine⟨g',w',lb',f',cs',?_,k2,k3⟩
     rw[<-k1]
     simp only[unwind,hfn',Sem.runT_eq,hrun,GStep.bare_after]
    ·cases e
end
end
end Go.PB
end
