import Derived.RangeFuncNested
import Derived.Below
import Derived.Test.YtemiekpfokoplaaGreatM4
set_option linter.all false
noncomputable section
namespace Go.PB
open Go
section
section
variable {P:Program} {g g':Gh} {h h':af} {w w':World} {lb ub:Nat} {au:rG} {b b':aZ} {f:Frame} {bs:List aZ} {cs:List Frame}
def dM (P:Program)(au:rG)(g:Gh)(h:af)(w:World)(s':av)(m:Machine):Prop:=
 ∃g' w' lb' f' cs',Steps P m (lone f' cs' w')/\LA P au g' w' lb' s' f' cs'/\gN g h w g' s'.h w'
def dM.wL {s':av}(hl:uo P au g h w s' (stepG P true {frame:=f,callers:=cs,status:= .running,dying:=none} w)):dM P au g h w s' (lone f cs w):=by
 obtain⟨g',w',lb',f',cs',h1,h2,h3⟩:=hl
 exact⟨g',w',lb',f',cs',Steps.one (step_lone_go h1),h2,h3⟩
def dM.trans {g1:Gh}{h1:af}{w1:World}{f1:Frame}{cs1:List Frame}{s':av}(hs:Steps P (lone f cs w) (lone f1 cs1 w1))(hx:gN g h w g1 h1 w1)(ht:dM P au g1 h1 w1 s' (lone f1 cs1 w1)):
 dM P au g h w s' (lone f cs w):=by
 obtain⟨g',w',lb',f',cs',k1,k2,k3⟩:=ht
 exact⟨g',w',lb',f',cs',hs.trans k1,k2,hx.trans k3⟩
def uo.ZT {s':av}{r r':GStep}(e:r.bare=r'.bare)(hl:uo P au g h w s' r'):uo P au g h w s' r:=by
 obtain⟨g',w',lb',f',cs',h1,h2,h3⟩:=hl
 exact⟨g',w',lb',f',cs',e.trans h1,h2,h3⟩
def cQ.plain {top:Bool}{cx:List BV}{todo:List dI}(he:ak P g w cx f.tmps.toList)(hi:bT g todo f.todo)(henv:b.cx=cx)(htodo:b.todo=todo):cQ P g h w lb ub top b f:=by
 unfold cQ
 split
 ·rename_i d k ht
  exfalso
  rw[htodo]at ht
  rw[ht]at hi
  simp only[bT,eZ]at hi
  obtain⟨_,_,_,h1,_⟩:=hi
  exact h1
 ·rw[henv,htodo];exact⟨he,hi⟩
section
variable {bfn:FuncId} {benv:List BV} {btodo:List dI} {bds:List tZ} {bkd:CallKind} {bro:Option Nat} {fn:FuncId} {tmps:Array Value} {ftodo:List Item} {ds:List Deferred} {kd:CallKind} {ro:Option Nat}
abbrev bf (bfn:FuncId)(benv:List BV)(btodo:List dI)(bds:List tZ)(bkd:CallKind)(bro:Option Nat):aZ:=
 {fn:=bfn,cx:=benv,todo:=btodo,defers:=bds,mode:= .run,kind:=bkd,roundOf:=bro}
def mo.with {top top':Bool}{ub':Nat}(hf:mo P g h w lb ub top (bf bfn benv btodo bds bkd bro) (rf fn tmps ftodo ds kd ro)){benv':List BV}{tmps':Array Value}{btodo':List dI}{ftodo':List Item}
 (he:ak P g w benv' tmps'.toList)(hi:bT g btodo' ftodo'):mo P g h w lb ub' top' (bf bfn benv' btodo' bds bkd bro) (rf fn tmps' ftodo' ds kd ro):=
 ⟨hf.fn,hf.kind,hf.jZ,hf.defers,hf.mode,hf.round,fun _=>cQ.plain (f:=rf fn tmps' ftodo' ds kd ro) he hi rfl rfl,fun h=>absurd rfl h⟩
def Pz (hr:aR P g h w)(hlb:lb<=h.next)(hf:mo P g h w lb h.next true (bf bfn benv btodo bds bkd bro) (rf fn tmps ftodo ds kd ro))(hc:ly P g h w au lb bs cs){benv':List BV}{tmps':Array Value}{btodo':List dI}{ftodo':List Item}
 (he:ak P g w benv' tmps'.toList)(hi:bT g btodo' ftodo')(hs:step P (lone (rf fn tmps ftodo ds kd ro) cs w)= .next (lone (rf fn tmps' ftodo' ds kd ro) cs w)):
 dM P au g h w {fr:=bf bfn benv' btodo' bds bkd bro,cs:=bs,h} (lone (rf fn tmps ftodo ds kd ro) cs w):=
 ⟨g,w,lb,_,cs,Steps.one hs,⟨hr,hlb,hf.with he hi,hc⟩,gN.refl _ _ _⟩
def Ob {o:Oper}{ρ:Operand->BV}{n:bc}{h1:af}{fr:aZ}{s':av}(hro:kI g fr.roundOf ro)(hq:Dk P h ρ o=some (n,h1))(e:lA P fr bs .normal (n,h1)=some s'):ro=none\/∀c,o.op≠ .defer c:=by
 by_cases hc:∃c,o.op= .defer c
 ·obtain⟨c,hc⟩:=hc
  left
  simp only[Dk,hc,afz,afQ]at hq
  obtain⟨d,_,rfl,rfl⟩:=hq
  simp only[lA]at e
  split at e
  ·cases e
  ·rename_i hn
   cases hb:fr.roundOf with
   |some l=>rw[hb]at hn;simp at hn
   |none=>rw[hb]at hro;exact hro
 ·exact .inr fun c h=>hc ⟨c,h⟩
def ZV {o:Oper}{ρ:Operand->BV}{q:bc×af}(hq:opR P h ρ o=some q):Dk P h ρ o=some q\/∀c,o.op≠ .defer c:=by
 unfold opR at hq
 split at hq
 ·rename_i ho;exact .inr fun c h=>by rw[ho]at h;cases h
 ·exact .inl hq
def Re (hr:aR P g h w)(hlb:lb<=h.next){aN:Array Oper}{i:Nat}{rest:List Nat}{k:List dI}{ir:List Item}
 (hf:mo P g h w lb h.next true (bf bfn benv (.inRegion aN (i::rest)::k) bds bkd bro) (rf fn tmps (.inRegion aN (i::rest)::ir) ds kd ro))(hc:ly P g h w au lb bs cs)
 (henv:ak P g w benv tmps.toList)(hir:bT g k ir){s':av}(e:dj P {fr:=bf bfn benv (.inRegion aN (i::rest)::k) bds bkd bro,cs:=bs,h}=some s'):
 dM P au g h w s' (lone (rf fn tmps (.inRegion aN (i::rest)::ir) ds kd ro) cs w):=by
 simp only[dj]at e
 split at e
 ·rename_i ho
  cases e
  refine Pz hr hlb hf hc henv (btodo':= .inRegion aN rest::k) ⟨_,_,rfl,rfl,hir⟩ ?_
  rw[I1 (by simp[ho])]
  simp[Frame.finish,ho]
 ·rename_i o ho
  have hwr:∀{r:Bool},kF o aN (fun t=>benv[t]?)=some r->Region.wanted o (yielded aN tmps)=r:=fun hw=>
   G4 (P:=P) (g:=g) (w:=w) (fun j b' _ t _=>by
    cases hb:benv[t]? with
    |none=>
     left
     refine⟨rfl,?_⟩
     have:tmps.toList[t]?=none:=by rw[afH];have:=henv.length;have:=aga.1 hb;omega
     simpa using this
    |some y=>
     obtain⟨v,h1,h2⟩:=henv.get hb
     exact .inr ⟨y,v,rfl,by simpa using h1,h2⟩) hw
  split at e
  ·rename_i hw
   have hw':=hwr hw
   cases hq:opR P h (uC benv) o with
   |none=>rw[hq]at e;cases e
   |some q=>
    obtain⟨n,h1⟩:=q
    rw[hq]at e
    have hd:=aay hr (σ:=(rf fn tmps (.inRegion aN (i::rest)::ir) ds kd ro).eval) (fun x _=>E6 henv _ rfl x) hq
    have:=CO (f:=rf fn tmps (.inRegion aN (i::rest)::ir) ds kd ro) hr hlb (hf.with (btodo':= .inRegion aN (i::rest)::k) henv ⟨_,_,rfl,rfl,hir⟩) rfl hc hd e
    refine dM.wL ?_
    rw[LD ho hw' ((ZV hq).elim (fun hq=>Ob hf.round hq e) .inr)]
    exact this
  ·rename_i hw
   have hw':=hwr hw
   simp only[afb,ae3]at e
   subst e
   have hstep:step P (lone (rf fn tmps (.inRegion aN (i::rest)::ir) ds kd ro) cs w)= .next (lone (rf fn (C2 tmps o.dst undef) (.inRegion aN rest::ir) ds kd ro) cs w):=by
    rw[I1 (by simp[ho,hw']),CD ho]
   refine Pz hr hlb hf hc (benv':=uh benv o.dst BV.undef) (tmps':=C2 tmps o.dst undef) (btodo':= .inRegion aN rest::k) (Xx henv ai.undef _) ⟨_,_,rfl,rfl,hir⟩ hstep
  ·cases e
def XI (hr:aR P g h w)(hlb:lb<=h.next){d:Gg}{k:List dI}
 (hf:mo P g h w lb h.next true (bf bfn benv (.fQ d::k) bds bkd bro) (rf fn tmps ftodo ds kd ro))(hc:ly P g h w au lb bs cs)
 {s':av}(e:dj P {fr:=bf bfn benv (.fQ d::k) bds bkd bro,cs:=bs,h}=some s'):
 dM P au g h w s' (lone (rf fn tmps ftodo ds kd ro) cs w):=by
 have hrun:=hf.run rfl
 unfold cQ at hrun
 dsimp only at hrun
 obtain⟨henv,rest,k',hft,hk,hp,hhp,⟨ph,hd⟩,_⟩:=hrun
 rw[hhp rfl]at hd
 clear hhp hp
 subst hft henv
 obtain⟨tmps',rest',g1,w1,s1,hr1,x1,p1,hd1,hcase⟩:=VM (fn:=fn) (ds:=ds) (kd:=kd) (ro:=ro) (k:=k') (cs:=cs) hr hd
 have hk1:=hk.mono x1.mono
 have hc1:=hc.mono x1.mono p1
 have hround:=hf.round.mono x1.mono
 have hdefs:=hf.defers.mono x1.mono
 simp only[dj]at e
 rcases hcase with ⟨rfl,heff⟩| ⟨x,r,cI,rfl,heff⟩
 ·rw[heff]at e
  cases e
  refine dM.trans s1 x1 ⟨g1,w1,lb,_,cs,Steps.one Hb,⟨hr1,hlb,?_,hc1⟩,gN.refl _ _ _⟩
  exact⟨hf.fn,hf.kind,hf.jZ,hdefs,hf.mode,hround,fun _=>cQ.plain (f:=rf fn tmps' k' ds kd ro) (VL hd1) hk1 rfl rfl,fun h=>absurd rfl h⟩
 ·rw[heff]at e
  dsimp only at e
  obtain⟨o,ho,_⟩:=((hd1.cI x).1 (by rw[heff];simp)).2
  rw[ho]at e
  dsimp only at e
  have hf1:mo P g1 h w1 lb h.next false (bf bfn d.bW (.fQ d::k) bds bkd bro) (rf fn tmps' (.inRegion d.aN (x::r)::k') ds kd ro):=
   ⟨hf.fn,hf.kind,hf.jZ,hdefs,hf.mode,hround,fun _=>by
     unfold cQ
     dsimp only
     exact⟨rfl,_,_,rfl,hk1,h,(fun q=>by cases q),⟨ph,hd1⟩,fun _=>⟨x,r,rfl,by rw[heff];rfl⟩⟩,fun h=>absurd rfl h⟩
  refine dM.trans s1 x1 ?_
  split at e
  ·rename_i hw
   have hw':=hd1.wanted ho hw
   cases hq:Dk P h (kv d.aN (aP d.aN) d.bW d.aF x) o with
   |none=>rw[hq]at e;cases e
   |some q=>
    obtain⟨n,h1⟩:=q
    rw[hq]at e
    have hdn:=MU hr1 (σ:=(rf fn tmps' (.inRegion d.aN (x::r)::k') ds kd ro).eval) (hd1.eval ho _ rfl) hq
    have:=CO (f:=rf fn tmps' (.inRegion d.aN (x::r)::k') ds kd ro) hr1 hlb hf1 rfl hc1 hdn e
    refine dM.wL ?_
    rw[LD ho hw' (Ob hf1.round hq e)]
    exact this
  ·rename_i hw
   have hw':=hd1.wanted ho hw
   have:=nJ (r:=stepG P true {frame:=rf fn tmps' (.inRegion d.aN (x::r)::k') ds kd ro,callers:=cs,status:= .running,dying:=none} w1) hr1 hlb (afa _) hf1 hc1 ai.undef e (by simp[stepG,stepG.exec,ho,hw'])
   exact dM.wL this
  ·cases e
end
end
end
section
section
variable {P:Program} {g g':Gh} {h h':af} {w w':World} {lb ub:Nat} {au:rG} {b b':aZ} {f:Frame} {bs:List aZ} {cs:List Frame}
variable {bfn:FuncId} {benv:List BV} {btodo:List dI} {bds:List tZ} {bkd:CallKind} {bro:Option Nat} {fn:FuncId} {tmps:Array Value} {ftodo:List Item} {ds:List Deferred} {kd:CallKind} {ro:Option Nat}
def aR.make (hr:aR P g h w){o:ax}{co:Obj}(ho:∀g' w',eA g w g' w'->g'.m h.next=some (w.heap.size,0)->cL P g' w' o 0 co)(hno:mv h.next o:=by exact mv.bare rfl rfl):
 aR P (g.ym h.next w.heap.size 0) (h.new o) (w.alloc co)/\gN g h w (g.ym h.next w.heap.size 0) (h.new o) (w.alloc co)/\Ph g h (g.ym h.next w.heap.size 0) (h.new o):=by
 obtain⟨h1,h2⟩:=hr.Kp o hno
 obtain⟨k1,k2⟩:=h1.real (b:=h.next) (o:=o) (co:=co) (w':=w.alloc co) (by rw[af.dR,aeZ rfl]) hr.v7 rfl ⟨rfl,rfl,rfl⟩ (fun hm=>ho _ _ hm (Gh.fU _ _ _ _)) hno.gH
 refine⟨k1,h2.trans k2,?_⟩
 intro b hb hm _
 refine⟨by rw[Gh.gk g (by omega)];exact hm,?_⟩
 rw[af.dR,aeX (by omega)]
def xF (hr:aR P g h w)(hlb:lb<=h.next)(hf:mo P g h w lb h.next true (bf bfn benv btodo bds bkd bro) (rf fn tmps ftodo ds kd ro))(henv:ak P g w benv tmps.toList)(hc:ly P g h w au lb bs cs){jump:Option Code}{s':av}
 (e:ye P (bf bfn benv btodo bds bkd bro) bs h jump=some s')
 (hret:ro=none->(jump=none\/jump=some .ret)->(stepG P true {frame:=rf fn tmps ftodo ds kd ro,callers:=cs,status:= .running,dying:=none} w).bare= .go {frame:={rf fn tmps ftodo ds kd ro with mode:= .returning},callers:=cs,status:= .running,dying:=none} w)
 (hround:∀l v w1,ro=some l->(Instr.endRound l jump).run P w= .ok v w1->(stepG P true {frame:=rf fn tmps ftodo ds kd ro,callers:=cs,status:= .running,dying:=none} w).bare=(doReturn P true (rf fn tmps ftodo ds kd ro) cs none v w1).bare):
 dM P au g h w s' (lone (rf fn tmps ftodo ds kd ro) cs w):=
 dM.wL (Uw hr hlb hf rfl henv hc e hret hround)
def XH (hmix:P.follows .mixedOrders=true)(hr:aR P g h w)(hlb:lb<=h.next){c:Code}{k:List dI}{ir:List Item}
 (hf:mo P g h w lb h.next true (bf bfn benv (.code c::k) bds bkd bro) (rf fn tmps (.code c::ir) ds kd ro))(hc:ly P g h w au lb bs cs)
 (henv:ak P g w benv tmps.toList)(hir:bT g k ir)(hnr:∀f' ps a b',c≠ .rangeFunc f' ps a b'){s':av}(e:dj P {fr:=bf bfn benv (.code c::k) bds bkd bro,cs:=bs,h}=some s'):
 dM P au g h w s' (lone (rf fn tmps (.code c::ir) ds kd ro) cs w):=by
 cases c with
 |skip=>simp only[dj]at e;cases e;exact Pz hr hlb hf hc henv hir abo
 |label l=>simp only[dj]at e;cases e;exact Pz hr hlb hf hc henv hir YI
 |seq x y=>simp only[dj]at e;cases e;exact Pz hr hlb hf hc henv (btodo':= .code x:: .code y::k) ⟨_,_,rfl,rfl,_,_,rfl,rfl,hir⟩ ac9
 |cond x t u=>
  simp only[dj]at e
  split at e
  ·rename_i tb hx
   cases e
   have hx':=E6 henv (rf fn tmps (.code (.cond x t u)::ir) ds kd ro) rfl x
   rw[hx]at hx'
   simp only[ai]at hx'
   exact Pz hr hlb hf hc henv (btodo':= .code (if tb then t else u)::k) ⟨_,_,rfl,rfl,hir⟩ (abj hx')
  ·cases e
 |block l x=>simp only[dj]at e;cases e;exact Pz hr hlb hf hc henv (btodo':= .code x:: .inBlock l::k) ⟨_,_,rfl,rfl,_,_,rfl,rfl,hir⟩ YF
 |loop x=>simp only[dj]at e;cases e;exact Pz hr hlb hf hc henv (btodo':= .code x:: .inLoop x::k) ⟨_,_,rfl,rfl,_,_,rfl,rfl,hir⟩ abn
 |scope x=>simp only[dj]at e;cases e;exact Pz hr hlb hf hc henv (btodo':= .code x:: .inScope x::k) ⟨_,_,rfl,rfl,_,_,rfl,rfl,hir⟩ YK
 |ret=>
  simp only[dj]at e
  refine xF hr hlb hf henv hc e (fun hro _=>?_) (fun l v w1 hro hrun=>?_)
  ·subst hro;simp[stepG,stepG.exec]
  ·subst hro;simp[stepG,stepG.exec,hrun]
 |exit id=>
  simp only[dj]at e
  obtain⟨h1,h2⟩:=Zj (id:=id) hir
  split at e
  ·rename_i k' hk'
   obtain⟨i',h3,h4⟩:=h1 _ hk'
   cases e
   exact Pz hr hlb hf hc henv h4 (abl h3)
  ·rename_i hk'
   have hn:=h2 hk'
   refine xF hr hlb hf henv hc e (fun hro hj=>by rcases hj with hj|hj<;>cases hj) (fun l v w1 hro hrun=>?_)
   subst hro;simp[stepG,stepG.exec,hrun,hn]
 |goto l=>
  simp only[dj]at e
  obtain⟨h1,h2⟩:=Zw (l:=l) hir
  split at e
  ·rename_i k' hk'
   obtain⟨i',h3,h4⟩:=h1 _ hk'
   cases e
   exact Pz hr hlb hf hc henv h4 (abm h3)
  ·rename_i hk'
   have hn:=h2 hk'
   refine xF hr hlb hf henv hc e (fun hro hj=>by rcases hj with hj|hj<;>cases hj) (fun l v w1 hro hrun=>?_)
   subst hro;simp[stepG,stepG.exec,hrun,hn]
 |refuse s=>simp only[dj]at e;cases e
 |rangeFunc f' ps a b'=>exact absurd rfl (hnr _ _ _ _)
 |region id aN draw=>
  simp only[dj]at e
  split at e
  ·rename_i hdr
   have hdr:draw=false:=by simpa using hdr
   subst hdr
   cases e
   exact Pz hr hlb hf hc henv (btodo':= .inRegion aN (List.range aN.size)::k) ⟨_,_,rfl,rfl,hir⟩ Vl
  ·rename_i hdr
   have hdr:draw=true:=by simpa using hdr
   subst hdr
   split at e
   ·cases e
   ·rename_i hok
    rw[afu,Bool.not_eq_false,aeV]at hok
    simp only[afz]at e
    obtain⟨⟨h1,aF⟩,e1,e2⟩:=e
    dsimp only at e2
    cases e2
    obtain⟨t,hst⟩:=abk (P:=P) (w:=w) (cs:=cs) (fn:=fn) (tmps:=tmps) (ds:=ds) (kd:=kd) (ro:=ro) (k:=ir) (id:=id) (aN:=aN) hmix
    obtain⟨hr1,x1⟩:=hr.same (w':={w with drawn:=w.drawn+1}) rfl ⟨rfl,rfl,rfl⟩
    have henv1:=ak.mono x1.mono _ _ henv
    obtain⟨ph,hr2,x2,p2,hd⟩:=Ta (lb:=lb) (tmps:=tmps) hr1 henv1 hok.1 hok.2 hlb t e1
    have x12:=x1.trans x2
    refine⟨g,_,lb,_,cs,Steps.one hst,⟨hr2,afw hlb x2.next,?_,hc.mono x12.mono (p2.lt hlb)⟩,x12⟩
    refine⟨hf.fn,hf.kind,hf.jZ,hf.defers.mono x12.mono,hf.mode,hf.round.mono x12.mono,fun _=>?_,fun h=>absurd rfl h⟩
    unfold cQ
    dsimp only
    exact⟨rfl,_,_,rfl,hir.mono x12.mono,h1,fun _=>rfl,⟨ph,hd⟩,fun h=>by cases h⟩
def KK (hr:aR P g h w)(hlb:lb<=h.next){rfo:Operand}{ps:Array Nat}{asg body:Code}{k:List dI}{ir:List Item}
 (hf:mo P g h w lb h.next true (bf bfn benv (.code (.rangeFunc rfo ps asg body)::k) bds bkd bro) (rf fn tmps (.code (.rangeFunc rfo ps asg body)::ir) ds kd ro))(hc:ly P g h w au lb bs cs)
 (henv:ak P g w benv tmps.toList)(hir:bT g k ir){s':av}(e:dj P {fr:=bf bfn benv (.code (.rangeFunc rfo ps asg body)::k) bds bkd bro,cs:=bs,h}=some s'):
 dM P au g h w s' (lone (rf fn tmps (.code (.rangeFunc rfo ps asg body)::ir) ds kd ro) cs w):=by
 have key:∀(g1:Gh) (h1:af) (w1:World) (aA blk':Nat) (mark:List tZ) (mark':List Deferred),aR P g1 h1 w1->gN g h w g1 h1 w1->Ph g h g1 h1->g1.m aA=some (blk',0)->iv P g1 w1 mark mark'->
  (Instr.enterLoop fn tmps ps asg body ro).run P w= .ok (w1.heap.size,mark') (w1.alloc (.loop {state:= .ready,pending:=none,fn,tmps,params:=ps,assign:=asg,body,defers:=blk'}))->
  ((Fw (uC benv rfo) [.yield h1.next]).bind fun d=>
     (xE P (h1.new (.loop {state:= .ready,pending:=none,fn:=bfn,tmps:=benv,params:=ps,assign:=asg,body,defers:=aA})) d.target d.args).bind fun r=>match r with
       | (.enter g args,h3)=>lA P {fn:=bfn,cx:=benv,todo:= .inRangeFunc h1.next::k,defers:=mark++bds,mode:= .run,kind:=bkd,roundOf:=bro} bs .normal (.enter g args,h3)|_=>none)=some s'->
  dM P au g h w s' (lone (rf fn tmps (.code (.rangeFunc rfo ps asg body)::ir) ds kd ro) cs w):=by
  intro g1 h1 w1 aA blk' mark mark' hr1 x1 p1 hblk hmark hrun e
  have hfn:bfn=fn:=hf.fn
  subst hfn
  generalize hH:h1.new (.loop {state:= .ready,pending:=none,fn:=bfn,tmps:=benv,params:=ps,assign:=asg,body,defers:=aA})=H at e
  generalize hW:w1.alloc (.loop {state:= .ready,pending:=none,fn:=bfn,tmps,params:=ps,assign:=asg,body,defers:=blk'})=W at hrun
  have hmk:aR P (g1.ym h1.next w1.heap.size 0) H W/\gN g1 h1 w1 (g1.ym h1.next w1.heap.size 0) H W/\Ph g1 h1 (g1.ym h1.next w1.heap.size 0) H:=by
   rw[<-hH,<-hW]
   refine hr1.make (fun g' w' hm _=>?_)
   simp only[cL]
   exact⟨trivial,_,rfl,rfl,rfl,rfl,ak.mono (x1.mono.trans hm) _ _ henv,rfl,rfl,rfl,hm.mm _ _ hblk⟩
  obtain⟨hr2,x2,p2⟩:=hmk
  have x12:=x1.trans x2
  have p12:Ph g h _ _:=p1.trans x1.next p2
  simp only[ahi]at e
  obtain⟨d,hd,⟨n,h3⟩,hi,e⟩:=e
  cases n<;>try (cases e;done)
  rename_i gid args
  dsimp only at e
  have henv2:=ak.mono x12.mono _ _ henv
  have hfo:=E6 henv2 (rf bfn tmps (.inRangeFunc w1.heap.size::ir) (mark'++ds) kd ro) rfl rfo
  have hyv:ak P (g1.ym h1.next w1.heap.size 0) W [.yield h1.next] (#[Value.func (.yield w1.heap.size) #[] #[]]:Array Value).toList:=by
   simp only[ak]
   exact⟨_,_,rfl,by simp only[ai];exact⟨_,Gh.fU _ _ _ _,rfl⟩,rfl⟩
  obtain⟨d',hd',hdr⟩:=J4 hr2 hfo hyv hd
  have hdone:=D9 hr2 hdr.1 hdr.2 hi
  have hf2:mo P (g1.ym h1.next w1.heap.size 0) H W lb H.next false
   {fn:=bfn,cx:=benv,todo:= .inRangeFunc h1.next::k,defers:=mark++bds,mode:= .run,kind:=bkd,roundOf:=bro} (rf bfn tmps (.inRangeFunc w1.heap.size::ir) (mark'++ds) kd ro):=
   ⟨rfl,hf.kind,hf.jZ,(hmark.mono x2.mono).append (hf.defers.mono x12.mono),rfl,hf.round.mono x12.mono,fun _=>
     cQ.plain (todo:= .inRangeFunc h1.next::k) (f:=rf bfn tmps (.inRangeFunc w1.heap.size::ir) (mark'++ds) kd ro) henv2 ⟨_,_,rfl,⟨_,Gh.fU _ _ _ _,rfl⟩,hir.mono x12.mono⟩ rfl rfl,fun h=>absurd rfl h⟩
  have hs:((do let d<-resolve (rf bfn tmps (.inRangeFunc w1.heap.size::ir) (mark'++ds) kd ro).eval {callee:= .value rfo,args:=#[.const (.func (.yield w1.heap.size) #[] #[])],argTypes:=#[]} 0;invoke d.target d.args):Sem Next).run P W=
   (invoke d'.target d'.args).run P W:=by
   refine(Sem.run_bind P _ _ _).trans ?_
   have:(resolve (rf bfn tmps (.inRangeFunc w1.heap.size::ir) (mark'++ds) kd ro).eval {callee:= .value rfo,args:=#[.const (.func (.yield w1.heap.size) #[] #[])],argTypes:=#[]} 0)=Deferred.ofValue ((rf bfn tmps (.inRangeFunc w1.heap.size::ir) (mark'++ds) kd ro).eval rfo) #[Value.func (.yield w1.heap.size) #[] #[]]:=by simp[resolve,Frame.eval]
   rw[this,hd',Result.andThen_ok]
  have hap:=CO (s:=do let d<-resolve (rf bfn tmps (.inRangeFunc w1.heap.size::ir) (mark'++ds) kd ro).eval {callee:= .value rfo,args:=#[.const (.func (.yield w1.heap.size) #[] #[])],argTypes:=#[]} 0;invoke d.target d.args)
   hr2 (afw hlb x12.next) hf2 rfl (hc.mono x12.mono (p12.lt hlb)) (by rw[hs];exact hdone) e
  refine dM.wL (uo.ext x12 (uo.ZT ?_ hap))
  simp only[stepG,stepG.exec,Sem.runT_eq,hrun,GStep.bare_after]
 simp only[dj]at e
 have hround:=hf.round
 cases bro with
 |none=>
  have hro:ro=none:=hround
  subst hro
  obtain⟨hr1,x1,p1⟩:=hr.make (o:= .deferred (some [])) (co:= .deferred (some [])) (fun g' w' _ _=>by simp only[cL];exact⟨trivial,[],rfl,by simp[iv]⟩)
  refine key _ _ _ h.next w.heap.size _ [{target:= .collected w.heap.size,args:=#[]}] hr1 x1 p1 (Gh.fU _ _ _ _) ?_ ?_ e
  ·exact⟨_,_,rfl,⟨by simp only[ux];exact⟨_,Gh.fU _ _ _ _,rfl⟩,by simp[ak]⟩,rfl⟩
  ·rw[run_enterLoop_outer,World.size_alloc]
 |some l=>
  simp only[kI]at hround
  obtain⟨l',hm,hro⟩:=hround
  have hro:ro=some l':=hro
  subst hro
  dsimp only at e
  cases hb:h.get l with
  |none=>rw[hb]at e;cases e
  |some o=>
   rw[hb]at e
   cases o<;>try (cases e;done)
   rename_i r
   obtain⟨r',hw,hl,_⟩:=Ag hr hb hm
   refine key g h w r.defers r'.defers [] [] hr (gN.refl _ _ _) (Ph.refl _ _) hl.2.2.2.2.2.2.2 (by simp[iv]) ?_ e
   rw[run_enterLoop_inner hw]
end
end
section
section
variable {P:Program} {g g':Gh} {h h':af} {w w':World} {lb ub:Nat} {au:rG} {b b':aZ} {f:Frame} {bs:List aZ} {cs:List Frame}
def XP (hmix:P.follows .mixedOrders=true){s s':av}(hs:LA P au g w lb s f cs)(e:dj P s=some s'):dM P au g s.h w s' (lone f cs w):=by
 obtain⟨⟨bfn,benv,btodo,bds,bmode,bkd,bro⟩,bs,h⟩:=s
 obtain⟨hr,hlb,hf,hc⟩:=hs
 obtain⟨fn,tmps,ftodo,ds,fmode,kd,ro⟩:=f
 dsimp only at hr hlb hf hc ⊢
 by_cases hmode:bmode= .run
 case neg=>
  have e':xP P {fn:=bfn,cx:=benv,todo:=btodo,defers:=bds,mode:=bmode,kind:=bkd,roundOf:=bro} bs h=some s':=by
   unfold dj at e
   cases bmode<;>first|exact absurd rfl hmode|exact e
  have hu:=Rf hr hlb hf hmode hc e'
  have hfm:=hf.mode
  refine dM.wL ?_
  have:stepG P true {frame:={fn:=fn,tmps:=tmps,todo:=ftodo,defers:=ds,mode:=fmode,kind:=kd,roundOf:=ro},callers:=cs,status:= .running,dying:=none} w=
   unwind P true {fn:=fn,tmps:=tmps,todo:=ftodo,defers:=ds,mode:=fmode,kind:=kd,roundOf:=ro} cs none w:=by
   dsimp only at hfm
   cases bmode with
   |run=>exact absurd rfl hmode
   |returning=>simp only[sn]at hfm;subst hfm;simp[stepG]
  rw[this];exact hu
 case pos=>
  subst hmode
  have hfm:fmode= .run:=hf.mode
  subst hfm
  have hplain:∀i k,btodo=i::k->(∀d,i≠ .fQ d)->ak P g w benv tmps.toList/\bT g (i::k) ftodo:=by
   intro i k hb hnd
   have hrun:=hf.run rfl
   unfold cQ at hrun
   split at hrun
   ·rename_i d k' ht
    dsimp only at ht
    rw[hb]at ht
    cases ht
    exact absurd rfl (hnd d)
   ·dsimp only at hrun
    rw[hb]at hrun
    exact hrun
  cases btodo with
  |nil=>
   have hrun:=hf.run rfl
   unfold cQ at hrun
   dsimp only at hrun
   obtain⟨henv,hi⟩:=hrun
   simp only[bT]at hi
   subst hi
   simp only[dj]at e
   refine xF hr hlb hf henv hc e (fun hro _=>?_) (fun l v w1 hro hrun=>?_)
   ·subst hro;simp[stepG,stepG.exec]
   ·subst hro;simp[stepG,stepG.exec,hrun]
  |cons i k=>
   by_cases hnd:∀d,i≠ .fQ d
   case neg=>
    have:∃d,i= .fQ d:=afV fun hn=>hnd fun d hd=>hn ⟨d,hd⟩
    obtain⟨d,rfl⟩:=this
    exact XI hr hlb hf hc e
   case pos=>
    obtain⟨henv,hi⟩:=hplain i k rfl hnd
    simp only[bT]at hi
    obtain⟨it,ir,rfl,hit,hir⟩:=hi
    cases i with
    |fQ d=>exact absurd rfl (hnd d)
    |code c=>
     simp only[eZ]at hit
     subst hit
     by_cases hrf:∃f' ps a b',c= .rangeFunc f' ps a b'
     ·obtain⟨f',ps,a,b',rfl⟩:=hrf
      exact KK hr hlb hf hc henv hir e
     ·exact XH hmix hr hlb hf hc henv hir (fun f' ps a b' hc=>hrf ⟨f',ps,a,b',hc⟩) e
    |inBlock l=>
     simp only[eZ]at hit
     subst hit
     simp only[dj]at e;cases e
     exact Pz hr hlb hf hc henv hir SP
    |inLoop c=>
     simp only[eZ]at hit
     subst hit
     simp only[dj]at e;cases e
     exact Pz hr hlb hf hc henv (btodo':= .code c:: .inLoop c::k) ⟨_,_,rfl,rfl,_,_,rfl,rfl,hir⟩ Vk
    |inScope c=>
     simp only[eZ]at hit
     subst hit
     simp only[dj]at e;cases e
     exact Pz hr hlb hf hc henv hir SQ
    |inRegion aN todo=>
     simp only[eZ]at hit
     subst hit
     cases todo with
     |nil=>simp only[dj]at e;cases e;exact Pz hr hlb hf hc henv hir Hb
     |cons i rest=>exact Re hr hlb hf hc henv hir e
    |inRangeFunc l=>simp only[dj]at e;cases e
    |endRangeFunc l=>
     simp only[eZ]at hit
     obtain⟨aA,hm,rfl⟩:=hit
     simp only[dj]at e
     split at e
     ·rename_i r hb
      split at e
      ·cases e
      ·rename_i hnb
       cases e
       obtain⟨r',hw,hl,hwr⟩:=Ag hr hb hm
       obtain⟨h1,x1⟩:=hwr .exhausted r.pending
       have hrun:=run_endLoop (P:=P) hw (by rw[<-hl.1];exact hnb)
       have hpe:r.pending=r'.pending:=hl.2.1
       rw[hpe]at h1 x1
       refine⟨g,_,lb,rf fn tmps ((r'.pending.map Item.code).toList++ir) ds kd ro,cs,Steps.one (step_lone_go ?_),⟨by rw[hpe];exact h1,by simpa using hlb,?_,?_⟩,by rw[hpe];exact x1⟩
       ·simp only[stepG,stepG.exec,Sem.runT_eq,hrun,GStep.bare_after,GStep.bare_go]
       ·have hmono:=x1.mono
        refine⟨hf.fn,hf.kind,hf.jZ,hf.defers.mono hmono,hf.mode,hf.round.mono hmono,fun _=>?_,fun h=>absurd rfl h⟩
        refine cQ.plain (todo:=(r.pending.map dI.code).toList++k) (f:=rf fn tmps ((r'.pending.map Item.code).toList++ir) ds kd ro) (ak.mono hmono _ _ henv) ?_ rfl rfl
        rw[hpe]
        cases r'.pending with
        |none=>exact hir.mono hmono
        |some c=>exact⟨_,_,rfl,rfl,hir.mono hmono⟩
       ·rw[hpe];exact hc.mono x1.mono ((Ph.put hm _).lt hlb)
     ·cases e
    |beginRound=>
     simp only[eZ]at hit
     subst hit
     simp only[dj]at e
     have hround:=hf.round
     split at e
     ·rename_i l
      simp only[kI]at hround
      obtain⟨aA,hm,hro⟩:=hround
      have hro:ro=some aA:=hro
      subst hro
      split at e
      ·rename_i r hb
       split at e
       ·rename_i hst
        cases e
        obtain⟨r',hw,hl,hwr⟩:=Ag hr hb hm
        obtain⟨h1,x1⟩:=hwr .busy r.pending
        have hrun:=run_beginRound (P:=P) hw (by rw[<-hl.1];exact hst)
        have hpe:r.pending=r'.pending:=hl.2.1
        have hmono:=x1.mono
        refine⟨g,_,lb,rf fn tmps ir ds kd (some aA),cs,Steps.one (step_lone_go ?_),⟨h1,by simpa using hlb,?_,?_⟩,x1⟩
        ·rw[hpe]
         simp[stepG,stepG.exec,stepG.apply,Sem.runT_eq,Sem.run_bind,hrun,Frame.finish]
        ·exact⟨hf.fn,hf.kind,hf.jZ,hf.defers.mono hmono,hf.mode,⟨aA,hm,rfl⟩,fun _=>cQ.plain (f:=rf fn tmps ir ds kd (some aA)) (ak.mono hmono _ _ henv) (hir.mono hmono) rfl rfl,fun h=>absurd rfl h⟩
        ·exact hc.mono x1.mono ((Ph.put hm _).lt hlb)
       ·cases e
      ·cases e
     ·cases e
end
end
section
noncomputable section
structure CU (w w':World):Prop where
 size:w.heap.size<=w'.heap.size
 heap:∀c,c<w.heap.size->w'.heap[c]?=w.heap[c]?
 os:w'.os=w.os
 output:w'.output=w.output
 tape:w'.tape=w.tape
def CU.below {w w':World}(h:CU w w'):_root_.Go.RowKit.Below w.heap.size w w':=⟨h.os,h.tape,h.output,h.size,h.heap⟩
def CU.refl (w:World):CU w w:=⟨afa _,fun _ _=>rfl,rfl,rfl,rfl⟩
def Ko:List (Nat×ax)->Tr ax->Tr ax
 | [],t=>t
 | (b,o)::r,t=>Ko r (Tr.C4 (b+1) t b (some o))
section
variable {P:Program} {g g':Gh} {h h':af} {w w':World} {lb ub:Nat} {f:Frame} {cs c0:List Frame}
def aR.Wg (hr:aR P g h w)(hk:CU w w'):aR P g h w'/\gN g h w g h w':=by
 have hm:eA g w g w':=⟨fun _ _ e=>e,fun _ e=>e,fun c hc=>hk.heap c (hr.lF c hc),fun c s hs=>by
  have hlt:c<w.heap.size:=by
   unfold World.shape? at hs
   by_cases hc:c<w.heap.size
   ·exact hc
   ·have:w.heap[c]?=none:=by simp;omega
    rw[this]at hs;cases hs
  rw[fS (w:=w) (hk.heap c hlt)];exact hs,fun _ _ _ e=>e⟩
 refine⟨hr.nm.Ln (fun l x y e=>afk (hr.mR l x y e) hk.size) hr.mS ?_ (fun c hc=>afk (hr.lF c hc) hk.size),
  ⟨hm,hk.size,fun c hc _=>hk.heap c hc,fun _ _ e=>e,fun _ _ h=> .inl h,afa _,hk.os,hk.output,hk.tape⟩⟩
 intro l o aA au h1 m1
 obtain⟨n,o',ho,hr'⟩:=hr.pZ _ _ _ _ h1 m1
 exact⟨n,o',(hk.heap aA (hr.mR _ _ _ m1)).trans ho,hr'.mono hm⟩
def Jo {fid:FuncId}{as:List BV}{b:aZ}{top:Bool}(e:dn P fid as .normal=some b)(hf:mo P g h w lb ub top b f):∃as':Array Value,ak P g w as as'.toList/\f=Frame.enter P fid as' .normal:=by
 unfold dn at e
 split at e
 ·rename_i fn hfn
  split at e
  ·rename_i c hb
   cases e
   obtain⟨ffn,ftmps,ftodo,fds,fmode,fkind,fro⟩:=f
   have h1:fid=ffn:=hf.fn
   have h2:CallKind.normal=fkind:=hf.kind
   have h3:fmode= .run:=hf.mode
   have h4:fro=none:=hf.round
   have h5:=hf.defers
   simp only[iv]at h5
   have h6:=hf.run rfl
   unfold cQ at h6
   dsimp only at h6
   obtain⟨henv,hit⟩:=h6
   simp only[bT,eZ]at hit
   obtain⟨it,ir,ht,hi,rfl⟩:=hit
   subst h1 h2 h3 h4 h5 hi ht
   have hlen:=henv.length
   simp only[ae4,af5]at hlen
   refine⟨(ftmps.toList.take as.length).toArray,?_,?_⟩
   ·have:=henv.take as.length
    simpa using this
   ·have htail:ftmps.toList.drop as.length=List.replicate (fn.ntmps-as.length) undef:=by
     have hd:=henv.drop as.length
     rw[List.drop_left]at hd
     apply agY
     intro i
     rw[agf]
     by_cases hi:i<fn.ntmps-as.length
     ·rw[aeZ hi]
      obtain⟨v,h1,h2⟩:=hd.get (i:=i) (b:=BV.undef) (by rw[agf,aeZ hi])
      rw[h1]
      simp only[BV.undef,ai]at h2
      obtain⟨vs,rfl,h3⟩:=h2
      simp only[ak]at h3
      have:vs=#[]:=by apply agH;simpa using h3
      rw[this];rfl
     ·rw[aeX hi]
      have:=hd.length
      simp only[af5]at this
      rw[aga];omega
    have htm:ftmps=(ftmps.toList.take as.length).toArray++Array.replicate (fn.ntmps-(ftmps.toList.take as.length).toArray.size) undef:=by
     apply agH
     rw[agM,ahj]
     have hsz:(ftmps.toList.take as.length).toArray.size=as.length:=by simp;rw[<-agL];omega
     rw[hsz,<-htail]
     simp
    unfold Frame.enter
    simp only[hfn,afb,af1,af9,hb]
    rw[<-htm]
  ·cases e
 ·cases e
def Qh {s:av}(h:s.ended=true):s.cs=[]/\s.fr.mode= .returning/\s.fr.defers=[]:=by
 simp only[av.ended,aeV,ahW]at h
 obtain⟨⟨h1,h2⟩,h3⟩:=h
 refine⟨h1,?_,h3⟩
 cases hmm:s.fr.mode<;>rw[hmm]at h2<;>first|rfl| (cases h2;done)
def KE {n:Nat}(hn:0<n):∃i w1,i<n/\(choose (.mapNext n)).run P w= .ok i w1/\w1.heap=w.heap/\(w1.os=w.os/\w1.output=w.output/\w1.tape=w.tape):=by
 by_cases h1:n<=1
 ·exact⟨0,w,by omega,by simp[choose,Sem.run,Question.forced,h1],rfl,rfl,rfl,rfl⟩
 ·refine⟨w.tape w.drawn (.mapNext n) % n,{w with drawn:=w.drawn+1},ahy _ hn,?_,rfl,rfl,rfl,rfl⟩
  have:Question.forced (.mapNext n)=false:=by simp[Question.forced];omega
  simp[choose,Sem.run,this,Question.cut]
def J7 {ks:List D}{st:List Nat}{k:D}(hl:st.length=ks.length)(hn:ks.Nodup)(hk:k∈ks):∃i:Nat,ks[i]?=some k/\st[i]?=some (D.iA ks st k):=by
 obtain⟨i,hi⟩:=af3 hk
 have hil:i<st.length:=by rw[hl];exact(ae1.1 hi).1
 have hs:=aeY hil
 exact⟨i,hi,by rw[D.wR hn hi hs];exact hs⟩
def Ux (hr:aR P g h w){ty:TypeId}{r m:Nat}{ks:List D}{st:List Nat}{ck:Nat}{seen:List D}{kt:TypeId}{vk:VK}{l:List (D×D)}{st':List Nat}{ck':Nat}{it':Value}
 (hb:h.get r=some (.jS m ks st ck seen))(hb2:h.get m=some (.bo kt vk l st' ck'))(hsame:tR l st' ck' ks st ck=true)(hi:ai P g w (.aG r 0) it'):
 ((∀k∈ks,k∈seen)/\iy P g h w (.tuple [.bool false]) h ((Instr.next it' false ty).run P w))\/
 ∃k,k∈ks/\k∉seen/\(∀p,xN P m kt vk l k=some p->iy P g h w (.tuple [.bool true,p.1,p.2]) (h.put r (some (.jS m ks st ck (k::seen)))) ((Instr.next it' false ty).run P w)):=by
 have hsame:D.cX l=ks/\st'=st/\ck'=ck:=by unfold tR at hsame;simpa using hsame
 obtain⟨hks,rfl,rfl⟩:=hsame
 simp only[ai]at hi;obtain⟨aA,au,hm,rfl⟩:=hi
 obtain⟨o',hw,ho⟩:=hr.adK hb hm
 simp only[cL]at ho
 obtain⟨rfl,blk2,hm2,hseen,rfl⟩:=ho
 obtain⟨_,es,hw2,hrel⟩:=hr.HM hb2 hm2
 have hsl:st'.length=ks.length:=by rw[<-hks,D.tF,hrel.sl]
 have hnd:ks.Nodup:=by rw[<-hks];exact hrel.nd
 have hget:(getObj aA).run P w= .ok (.mapIter (some blk2) ck' (seen.reverse.map (D.iA ks st')).toArray ck') w:=by simp[getObj,Sem.run,hw]
 have hget2:=jc (P:=P) hw2
 have hent:∀d,d∈es->∃(i:Nat) (p:D×D),l[i]?=some p/\es.toList[i]?=some d/\d.born=D.iA ks st' p.1/\st'[i]?=some d.born:=fun d hd=>by
  obtain⟨i,hi⟩:=af3 (show d∈es.toList by simpa using hd)
  have hil:i<l.length:=by have:=(ae1.1 hi).1;rw[hrel.len]at this;exact this
  have hp:=aeY hil
  have hs:=aeY (show i<st'.length by rw[hrel.sl];exact hil)
  have hbn:=hrel.born i _ d hs hi
  have:=D.wR (st:=st') hrel.nd (D.jO hp) hs
  rw[hks]at this
  exact⟨i,_,hp,hi,by rw[this,hbn],by rw[hbn];exact hs⟩
 have hsb:∀k,k∈ks->((seen.reverse.map (D.iA ks st')).contains (D.iA ks st' k)=true↔k∈seen):=by
  intro k hk
  simp only[ahv,afy,List.mem_reverse]
  constructor
  ·rintro⟨j,hj,he⟩
   obtain⟨i1,a1,a2⟩:=J7 hsl hnd (hseen j hj)
   obtain⟨i2,b1,b2⟩:=J7 hsl hnd hk
   rw[he]at a2
   have:i1=i2:=(agZ (ae1.1 a2).1 hrel.snd).1 (a2.trans b2.symm)
   subst this
   rw[a1]at b1;cases b1;exact hj
  ·intro hk';exact⟨k,hk',rfl⟩
 have hkm:∀(i:Nat) p,l[i]?=some p->p.1∈ks:=fun i p hp=>by rw[<-hks];exact aeU (D.jO hp)
 have hcond:(!(seen.reverse.map (D.iA ks st')).toArray.isEmpty&&!es.isEmpty&&es.all (fun e=>decide (e.born≥ck')))=false:=by
  by_cases h0:es.isEmpty=true
  ·simp[h0]
  ·have hall:es.all (fun e=>decide (e.born≥ck'))=false:=by
    rw[ahR]
    intro hc
    rw[agD]at hc
    have hpos:0<es.size:=by
     rcases ahf es.size with h|h
     ·exact absurd (by rw[agN];exact h) h0
     ·exact h
    have h1:=hc es[0] (Array.getElem_mem hpos)
    obtain⟨i,p,_,_,_,h4⟩:=hent es[0] (Array.getElem_mem hpos)
    have h2:=hrel.Eh _ (aeU h4)
    simp at h1
    omega
   simp[hall]
 generalize hO':((es.filter fun e=>!(seen.reverse.map (D.iA ks st')).toArray.contains e.born).filter fun e=>decide (e.born<ck'))=O'
 generalize hN':((es.filter fun e=>!(seen.reverse.map (D.iA ks st')).toArray.contains e.born).filter fun e=>decide (e.born≥ck'))=N'
 have hN0:N'=#[]:=by
  rw[<-hN',Array.filter_eq_empty_iff]
  intro x hx
  have hx1:x∈es:=(ag6.1 hx).1
  obtain⟨i,p,_,_,_,h4⟩:=hent x hx1
  have:=hrel.Eh _ (aeU h4)
  simp
  omega
 subst hN0
 have hOm:∀d,d∈O'->∃(i:Nat) (p:D×D),l[i]?=some p/\es.toList[i]?=some d/\d.born=D.iA ks st' p.1/\p.1∉seen:=by
  intro d hd
  rw[<-hO']at hd
  have hd1:=(ag6.1 hd).1
  have hd2:=ag6.1 hd1
  obtain⟨i,p,k1,k2,k3,_⟩:=hent d hd2.1
  refine⟨i,p,k1,k2,k3,fun hk=>?_⟩
  have h5:=hd2.2
  have h6:=(hsb p.1 (hkm i p k1)).2 hk
  rw[k3]at h5
  simp only[ah9,h6]at h5
  cases h5
 have hOe:O'.isEmpty=true->∀k∈ks,k∈seen:=by
  intro h0 k hk
  obtain⟨i,hi⟩:=af3 hk
  rw[<-hks]at hi
  obtain⟨p,hp,hpk⟩:=D.Ld hi
  have hil:=(ae1.1 hp).1
  obtain⟨d,hd⟩:∃d,es.toList[i]?=some d:=⟨_,aeY (show i<es.toList.length by rw[hrel.len];exact hil)⟩
  have hdm:d∈es:=by simpa using aeU hd
  have hs:=aeY (show i<st'.length by rw[hrel.sl];exact hil)
  have hbn:=hrel.born i _ d hs hd
  have hst:=D.wR (st:=st') hrel.nd (D.jO hp) hs
  rw[hks,hpk]at hst
  apply afV
  intro hns
  have hdO:d∈O':=by
   rw[<-hO',ag6,ag6]
   refine⟨⟨hdm,?_⟩,?_⟩
   ·rw[hbn,<-hst]
    have:=fun h=>hns ((hsb k hk).1 h)
    simp only[ah9]
    cases hc:(seen.reverse.map (D.iA ks st')).contains (D.iA ks st' k)with
    |true=>exact absurd hc this
    |false=>rfl
   ·have:=hrel.Eh _ (aeU hs)
    rw[hbn];simpa using this
  have hO0:O'=#[]:=ahw (by rw[agN]at h0;exact h0)
  rw[hO0]at hdO
  simp at hdO
 let C:Array (Option MapEntry):=(if O'.isEmpty then #[none]else #[])++(O'++#[]).map some
 have hpos:0<C.size:=by
  by_cases h0:O'.isEmpty=true
  ·simp only[C,h0,afq,Array.size_append]
   exact afk (by decide:0<1) (Nat.le_add_right 1 _)
  ·have:O'.size≠0:=fun h=>h0 (by rw[agN];exact h)
   simp[C,h0];omega
 obtain⟨i,w1,hi,hrun,hheap,hos⟩:=KE (P:=P) (w:=w) hpos
 obtain⟨hr1,x1⟩:=hr.same hheap hos
 have hCi:C[i]?=some C[i]:=afs hi
 cases hcc:C[i]with
 |none=>
  have h0:O'.isEmpty=true:=by
   by_cases h0:O'.isEmpty=true
   ·exact h0
   ·exfalso
    have hmm:none∈C:=Array.mem_of_getElem? (by rw[hCi,hcc])
    simp only[C,h0,afS,ae0]at hmm
    simp at hmm
  rw[hcc]at hCi
  left
  refine⟨hOe h0,.tuple #[.bool false],g,w1,?_,hr1,x1,Ph.refl _ _,by simp only[ai];exact⟨_,rfl,ak.cons (by simp[ai]) ak.nil⟩⟩
  simp only[Instr.next,af6,Sem.run_bind,hget,hget2,Result.andThen_ok,hcond,ae0,afS,hO',hN']
  rw[show (if O'.isEmpty=true then #[none]else #[])++Array.map some (O'++#[])=C from rfl,hrun]
  simp only[Result.andThen_ok,hCi,Sem.run_pure]
 |some d=>
  rw[hcc]at hCi
  have hdO:d∈O':=by
   have hmm:some d∈C:=by rw[Array.mem_iff_getElem?];exact⟨i,hCi⟩
   simp only[C]at hmm
   rw[Array.mem_append]at hmm
   rcases hmm with hmm|hmm
   ·split at hmm<;>simp at hmm
   ·simpa using hmm
  obtain⟨j,p,hj,hd,hbn,hns⟩:=hOm d hdO
  right
  refine⟨p.1,hkm j p hj,hns,fun q hq=>?_⟩
  have hw1:w1.heap[aA]?=some (.mapIter (some blk2) ck' (seen.reverse.map (D.iA ks st')).toArray ck'):=by rw[hheap];exact hw
  have hput:=hr1.Kd (o':= .jS m ks st' ck' (p.1::seen)) (co':= .mapIter (some blk2) ck' ((seen.reverse.map (D.iA ks st')).toArray.push d.born) ck') hb hm hw1 (w':=w1.dL aA (.mapIter (some blk2) ck' ((seen.reverse.map (D.iA ks st')).toArray.push d.born) ck')) rfl ⟨rfl,rfl,rfl⟩
   (fun s hs=>by simp[World.shape?,hw1]at hs) (fun hmono=>by
     simp only[cL]
     refine⟨trivial,blk2,hmono.mm _ _ hm2,fun k hk=>?_,by simp[hbn]⟩
     rcases ae5.1 hk with hk|hk
     ·subst hk;exact hkm j p hj
     ·exact hseen k hk)
  have hx:=x1.trans hput.2
  refine⟨.tuple #[.bool true,d.key,d.val],g,w1.dL aA (.mapIter (some blk2) ck' ((seen.reverse.map (D.iA ks st')).toArray.push d.born) ck'),?_,hput.1,hx,Ph.put hm _,?_⟩
  ·simp only[Instr.next,af6,Sem.run_bind,hget,hget2,Result.andThen_ok,hcond,ae0,afS,hO',hN']
   rw[show (if O'.isEmpty=true then #[none]else #[])++Array.map some (O'++#[])=C from rfl,hrun]
   simp only[Result.andThen_ok,hCi]
   simp[setObj,Sem.run,hw1,World.dL]
  ·have hkr:=hrel.key j p d hj hd
   have hvr:=hrel.val j p d hj hd
   have hv:D.val l p.1=p.2:=by unfold D.val;rw[D.IF hrel.nd (show l[j]?=some (p.1,p.2)from hj)];rfl
   unfold xN at hq
   split at hq
   ·have hk2:=ai.mono hx.mono _ _ hkr
    have hv2:=hvr.mono hx.mono
    unfold xV at hv2
    simp only[ai]
    cases vk with
    |data et=>
     dsimp only at hq hv2
     split at hq
     ·cases hq
      exact⟨_,rfl,ak.cons (by simp[ai]) (ak.cons hk2 (ak.cons (by rw[hv];exact hv2) ak.nil))⟩
     ·cases hq
    |Ho=>cases hq
    |cp f et=>
     dsimp only at hq hv2
     cases hq
     obtain⟨x,x1',x2⟩:=hv2
     refine⟨_,rfl,ak.cons (by simp[ai]) (ak.cons hk2 (ak.cons ?_ ak.nil))⟩
     simp only[ai]
     exact⟨x.1,x.2,x1',x2,_,hx.mono.mm _ _ hm2⟩
   ·cases hq
end
end
end
section
noncomputable section
inductive T (α:Type) where
 |ret (a:α)
 |bq
 |ite (c:Bool) (t e:T α)
 |same (u v:BV) (t:T α)
def T.bind {α β:Type}:T α->(α->T β)->T β
 | .ret a,k=>k a
 | .bq,_=> .bq
 | .ite c t e,k=> .ite c (T.bind t k) (T.bind e k)
 | .same u v t,k=> .same u v (T.bind t k)
def T.of {α:Type}:Option α->T α
 |some a=> .ret a
 |none=> .bq
inductive T.dm {α:Type}(a:α):T α->Prop where
 |ret:T.dm a (.ret a)
 |tt {c:Bool} {t e:T α} (h:c=true) (k:T.dm a t):T.dm a (.ite c t e)
 |ff {c:Bool} {t e:T α} (h:c=false) (k:T.dm a e):T.dm a (.ite c t e)
 |same {u v:BV} {t:T α} (h:u=v) (k:T.dm a t):T.dm a (.same u v t)
section
variable {α β:Type}
def T.aS {a b:α}(h:T.dm a (.ret b)):b=a:=by cases h;rfl
def T.aH {a:α}(h:T.dm a .bq):False:=by cases h
def T.fx {a:α}{o:Option α}(h:T.dm a (T.of o)):o=some a:=by
 cases o with
 |none=>cases h
 |some b=>cases h;rfl
def T.bx {b:β}{k:α->T β}:∀{t:T α},T.dm b (T.bind t k)->∃a,T.dm a t/\T.dm b (k a):=by
 intro t
 induction t with
 |ret a=>intro h;exact⟨a,.ret,h⟩
 |bq=>intro h;cases h
 |ite c t e iht ihe=>
  intro h
  cases h with
  |tt hc h=>obtain⟨a,h1,h2⟩:=iht h;exact⟨a,.tt hc h1,h2⟩
  |ff hc h=>obtain⟨a,h1,h2⟩:=ihe h;exact⟨a,.ff hc h1,h2⟩
 |same u v t ih=>
  intro h
  cases h with
  |same he h=>obtain⟨a,h1,h2⟩:=ih h;exact⟨a,.same he h1,h2⟩
def T.fw {a:α}{c:Bool}{t:T α}(h:T.dm a (.ite c t .bq)):c=true/\T.dm a t:=by
 cases h with
 |tt hc h=>exact⟨hc,h⟩
 |ff hc h=>cases h
end
def dy (i:Int)(n:Nat):Bool:=decide (0<=i)&&decide (i.toNat<n)
def ri (v:BV)(h:af):T (bc×af):= .ret (.value v,h)
def YM (h:af)(b off size:Nat)(i:Int):Nat->Nat->T (bc×af)
 |0,_=> .bq
 |n+1,k=> .ite (i==Int.ofNat k) (ri (.aG b (off+k*size)) h) (YM h b off size i n (k+1))
def DT (P:Program)(h:af)(t:TypeId)(x ix:BV):T (bc×af):=
 match P.underlying t,ix with
 |some (.slice e),.int _ i=>
  (match x with
  | .bC e' l=>if Nat.beq e e'&&cy P e then .ite (dy i l.length) (ri (.vF (aK P e (D.at l i.toNat))) h) .bq else .bq
  | .DO e' l=>if Nat.beq e e'&&cy P e then .ite (dy i l.length) (ri (.vF (aK P e (D.at l i.toNat))) h) .bq else .bq
  | .aV b n _=>if cy P e then .ite (dy i n) (ri (.vd b e i.toNat 0) h) .bq else .bq
  | .PE b n=>(match ia P e with|some size=>YM h b 0 size i n 0|none=> .bq)
  |x=>T.of ((hU P t x ix).map fun v=>(.value v,h)))
 |some (.array len e),.int _ i=>(match ia P e,x with|some size,.aG b off=>YM h b off size i len 0|_,_=> .bq)
 |_,_=>T.of ((hU P t x ix).map fun v=>(.value v,h))
def Sr (P:Program)(t:TypeId)(cs:List BV)(off:Nat):Option BV:=
 match hY P t,ia P t with
 |some ag,some n=>if ag then (fy cs off n).map .agg else cs[off]?
 |_,_=>none
def Zl {α:Type}(P:Program)(h:af)(b f:Nat)(k:D)(K:TypeId->List (D×D)->TypeId->List Nat->Nat->T α):T α:=
 match h.get b with
 |some (.bo kt (.cp f' e) l st c)=>if Nat.beq f f'&&cy P e then .ite (D.fv l k) (K e l kt st c) .bq else .bq
 |_=> .bq
def Me (P:Program)(h:af)(t:TypeId)(b f:Nat)(k:D)(off:Nat):T (bc×af):=
 Zl P h b f k fun e l _ _ _=>T.of ((Sr P t (aK P e (D.val l k)) off).map fun v=>(.value v,h))
def Wn (P:Program)(h:af)(t:TypeId)(a:BV):T (bc×af):=
 match a with
 | .vd b e i off=>
   (match h.get b with
   |some (.an e' l _)=>if Nat.beq e e'&&cy P e then .ite (decide (i<l.length)) (T.of ((Sr P t (aK P e (D.at l i)) off).map fun v=>(.value v,h))) .bq else .bq
   |_=> .bq)
 | .pt b f k off=>Me P h t b f k off
 | .aG b off=>
   (match h.get b with
   |some (.ql b' f k)=>Me P h t b' f k off
   |_=>T.of ((wJ P h t (.aG b off)).map fun v=>(.value v,h)))
 |a=>T.of ((wJ P h t a).map fun v=>(.value v,h))
def IL (P:Program)(h:af)(n:Nat)(b f:Nat)(k:D)(off:Nat)(v:BV):T (bc×af):=
 if decide (v.cells.length=n)&&v.cells.all BV.one then
  Zl P h b f k fun e l kt st c=>(match putCells (aK P e (D.val l k)) off v.cells with
   |some cs=>(match Pj P e cs with
    |some d=> .ret (.skip,h.put b (some (.bo kt (.cp f e) (D.jP l k d) st c)))
    |none=> .bq)
   |none=> .bq)
 else .bq
def Rk (P:Program)(h:af)(t:TypeId)(a v:BV):T (bc×af):=
 match a,ia P t with
 | .vd b e i off,some n=>
   (match h.get b with
   |some (.an e' l vt)=>
    if decide (v.cells.length=n)&&v.cells.all BV.one&&(Nat.beq e e'&&cy P e)then
     (match putCells (aK P e (D.at l i)) off v.cells with
     |some cs=>(match Pj P e cs with
      |some d=> .ite (decide (i<l.length)) (.ret (.skip,h.put b (some (.an e (l.set i d) vt)))) .bq
      |none=> .bq)
     |none=> .bq)
    else .bq
   |_=> .bq)
 | .pt b f k off,some n=>IL P h n b f k off v
 | .aG b off,some n=>
   (match h.get b with
   |some (.ql b' f k)=>IL P h n b' f k off v
   |_=>T.of ((Aq P h t (.aG b off) v).map fun h=>(.skip,h)))
 |a,_=>T.of ((Aq P h t a v).map fun h=>(.skip,h))
def eqK (a b:D):Bool:=match a,b with| .z x,.z y=>x==y|a,b=>D.AA b a
def Zx:List (D×D)->D->Bool
 | [],_=>false
 |p::q,k=>match eqK k p.1 with|true=>true|false=>Zx q k
def Zn (d:D)(K:BV->T (bc×af))(N:T (bc×af)):List (D×D)->T (bc×af)
 | []=>N
 |p::q=> .ite (eqK d p.1) (K (.func (.func p.2.int.toNat) [] [])) (Zn d K N q)
def Mf (P:Program)(h:af)(t:TypeId)(x k:BV)(ok:Bool):T (bc×af):=
 match P.underlying t,(match x with| .map r=>(match h.get r with|some (.bo kt' vk l _ _)=>some (r,kt',vk,l)|_=>none)|_=>none:Option (Nat×TypeId×VK×List (D×D)))with
 |some (.map kt et),some (r,kt',vk,l)=>
  if !y7 P 4 kt k then .bq else
  (match NS P kt k with
  |some d=>
   if Nat.beq kt kt' then
    (match vk with
    | .data et'=>if cy P et&&Nat.beq et et' then
       .ite (D.fv l d) (ri (if ok then .tuple [ch P et (D.val l d),.bool true]else ch P et (D.val l d)) h)
        (T.of ((jr P et).map fun z=>(.value (if ok then .tuple [z,.bool false]else z),h)))
       else .bq
    | .cp f _=>
       .ite (D.fv l d) (ri (if ok then .tuple [.pt r f d 0,.bool true]else .pt r f d 0) h)
        (T.of ((jr P et).map fun z=>(.value (if ok then .tuple [z,.bool false]else z),h)))
    | .Ho=>Zn d (fun v=>ri (if ok then .tuple [v,.bool true]else v) h) (T.of ((jr P et).map fun z=>(.value (if ok then .tuple [z,.bool false]else z),h))) l)
   else .bq
  |none=> .bq)
 |_,_=> .bq
def SH (P:Program)(h:af)(r:Nat)(kt:TypeId)(f:Nat)(e:TypeId)(l:List (D×D))(st:List Nat)(clock:Nat)(k:D)(v:BV):Option af:=
 match cy P e,v with
 |true,.aG c off=>
  (match h.get c with
  |some (.cells cs e' false)=>
   (match Nat.beq e e'&&Nat.beq off 0,Pj P e cs with
   |true,some d=>some ((h.put c (some (.ql r f k))).put r (some (.bo kt (.cp f e) (l++[(k,d)]) (st++[clock]) (clock+1))))
   |_,_=>none)
  |_=>none)
 |_,_=>none
def XS {P:Program}{h h':af}{r:Nat}{kt:TypeId}{f:Nat}{e:TypeId}{l:List (D×D)}{st:List Nat}{clock:Nat}{k:D}{v:BV}(hk:D.fv l k=false)(x:SH P h r kt f e l st clock k v=some h'):HN P h r kt (.cp f e) l st clock k v=some h':=by
 unfold SH at x
 split at x
 ·rename_i c off hdt
  split at x
  ·rename_i cs e' hc
   split at x
   ·rename_i d hb hd
    simp only[HN,hdt,afq,hc,hb,hd,hk,ae0,afS]
    exact x
   ·cases x
  ·cases x
 ·cases x
def Ah (P:Program)(h:af)(t:TypeId)(m k v:BV):T (bc×af):=
 match P.underlying t,m with
 |some (.map kt _),.map r=>
  (match h.get r with
  |some (.bo kt' vk l st clock)=>
   if !y7 P 4 kt k then .bq else
   (match NS P kt k with
   |some d=>if Nat.beq kt kt' then
     (match vk with
     | .data et=>if cy P et then
        (match unV P et v with
        |some dv=> .ite (D.fv l d) (.ret (.skip,h.put r (some (.bo kt vk (D.jP l d dv) st clock)))) (.ret (.skip,h.put r (some (.bo kt vk (l++[(d,dv)]) (st++[clock]) (clock+1)))))
        |none=> .bq)else .bq
     | .cp f e=> .ite (D.fv l d) .bq (T.of ((SH P h r kt f e l st clock d v).map fun h=>(.skip,h)))
     | .Ho=>(match Zx l d,v with|false,.func (.func f) [] []=> .ret (.skip,h.put r (some (.bo kt .Ho (l++[(d,.z (Int.ofNat f))]) (st++[clock]) (clock+1))))|_,_=> .bq))
     else .bq
   |none=> .bq)
  |_=>T.of ((jo P h t m k v).map fun h=>(.skip,h)))
 |_,_=>T.of ((jo P h t m k v).map fun h=>(.skip,h))
def Qi (P:Program)(h:af)(it:BV):T (bc×af):=
 match it with
 | .aG r 0=>
   (match h.get r with
   |some (.jS m ks st clock seen)=>
    (match seen.head?,h.get m with
    |some k,some (.bo kt vk l st' clock')=> .ite (tR l st' clock' ks st clock) (T.of ((xN P m kt vk l k).map fun p=>(.value (.tuple [p.1,p.2]),h))) .bq
    |_,_=> .bq)
   |_=>T.of ((yc P h (.aG r 0)).map fun v=>(.value v,h)))
 |it=>T.of ((yc P h it).map fun v=>(.value v,h))
def Qu (P:Program)(h:af)(t:TypeId)(x ix:BV):T (bc×af):=
 match P.underlying t,x,ix with
 |some .string,.bj s,.int _ i=> .ite (dy i s.length) (ri (.int .u8 (s.getD i.toNat 0).toNat) h) .bq
 |_,_,_=>T.of ((GF P t x ix).map fun v=>(.value v,h))
def rO:Option BV->T (Option Nat)
 |none=> .ret none
 |some (.int _ i)=> .ite (decide (0<=i)) (.ret (some i.toNat)) .bq
 |_=> .bq
def Rg (P:Program)(h:af)(t:TypeId)(x:BV)(lo hi mx:Option BV):T (bc×af):=
 match P.underlying t,x with
 |some .string,.bj s=>(rO lo).bind fun lo=>(rO hi).bind fun hi=>
   match mx with
   |none=> .ite (decide (lo.getD 0<=hi.getD s.length)&&decide (hi.getD s.length<=s.length)) (ri (.bj ((s.take (hi.getD s.length)).drop (lo.getD 0))) h) .bq
   |some _=> .bq
 |some (.slice e),.bC e' l=>
  if Nat.beq e e'&&cy P e then (rO lo).bind fun lo=>(rO hi).bind fun hi=>(rO mx).bind fun mx=>
   match mx with
   |none=> .ite (decide (lo.getD 0<=hi.getD l.length)&&decide (hi.getD l.length<=l.length)) (ri (.bC e (kp l (lo.getD 0) (hi.getD l.length))) h) .bq
   |some m=> .ite (Nat.beq m (hi.getD l.length)&&hi.isSome&&decide (lo.getD 0<=hi.getD l.length)&&decide (hi.getD l.length<=l.length)) (ri (.DO e (kp l (lo.getD 0) (hi.getD l.length))) h) .bq
  else .bq
 |some (.slice e),.DO e' l=>
  if Nat.beq e e'&&cy P e then (rO lo).bind fun lo=>(rO hi).bind fun hi=>(rO mx).bind fun mx=>
   match mx with
   |none=> .ite (decide (lo.getD 0<=hi.getD l.length)&&decide (hi.getD l.length<=l.length)) (ri (.bC e (kp l (lo.getD 0) (hi.getD l.length))) h) .bq
   |some m=> .ite (Nat.beq m (hi.getD l.length)&&hi.isSome&&decide (lo.getD 0<=hi.getD l.length)&&decide (hi.getD l.length<=l.length)) (ri (.DO e (kp l (lo.getD 0) (hi.getD l.length))) h) .bq
  else .bq
 |some (.slice e),.aV b n vt=>
  if cy P e then (rO lo).bind fun lo=>(rO hi).bind fun hi=>(rO mx).bind fun mx=>
   .ite (Nat.beq (lo.getD 0) 0&&Nat.beq (hi.getD 1) 0&&Nat.beq (mx.getD 1) 0) (ri (.DO e []) h) (.ite (Nat.beq (lo.getD 0) 0&&(hi.isSome&&mx.isSome)&&Nat.beq (hi.getD 0) n&&Nat.beq (mx.getD 0) n) (ri (.aV b n vt) h) .bq)
  else .bq
 |_,_=>T.of ((sliceB P t x lo hi mx).map fun v=>(.value v,h))
def rv (l c bytes:Int):Bool:=decide (0<=l)&&decide (l<=c)&&decide (c<2^40)&&decide (bytes*c<=2^47)
def Wp (P:Program)(h:af)(t:TypeId)(len cap:BV):T (bc×af):=
 match P.underlying t,len,cap with
 |some (.slice e),.int _ l,.int _ c=>
  (match P.info? e,jr P e with
  |some i,some z=>
   if cy P e&&z.cells.all BV.one then
    (match Pj P e z.cells with
    |some d=> .ite (rv l c i.bytes) (.ret (.value (.aV h.next l.toNat false),h.new (.an e (List.replicate l.toNat d) false))) .bq
    |none=> .bq)
   else .bq
  |_,_=> .bq)
 |_,_,_=> .bq
def abt (P:Program)(h:af)(op:BinOp)(t:TypeId)(x y:BV):T (bc×af):=
 match op,x,y with
 | .add,.bj a,.bj b=> .ite (decide (a.length+b.length<2^62)) (ri (.bj (a++b)) h) .bq
 | .shl,.int k a,.int _ b=> .ite (decide (0<=b)) (ri (.int k (k.wrap (a*2^(min b.toNat k.bits)))) h) .bq
 | .shr,.int k a,.int _ b=> .ite (decide (0<=b)) (ri (.int k (a.fdiv (2^(min b.toNat k.bits)))) h) .bq
 | .quo,.int k a,.int k' b=>if k≠k' then .bq else .ite (decide (b≠0)) (ri (.int k (k.wrap (a.tdiv b))) h) .bq
 | .rem,.int k a,.int k' b=>if k≠k' then .bq else .ite (decide (b≠0)) (ri (.int k (a.tmod b)) h) .bq
 | .eql,.bC _ l,.bJ=>(match P.underlying t with|some (.slice _)=> .ite l.isEmpty .bq (ri (.bool false) h)|_=> .bq)
 | .neq,.bC _ l,.bJ=>(match P.underlying t with|some (.slice _)=> .ite l.isEmpty .bq (ri (.bool true) h)|_=> .bq)
 | .eql,.aV _ n _,.bJ=>(match P.underlying t with|some (.slice _)=> .ite (decide (n=0)) .bq (ri (.bool false) h)|_=> .bq)
 | .neq,.aV _ n _,.bJ=>(match P.underlying t with|some (.slice _)=> .ite (decide (n=0)) .bq (ri (.bool true) h)|_=> .bq)
 |op,x,y=>T.of ((zJ P op t x y).map fun v=>(.value v,h))
def aaB (h:af)(e:TypeId)(x:BV):T (List D):=
 match x with
 | .aV b n _=>(match h.get b with|some (.an e' l _)=>if Nat.beq e e' then .ite (decide (n<=l.length)) (.ret (l.take n)) .bq else .bq|_=> .bq)
 |x=>T.of (Il h e x)
def XT (P:Program)(h:af)(e:TypeId)(x:BV):T (List D):=
 match x with
 | .bj s=>T.of (UF P h e (.bj s))
 |x=>aaB h e x
def Jg (P:Program)(h:af)(src dst:TypeId)(x:BV):T (bc×af):=
 match P.underlying src,P.underlying dst,x with
 |some (.slice e),some .string,.aV b n vt=>if Hd P e&&cy P e then (aaB h e (.aV b n vt)).bind fun l=>ri (.bj (bA l)) h else .bq
 |_,_,x=>T.of ((qp P h src dst x).map fun v=>(.value v,h))
def I2 (h:af)(e:TypeId)(bytes:Nat)(s:BV)(xs:List D):T (bc×af):=
 match s with
 | .aV b n vt=>
   (match h.get b with
   |some (.an e' l vt')=>if Nat.beq e e'&&(vt==vt')then .ite (decide (n=l.length)&&bg bytes (n+xs.length)) (.ret (.value (.aV h.next (n+xs.length) vt),(h.put b none).new (.an e (l++xs) vt))) .bq else .bq
   |_=> .bq)
 | .bJ=> .ite (bg bytes xs.length) (.ret (.value (.aV h.next xs.length true),h.new (.an e xs true))) .bq
 | .DO e' l=>if Nat.beq e e' then .ite ((decide (0<xs.length)||decide (l.length=0))&&bg bytes (l.length+xs.length)) (.ret (.value (.aV h.next (l.length+xs.length) true),h.new (.an e (l++xs) true))) .bq else .bq
 |_=> .bq
def LJ (P:Program)(h:af)(argTypes:Array TypeId)(args:List BV):T (bc×af):=
 match argTypes[0]?,argTypes[1]?,args with
 |some st,some xt0,[s,x]=>
  (match P.underlying st,P.underlying xt0 with
  |some (.slice e),some xt=>
   (match P.info? e with
   |some i=>
    if cy P e&&!(Zz xt)&&!(i.bytes==0||!M6 P e i.size)then (XT P h e x).bind fun xs=>I2 h e i.bytes s xs else .bq
   |none=> .bq)
  |_,_=> .bq)
 |_,_,_=> .bq
def opT (P:Program)(h:af)(ρ:Operand->BV)(o:Oper):T (bc×af):=
 match o.op with
 | .pick c a b=>(match ρ c with| .bool x=> .ite x (ri (ρ a) h) (ri (ρ b) h)|_=> .bq)
 | .indexAddr t x ix=>DT P h t (ρ x) (ρ ix)
 | .load t a=>Wn P h t (ρ a)
 | .store t a x=>Rk P h t (ρ a) (ρ x)
 | .index t x ix=>Qu P h t (ρ x) (ρ ix)
 | .slice t x lo hi mx=>Rg P h t (ρ x) (lo.map ρ) (hi.map ρ) (mx.map ρ)
 | .makeSlice t l c=>Wp P h t (ρ l) (ρ c)
 | .lookup t x ix ok=>Mf P h t (ρ x) (ρ ix) ok
 | .mapUpdate t m k x=>Ah P h t (ρ m) (ρ k) (ρ x)
 | .insert t m k x=>Ah P h t (ρ m) (ρ k) (ρ x)
 | .entry it=>Qi P h (ρ it)
 | .binOp op t x y _=>if Bu P op t x y (ρ x) (ρ y)then abt P h op t (ρ x) (ρ y)else .bq
 | .convert s d x=>Jg P h s d (ρ x)
 | .call c=>(match c.callee with| .builtin .append=>LJ P h c.argTypes (c.args.toList.map ρ)|_=>T.of (Dk P h ρ o))
 |_=>T.of (Dk P h ρ o)
def ack (P:Program)(h:af)(ρ:Operand->BV)(o:Oper):T (bc×af):=
 match o.op with
 | .convert src dst x=>(match PS P h src dst (ρ x)with|some r=> .ret (.value r.1,r.2)|none=>opT P h ρ o)
 |_=>opT P h ρ o
section
variable {P:Program} {h:af}
def Fk {i:Int}{n:Nat}(e:dy i n=true):¬i<0/\i.toNat<n:=by
 unfold dy at e
 simp only[aeV,aeT]at e
 omega
def du {v:BV}{r:bc×af}(e:T.dm r (ri v h)):r=(.value v,h):=(T.aS e).symm
def Nj {b off size:Nat}{i:Int}{r:bc×af}:∀{n k:Nat},T.dm r (YM h b off size i n k)->∃j,j<k+n/\i=Int.ofNat j/\r=(.value (.aG b (off+j*size)),h):=by
 intro n
 induction n with
 |zero=>intro k e;exact(T.aH e).elim
 |succ n ih=>
  intro k e
  cases e with
  |tt hc e=>exact⟨k,by omega,by simpa using hc,du e⟩
  |ff hc e=>obtain⟨j,h1,h2,h3⟩:=ih e;exact⟨j,by omega,h2,h3⟩
def Jw {t:TypeId}{x ix:BV}{r:bc×af}(e:T.dm r (DT P h t x ix)):(hU P t x ix).map (fun v=>((bc.value v,h):bc×af))=some r:=by
 unfold DT at e
 split at e
 ·rename_i el k i hu
  have hs:cy P el=true->∃n,ia P el=some n:=fun hd=>⟨_,(eD hd).2.1⟩
  split at e
  ·rename_i e' l
   split at e
   ·rename_i hc
    obtain⟨h1,h2⟩:=T.fw e
    obtain⟨h3,h4⟩:=Fk h1
    rw[du h2]
    obtain⟨n,hn⟩:=hs (by simp only[aeV]at hc;exact hc.2)
    simp only[hU,hu,hn,aeX h3,hc,afq,aeZ h4,afb]
   ·exact(T.aH e).elim
  ·rename_i e' l
   split at e
   ·rename_i hc
    obtain⟨h1,h2⟩:=T.fw e
    obtain⟨h3,h4⟩:=Fk h1
    rw[du h2]
    obtain⟨n,hn⟩:=hs (by simp only[aeV]at hc;exact hc.2)
    simp only[hU,hu,hn,aeX h3,hc,afq,aeZ h4,afb]
   ·exact(T.aH e).elim
  ·rename_i b n vt
   split at e
   ·rename_i hc
    obtain⟨h1,h2⟩:=T.fw e
    obtain⟨h3,h4⟩:=Fk h1
    rw[du h2]
    obtain⟨m,hn⟩:=hs hc
    simp only[hU,hu,hn,aeX h3,hc,afq,aeZ h4,afb]
   ·exact(T.aH e).elim
  ·rename_i b n
   split at e
   ·rename_i size hs
    obtain⟨j,h1,rfl,rfl⟩:=Nj e
    have h2:¬(Int.ofNat j<0):=by simp
    simp only[hU,hu,aeX h2,hs]
    rw[aeZ (by simp only[aik,ae2];omega)]
    simp
   ·exact(T.aH e).elim
  ·exact T.fx e
 ·rename_i len el k i hu
  split at e
  ·rename_i size b off hs
   obtain⟨j,h1,rfl,rfl⟩:=Nj e
   have h2:¬(Int.ofNat j<0):=by simp
   simp only[hU,hu,aeX h2,hs]
   rw[aeZ (by simp only[aik,ae2];omega)];rfl
  ·exact(T.aH e).elim
 ·exact T.fx e
def NG {α:Type}{b f:Nat}{k:D}{K:TypeId->List (D×D)->TypeId->List Nat->Nat->T α}{r:α}(e:T.dm r (Zl P h b f k K)):∃el l kt st c,Gy P h b f k=some (el,l,kt,st,c)/\T.dm r (K el l kt st c):=by
 unfold Zl at e
 split at e
 ·rename_i kt f' el l st c hb
  split at e
  ·rename_i hc
   obtain⟨h1,h2⟩:=T.fw e
   refine⟨el,l,kt,st,c,?_,h2⟩
   simp only[Gy,hb,hc,h1,af2,afq]
  ·exact(T.aH e).elim
 ·exact(T.aH e).elim
def JB {t:TypeId}{b f:Nat}{k:D}{off:Nat}{r:bc×af}(e:T.dm r (Me P h t b f k off)):∃ag n,hY P t=some ag/\ia P t=some n/\(Fl P h ag n b f k off).map (fun v=>((bc.value v,h):bc×af))=some r:=by
 unfold Me at e
 obtain⟨el,l,kt,st,c,hf,e⟩:=NG e
 have h3:=T.fx e
 unfold Sr at h3
 split at h3
 ·rename_i ag n hag hn
  refine⟨ag,n,hag,hn,?_⟩
  rw[<-h3]
  simp only[Fl,hf]
 ·cases h3
def Tz {t:TypeId}{a:BV}{r:bc×af}(e:T.dm r (Wn P h t a)):(wJ P h t a).map (fun v=>((bc.value v,h):bc×af))=some r:=by
 unfold Wn at e
 split at e
 ·rename_i b el i off
  split at e
  ·rename_i e' l vt hb
   split at e
   ·rename_i hc
    obtain⟨h1,h2⟩:=T.fw e
    have h1:i<l.length:=by simpa using h1
    have h3:=T.fx h2
    unfold Sr at h3
    split at h3
    ·rename_i ag n hag hn
     rw[<-h3]
     simp only[wJ,hag,hn,hb,hc,afq,aeZ h1]
    ·cases h3
   ·exact(T.aH e).elim
  ·exact(T.aH e).elim
 ·rename_i b f k off
  obtain⟨ag,n,hag,hn,e⟩:=JB e
  rw[<-e];simp only[wJ,hag,hn]
 ·rename_i b off
  split at e
  ·rename_i b' f k hb
   obtain⟨ag,n,hag,hn,e⟩:=JB e
   rw[<-e];simp only[wJ,hag,hn,hb]
  ·exact T.fx e
 ·exact T.fx e
def HO {n:Nat}{b f:Nat}{k:D}{off:Nat}{v:BV}{r:bc×af}(e:T.dm r (IL P h n b f k off v)):(G0 P h n b f k off v).map (fun h=>((bc.skip,h):bc×af))=some r:=by
 unfold IL at e
 split at e
 ·rename_i hc
  obtain⟨el,l,kt,st,c,hf,e⟩:=NG e
  split at e
  ·rename_i cs hp
   split at e
   ·rename_i d hu
    rw[<-T.aS e]
    simp only[G0,hc,hf,hp,hu,afq,afb]
   ·exact(T.aH e).elim
  ·exact(T.aH e).elim
 ·exact(T.aH e).elim
def Rl {t:TypeId}{a v:BV}{r:bc×af}(e:T.dm r (Rk P h t a v)):(Aq P h t a v).map (fun h=>((bc.skip,h):bc×af))=some r:=by
 unfold Rk at e
 split at e
 ·rename_i b el i off n hn
  split at e
  ·rename_i e' l vt hb
   split at e
   ·rename_i hc
    split at e
    ·rename_i cs hp
     split at e
     ·rename_i d hu
      obtain⟨h1,h2⟩:=T.fw e
      have h1:i<l.length:=by simpa using h1
      rw[<-T.aS h2]
      simp only[Aq,hn,hb,hc,afq,hp,hu,aeZ h1,afb]
     ·exact(T.aH e).elim
    ·exact(T.aH e).elim
   ·exact(T.aH e).elim
  ·exact(T.aH e).elim
 ·rename_i b f k off n hn
  have:=HO e
  simp only[Aq,hn];exact this
 ·rename_i b off n hn
  split at e
  ·rename_i b' f k hb
   have:=HO e
   simp only[Aq,hn,hb];exact this
  ·exact T.fx e
 ·exact T.fx e
def VT (a b:D):eqK a b=D.AA b a:=by
 have e2:D.AA b a=true↔b=a:=by unfold D.AA;simp
 rw[afo,e2]
 unfold eqK
 split
 ·simp;exact eq_comm
 ·exact e2
def Sd (d:D):∀(l:List (D×D)),Zx l d=D.fv l d
 | []=>rfl
 |p::q=>by simp only[Zx,VT,Sd d q,D.fv,D.eu];cases D.AA p.1 d<;>rfl
def V2 {d:D}{K:BV->T (bc×af)}{N:T (bc×af)}{r:bc×af}:∀{l:List (D×D)},T.dm r (Zn d K N l)->(D.fv l d=true/\T.dm r (K (.func (.func (D.val l d).int.toNat) [] [])))\/(D.fv l d=false/\T.dm r N):=by
 intro l
 induction l with
 |nil=>intro e;exact .inr ⟨rfl,e⟩
 |cons p q ih=>
  intro e
  unfold Zn at e
  rw[VT]at e
  cases e with
  |tt h1 e=>left;simp only[D.fv,D.val,D.eu,h1];exact⟨rfl,e⟩
  |ff h1 e=>simp only[D.fv,D.val,D.eu,h1];exact ih e
def NZ {t:TypeId}{x k:BV}{ok:Bool}{r:bc×af}(e:T.dm r (Mf P h t x k ok)):(vA P h t x k ok).map (fun v=>((bc.value v,h):bc×af))=some r:=by
 unfold Mf at e
 split at e
 ·rename_i kt et r0 kt' vk l hu hx
  split at e
  ·exact(T.aH e).elim
  ·rename_i hk
   split at e
   ·rename_i d hd
    split at e
    ·rename_i hkt
     have key:∀u,wQ P r0 et vk l d=some u->(vA P h t x k ok)=some (if ok then .tuple [u,.bool (D.fv l d)]else u):=fun u hs=>by
      have ⟨hxm,st,ck,hb⟩:x= .map r0/\∃st ck,h.get r0=some (.bo kt' vk l st ck):=by
       split at hx
       ·rename_i r1
        split at hx
        ·rename_i hb;cases hx;exact⟨rfl,_,_,hb⟩
        ·cases hx
       ·cases hx
      subst hxm
      simp only[vA,hu,aeX hk,hb,hd,hkt,afq,hs]
     split at e
     ·rename_i et'
      split at e
      ·rename_i hc
       cases e with
       |tt h1 e=>
        rw[du e,key (ch P et (D.val l d)) (by simp only[wQ,hc,afq,h1])]
        rw[h1];rfl
       |ff h1 e=>
        have e:=T.fx e
        cases hz:jr P et with
        |none=>rw[hz]at e;cases e
        |some z=>
         rw[hz]at e;cases e
         rw[key z (by simp only[wQ,hc,afq,h1,ae0,afS];exact hz)]
         rw[h1];rfl
      ·exact(T.aH e).elim
     ·rename_i f el
      cases e with
      |tt h1 e=>
       rw[du e,key (.pt r0 f d 0) (by simp only[wQ,h1,afq])]
       rw[h1];rfl
      |ff h1 e=>
       have e:=T.fx e
       cases hz:jr P et with
       |none=>rw[hz]at e;cases e
       |some z=>
        rw[hz]at e;cases e
        rw[key z (by simp only[wQ,h1,ae0,afS];exact hz)]
        rw[h1];rfl
     ·rcases V2 e with ⟨h1,e⟩| ⟨h1,e⟩
      ·rw[du e,key (.func (.func (D.val l d).int.toNat) [] []) (by simp only[wQ,h1,afq])]
       rw[h1];rfl
      ·have e:=T.fx e
       cases hz:jr P et with
       |none=>rw[hz]at e;cases e
       |some z=>
        rw[hz]at e;cases e
        rw[key z (by simp only[wQ,h1,ae0,afS];exact hz)]
        rw[h1];rfl
    ·exact(T.aH e).elim
   ·exact(T.aH e).elim
 ·exact(T.aH e).elim
def BI {t:TypeId}{m k v:BV}{r:bc×af}(e:T.dm r (Ah P h t m k v)):(jo P h t m k v).map (fun h=>((bc.skip,h):bc×af))=some r:=by
 unfold Ah at e
 split at e
 ·rename_i kt et r0 hu
  split at e
  ·rename_i kt' vk l st clock hb
   split at e
   ·exact(T.aH e).elim
   ·rename_i hk
    split at e
    ·rename_i d hd
     split at e
     ·rename_i hkt
      have hkt2:=ae8 hkt
      split at e
      ·rename_i et'
       split at e
       ·rename_i hdt
        split at e
        ·rename_i dv hdv
         cases e with
         |tt h1 e=>
          rw[<-T.aS e]
          simp only[jo,hu,hb,aeX hk,hd,hkt,afq,HN,hdt,hdv,h1,afb]
         |ff h1 e=>
          rw[<-T.aS e]
          simp only[jo,hu,hb,aeX hk,hd,hkt,afq,HN,hdt,hdv,h1,ae0,afS,afb]
        ·exact(T.aH e).elim
       ·exact(T.aH e).elim
      ·cases e with
       |tt h1 e=>exact(T.aH e).elim
       |ff h1 e=>
        have e:=T.fx e
        cases hs:SH P h r0 kt _ _ l st clock d v with
        |none=>rw[hs]at e;cases e
        |some h'=>
         rw[hs]at e
         simp only[jo,hu,hb,aeX hk,hd,hkt,afq,XS h1 hs]
         exact e
      ·split at e
       ·rename_i f h1
        rw[Sd]at h1
        rw[<-T.aS e]
        simp only[jo,hu,hb,aeX hk,hd,hkt,afq,HN,h1,ae0,afS,afb]
       ·exact(T.aH e).elim
     ·exact(T.aH e).elim
    ·exact(T.aH e).elim
  ·exact T.fx e
 ·exact T.fx e
def Qj {it:BV}{r:bc×af}(e:T.dm r (Qi P h it)):(yc P h it).map (fun v=>((bc.value v,h):bc×af))=some r:=by
 unfold Qi at e
 split at e
 ·rename_i r0
  split at e
  ·rename_i m ks st clock seen hb
   split at e
   ·rename_i k kt vk l st' clock' hs hb2
    obtain⟨h1,h2⟩:=T.fw e
    have h2:=T.fx h2
    simp only[yc,hb,hs,hb2,h1,afq]
    cases hs2:xN P m kt vk l k with
    |none=>rw[hs2]at h2;cases h2
    |some p=>rw[hs2]at h2;exact h2
   ·exact(T.aH e).elim
  ·exact T.fx e
 ·exact T.fx e
def Qv {t:TypeId}{x ix:BV}{r:bc×af}(e:T.dm r (Qu P h t x ix)):(GF P t x ix).map (fun v=>((bc.value v,h):bc×af))=some r:=by
 unfold Qu at e
 split at e
 ·rename_i s k i hu
  obtain⟨h1,h2⟩:=T.fw e
  obtain⟨h3,h4⟩:=Fk h1
  rw[du h2]
  simp only[GF,aeX h3,hu,aeY h4,afb,List.getD,af1]
 ·exact T.fx e
def cM {x:Option BV}{r:Option Nat}(e:T.dm r (rO x)):jF x=some r:=by
 unfold rO at e
 split at e
 ·rw[<-T.aS e];rfl
 ·obtain⟨h1,h2⟩:=T.fw e
  have h1:(0:Int)<=_:=agc h1
  rw[<-T.aS h2]
  simp only[jF]
  rw[aeX (by omega)]
 ·exact(T.aH e).elim
def Rh {t:TypeId}{x:BV}{lo hi mx:Option BV}{r:bc×af}(e:T.dm r (Rg P h t x lo hi mx)):(sliceB P t x lo hi mx).map (fun v=>((bc.value v,h):bc×af))=some r:=by
 unfold Rg at e
 split at e
 ·rename_i s hu
  obtain⟨l,hl,e⟩:=T.bx e
  obtain⟨hh,hh2,e⟩:=T.bx e
  cases mx with
  |none=>
   obtain⟨h1,h2⟩:=T.fw e
   rw[du h2]
   have hb0:jF none=some none:=rfl
   simp only[sliceB,cM hl,cM hh2,hb0,hu,Option.isNone_none,afB,h1,afq,afb]
  |some m=>exact(T.aH e).elim
 ·rename_i el e' l hu
  split at e
  ·rename_i hc
   obtain⟨lo',hl,e⟩:=T.bx e
   obtain⟨hi',hh2,e⟩:=T.bx e
   obtain⟨mx',hm2,e⟩:=T.bx e
   split at e
   ·obtain⟨h1,h2⟩:=T.fw e
    rw[du h2]
    simp only[sliceB,cM hl,cM hh2,cM hm2,hu,hc,h1,afq,afb]
   ·obtain⟨h1,h2⟩:=T.fw e
    rw[du h2]
    simp only[sliceB,cM hl,cM hh2,cM hm2,hu,hc,h1,afq,afb]
  ·exact(T.aH e).elim
 ·rename_i el e' l hu
  split at e
  ·rename_i hc
   obtain⟨lo',hl,e⟩:=T.bx e
   obtain⟨hi',hh2,e⟩:=T.bx e
   obtain⟨mx',hm2,e⟩:=T.bx e
   split at e
   ·obtain⟨h1,h2⟩:=T.fw e
    rw[du h2]
    simp only[sliceB,cM hl,cM hh2,cM hm2,hu,hc,h1,afq,afb]
   ·obtain⟨h1,h2⟩:=T.fw e
    rw[du h2]
    simp only[sliceB,cM hl,cM hh2,cM hm2,hu,hc,h1,afq,afb]
  ·exact(T.aH e).elim
 ·rename_i el b n vt hu
  split at e
  ·rename_i hd
   obtain⟨lo',hl,e⟩:=T.bx e
   obtain⟨hi',hh2,e⟩:=T.bx e
   obtain⟨mx',hm2,e⟩:=T.bx e
   cases e with
   |tt hc e=>
    rw[du e]
    simp only[sliceB,cM hl,cM hh2,cM hm2,hu,hd,afB,hc,afq,afb]
   |ff hc e=>
    obtain⟨h1,h2⟩:=T.fw e
    rw[du h2]
    simp only[sliceB,cM hl,cM hh2,cM hm2,hu,hd,afB,hc,h1,afq,afb,ae0,afS]
  ·exact(T.aH e).elim
 ·exact T.fx e
def TB {t:TypeId}{l c:BV}{r:bc×af}(e:T.dm r (Wp P h t l c)):(sb P h t l c).map (fun x=>((bc.value x.1,x.2):bc×af))=some r:=by
 unfold Wp at e
 split at e
 ·rename_i el kl li kc ci hu
  split at e
  ·rename_i i z hi hz
   split at e
   ·rename_i hc
    split at e
    ·rename_i d hd
     obtain⟨h1,h2⟩:=T.fw e
     rw[<-T.aS h2]
     unfold rv at h1
     simp only[sb,hu,hi,hz,hc,afq,hd,h1,afb]
    ·exact(T.aH e).elim
   ·exact(T.aH e).elim
  ·exact(T.aH e).elim
 ·exact(T.aH e).elim
def Vt {op:BinOp}{t:TypeId}{x y:BV}{r:bc×af}(e:T.dm r (abt P h op t x y)):(zJ P op t x y).map (fun v=>((bc.value v,h):bc×af))=some r:=by
 unfold abt at e
 split at e
 ·obtain⟨h1,h2⟩:=T.fw e
  rw[du h2]
  have h1:=agc h1
  simp only[zJ,aeZ h1,afb]
 ·obtain⟨h1,h2⟩:=T.fw e
  rw[du h2]
  have h1:=agc h1
  simp only[zJ]
  rw[aeX (by omega)];rfl
 ·obtain⟨h1,h2⟩:=T.fw e
  rw[du h2]
  have h1:=agc h1
  simp only[zJ]
  rw[aeX (by omega)];rfl
 ·split at e
  ·exact(T.aH e).elim
  ·rename_i hk
   obtain⟨h1,h2⟩:=T.fw e
   rw[du h2]
   have h1:=agc h1
   simp only[zJ,aeX hk,aeX h1,afb]
 ·split at e
  ·exact(T.aH e).elim
  ·rename_i hk
   obtain⟨h1,h2⟩:=T.fw e
   rw[du h2]
   have h1:=agc h1
   simp only[zJ,aeX hk,aeX h1,afb]
 ·split at e
  ·rename_i e' l x s hu
   cases e with
   |tt hc e=>exact(T.aH e).elim
   |ff hc e=>
    rw[du e]
    cases l with
    |nil=>cases hc
    |cons a r=>simp[zJ,Eg,hu,Fq,Ml]
  ·exact(T.aH e).elim
 ·split at e
  ·rename_i e' l x s hu
   cases e with
   |tt hc e=>exact(T.aH e).elim
   |ff hc e=>
    rw[du e]
    cases l with
    |nil=>cases hc
    |cons a r=>simp[zJ,Eg,hu,Fq,Ml]
  ·exact(T.aH e).elim
 ·split at e
  ·rename_i b n vt x s hu
   cases e with
   |tt hc e=>exact(T.aH e).elim
   |ff hc e=>
    rw[du e]
    cases n with
    |zero=>simp at hc
    |succ n=>simp[zJ,Eg,hu,Fq,Ml]
  ·exact(T.aH e).elim
 ·split at e
  ·rename_i b n vt x s hu
   cases e with
   |tt hc e=>exact(T.aH e).elim
   |ff hc e=>
    rw[du e]
    cases n with
    |zero=>simp at hc
    |succ n=>simp[zJ,Eg,hu,Fq,Ml]
  ·exact(T.aH e).elim
 ·exact T.fx e
def O8 {el:TypeId}{x:BV}{l:List D}(e:T.dm l (aaB h el x)):Il h el x=some l:=by
 unfold aaB at e
 split at e
 ·split at e
  ·rename_i hb
   split at e
   ·rename_i hc
    obtain⟨h1,h2⟩:=T.fw e
    have h1:=agc h1
    rw[<-T.aS h2]
    simp only[Il,hb,hc,afq,aeZ h1]
   ·exact(T.aH e).elim
  ·exact(T.aH e).elim
 ·exact T.fx e
def LI {el:TypeId}{bytes:Nat}{s:BV}{xs:List D}{r:bc×af}(e:T.dm r (I2 h el bytes s xs)):(zI h el bytes s xs).map (fun x=>((bc.value x.1,x.2):bc×af))=some r:=by
 unfold I2 at e
 split at e
 ·split at e
  ·rename_i hb
   split at e
   ·rename_i hc
    obtain⟨h1,h2⟩:=T.fw e
    rw[<-T.aS h2]
    simp only[zI,hb,hc,afq,h1,afb]
   ·exact(T.aH e).elim
  ·exact(T.aH e).elim
 ·obtain⟨h1,h2⟩:=T.fw e
  rw[<-T.aS h2]
  simp only[zI,h1,afq,afb]
 ·split at e
  ·rename_i hc
   obtain⟨h1,h2⟩:=T.fw e
   rw[<-T.aS h2]
   simp only[zI,hc,afq,h1,afb]
  ·exact(T.aH e).elim
 ·exact(T.aH e).elim
def UG {el:TypeId}{x:BV}{l:List D}(e:T.dm l (XT P h el x)):UF P h el x=some l:=by
 unfold XT at e
 split at e
 ·exact T.fx e
 ·rename_i hn
  have:=O8 e
  cases x<;>first|exact this|exact absurd rfl (hn _)
def LY {src dst:TypeId}{x:BV}{r:bc×af}(e:T.dm r (Jg P h src dst x)):(qp P h src dst x).map (fun v=>((bc.value v,h):bc×af))=some r:=by
 unfold Jg at e
 split at e
 ·rename_i el b n vt hs hd
  split at e
  ·rename_i hc
   obtain⟨l,h1,e⟩:=T.bx e
   rw[du e]
   simp only[qp,hs,hd,hc,afq,O8 h1,afb]
  ·exact(T.aH e).elim
 ·exact T.fx e
def Ni {ts:Array TypeId}{args:List BV}{r:bc×af}(e:T.dm r (LJ P h ts args)):(EK P h ts args).map (fun x=>((bc.value x.1,x.2):bc×af))=some r:=by
 unfold LJ at e
 split at e
 ·rename_i st xt0 s x h1 h2
  split at e
  ·rename_i el xt hu hx
   split at e
   ·rename_i i hi
    split at e
    ·rename_i hc
     obtain⟨xs,hs,e⟩:=T.bx e
     have e:=LI e
     rw[<-e]
     simp only[EK,h1,h2,hu,hx,hi,hc,afq,UG hs]
    ·exact(T.aH e).elim
   ·exact(T.aH e).elim
  ·exact(T.aH e).elim
 ·exact(T.aH e).elim
def Fz {ρ:Operand->BV}{o:Oper}{r:bc×af}(e:T.dm r (opT P h ρ o)):Dk P h ρ o=some r:=by
 obtain⟨dst,op,ty,pos,after,guard⟩:=o
 cases op<;>simp only[opT]at e<;>try exact T.fx e
 case pick c a b=>
  split at e
  ·rename_i x hx
   simp only[Dk,hx]
   cases e with
   |tt hc e=>subst hc;rw[du e];rfl
   |ff hc e=>subst hc;rw[du e];rfl
  ·exact(T.aH e).elim
 case indexAddr=>exact Jw e
 case load=>exact Tz e
 case store=>exact Rl e
 case index=>exact Qv e
 case slice=>exact Rh e
 case convert=>exact LY e
 case makeSlice=>exact TB e
 case lookup=>exact NZ e
 case mapUpdate=>exact BI e
 case insert=>exact BI e
 case entry=>exact Qj e
 case binOp op t x y c=>
  split at e
  ·rename_i hg;simp only[Dk,hg,afq];exact Vt e
  ·exact(T.aH e).elim
 case call c=>
  split at e
  ·rename_i hc
   have:=Ni e
   simp only[Dk,tP,hc,af9,xE,Bl]
   exact this
  ·exact T.fx e
end
def W1 {P:Program}{h:af}{ρ:Operand->BV}{o:Oper}{r:bc×af}(e:T.dm r (ack P h ρ o)):opR P h ρ o=some r:=by
 unfold ack at e
 unfold opR
 split at e
 ·rename_i src dst x ho
  simp only[ho]
  split at e
  ·rename_i q hq;simp only[hq];rw[T.aS e]
  ·rename_i hq;simp only[hq];exact Fz e
 ·rename_i hn
  split
  ·rename_i src dst x ho;exact absurd ho (hn src dst x)
  ·exact Fz e
def CT (o:Oper)(aN:Array Oper)(cx:Nat->Option BV):T Bool:=
 match o.guard with
 |none=> .ret true
 |some (j,want)=>
  match (aN[j]?).bind (·.dst)with
  |some d=>(match cx d with
   |some (.bool b)=> .ite b (.ret want) (.ret (!want))
   |some .kC=> .bq
   |_=> .ret false)
  |none=> .ret false
def xR {o:Oper}{aN:Array Oper}{cx:Nat->Option BV}{r:Bool}(e:T.dm r (CT o aN cx)):kF o aN cx=some r:=by
 unfold CT at e
 unfold kF
 split at e
 ·rename_i hg;rw[hg];rw[<-T.aS e]
 ·rename_i j want hg
  rw[hg]
  dsimp only
  unfold Kf
  split at e
  ·rename_i d hd
   rw[hd]
   dsimp only
   split at e
   ·rename_i b hb
    rw[hb]
    cases e with
    |tt hc e=>subst hc;rw[<-T.aS e];cases want<;>rfl
    |ff hc e=>subst hc;rw[<-T.aS e];cases want<;>rfl
   ·exact(T.aH e).elim
   ·rename_i h1 h2
    rw[<-T.aS e]
    split
    ·rename_i b hb;exact absurd hb (h1 b)
    ·rename_i hb;exact absurd hb h2
    ·rfl
  ·rename_i hd;rw[hd];rw[<-T.aS e];rfl
def xw (P:Program)(aN:Array Oper)(bits:List Nat)(bW:List BV)(cI:List Nat):List Nat->af->List (Option BV)->T (af×List (Option BV))
 | [],h,aF=> .ret (h,aF)
 |i::rest,h,aF=>
  match aN[i]?,aF.getD i none with
  |some o,none=>
   if jX o||cI.any (dk bits i)then xw P aN bits bW cI rest h aF else
   (CT o aN (fun t=>some (mV aN bits bW aF i t))).bind fun w=>
     match w with
     |true=>(opT P h (kv aN bits bW aF i) o).bind fun r=>
      match r with
      | (.value v,h')=>xw P aN bits bW cI rest h' (aF.set i (some v))
      |_=> .bq
     |false=>xw P aN bits bW cI rest h (aF.set i (some BV.undef))
  |_,_=>xw P aN bits bW cI rest h aF
def FX (P:Program)(aN:Array Oper)(bits:List Nat)(bW:List BV)(aF:List (Option BV))(x:Nat)(h:af):List Nat->T Unit
 | []=> .ret ()
 |i::rest=>
  T.bind (α:=Unit) (match aN[i]?,aF.getD i none with
  |some o,some v=>
   if jX o||kh o||!GJ o||dk bits x i then .ret ()else
   (CT o aN (fun t=>some (mV aN bits bW aF i t))).bind fun w=>
     match w with
     |true=>(opT P h (kv aN bits bW aF i) o).bind fun r=>(match r with| (.value u,_)=> .same u v (.ret ())|_=> .bq)
     |false=> .ret ()
  |_,_=> .ret ()) fun _=>FX P aN bits bW aF x h rest
def Gu (P:Program)(d:Gg)(x:Nat)(v:BV)(h:af):T (Gg×af):=
 let bits:=aP d.aN
 let aF:=d.aF.set x (some v)
 let cI:=d.cI.tail
 let is:=List.range d.aN.size
 (FX P d.aN bits d.bW d.aF x h is).bind fun _=>(xw P d.aN bits d.bW cI is h aF).bind fun r=> .ret ({d with aF:=r.2,cI},r.1)
section
variable {P:Program}
def Hn {aN:Array Oper}{bits:List Nat}{bW:List BV}{cI:List Nat}:∀(l:List Nat) (h:af) (aF:List (Option BV)) {r:af×List (Option BV)},T.dm r (xw P aN bits bW cI l h aF)->r9 P aN bits bW cI l h aF=some r:=by
 intro l
 induction l with
 |nil=>intro h aF r e;rw[<-T.aS e];rfl
 |cons i rest ih=>
  intro h aF r e
  simp only[xw]at e
  simp only[r9]
  split at e
  ·rename_i o ho hv
   simp only[ho,hv]
   split at e
   ·rename_i hc;rw[aeZ hc];exact ih _ _ e
   ·rename_i hc
    rw[aeX hc]
    obtain⟨w,hw,e⟩:=T.bx e
    rw[xR hw]
    cases w with
    |true=>
     dsimp only at e ⊢
     obtain⟨q,hq,e⟩:=T.bx e
     rw[Fz hq]
     obtain⟨n,h'⟩:=q
     cases n<;>first|exact ih _ _ e|exact(T.aH e).elim
    |false=>exact ih _ _ e
  ·rename_i hno
   split
   ·rename_i o ho hv;exact absurd hv (hno o ho)
   ·exact ih _ _ e
def MQ {aN:Array Oper}{bits:List Nat}{bW:List BV}{aF:List (Option BV)}{x:Nat}{h:af}:∀(l:List Nat),T.dm () (FX P aN bits bW aF x h l)->CJ P aN bits bW aF x h l=true:=by
 intro l
 induction l with
 |nil=>intro _;rfl
 |cons i rest ih=>
  intro e
  simp only[FX]at e
  obtain⟨⟨⟩,e1,e2⟩:=T.bx e
  simp only[CJ,aeV]
  refine⟨?_,ih e2⟩
  split at e1
  ·rename_i o v ho hv
   simp only[ho,hv]
   split at e1
   ·rename_i hc;rw[aeZ hc]
   ·rename_i hc
    rw[aeX hc]
    obtain⟨w,hw,e1⟩:=T.bx e1
    rw[xR hw]
    cases w with
    |true=>
     dsimp only at e1 ⊢
     obtain⟨q,hq,e1⟩:=T.bx e1
     rw[Fz hq]
     obtain⟨n,h'⟩:=q
     cases n with
     |value u=>cases e1 with|same he _=>subst he;exact BV.Q4 _
     |_=>exact(T.aH e1).elim
    |false=>rfl
  ·rename_i hno
   split
   ·rename_i o v ho hv;exact absurd hv (hno o v ho)
   ·rfl
def Ki {d d':Gg}{x:Nat}{v:BV}{h h':af}(e:T.dm (d',h') (Gu P d x v h)):Bp P d x v h=some (d',h'):=by
 unfold Gu at e
 obtain⟨⟨⟩,e1,e⟩:=T.bx e
 obtain⟨r,e2,e⟩:=T.bx e
 have:=T.aS e
 unfold Bp
 dsimp only
 rw[aeZ (MQ _ e1),Hn _ _ _ e2,<-this]
 rfl
end
def qF (P:Program)(fr:aZ)(v:BV)(h:af):T (aZ×af):=
 match fr.mode,fr.todo with
 | .run,.fQ d::k=>(match d.cI with
   |x::_=>(Gu P d x v h).bind fun r=> .ret ({fr with todo:= .fQ r.1::k},r.2)
   | []=> .bq)
 |_,_=>T.of (nv P fr v h)
inductive Nx where
 |pick (ks seen:List D) (s0:av) (k:D->av)
 |st (s:av)
 |Gc (s1 s2:av)
 |call (f:FuncId) (as:List BV) (fr:aZ) (cs:List aZ) (h:af)
def stT (o:Option av):T Nx:=T.of (o.map Nx.st)
def LK (P:Program)(tb:FuncId->Bool)(fr:aZ)(cs:List aZ)(r:bc×af):T Nx:=
 match r with
 | (.value v,h)=>(qF P fr v h).bind fun r=> .ret (.st {fr:=r.1,cs,h:=r.2})
 | (.skip,h)=>(qF P fr BV.undef h).bind fun r=> .ret (.st {fr:=r.1,cs,h:=r.2})
 | (.enter f as,h)=>(match tb f,dn P f as .normal with
   |true,some _=> .ret (.call f as fr cs h)
   |_,_=>stT (lA P fr cs .normal (.enter f as,h)))
 |r=>stT (lA P fr cs .normal r)
def CB (P:Program)(fr:aZ)(cs:List aZ)(v:BV)(h:af):T Nx:=
 match cs,fr.kind with
 |caller::rest,.normal=>(qF P caller v h).bind fun r=> .ret (.st {fr:=r.1,cs:=rest,h:=r.2})
 |cs,_=>stT (rV P fr cs v h)
def GI (P:Program)(fr:aZ)(cs:List aZ)(h:af)(jump:Option Code):T Nx:=
 match fr.roundOf with
 |none=>stT (ye P fr cs h jump)
 |some l=>(match h.get l with
  |some (.loop r)=>CB P fr cs (.bool jump.isNone) (h.put l (some (.loop {r with state:=if jump.isNone then .ready else .done,pending:=jump})))
  |_=> .bq)
def MX (P:Program)(fr:aZ)(cs:List aZ)(h:af):T Nx:=
 match fr.defers,fr.mode with
 | [],.returning=>(match P.funcs[fr.fn]? with
   |some fn=>(match B4 P h fn fr.cx with|some v=>CB P fr cs v h|none=> .bq)
   |none=> .bq)
 |_,_=>stT (xP P fr cs h)
def toT (fr:aZ)(cs:List aZ)(h:af)(todo:List dI):T Nx:= .ret (.st {fr:={fr with todo},cs,h})
def aa2 (P:Program)(fr:aZ)(cs:List aZ)(h:af)(aN:Array Oper)(dst:Option Nat)(rest:List Nat)(kk:List dI)(it:BV):Option (T Nx):=
 match it with
 | .aG r 0=>
   (match h.get r with
   |some (.jS m ks st ck seen)=>
    (match h.get m with
    |some (.bo kt vk l st' ck')=>
     (match xN P m kt vk l (.z 0)with
     |some _=>some (.ite (tR l st' ck' ks st ck)
       (.ret (.pick ks seen ⟨{fr with cx:=uh fr.cx dst (.tuple [.bool false]),todo:= .inRegion aN rest::kk},cs,h⟩
         fun k=>⟨{fr with cx:=uh fr.cx dst (match xN P m kt vk l k with|some p=> .tuple [.bool true,p.1,p.2]|none=> .kC),todo:= .inRegion aN rest::kk},cs,h.put r (some (.jS m ks st ck (k::seen)))⟩)) .bq)
     |none=>some .bq)
    |_=>some .bq)
   |_=>none)
 |_=>none
def abq (cx:List BV)(o:Oper):Option (Nat×Bool):=
 match o.op with
 | .binOp .eql _ (.tmp j) y _=>(match cx[j]?,uC cx y with|some (.bC e l),.bJ=>some (j,l.isEmpty)|some (.aV _ n _),.bJ=>some (j,decide (n=0))|_,_=>none)
 | .binOp .neq _ (.tmp j) y _=>(match cx[j]?,uC cx y with|some (.bC e l),.bJ=>some (j,l.isEmpty)|some (.aV _ n _),.bJ=>some (j,decide (n=0))|_,_=>none)
 |_=>none
def aaq (P:Program)(tb:FuncId->Bool)(fr:aZ)(cs:List aZ)(h:af)(aN:Array Oper)(o:Oper)(rest:List Nat)(k:List dI):T Nx:=
 match o.op with
 | .next it false=>(match aa2 P fr cs h aN o.dst rest k (uC fr.cx it)with
   |some t=>t
   |none=> .bq)
 |_=>(ack P h (uC fr.cx) o).bind (LK P tb fr cs)
def XU (P:Program)(tb:FuncId->Bool)(s:av):T Nx:=
 match s with
 | ⟨fr,cs,h⟩=>
   match fr.mode with
   | .run=>
     (match fr.todo with
     | []=>GI P fr cs h none
     | .code .ret::_=>GI P fr cs h (some .ret)
     | .code (.cond c thn els)::k=>(match uC fr.cx c with
       | .bool b=> .ite b (toT fr cs h (.code thn::k)) (toT fr cs h (.code els::k))
       |_=> .bq)
     | .code (.exit id)::k=>(match qy id k with|some k'=>toT fr cs h k'|none=>GI P fr cs h (some (.exit id)))
     | .code (.goto l)::k=>(match qH l k with|some k'=>toT fr cs h k'|none=>GI P fr cs h (some (.goto l)))
     | .code (.region _ aN true)::k=>
       if !(Gv aN&&Gw aN fr.cx.length)then .bq else
       (xw P aN (aP aN) fr.cx (qq aN) (List.range aN.size) h (List.replicate aN.size none)).bind fun r=>
         toT fr cs r.1 (.fQ {aN,bW:=fr.cx,aF:=r.2,cI:=qq aN}::k)
     | .inRegion aN (i::rest)::k=>(match aN[i]? with
       |none=>toT fr cs h (.inRegion aN rest::k)
       |some o=>(CT o aN (fun t=>fr.cx[t]?)).bind fun w=>
        match w with
        |true=>(match abq fr.cx o with
         |some (j,c)=> .ite c (.ret (.Gc ⟨{fr with cx:=fr.cx.set j .bJ},cs,h⟩ ⟨{fr with cx:=fr.cx.set j .ku},cs,h⟩)) (aaq P tb fr cs h aN o rest k)
         |none=>aaq P tb fr cs h aN o rest k)
        |false=>toT {fr with cx:=uh fr.cx o.dst BV.undef} cs h (.inRegion aN rest::k))
     | .fQ d::k=>(match d.cI with
       | []=>toT {fr with cx:=qE d.aN d.aF 0 d.bW} cs h k
       |x::_=>(match d.aN[x]? with
        |none=> .bq
        |some o=>(CT o d.aN (fun t=>some (mV d.aN (aP d.aN) d.bW d.aF x t))).bind fun w=>
         match w with
         |true=>(opT P h (kv d.aN (aP d.aN) d.bW d.aF x) o).bind (LK P tb fr cs)
         |false=>(qF P fr BV.undef h).bind fun r=> .ret (.st {fr:=r.1,cs,h:=r.2})))
     |_=>stT (dj P ⟨fr,cs,h⟩))
   |_=>MX P fr cs h
def xU (P:Program)(o:Option av):Nx->Prop
 | .pick _ _ _ _=>False
 | .Gc _ _=>False
 | .st s=>o=some s
 | .call f as fr cs h=>∃c,dn P f as .normal=some c/\o=some ⟨c,fr::cs,h⟩
def xU.of {P:Program}{o:Option av}{s:av}(h:o=some s):xU P o (.st s):=h
section
variable {P:Program} {tb:FuncId->Bool}
def CQ {o:Option av}{x:Nx}(e:T.dm x (stT o)):xU P o x:=by
 have:=T.fx e
 cases o with
 |none=>cases this
 |some s=>simp only[afb,ae3]at this;subst this;rfl
def pT {fr:aZ}{v:BV}{h:af}{r:aZ×af}(e:T.dm r (qF P fr v h)):nv P fr v h=some r:=by
 unfold qF at e
 split at e
 ·rename_i d k hm ht
  split at e
  ·rename_i x xs hd
   obtain⟨⟨d',h'⟩,e1,e⟩:=T.bx e
   rw[<-T.aS e]
   simp only[nv,hm,ht,hd,Ki e1,afb]
  ·exact(T.aH e).elim
 ·exact T.fx e
def I3 {fr:aZ}{cs:List aZ}{q:bc×af}{x:Nx}(e:T.dm x (LK P tb fr cs q)):xU P (lA P fr cs .normal q) x:=by
 unfold LK at e
 split at e
 ·obtain⟨r,e1,e⟩:=T.bx e
  rw[<-T.aS e]
  simp only[xU,lA,pT e1,afb]
 ·obtain⟨r,e1,e⟩:=T.bx e
  rw[<-T.aS e]
  simp only[xU,lA,pT e1,afb]
 ·split at e
  ·rename_i c _ hc
   rw[<-T.aS e]
   exact⟨c,hc,by simp only[lA,hc,afb]⟩
  ·exact CQ e
 ·exact CQ e
def Db {fr:aZ}{cs:List aZ}{v:BV}{h:af}{x:Nx}(e:T.dm x (CB P fr cs v h)):xU P (rV P fr cs v h) x:=by
 unfold CB at e
 split at e
 ·rename_i caller rest hk
  obtain⟨r,e1,e⟩:=T.bx e
  rw[<-T.aS e]
  simp only[xU,rV,hk,pT e1,afb]
 ·exact CQ e
def Af {fr:aZ}{cs:List aZ}{h:af}{j:Option Code}{x:Nx}(e:T.dm x (GI P fr cs h j)):xU P (ye P fr cs h j) x:=by
 unfold GI at e
 split at e
 ·exact CQ e
 ·rename_i l hl
  split at e
  ·rename_i r hr
   simp only[ye,hl,hr]
   exact Db e
  ·exact(T.aH e).elim
def Po {fr:aZ}{cs:List aZ}{h:af}{x:Nx}(e:T.dm x (MX P fr cs h)):xU P (xP P fr cs h) x:=by
 unfold MX at e
 split at e
 ·rename_i hd hm
  split at e
  ·rename_i fn hf
   split at e
   ·rename_i v hv
    simp only[xP,hd,hm,hf,hv]
    exact Db e
   ·exact(T.aH e).elim
  ·exact(T.aH e).elim
 ·exact CQ e
def xO {fr:aZ}{cs:List aZ}{h:af}{todo:List dI}{x:Nx}(e:T.dm x (toT fr cs h todo)):x= .st {fr:={fr with todo},cs,h}:=(T.aS e).symm
structure aaH (P:Program)(s:av)(ks seen:List D)(s0:av)(k:D->av):Prop where
 ex:∃(fn:FuncId) (cx:List BV) (aN:Array Oper) (i:Nat) (rest:List Nat) (kk:List dI) (ds:List tZ) (kind:CallKind) (ro:Option Nat) (cs:List aZ) (h:af) (o:Oper) (it:Operand) (r m:Nat) (st:List Nat) (ck:Nat) (kt:TypeId) (vk:VK) (l:List (D×D)) (st':List Nat) (ck':Nat),
  s=⟨⟨fn,cx,.inRegion aN (i::rest)::kk,ds,.run,kind,ro⟩,cs,h⟩/\aN[i]?=some o/\o.op= .next it false/\kF o aN (fun t=>cx[t]?)=some true/\uC cx it= .aG r 0/\
  h.get r=some (.jS m ks st ck seen)/\h.get m=some (.bo kt vk l st' ck')/\tR l st' ck' ks st ck=true/\(∃p,xN P m kt vk l (.z 0)=some p)/\
  s0=⟨⟨fn,uh cx o.dst (.tuple [.bool false]),.inRegion aN rest::kk,ds,.run,kind,ro⟩,cs,h⟩/\
  k=fun d=>⟨⟨fn,uh cx o.dst (match xN P m kt vk l d with|some p=> .tuple [.bool true,p.1,p.2]|none=> .kC),.inRegion aN rest::kk,ds,.run,kind,ro⟩,cs,h.put r (some (.jS m ks st ck (d::seen)))⟩
def Um {m:Nat}{kt:TypeId}{vk:VK}{l:List (D×D)}{d d':D}{p:BV×BV}(e:xN P m kt vk l d=some p):∃q,xN P m kt vk l d'=some q:=by
 unfold xN at e ⊢
 split at e
 ·rename_i hc
  rw[aeZ hc]
  cases vk with
  |data et=>
   dsimp only at e ⊢
   split at e
   ·rename_i h2;rw[aeZ h2];exact⟨_,rfl⟩
   ·cases e
  |cp f et=>exact⟨_,rfl⟩
  |Ho=>cases e
 ·cases e
structure ac4 (s s1 s2:av):Prop where
 ex:∃(fn:FuncId) (cx:List BV) (aN:Array Oper) (todo:List Nat) (kk:List dI) (ds:List tZ) (kind:CallKind) (ro:Option Nat) (cs:List aZ) (h:af) (j:Nat),
  s=⟨⟨fn,cx,.inRegion aN todo::kk,ds,.run,kind,ro⟩,cs,h⟩/\((∃e,cx[j]?=some (.bC e []))\/∃b vt,cx[j]?=some (.aV b 0 vt))/\s1=⟨⟨fn,cx.set j .bJ,.inRegion aN todo::kk,ds,.run,kind,ro⟩,cs,h⟩/\s2=⟨⟨fn,cx.set j .ku,.inRegion aN todo::kk,ds,.run,kind,ro⟩,cs,h⟩
def LB (P:Program)(s:av)(x:Nx):Prop:=
 xU P (dj P s) x\/(∃ks seen s0 k,x= .pick ks seen s0 k/\aaH P s ks seen s0 k)\/∃s1 s2,x= .Gc s1 s2/\ac4 s s1 s2
def SS {cx:List BV}{o:Oper}{j:Nat}{c:Bool}(h:abq cx o=some (j,c))(hc:c=true):(∃e,cx[j]?=some (.bC e []))\/∃b vt,cx[j]?=some (.aV b 0 vt):=by
 unfold abq at h
 split at h
 all_goals try (cases h;done)
 all_goals
  split at h
  ·rename_i h1 _;cases h;rw[ahW.1 hc]at h1;exact .inl ⟨_,h1⟩
  ·rename_i h1 _;cases h;rw[agc hc]at h1;exact .inr ⟨_,_,h1⟩
  ·cases h
def OV {fr:aZ}{cs:List aZ}{h:af}{aN:Array Oper}{i:Nat}{rest:List Nat}{k:List dI}{o:Oper}{x:Nx}(hm:fr.mode= .run)(ht:fr.todo= .inRegion aN (i::rest)::k)(ho:aN[i]?=some o)
 (hwt:kF o aN (fun t=>fr.cx[t]?)=some true)(e:T.dm x (aaq P tb fr cs h aN o rest k)):LB P ⟨fr,cs,h⟩ x:=by
 unfold aaq at e
 split at e
 ·rename_i it hop
  split at e
  ·rename_i t hpk
   right;left
   unfold aa2 at hpk
   split at hpk
   ·rename_i r hit
    split at hpk
    ·rename_i m ks st ck seen hb
     split at hpk
     ·rename_i kt vk l st' ck' hb2
      split at hpk
      ·rename_i p hp
       cases hpk
       obtain⟨h1,h2⟩:=T.fw e
       have h3:=T.aS h2
       obtain⟨ffn,fenv,ftodo,fds,fmode,fkind,fro⟩:=fr
       dsimp only at hm ht
       subst hm;subst ht
       exact⟨_,_,_,_,h3.symm,⟨⟨_,_,_,_,_,_,_,_,_,_,_,_,_,_,_,_,_,_,_,_,_,_,rfl,ho,hop,hwt,hit,hb,hb2,h1,⟨p,hp⟩,rfl,rfl⟩⟩⟩
      ·cases hpk;exact(T.aH e).elim
     ·cases hpk;exact(T.aH e).elim
    ·cases hpk
   ·cases hpk
  ·exact(T.aH e).elim
 ·left
  simp only[dj,hm,ht]
  rw[ho]
  dsimp only
  rw[hwt]
  obtain⟨q,e1,e⟩:=T.bx e
  dsimp only
  rw[W1 e1];exact I3 e
def UH {s:av}{x:Nx}(e:T.dm x (XU P tb s)):LB P s x:=by
 unfold LB
 obtain⟨fr,cs,h⟩:=s
 unfold XU at e
 dsimp only at e
 split at e
 ·rename_i hm
  split at e
  ·left;rename_i ht;simp only[dj,hm,ht];exact Af e
  ·left;rename_i ht;simp only[dj,hm,ht];exact Af e
  ·left
   rename_i c thn els k ht
   split at e
   ·rename_i b hb
    simp only[dj,hm,ht,hb]
    cases e with
    |tt hc e=>subst hc;rw[xO e];exact xU.of (by simp[hm])
    |ff hc e=>subst hc;rw[xO e];exact xU.of (by simp[hm])
   ·exact(T.aH e).elim
  ·left
   rename_i id k ht
   simp only[dj,hm,ht]
   split at e
   ·rename_i k' hk;rw[xO e,hk];exact xU.of (by simp[hm])
   ·rename_i hk;rw[hk];exact Af e
  ·left
   rename_i l k ht
   simp only[dj,hm,ht]
   split at e
   ·rename_i k' hk;rw[xO e,hk];exact xU.of (by simp[hm])
   ·rename_i hk;rw[hk];exact Af e
  ·left
   rename_i id aN k ht
   split at e
   ·exact(T.aH e).elim
   ·rename_i hc
    obtain⟨r,e1,e⟩:=T.bx e
    rw[xO e]
    simp only[xU,dj,hm,ht,agI,ae0,afS,aeX hc,Hn _ _ _ e1,afb]
  ·rename_i aN i rest k ht
   split at e
   ·left;rename_i ho;simp only[dj,hm,ht];rw[ho,xO e];exact xU.of (by simp[hm])
   ·rename_i o ho
    obtain⟨w,hw,e⟩:=T.bx e
    have hwt:=xR hw
    cases w with
    |true=>
     dsimp only at e
     split at e
     ·rename_i j c hq
      cases e with
      |tt hc e=>
       have h3:=T.aS e
       have hj:=SS hq hc
       obtain⟨ffn,fenv,ftodo,fds,fmode,fkind,fro⟩:=fr
       dsimp only at hm ht hj
       subst hm;subst ht
       exact .inr (.inr ⟨_,_,h3.symm,⟨⟨_,_,_,_,_,_,_,_,_,_,_,rfl,hj,rfl,rfl⟩⟩⟩)
      |ff hc e=>exact OV hm ht ho hwt e
     ·exact OV hm ht ho hwt e
    |false=>left;simp only[dj,hm,ht];rw[ho];dsimp only;rw[hwt];dsimp only at e ⊢;rw[xO e];exact xU.of (by simp[hm])
  ·left
   rename_i d k ht
   simp only[dj,hm,ht]
   split at e
   ·rename_i hd;rw[hd,xO e];exact xU.of (by simp[hm])
   ·rename_i y ys hd
    rw[hd]
    dsimp only
    split at e
    ·exact(T.aH e).elim
    ·rename_i o ho
     rw[ho]
     dsimp only
     obtain⟨w,hw,e⟩:=T.bx e
     rw[xR hw]
     cases w with
     |true=>
      dsimp only at e ⊢
      obtain⟨q,e1,e⟩:=T.bx e
      rw[Fz e1];exact I3 e
     |false=>
      dsimp only at e ⊢
      obtain⟨r,e1,e⟩:=T.bx e
      rw[pT e1,<-T.aS e];rfl
  ·left;exact CQ e
 ·left
  rename_i hm
  have:dj P ⟨fr,cs,h⟩=xP P fr cs h:=by
   unfold dj
   cases hmm:fr.mode with
   |run=>exact absurd hmm hm
   |returning=>simp only[hmm]
  rw[this];exact Po e
end
end
end
end Go.PB
end
