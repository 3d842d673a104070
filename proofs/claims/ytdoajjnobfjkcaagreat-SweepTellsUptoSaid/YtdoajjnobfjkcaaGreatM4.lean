import Derived.Orders
import Derived.RangeFuncRecord
import Derived.RangeFuncNested
import Derived.Test.YtdoajjnobfjkcaaGreatM3
set_option linter.all false
noncomputable section
namespace Go.PB
open Go
section
section
variable {P:Program} {w w':World} {cs cs':List Frame} {fn:FuncId} {tmps:Array Value} {ds:List Deferred} {kd:CallKind} {ro:Option Nat} {k:List Item}
abbrev rf (fn:FuncId)(tmps:Array Value)(todo:List Item)(ds:List Deferred)(kd:CallKind)(ro:Option Nat):Frame:=
 {fn:=fn,tmps:=tmps,todo:=todo,defers:=ds,mode:= .run,kind:=kd,roundOf:=ro}
def adp:step P (lone (rf fn tmps (.code .skip::k) ds kd ro) cs w)= .next (lone (rf fn tmps k ds kd ro) cs w):=step_lone_go (by simp[stepG,stepG.exec])
def aaC {l:Nat}:step P (lone (rf fn tmps (.code (.label l)::k) ds kd ro) cs w)= .next (lone (rf fn tmps k ds kd ro) cs w):=step_lone_go (by simp[stepG,stepG.exec])
def UX {l:Nat}:step P (lone (rf fn tmps (.inBlock l::k) ds kd ro) cs w)= .next (lone (rf fn tmps k ds kd ro) cs w):=step_lone_go (by simp[stepG,stepG.exec])
def UY {c:Code}:step P (lone (rf fn tmps (.inScope c::k) ds kd ro) cs w)= .next (lone (rf fn tmps k ds kd ro) cs w):=step_lone_go (by simp[stepG,stepG.exec])
def afk {a b:Code}:step P (lone (rf fn tmps (.code (.seq a b)::k) ds kd ro) cs w)= .next (lone (rf fn tmps (.code a:: .code b::k) ds kd ro) cs w):=step_lone_go (by simp[stepG,stepG.exec])
def aaA {l:Nat}{c:Code}:step P (lone (rf fn tmps (.code (.block l c)::k) ds kd ro) cs w)= .next (lone (rf fn tmps (.code c:: .inBlock l::k) ds kd ro) cs w):=step_lone_go (by simp[stepG,stepG.exec])
def ado {c:Code}:step P (lone (rf fn tmps (.code (.loop c)::k) ds kd ro) cs w)= .next (lone (rf fn tmps (.code c:: .inLoop c::k) ds kd ro) cs w):=step_lone_go (by simp[stepG,stepG.exec])
def XB {c:Code}:step P (lone (rf fn tmps (.inLoop c::k) ds kd ro) cs w)= .next (lone (rf fn tmps (.code c:: .inLoop c::k) ds kd ro) cs w):=step_lone_go (by simp[stepG,stepG.exec])
def aaE {c:Code}:step P (lone (rf fn tmps (.code (.scope c)::k) ds kd ro) cs w)= .next (lone (rf fn tmps (.code c:: .inScope c::k) ds kd ro) cs w):=step_lone_go (by simp[stepG,stepG.exec])
def adk {x:Operand}{a b:Code}{t:Bool}(h:(rf fn tmps (.code (.cond x a b)::k) ds kd ro).eval x= .bool t):
 step P (lone (rf fn tmps (.code (.cond x a b)::k) ds kd ro) cs w)= .next (lone (rf fn tmps (.code (if t then a else b)::k) ds kd ro) cs w):=step_lone_go (by simp[stepG,stepG.exec,h])
def adm {id:Nat}{k':List Item}(h:exitTo id k=some k'):step P (lone (rf fn tmps (.code (.exit id)::k) ds kd ro) cs w)= .next (lone (rf fn tmps k' ds kd ro) cs w):=step_lone_go (by simp[stepG,stepG.exec,h])
def adn {l:Nat}{k':List Item}(h:gotoIn l k=some k'):step P (lone (rf fn tmps (.code (.goto l)::k) ds kd ro) cs w)= .next (lone (rf fn tmps k' ds kd ro) cs w):=step_lone_go (by simp[stepG,stepG.exec,h])
def XC {id:Nat}{aX:Array Oper}:step P (lone (rf fn tmps (.code (.region id aX false)::k) ds kd ro) cs w)= .next (lone (rf fn tmps (.inRegion aX (List.range aX.size)::k) ds kd ro) cs w):=step_lone_go (by simp[stepG,stepG.exec])
def adl {id:Nat}{aX:Array Oper}(hm:P.follows .mixedOrders=true):∃t,step P (lone (rf fn tmps (.code (.region id aX true)::k) ds kd ro) cs w)=
 .next (lone (rf fn tmps (.inRegion aX (Region.linearise .any aX t)::k) ds kd ro) cs {w with drawn:=w.drawn+1}):=
 ⟨w.tape w.drawn (.order fn id),step_lone_go (by simp[stepG,stepG.exec,choose,Sem.run,Question.forced,Question.cut,Region.schedule,hm])⟩
def IP {aX:Array Oper}:step P (lone (rf fn tmps (.inRegion aX []::k) ds kd ro) cs w)= .next (lone (rf fn tmps k ds kd ro) cs w):=step_lone_go (by simp[stepG,stepG.exec])
def Kh {aX:Array Oper}{i:Nat}{r:List Nat}(h:((aX[i]?).map (Region.wanted · (yielded aX tmps))).getD false=false):
 step P (lone (rf fn tmps (.inRegion aX (i::r)::k) ds kd ro) cs w)= .next (lone ((rf fn tmps (.inRegion aX (i::r)::k) ds kd ro).finish undef) cs w):=step_lone_go (by
 have h':=h
 simp[stepG,stepG.exec,h'])
def No {aX:Array Oper}{i:Nat}{r:List Nat}{o:Oper}(ho:aX[i]?=some o)(hw:Region.wanted o (yielded aX tmps)=true)(hd:ro=none\/∀c,o.op≠ .defer c):
 stepG P true {frame:=rf fn tmps (.inRegion aX (i::r)::k) ds kd ro,callers:=cs,status:= .running,dying:=none} w=
  stepG.apply P true (rf fn tmps (.inRegion aX (i::r)::k) ds kd ro) cs none (execOp (rf fn tmps (.inRegion aX (i::r)::k) ds kd ro).eval o) w:=by
 simp only[stepG,stepG.exec,ho,ahm,hw,ah4,ahz]
 simp only[stepG.oper,Frame.oper?,ho]
 rcases hd with rfl|hd
 ·rfl
 ·cases ro with
  |none=>rfl
  |some l=>
   obtain⟨dst,op,ty,pos,after,guard⟩:=o
   cases op<;>first
    |rfl
    | (exact absurd rfl (hd _))
def Np {f:Frame}{s:Sem Next}{v:Value}(hr:s.run P w= .ok (.value v) w'):(stepG.apply P true f cs none s w).bare= .go {frame:=f.finish v,callers:=cs,status:= .running,dying:=none} w':=by
 simp[stepG.apply,Sem.runT_eq,hr]
def RF {f:Frame}{s:Sem Next}(hr:s.run P w= .ok .skip w'):(stepG.apply P true f cs none s w).bare= .go {frame:=f.finish undef,callers:=cs,status:= .running,dying:=none} w':=by
 simp[stepG.apply,Sem.runT_eq,hr]
def aaB {f:Frame}{s:Sem Next}{g:FuncId}{args:Array Value}(hr:s.run P w= .ok (.enter g args) w')(hk:∀d r sv ah b,f.todo≠ .call d b r sv::ah):
 (stepG.apply P true f cs none s w).bare= .go {frame:=Frame.enter P g args .normal,callers:=f::cs,status:= .running,dying:=none} w':=by
 simp only[stepG.apply,Sem.runT_eq,hr,ahz,GStep.bare_after]
 simp only[GStep.bare]
 congr 2
 split
 ·rename_i ht;exact absurd ht (hk _ _ _ _ _)
 ·rfl
def aaD {f:Frame}{s:Sem Next}{l:Nat}{g:FuncId}{ts:Array Value}{a b:Code}(hr:s.run P w= .ok (.round l g ts a b) w'):
 (stepG.apply P true f cs none s w).bare= .go {frame:=Frame.round l g ts a b .normal,callers:=f::cs,status:= .running,dying:=none} w':=by
 simp[stepG.apply,Sem.runT_eq,hr]
end
end
def Sw {l:Array Bool}{i:Nat}(hi:l[i]?=some false):∃(m:Nat),l[m]?=some false/\∀(j:Nat),j<m->l[j]?=some true:=by
 induction i using Nat.strongRecOn with
 |_ i ih=>
  by_cases hall:∀(j:Nat),j<i->l[j]?=some true
  ·exact⟨i,hi,hall⟩
  ·have:∃(j:Nat),j<i/\l[j]?≠some true:=by
    apply ahK
    intro hn
    exact hall fun j hj=>ahK fun hne=>hn ⟨j,hj,hne⟩
   obtain⟨j,hj,hne⟩:=this
   have hlt:j<l.size:=by
    have:=(ahn.1 hi).1;omega
   refine ih j hj ?_
   rw[ahF hlt]at hne ⊢
   cases hb:l[j]with
   |true=>rw[hb]at hne;exact absurd rfl hne
   |false=>rfl
def Yg (acc:List Nat):∀(es:List Edge) (s k:Nat),(es.foldl (fun s e=>if Region.binds .any e then s ||| 2^e.on ||| acc.getD e.on 0 else s) s).testBit k=true->
 s.testBit k=true\/∃e∈es,Region.binds .any e=true/\(k=e.on\/(acc.getD e.on 0).testBit k=true):=by
 intro es
 induction es with
 |nil=>intro s k h;exact .inl h
 |cons e es ih=>
  intro s k h
  simp only[ajt]at h
  rcases ih _ k h with h1| ⟨e',h1,h2,h3⟩
  ·by_cases hb:Region.binds .any e=true
   ·rw[ag8 hb]at h1
    rw[ajj,ajj,aiB,aiB]at h1
    rcases h1 with (h1|h1)|h1
    ·exact .inl h1
    ·rw[Nat.testBit_two_pow]at h1
     have h2:e.on=k:=by simpa using h1
     exact .inr ⟨e,by simp,hb,.inl h2.symm⟩
    ·exact .inr ⟨e,by simp,hb,.inr h1⟩
   ·rw[ag4 hb]at h1;exact .inl h1
  ·exact .inr ⟨e',by simp[h1],h2,h3⟩
def F7:∀(l:List Oper) (acc:List Nat),(gF l acc).take acc.length=acc/\
 ∀(j:Nat) (o:Oper),l[j]?=some o->∀k,((gF l acc).getD (acc.length+j) 0).testBit k=true->
  ∃e∈o.after.toList,Region.binds .any e=true/\(k=e.on\/(((gF l acc).take (acc.length+j)).getD e.on 0).testBit k=true):=by
 intro l
 induction l with
 |nil=>intro acc;exact⟨by simp[gF],fun j o h=>by simp at h⟩
 |cons x l ih=>
  intro acc
  simp only[gF]
  generalize hx:(x.after.toList.foldl (fun s e=>if Region.binds .any e then s ||| 2^e.on ||| acc.getD e.on 0 else s) 0)=b
  obtain⟨h1,h2⟩:=ih (acc++[b])
  have hacc:(gF l (acc++[b])).take acc.length=acc:=by
   have:=ahE (List.take acc.length) h1
   simpa [ajW]using this
  have hb:(gF l (acc++[b])).getD acc.length 0=b:=by
   have:=ahE (fun l=>l.getD acc.length 0) h1
   simp only[List.getD,ahL,ahc,ahv,aix]at this
   rw[ag8 (by omega)]at this
   simpa [List.getD]using this
  refine⟨hacc,fun j o hj k hk=>?_⟩
  cases j with
  |zero=>
   simp at hj;subst hj
   simp only[air]at hk ⊢
   rw[hb,<-hx]at hk
   rw[hacc]
   rcases Yg acc _ _ _ hk with h0|h0
   ·simp at h0
   ·exact h0
  |succ j=>
   simp at hj
   have:=h2 j o hj k (by simpa [aiW,ajq 1 j]using hk)
   simpa [aiW,ajq 1 j]using this
def HP {aX:Array Oper}{i k:Nat}(h:dn (aY aX) i k=true):∃o,aX[i]?=some o/\∃e∈o.after.toList,Region.binds .any e=true/\(k=e.on\/(e.on<i/\dn (aY aX) e.on k=true)):=by
 unfold dn aY at*
 cases ho:aX.toList[i]? with
 |none=>
  exfalso
  have hlen:∀(l:List Oper) (acc:List Nat),(gF l acc).length=acc.length+l.length:=by
   intro l
   induction l with
   |nil=>intro acc;simp[gF]
   |cons x l ih=>intro acc;simp only[gF,ih];simp;omega
  have:(gF aX.toList []).getD i 0=0:=by
   rw[ait]at ho
   simp only[List.getD]
   rw[ahS (by rw[hlen];simpa using ho)]
   rfl
  rw[this]at h;simp at h
 |some o=>
  obtain⟨e,h1,h2,h3⟩:=(F7 aX.toList []).2 i o ho k (by simpa using h)
  refine⟨o,by simpa using ho,e,h1,h2,?_⟩
  rcases h3 with h3|h3
  ·exact .inl h3
  ·right
   simp only[aix,ah2,List.getD,ahL]at h3
   split at h3
   ·rename_i hlt;exact⟨hlt,by simpa [List.getD]using h3⟩
   ·simp at h3
def JG {aX:Array Oper}(hlow:∀i o,aX[i]?=some o->∀e∈o.after.toList,Region.binds .any e=true->e.on<i):∀(i k:Nat),dn (aY aX) i k=true->k<i:=by
 intro i
 induction i using Nat.strongRecOn with
 |_ i ih=>
  intro k h
  obtain⟨o,ho,e,he,hb,hk⟩:=HP h
  have:=hlow i o ho e he hb
  rcases hk with rfl| ⟨h1,h2⟩
  ·exact this
  ·have:=ih e.on h1 k h2;omega
def PG {aX:Array Oper}(hlow:∀i o,aX[i]?=some o->∀e∈o.after.toList,Region.binds .any e=true->e.on<i):
 ∀(fuel t:Nat) (listed:Array Bool),listed.size=aX.size->(∀i,listed[i]?=some true->∀k,dn (aY aX) i k=true->listed[k]?=some true)->
  let S:=Region.linearise.go .any aX fuel t listed []
  S.Nodup/\(∀i∈S,listed[i]?=some false)/\FW (aY aX) S/\((listed.toList.filter (!·)).length<=fuel->∀i,listed[i]?=some false->i∈S):=by
 intro fuel
 induction fuel with
 |zero=>
  intro t listed hsz hcl
  simp only[Region.linearise.go]
  refine⟨by simp,by simp,by simp[FW],fun hle i hi=>?_⟩
  exfalso
  have:false∈listed.toList.filter (!·):=by
   rw[aiD];exact⟨by rw[<-ahW]at hi;exact agY hi,rfl⟩
  have:=ajB this
  omega
 |succ fuel ih=>
  intro t listed hsz hcl
  simp only[Region.linearise.go]
  generalize hrs:(List.range aX.size).filter (fun i=>!listed.getD i true&&((aX[i]?).map (·.after.all fun e=>!Region.binds .any e||listed.getD e.on false)).getD false)=rs
  have hmem:∀i,i∈rs↔(i<aX.size/\listed[i]?=some false/\∃o,aX[i]?=some o/\∀e∈o.after.toList,Region.binds .any e=true->listed[e.on]?=some true):=by
   intro i
   rw[<-hrs,aiD,ai2,ag2]
   constructor
   ·rintro⟨h1,h2,h3⟩
    refine⟨h1,?_,?_⟩
    ·simp only[ahX,ahl]at h2
     cases hl:listed[i]? with
     |none=>simp[hl]at h2
     |some b=>simp[hl]at h2;rw[h2]
    ·cases ho:aX[i]? with
     |none=>simp[ho]at h3
     |some o=>
      simp only[ho,ahm,ah4]at h3
      refine⟨o,rfl,fun e he hb=>?_⟩
      have:=aiR.1 h3 e (by simpa using he)
      simp only[hb,aip,ai7,ahX]at this
      cases hl:listed[e.on]? with
      |none=>simp[hl]at this
      |some b=>simp[hl]at this;rw[this]
   ·rintro⟨h1,h2,o,h3,h4⟩
    refine⟨h1,by simp[ahX,h2],?_⟩
    simp only[h3,ahm,ah4]
    rw[aiR]
    intro e he
    by_cases hb:Region.binds .any e=true
    ·simp[hb,ahX,h4 e (by simpa using he) hb]
    ·simp[hb]
  cases hr:rs[t % rs.length]? with
  |none=>
   simp only[List.reverse_nil]
   refine⟨by simp,by simp,by simp[FW],fun _ i hi=>?_⟩
   exfalso
   have hne:rs≠[]:=by
    obtain⟨m,hmin,hleast⟩:=Sw hi
    have hlt:m<aX.size:=by
     have:=(ahn.1 hmin).1;omega
    have:m∈rs:=(hmem _).2 ⟨hlt,hmin,_,ahF hlt,fun e he hb=>hleast _ (hlow _ _ (ahF hlt) e he hb)⟩
    intro h0;rw[h0]at this;simp at this
   have:t % rs.length<rs.length:=akF _ (ajP.2 hne)
   rw[ait]at hr
   omega
  |some i=>
   dsimp only
   rw[linearise_go_acc]
   simp only[List.reverse_cons,List.reverse_nil,aiE,List.singleton_append]
   have hi:=(hmem i).1 (agY hr)
   obtain⟨hlt,hfalse,o,ho,hedges⟩:=hi
   have hahead:∀k,dn (aY aX) i k=true->listed[k]?=some true:=by
    intro k hk
    obtain⟨o',ho',e,he,hb,hc⟩:=HP hk
    rw[ho]at ho';cases ho'
    have h1:=hedges e he hb
    rcases hc with rfl| ⟨_,h2⟩
    ·exact h1
    ·exact hcl _ h1 _ h2
   have hltl:i<listed.size:=by omega
   have hset:∀k,(listed.setIfInBounds i true)[k]?=if k=i then some true else listed[k]?:=fun k=>by
    by_cases hk:k=i
    ·subst hk;rw[ag8 rfl,ahA hltl]
    ·rw[ag4 hk,ahH (by omega)]
   obtain⟨n1,n2,n3,n4⟩:=ih (t/rs.length) (listed.setIfInBounds i true) (by simpa using hsz) (by
    intro j hj k hk
    rw[hset]at hj ⊢
    by_cases hki:k=i
    ·rw[ag8 hki]
    ·rw[ag4 hki]
     by_cases hji:j=i
     ·subst hji;exact hahead k hk
     ·rw[ag4 hji]at hj;exact hcl j hj k hk)
   have hnot:i∉Region.linearise.go .any aX fuel (t/rs.length) (listed.setIfInBounds i true) []:=fun hm=>by
    have:=n2 i hm;rw[hset,ag8 rfl]at this;cases this
   refine⟨ahO.2 ⟨hnot,n1⟩,?_,?_,?_⟩
   ·intro j hj
    rcases ag9.1 hj with rfl|hj
    ·exact hfalse
    ·have:=n2 j hj
     rw[hset]at this
     by_cases hji:j=i
     ·rw[ag8 hji]at this;cases this
     ·rwa [ag4 hji]at this
   ·refine⟨fun k hk=>?_,n3⟩
    cases ht:dn (aY aX) i k with
    |false=>rfl
    |true=>
     exfalso
     have h1:=hahead k ht
     rcases ag9.1 hk with rfl|hk
     ·rw[hfalse]at h1;cases h1
     ·have:=n2 k hk
      rw[hset]at this
      by_cases hki:k=i
      ·rw[ag8 hki]at this;cases this
      ·rw[ag4 hki,h1]at this;cases this
   ·intro hle j hj
    by_cases hji:j=i
    ·subst hji;simp
    ·refine ahB _ (n4 ?_ j (by rw[hset,ag4 hji];exact hj))
     have hcount:∀(l:List Bool) (i:Nat),l[i]?=some false->((l.set i true).filter (!·)).length+1=(l.filter (!·)).length:=by
      intro l
      induction l with
      |nil=>intro i h;simp at h
      |cons b l ihl=>
       intro i h
       cases i with
       |zero=>simp at h;subst h;simp
       |succ i=>
        simp at h
        have:=ihl i h
        cases b<;>simp[List.set]<;>omega
     have:=hcount listed.toList i (by simpa using hfalse)
     rw[Array.toList_setIfInBounds]
     omega
def Px (acc:List Nat):∀(es:List Edge) (s k:Nat),(s.testBit k=true\/∃e∈es,Region.binds .any e=true/\(k=e.on\/(acc.getD e.on 0).testBit k=true))->
 (es.foldl (fun s e=>if Region.binds .any e then s ||| 2^e.on ||| acc.getD e.on 0 else s) s).testBit k=true:=by
 intro es
 induction es with
 |nil=>intro s k h;rcases h with h| ⟨e,he,_⟩;· exact h
       ·simp at he
 |cons e es ih=>
  intro s k h
  simp only[ajt]
  apply ih
  rcases h with h| ⟨e',he,hb,hc⟩
  ·left
   by_cases hb:Region.binds .any e=true
   ·rw[ag8 hb,ajj,ajj,h];rfl
   ·rw[ag4 hb];exact h
  ·rcases ag9.1 he with rfl|he
   ·left
    rw[ag8 hb,ajj,ajj]
    rcases hc with rfl|hc
    ·rw[Nat.testBit_two_pow_self];simp
    ·rw[hc];simp
   ·exact .inr ⟨e',he,hb,hc⟩
def RJ:∀(l:List Oper) (acc:List Nat) (j:Nat) (o:Oper),l[j]?=some o->
 (gF l acc).getD (acc.length+j) 0=o.after.toList.foldl (fun s e=>if Region.binds .any e then s ||| 2^e.on ||| ((gF l acc).take (acc.length+j)).getD e.on 0 else s) 0:=by
 intro l
 induction l with
 |nil=>intro acc j o h;simp at h
 |cons x l ih=>
  intro acc j o hj
  cases j with
  |zero=>
   simp at hj;subst hj
   simp only[gF,air]
   generalize hx:(x.after.toList.foldl (fun s e=>if Region.binds .any e then s ||| 2^e.on ||| acc.getD e.on 0 else s) 0)=b
   have h1:=(F7 l (acc++[b])).1
   have hacc:(gF l (acc++[b])).take acc.length=acc:=by
    have:=ahE (List.take acc.length) h1
    simpa [ajW]using this
   have hb:(gF l (acc++[b])).getD acc.length 0=b:=by
    have:=ahE (fun l=>l.getD acc.length 0) h1
    simp only[List.getD,ahL,ahc,ahv,aix]at this
    rw[ag8 (by omega)]at this
    simpa [List.getD]using this
   rw[hb,hacc,hx]
  |succ j=>
   simp at hj
   simp only[gF]
   have:=ih (acc++[(x.after.toList.foldl (fun s e=>if Region.binds .any e then s ||| 2^e.on ||| acc.getD e.on 0 else s) 0)]) j o hj
   simpa [aiW,ajq 1 j]using this
def T6 {aX:Array Oper}{i k:Nat}{o:Oper}{e:Edge}(ho:aX[i]?=some o)(he:e∈o.after.toList)(hb:Region.binds .any e=true)
 (hk:k=e.on\/(e.on<i/\dn (aY aX) e.on k=true)):dn (aY aX) i k=true:=by
 unfold dn aY at*
 have:=RJ aX.toList [] i o (by simpa using ho)
 simp only[aix,ah2]at this
 rw[this]
 refine Px _ _ _ _ (.inr ⟨e,he,hb,?_⟩)
 rcases hk with hk| ⟨h1,h2⟩
 ·exact .inl hk
 ·right
  simp only[List.getD,ahL,ag8 h1]
  simpa [List.getD]using h2
def RQ {aX:Array Oper}(hlow:∀(i:Nat) o,aX[i]?=some o->∀e∈o.after.toList,Region.binds .any e=true->e.on<i):∀(i k j:Nat),dn (aY aX) i k=true->dn (aY aX) k j=true->dn (aY aX) i j=true:=by
 intro i
 induction i using Nat.strongRecOn with
 |_ i ih=>
  intro k j h1 h2
  obtain⟨o,ho,e,he,hb,hc⟩:=HP h1
  rcases hc with rfl| ⟨hlt,hc⟩
  ·exact T6 ho he hb (.inr ⟨hlow i o ho e he hb,h2⟩)
  ·exact T6 ho he hb (.inr ⟨hlt,ih _ hlt _ _ hc h2⟩)
def Oq {bits:List Nat}:∀{l:List Nat},JY bits l=true->l.Pairwise fun a b=>dn bits b a=true:=by
 intro l
 induction l with
 |nil=>intro _;exact List.Pairwise.nil
 |cons a l ih=>
  intro h
  simp only[JY,ag2,ahG]at h
  exact aio.2 ⟨fun b hb=>h.1 b hb,ih h.2⟩
structure agA (aX:Array Oper)(i:Nat)(o:Oper):Prop where
 low:∀e∈o.after.toList,Region.binds .any e=true->e.on<i
 dst:∀t,o.dst=some t->eO aX t=some i
 CW:∀t,t∈JV o->∀k,eO aX t=some k->dn (aY aX) i k=true\/dn (aY aX) k i=true\/k=i
 guard:∀j b,o.guard=some (j,b)->dn (aY aX) i j=true
def nc {aX:Array Oper}(h:HV aX=true):(∀(i:Nat) o,aX[i]?=some o->agA aX i o)/\(qW aX).Pairwise fun a b=>dn (aY aX) b a=true:=by
 unfold HV at h
 simp only[ag2]at h
 obtain⟨h1,h2⟩:=h
 constructor
 ·intro i o ho
  have hlt:i<aX.toList.length:=by have:=(ahn.1 ho).1;simpa using this
  rw[ahG]at h1
  have:=h1 i (ai2.2 hlt)
  have hol:aX.toList[i]?=some o:=by simpa using ho
  rw[hol]at this
  simp only[ag2,ahG]at this
  obtain⟨⟨⟨a,b⟩,c⟩,d⟩:=this
  refine⟨fun e he hb=>?_,fun t ht=>?_,fun t ht k hk=>?_,fun j b' hg=>?_⟩
  ·have:=a e he;simpa [hb]using this
  ·rw[ht]at b;simpa using b
  ·have:=c t ht
   rw[hk]at this
   simp only[aiB,aht]at this
   rcases this with (h|h)|h
   ·exact .inl h
   ·exact .inr (.inl h)
   ·exact .inr (.inr h)
  ·rw[hg]at d;exact d
 ·have:=Oq h2
  unfold qW
  simpa using this
section
def HLe (h h':aj):Prop:=∀b o,h.get b=some o->h'.get b=some o
section
variable {P:Program} {h h':aj}
def abh (hl:HLe h h'){b f:Nat}{k:D}{x:TypeId×List (D×D)×TypeId×List Nat×Nat}(e:Ia P h b f k=some x):Ia P h' b f k=some x:=by
 unfold Ia at e ⊢
 split at e
 ·rename_i hb;rw[hl _ _ hb];exact e
 ·cases e
def PL (hl:HLe h h'){ag:Bool}{n b f:Nat}{k:D}{off:Nat}{v:BV}(e:GN P h ag n b f k off=some v):GN P h' ag n b f k off=some v:=by
 unfold GN at e ⊢
 cases hf:Ia P h b f k with
 |none=>rw[hf]at e;cases e
 |some x=>rw[abh hl hf];rw[hf]at e;exact e
def Yy (hl:HLe h h'){t:TypeId}{a v:BV}(e:xy P h t a=some v):xy P h' t a=some v:=by
 unfold xy at e ⊢
 split at e
 ·rename_i ag n h1 h2
  try simp only[h1,h2]
  split at e
  ·rename_i b off
   split at e
   ·rename_i hb
    simp only[hl _ _ hb];exact e
   ·rename_i hb
    simp only[hl _ _ hb];exact PL hl e
   ·cases e
  ·exact PL hl e
  ·exact e
  ·split at e
   ·rename_i hb
    simp only[hl _ _ hb];exact e
   ·cases e
  ·cases e
 ·cases e
def Sy (hl:HLe h h'){t:TypeId}{x k:BV}{ok:Bool}{v:BV}(e:we P h t x k ok=some v):we P h' t x k ok=some v:=by
 unfold we at e ⊢
 split at e
 ·rename_i kt et hu
  try simp only[hu]
  split at e
  ·cases e
  ·rename_i hk
   rw[ag4 hk]
   cases x<;>try (simp at e;done)
   case map r=>
    dsimp only at e ⊢
    cases hb:h.get r with
    |none=>simp[hb]at e
    |some o=>
     rw[hl _ _ hb]
     rw[hb]at e
     exact e
 ·cases e
def Vc (hl:HLe h h'){it v:BV}(e:zg P h it=some v):zg P h' it=some v:=by
 unfold zg at e ⊢
 split at e
 ·rename_i r
  split at e
  ·rename_i hb
   try simp only[hl _ _ hb]
   split at e
   ·rename_i h1 h2
    simp only[h1,hl _ _ h2];exact e
   ·cases e
  ·cases e
 ·cases e
def abB (hl:HLe h h'){ts:Array TypeId}{args:List BV}{v:BV}(e:Sx P h ts args=some v):Sx P h' ts args=some v:=by
 unfold Sx at e ⊢
 split at e
 ·rename_i t x ht
  try simp only[ht]
  split at e
  case h_7=>
   rename_i hu
   try simp only[hu]
   split at e
   ·rename_i hb;simp only[hl _ _ hb];exact e
   ·cases e
  all_goals first|exact e|cases e
 ·cases e
def SF (hl:HLe h h'){ρ:Operand->BV}{o:Oper}{v:BV}{h1:aj}(he:kq o=false)(ha:kK o=false)(e:Fw P h ρ o=some (.value v,h1)):h1=h/\Fw P h' ρ o=some (.value v,h'):=by
 obtain⟨dst,op,ty,pos,after,guard⟩:=o
 have hv:∀{r r':Option BV},(∀v,r=some v->r'=some v)->(r.map fun x=>(bA.value x,h))=some (.value v,h1)->h1=h/\(r'.map fun x=>(bA.value x,h'))=some (.value v,h'):=by
  intro r r' hr e
  cases r with
  |none=>cases e
  |some x=>simp at e;obtain⟨rfl,rfl⟩:=e;exact⟨rfl,by rw[hr _ rfl];rfl⟩
 have hs:∀{u:BV},some (bA.value u,h)=some (bA.value v,h1)->h1=h/\some (bA.value u,h')=some (bA.value v,h'):=by
  intro u e;cases e;exact⟨rfl,rfl⟩
 cases op<;>simp only[Fw,kq,kK,ag0,agZ,reduceCtorEq]at e he ha ⊢
 case move=>exact hs e
 case assign=>exact hs e
 case pick=>split at e;· exact hs e
            ·cases e
 case build=>exact hv (fun v e=>e) e
 case load=>exact hv (fun v e=>Yy hl e) e
 case nilCheck=>split at e
                case h_5=>split at e<;>first|cases e;done|exact hs e
                all_goals first|cases e;done|exact hs e
 case binOp=>split at e
             ·rename_i hg;rw[ag8 hg];exact hv (fun v e=>e) e
             ·cases e
 case unOp=>exact hv (fun v e=>e) e
 case convert=>exact hv (fun v e=>e) e
 case makeFunc=>split at e<;>first|cases e;done|exact hs e
 case slice=>exact hv (fun v e=>e) e
 case fieldAddr=>exact hv (fun v e=>e) e
 case field=>exact hv (fun v e=>e) e
 case indexAddr=>exact hv (fun v e=>e) e
 case index=>exact hv (fun v e=>e) e
 case lookup=>exact hv (fun v e=>Sy hl e) e
 case entry=>exact hv (fun v e=>Vc hl e) e
 case extract=>split at e
               ·exact hv (fun v e=>e) e
               ·cases e
 case call c=>
  split at he
  case h_4=>cases he
  all_goals
   rename_i hc
   simp only[Aw,hc,ais,Bi,Cv]at e ⊢
  ·exact hv (fun v e=>abB hl e) e
  ·split at e
   ·cases e
   ·exact hv (fun v e=>e) e
  ·split at e
   ·cases e
   ·exact hv (fun v e=>e) e
def YT {ρ:Operand->BV}{o:Oper}{v:BV}{h1:aj}(he:kq o=false)(ha:kK o=false)(hlo:Il o=false)(e:Fw P h ρ o=some (.value v,h1))(h':aj):Fw P h' ρ o=some (.value v,h'):=by
 obtain⟨dst,op,ty,pos,after,guard⟩:=o
 have hv:∀{r:Option BV},(r.map fun x=>(bA.value x,h))=some (.value v,h1)->(r.map fun x=>(bA.value x,h'))=some (.value v,h'):=by
  intro r e
  cases r with
  |none=>cases e
  |some x=>simp at e;obtain⟨rfl,rfl⟩:=e;rfl
 have hs:∀{u:BV},some (bA.value u,h)=some (bA.value v,h1)->some (bA.value u,h')=some (bA.value v,h'):=by
  intro u e;cases e;rfl
 cases op<;>simp only[Fw,kq,kK,Il,ag0,agZ,reduceCtorEq]at e he ha hlo ⊢
 case pick=>split at e;· exact hs e
            ·cases e
 case nilCheck=>split at e
                case h_5=>split at e<;>first|cases e;done|exact hs e
                all_goals first|cases e;done|exact hs e
 case makeFunc=>split at e<;>first|cases e;done|exact hs e
 case extract=>split at e
               ·exact hv e
               ·cases e
 case move=>exact hs e
 case assign=>exact hs e
 all_goals exact hv e
end
end
section
def Eo (tmps:Array Value)(dst:Option Nat)(v:Value):Array Value:=
 match dst with|some d=>tmps.setIfInBounds d v|none=>tmps
def Mk {t:Nat}:∀(l:List Oper) (k j:Nat),Dp t l k=some j->∃i o,j=k+i/\l[i]?=some o/\o.dst=some t:=by
 intro l
 induction l with
 |nil=>intro k j h;simp[Dp]at h
 |cons x l ih=>
  intro k j h
  simp only[Dp]at h
  split at h
  ·rename_i hd;cases h;exact⟨0,x,rfl,rfl,by simpa using hd⟩
  ·obtain⟨i,o,h1,h2,h3⟩:=ih _ _ h
   exact⟨i+1,o,by omega,by simpa using h2,h3⟩
def pF {aX:Array Oper}{t k:Nat}(h:eO aX t=some k):∃o,aX[k]?=some o/\o.dst=some t:=by
 obtain⟨i,o,h1,h2,h3⟩:=Mk _ _ _ h
 exact⟨o,by simp at h1;subst h1;simpa using h2,h3⟩
def Ht {aX:Array Oper}{b7:List BV}{aJ vals':List (Option BV)}{i:Nat}(hv:∀k,dn (aY aX) i k=true->vals'.getD k none=aJ.getD k none):
 nF aX (aY aX) b7 vals' i=nF aX (aY aX) b7 aJ i:=by
 funext t
 unfold nF
 cases hw:eO aX t with
 |none=>rfl
 |some k=>
  dsimp only
  cases hb:dn (aY aX) i k with
  |true=>rw[hv k hb]
  |false=>rfl
def NV {aX:Array Oper}{b7:List BV}{aJ vals':List (Option BV)}{i:Nat}(hv:∀k,dn (aY aX) i k=true->vals'.getD k none=aJ.getD k none):
 kS aX (aY aX) b7 vals' i=kS aX (aY aX) b7 aJ i:=by
 funext x
 cases x<;>simp only[kS]
 rw[Ht hv]
def Jr.congr {P:Program}{g:Gh}{h hp:aj}{aX:Array Oper}{b7:List BV}{aJ vals':List (Option BV)}{b:Option Nat}{i:Nat}{o:Oper}{v:BV}
 (hv:∀k,dn (aY aX) i k=true->vals'.getD k none=aJ.getD k none)(ho:Jr P g h hp aX b7 aJ b i o v):Jr P g h hp aX b7 vals' b i o v:=by
 unfold Jr at*
 rw[NV hv,Ht hv]
 exact ho
section
variable {P:Program} {g g':Gh} {h h' hp:aj} {w w':World} {lb ub:Nat} {ph:Nat->Option Nat} {d:HI} {tmps:Array Value} {i:Nat} {r:List Nat} {o:Oper}
def IG {aX:Array Oper}{o:Oper}{cx:Nat->Option BV}{tmps:Array Value}
 (hs:∀j b,o.guard=some (j,b)->∀d,(aX[j]?).bind (·.dst)=some d->(cx d=none/\tmps[d]?=none)\/∃b v,cx d=some b/\tmps[d]?=some v/\ao P g w b v){r:Bool}(e:lg o aX cx=some r):
 Region.wanted o (yielded aX tmps)=r:=by
 unfold lg at e
 unfold Region.wanted
 split at e
 ·rename_i hg;rw[hg];cases e;rfl
 ·rename_i j want hg
  rw[hg]
  dsimp only
  unfold LB at e
  unfold yielded
  cases hd:(aX[j]?).bind (·.dst)with
  |none=>simp[hd]at e;rw[e];rfl
  |some d=>
   simp only[hd,ais]at e ⊢
   rcases hs j want hg d hd with ⟨h1,h2⟩| ⟨b,v,h1,h2,h3⟩
   ·simp[h1]at e;rw[h2,e];rfl
   ·rw[h1]at e
    rw[h2]
    cases b<;>first
     | (simp at e;done)
     | (simp only[ao]at h3;subst h3;simpa using e)
     | (have:∀b,v≠ .bool b:=by
         intro b hb;subst hb
         simp only[ao]at h3
         first
          | (cases h3;done)
          | (rcases h3 with ⟨_,h3| ⟨_,_,h3⟩⟩| ⟨_,_,_,h3,_⟩<;>cases h3;done)
          | (rcases h3 with ⟨_,h3| ⟨_,h3⟩⟩| ⟨_,_,h3,_⟩<;>cases h3;done)
          | (rcases h3 with ⟨_,h3| ⟨_,h3⟩⟩| ⟨_,_,_,_,h3,_⟩<;>cases h3;done)
          | (obtain⟨_,h3,_⟩:=h3;cases h3;done)
          | (obtain⟨_,_,h3⟩:=h3;cases h3;done)
          | (obtain⟨_,_,h3,_⟩:=h3;cases h3;done)
          | (obtain⟨_,_,_,h3⟩:=h3;cases h3;done)
          | (obtain⟨_,_,_,h3,_⟩:=h3;cases h3;done)
          | (obtain⟨_,_,_,_,h3,_⟩:=h3;cases h3;done)
          | (obtain⟨_,h3⟩:=h3;cases h3;done)
        simp at e;rw[e]
        cases v<;>first|rfl|exact absurd rfl (this _))
def yr {aX:Array Oper}{n:Nat}(h:HX aX n=true){i:Nat}{o:Oper}{t:Nat}(ho:aX[i]?=some o)(hd:o.dst=some t):t<n:=by
 unfold HX at h
 rw[ahG]at h
 have:=h o (by have:aX.toList[i]?=some o:=by simpa using ho
               exact agY this)
 rw[hd]at this
 simpa using this
def iG.agN (hd:iG P g h w lb ub hp ph d tmps (i::r)){t:Nat}
 (hk:∀k,eO d.aX t=some k->dn (aY d.aX) i k=true\/dn (aY d.aX) k i=true\/k=i):
 nF d.aX (aY d.aX) d.b7 d.aJ i t=gb d.aX d.b7 d.aJ (i::r) t:=by
 unfold nF gb
 cases hw:eO d.aX t with
 |none=>rfl
 |some k=>
  dsimp only
  have hlow:=fun i o ho=>((nc hd.ok).1 i o ho).low
  cases hb:dn (aY d.aX) i k with
  |true=>
   have hn:k∉i::r:=fun hm=>by
    have:=hd.YU.1 k hm;rw[this]at hb;cases hb
   rw[ag4 hn];rfl
  |false=>
   have hm:k∈i::r:=by
    rcases hk k hw with h1|h1|rfl
    ·rw[h1]at hb;cases hb
    ·apply ahK
     intro hn
     obtain⟨o',ho',_⟩:=pF hw
     have hlt:k<d.aX.size:=(ahn.1 ho').1
     exact hd.dc k hlt hn i h1 (by simp)
    ·simp
   rw[ag8 hm];rfl
def iG.UO (hd:iG P g h w lb ub hp ph d tmps (i::r)){t:Nat}
 (hk:∀k,eO d.aX t=some k->dn (aY d.aX) i k=true\/dn (aY d.aX) k i=true\/k=i):
 ao P g w (nF d.aX (aY d.aX) d.b7 d.aJ i t) (tmps.getD t undef):=by
 rw[hd.agN hk]
 cases ht:tmps[t]? with
 |some v=>rw[ahX,ht];exact hd.Hu t v ht
 |none=>
  rw[ahX,ht]
  have hle:tmps.size<=t:=by rw[Array.getElem?_eq_none_iff]at ht;exact ht
  rw[hd.size]at hle
  unfold gb
  cases hw:eO d.aX t with
  |none=>
   dsimp only
   rw[List.getD,ahS hle];exact ao.undef
  |some k=>
   exfalso
   obtain⟨o',ho',hd'⟩:=pF hw
   have:=yr hd.NT ho' hd'
   omega
def PR {o:Oper}{t:Nat}(h:Operand.tmp t∈o.op.operands.toList):t∈JV o:=by
 unfold JV
 rw[List.mem_filterMap]
 exact⟨_,h,rfl⟩
def iG.eval (hd:iG P g h w lb ub hp ph d tmps (i::r))(ho:d.aX[i]?=some o)(f:Frame)(hf:f.tmps=tmps):
 ∀x∈o.op.operands.toList,ao P g w (kS d.aX (aY d.aX) d.b7 d.aJ i x) (f.eval x):=by
 intro x hx
 subst hf
 cases x with
 |tmp t=>
  simp only[kS,Frame.eval]
  exact hd.UO fun k hk=>((nc hd.ok).1 i o ho).CW t (PR hx) k hk
 |const v=>exact ao.ofv P g w v
 |global a=>simp[kS,ao]
 |func f'=>simp only[kS,Frame.eval,ao];exact⟨#[],#[],rfl,aq.nil,aq.nil⟩
def iG.wanted (hd:iG P g h w lb ub hp ph d tmps (i::r))(ho:d.aX[i]?=some o){b:Bool}
 (e:lg o d.aX (fun t=>some (nF d.aX (aY d.aX) d.b7 d.aJ i t))=some b):Region.wanted o (yielded d.aX tmps)=b:=by
 refine IG (P:=P) (g:=g) (w:=w) (fun j b' hg t ht=>?_) e
 right
 cases hj:d.aX[j]? with
 |none=>rw[hj]at ht;cases ht
 |some oj=>
  rw[hj]at ht
  simp only[ais]at ht
  have hlt:=yr hd.NT hj ht
  have hlt':t<tmps.size:=by rw[hd.size];exact hlt
  refine⟨_,tmps[t],rfl,ahF hlt',?_⟩
  have hw:=((nc hd.ok).1 j oj hj).dst t ht
  have hb:=((nc hd.ok).1 i o ho).guard j b' hg
  have:=hd.UO (t:=t) (fun k hk=>by rw[hw]at hk;cases hk;exact .inl hb)
  rw[ahX,ahF hlt']at this
  exact this
def Ky (hd:iG P g h w lb ub hp ph d tmps (i::r))(ho:d.aX[i]?=some o)(he:kq o=false){v:BV}{v':Value}(hv:d.aJ[i]?=some (some v))(hm:eC g w g' w')
 (hop:∀j∈r,∀x,ph j=some x->g.m x=none->r8 (h.get x)=false->g'.m x=none)(hvr:ao P g' w' v v'):iG P g' h w' lb ub hp ph d (Eo tmps o.dst v') r where
 ok:=hd.ok
 NT:=hd.NT
 size:=by unfold Eo;split<;>simp[hd.size]
 W5:=hd.W5
 lJ:=(ahO.1 hd.lJ).2
 lt:=fun j hj=>hd.lt j (by simp[hj])
 YU:=hd.YU.2
 dc:=fun j hj hn k hk=>by
  by_cases hji:j=i
  ·subst hji
   intro hm
   have:=hd.YU.1 k (by simp[hm]);rw[this]at hk;cases hk
  ·intro hm
   exact hd.dc j hj (by simp[hji,hn]) k hk (by simp[hm])
 cO:=fun e=>by
  rw[hd.cO e]
  constructor
  ·rintro⟨h1,h2⟩
   rcases ag9.1 h1 with rfl|h1
   ·obtain⟨o',ho',he'⟩:=h2;rw[ho]at ho';cases ho';rw[he]at he';cases he'
   ·exact⟨h1,h2⟩
  ·rintro⟨h1,h2⟩;exact⟨by simp[h1],h2⟩
 A3:=hd.A3
 aJ:=fun j hj hn=>by
  by_cases hji:j=i
  ·subst hji;exact⟨v,hv⟩
  ·exact hd.aJ j hj (by simp[hji,hn])
 Hu:=fun t u hu=>by
  have hnr:=(ahO.1 hd.lJ).1
  by_cases hdt:o.dst=some t
  ·have hw:=((nc hd.ok).1 i o ho).dst t hdt
   have hcs:gb d.aX d.b7 d.aJ r t=v:=by
    unfold gb
    rw[hw]
    dsimp only
    rw[ag4 hnr,List.getD,hv];rfl
   rw[hcs]
   have hlt:=yr hd.NT ho hdt
   have:u=v':=by
    unfold Eo at hu
    rw[hdt]at hu
    dsimp only at hu
    rw[ahA (by rw[hd.size];exact hlt)]at hu
    cases hu;rfl
   rw[this];exact hvr
  ·have hut:tmps[t]?=some u:=by
    unfold Eo at hu
    cases hdd:o.dst with
    |none=>rw[hdd]at hu;exact hu
    |some t'=>
     rw[hdd]at hu hdt
     dsimp only at hu
     rwa [ahH (fun e=>hdt (by rw[e]))]at hu
   have hcs:gb d.aX d.b7 d.aJ r t=gb d.aX d.b7 d.aJ (i::r) t:=by
    unfold gb
    cases hw:eO d.aX t with
    |none=>rfl
    |some k=>
     dsimp only
     have hki:k≠i:=fun e=>by
      subst e
      obtain⟨o',ho',hd'⟩:=pF hw
      rw[ho]at ho';cases ho'
      exact hdt hd'
     by_cases hkr:k∈r
     ·rw[ag8 hkr,ag8 (by simp[hkr])]
     ·rw[ag4 hkr,ag4 (by simp[hkr,hki])]
   rw[hcs]
   exact ao.mono hm _ _ (hd.Hu t u hut)
 ready:=fun j hj=>hd.ready j (by simp[hj])
 zl:=fun j hj o' u h1 h2 h3=>by
  obtain⟨k1,k2⟩:=hd.zl j (by simp[hj]) o' u h1 h2 h3
  exact⟨k1,k2.mono fun x hx hx' hv'=>⟨hop j hj x hx hx' hv',rfl⟩⟩
 MV:=hd.MV
 Qy:=hd.Qy
def Pt {o:Oper}(he:kq o=false):∀c,o.op≠ .defer c:=fun c hc=>by simp[kq,hc]at he
section
variable {fn:FuncId} {ds:List Deferred} {kd:CallKind} {ro:Option Nat} {k:List Item} {cs:List Frame}
def DZ {aX:Array Oper}(ho:aX[i]?=some o)(v:Value):
 (rf fn tmps (.inRegion aX (i::r)::k) ds kd ro).finish v=rf fn (Eo tmps o.dst v) (.inRegion aX r::k) ds kd ro:=by
 cases hd:o.dst<;>simp[Frame.finish,ho,Eo,hd]
def Sa (hr:bc P g h w)(hd:iG P g h w lb ub h ph d tmps (i::r))(ho:d.aX[i]?=some o)(he:kq o=false):
 ∃v' g' w',Steps P (lone (rf fn tmps (.inRegion d.aX (i::r)::k) ds kd ro) cs w) (lone (rf fn (Eo tmps o.dst v') (.inRegion d.aX r::k) ds kd ro) cs w')/\
  bc P g' h w'/\hJ g h w g' h w'/\sr lb g h g' h/\iG P g' h w' lb ub h ph d (Eo tmps o.dst v') r:=by
 have hnw:AH d.aX d.cO i:=fun e hee=>hd.YU.1 e ((hd.cO e).1 hee).1
 obtain⟨v,hv⟩:=hd.ready i (by simp) o ho he hnw
 obtain⟨_,hopen⟩:=hd.zl i (by simp) o v ho he hv
 have hnr:=(ahO.1 hd.lJ).1
 rcases hopen with ⟨hw,rfl⟩| ⟨hw,hopen⟩
 ·have hw':=hd.wanted ho hw
  refine⟨undef,g,w,Steps.one ?_,hr,hJ.refl _ _ _,sr.refl _ _ _,Ky hd ho he hv (eC.refl _ _) (fun _ _ _ _ h _=>h) ao.undef⟩
  rw[Kh (by simp[ho,hw']),DZ ho]
 ·have hw':=hd.wanted ho hw
  have heval:=hd.eval ho (rf fn tmps (.inRegion d.aX (i::r)::k) ds kd ro) rfl
  have hstep:=No (P:=P) (w:=w) (cs:=cs) (fn:=fn) (tmps:=tmps) (ds:=ds) (kd:=kd) (ro:=ro) (k:=k) (r:=r) ho hw' (.inr (Pt he))
  rcases hopen with ⟨_,hop⟩| ⟨ha,h1,h2,hb,hop,hgm,hget,hvt⟩
  ·obtain⟨g',w',k1,k2,k3,v',k4,k5⟩:=Tw hr heval hop
   refine⟨v',g',w',Steps.one ?_,k1,k2,fun x hx hxm hxv=>?_,Ky hd ho he hv k2.mono (fun j hj x hx hxm hxv=>?_) k5⟩
   ·exact step_lone_go (by rw[hstep,Np k4,DZ ho])
   ·cases hx':decide (x<h.next)with
    |true=>exact k3 x (by simpa using hx') hxm hxv
    |false=>
     have:h.get x=none:=by
      cases hq:h.get x with
      |none=>rfl
      |some q=>have:=hr.Jt _ _ hq;simp at hx';omega
     refine⟨?_,by rfl⟩
     cases hq:g'.m x with
     |none=>rfl
     |some q=>have:=k1.lt _ _ hq;simp at hx';omega
   ·cases hx':decide (x<h.next)with
    |true=>exact(k3 x (by simpa using hx') hxm hxv).1
    |false=>
     cases hq:g'.m x with
     |none=>rfl
     |some q=>have:=k1.lt _ _ hq;simp at hx';omega
  ·obtain⟨v',w',k4,k1,k2,k5⟩:=UG hr ha heval hop hget hgm
   refine⟨v',_,w',Steps.one ?_,k1,k2,fun x hx hxm hxv=>?_,Ky hd ho he hv k2.mono (fun j hj x hx hxm hxv=>?_) k5⟩
   ·exact step_lone_go (by rw[hstep,Np k4,DZ ho])
   ·have:=(hd.Qy i _ hb).1
    exact⟨by rw[Gh.gl g (by omega)];exact hxm,rfl⟩
   ·rw[Gh.gl g (fun e=>hnr ?_)];exact hxm
    subst e
    rw[hd.MV _ _ _ hb hx];exact hj
def X5:∀{ah:List Nat} {g:Gh} {w:World} {tmps:Array Value},bc P g h w->iG P g h w lb ub h ph d tmps ah->
 ∃tmps' rest' g' w',Steps P (lone (rf fn tmps (.inRegion d.aX ah::k) ds kd ro) cs w) (lone (rf fn tmps' (.inRegion d.aX rest'::k) ds kd ro) cs w')/\
  bc P g' h w'/\hJ g h w g' h w'/\sr lb g h g' h/\iG P g' h w' lb ub h ph d tmps' rest'/\((rest'=[]/\d.cO=[])\/∃x r cO,rest'=x::r/\d.cO=x::cO):=by
 intro ah
 induction ah with
 |nil=>
  intro g w tmps hr hd
  refine⟨tmps,[],g,w,Steps.refl _ _,hr,hJ.refl _ _ _,sr.refl _ _ _,hd,.inl ⟨rfl,?_⟩⟩
  cases he:d.cO with
  |nil=>rfl
  |cons x l=>have:=(hd.cO x).1 (by simp[he]);simp at this
 |cons i r ih=>
  intro g w tmps hr hd
  have hlt:=hd.lt i (by simp)
  have ho:=ahF hlt
  cases he:kq d.aX[i]with
  |false=>
   obtain⟨v',g1,w1,s1,h1,e1,p1,d1⟩:=Sa (fn:=fn) (ds:=ds) (kd:=kd) (ro:=ro) (k:=k) (cs:=cs) hr hd ho he
   obtain⟨tmps',rest',g2,w2,s2,h2,e2,p2,d2,hc⟩:=ih h1 d1
   exact⟨tmps',rest',g2,w2,s1.trans s2,h2,e1.trans e2,p1.trans p2,d2,hc⟩
  |true=>
   refine⟨tmps,i::r,g,w,Steps.refl _ _,hr,hJ.refl _ _ _,sr.refl _ _ _,hd,.inr ⟨i,r,?_⟩⟩
   have him:i∈d.cO:=(hd.cO i).2 ⟨by simp,_,ho,he⟩
   cases hl:d.cO with
   |nil=>rw[hl]at him;cases him
   |cons x l=>
    refine⟨l,rfl,?_⟩
    rw[hl]at him
    rcases ag9.1 him with rfl|hil
    ·rfl
    ·exfalso
     have hp:=hd.A3
     rw[hl]at hp
     have h1:=(aio.1 hp).1 i hil
     have h2:=hd.YU.1 x ((hd.cO x).1 (by simp[hl])).1
     rw[h2]at h1;cases h1
end
end
end
section
section
variable {P:Program} {g:Gh} {h h' hp:aj} {w:World} {lb ub:Nat}
def aat (P:Program)(g:Gh)(h:aj)(lb:Nat)(aX:Array Oper)(b7:List BV)(cO:List Nat)(aJ:List (Option BV))(ph:Nat->Option Nat)(ah:List Nat):Prop:=
 (∀i∈ah,∀o v,aX[i]?=some o->kq o=false->aJ[i]?=some (some v)->AH aX cO i/\Jr P g h h aX b7 aJ (ph i) i o v)/\
 (∀i j b,ph i=some b->ph j=some b->i=j)/\(∀i b,ph i=some b->lb<=b/\b<h.next)
def Xj (aX:Array Oper)(aJ:List (Option BV))(ah:List Nat):Prop:=
 ∀i∈ah,∀o,aX[i]?=some o->kq o=false->qc aJ i->∀k,dn (aY aX) i k=true->qc aJ k
def Xt (aX:Array Oper)(cO:List Nat)(aJ:List (Option BV))(m:Nat):Prop:=
 ∀i,i<m->∀o,aX[i]?=some o->kq o=false->AH aX cO i->qc aJ i
def CP {aJ:List (Option BV)}{m k:Nat}(h:k≠m)(x:Option BV):(aJ.set m x).getD k none=aJ.getD k none:=by
 simp only[List.getD];rw[ain (by omega)]
def xL {aJ:List (Option BV)}{m k:Nat}{v:BV}(h:qc aJ k):qc (aJ.set m (some v)) k:=by
 obtain⟨u,hu⟩:=h
 by_cases hk:k=m
 ·subst hk;exact⟨v,by rw[ai4 (aha.1 hu).1]⟩
 ·exact⟨u,by rw[ain (by omega)];exact hu⟩
def abv (hr:bc P g h w)(o:aI):HLe h (h.new o):=fun b ob hb=>by
 have:=hr.Jt _ _ hb
 rw[aj.eL,ag4 (by omega)];exact hb
def GY {aX:Array Oper}{cO:List Nat}{i k:Nat}(hlow:∀(i:Nat) o,aX[i]?=some o->∀e∈o.after.toList,Region.binds .any e=true->e.on<i)
 (hn:AH aX cO i)(hk:dn (aY aX) i k=true):AH aX cO k:=fun e he=>by
 cases hb:dn (aY aX) k e with
 |false=>rfl
 |true=>have:=RQ hlow _ _ _ hk hb;rw[hn e he]at this;cases this
def GH {aX:Array Oper}{b7:List BV}{cO ah:List Nat}(hlow:∀(i:Nat) o,aX[i]?=some o->∀e∈o.after.toList,Region.binds .any e=true->e.on<i)
 (heff:∀k∈ah,abd aX k->k∈cO){h':aj}{vals':List (Option BV)}:
 ∀(n m:Nat) (h:aj) (aJ:List (Option BV)) (ph:Nat->Option Nat),sX P aX (aY aX) b7 cO (List.range' m n) h aJ=some (h',vals')->bc P g h w->
  aat P g h lb aX b7 cO aJ ph ah->lb<=h.next->aJ.length=aX.size->m+n=aX.size->Xj aX aJ ah->Xt aX cO aJ m->(∀i,i<aX.size->¬qc aJ i->i∈ah)->
  ∃ph',bc P g h' w/\hJ g h w g h' w/\Ph g h g h'/\vals'.length=aX.size/\(∀(i:Nat) v,aJ[i]?=some (some v)->vals'[i]?=some (some v))/\aat P g h' lb aX b7 cO vals' ph' ah/\Xt aX cO vals' aX.size:=by
 intro n
 induction n with
 |zero=>
  intro m h aJ ph e hr hf hlb hlen hmn hcl hrd hpend
  simp only[List.range'_zero,sX]at e
  cases e
  exact⟨ph,hr,hJ.refl _ _ _,Ph.refl _ _,hlen,fun _ _ h=>h,hf,by rw[<-hmn];simpa using hrd⟩
 |succ n ih=>
  intro m h aJ ph e hr hf hlb hlen hmn hcl hrd hpend
  have hmlt:m<aX.size:=by omega
  have ho:=ahF hmlt
  generalize aX[m]=o at ho
  rw[List.range'_succ]at e
  simp only[sX,ho]at e
  cases hvm:aJ.getD m none with
  |some u=>
   rw[hvm]at e
   have hval:qc aJ m:=by
    have hml:m<aJ.length:=by omega
    rw[List.getD,ag7 hml]at hvm
    exact⟨u,by rw[ag7 hml];simpa using hvm⟩
   refine ih (m+1) h aJ ph e hr hf hlb hlen (by omega) hcl (fun i hi o' ho' he hn=>?_) hpend
   by_cases him:i=m
   ·subst him;exact hval
   ·exact hrd i (by omega) o' ho' he hn
  |none=>
   rw[hvm]at e
   dsimp only at e
   have hnone:¬qc aJ m:=fun ⟨v,hv⟩=>by rw[List.getD,hv]at hvm;cases hvm
   split at e
   ·rename_i hc
    refine ih (m+1) h aJ ph e hr hf hlb hlen (by omega) hcl (fun i hi o' ho' he hn=>?_) hpend
    by_cases him:i=m
    ·subst him
     rw[ho]at ho';cases ho'
     rw[he,ai7,ajm]at hc
     obtain⟨e',h1,h2⟩:=hc
     rw[hn e' h1]at h2;cases h2
    ·exact hrd i (by omega) o' ho' he hn
   ·rename_i hc
    rw[aiB,akP]at hc
    obtain⟨he,hnw⟩:=hc
    have he:kq o=false:=by simpa using he
    have hnw:AH aX cO m:=fun e' h1=>by
     cases hb:dn (aY aX) m e' with
     |false=>rfl
     |true=>exact absurd (ajm.2 ⟨e',h1,hb⟩) hnw
    have hmrest:m∈ah:=hpend m hmlt hnone
    have hahead:∀k,dn (aY aX) m k=true->qc aJ k:=fun k hk=>by
     have hkm:=JG hlow m k hk
     apply ahK
     intro hnv
     have hkr:=hpend k (by omega) hnv
     have hko:=ahF (show k<aX.size by omega)
     cases hke:kq aX[k]with
     |true=>
      have:=heff k hkr ⟨_,hko,hke⟩
      rw[hnw k this]at hk;cases hk
     |false=>exact hnv (hrd k hkm _ hko hke (GY hlow hnw hk))
    have hstep:∀(v:BV) (h1:aj) (ph1:Nat->Option Nat),bc P g h1 w->hJ g h w g h1 w->Ph g h g h1->h.next<=h1.next->
     sX P aX (aY aX) b7 cO (List.range' (m+1) n) h1 (aJ.set m (some v))=some (h',vals')->
     (∀i∈ah,i≠m->∀o' u,aX[i]?=some o'->kq o'=false->aJ[i]?=some (some u)->Jr P g h1 h1 aX b7 aJ (ph1 i) i o' u)->
     Jr P g h1 h1 aX b7 aJ (ph1 m) m o v->
     (∀i j b,ph1 i=some b->ph1 j=some b->i=j)->(∀i b,ph1 i=some b->lb<=b/\b<h1.next)->
     ∃ph',bc P g h' w/\hJ g h w g h' w/\Ph g h g h'/\vals'.length=aX.size/\(∀(i:Nat) v,aJ[i]?=some (some v)->vals'[i]?=some (some v))/\aat P g h' lb aX b7 cO vals' ph' ah/\Xt aX cO vals' aX.size:=by
     intro v h1 ph1 hr1 hx1 hp1 hn1 e1 hold hnew hinj hlt
     obtain⟨ph',k1,k2,k3,k4,k5,k6,k7⟩:=ih (m+1) h1 (aJ.set m (some v)) ph1 e1 hr1 (by
      refine⟨fun i hi o' u ho' he' hv'=>?_,hinj,hlt⟩
      by_cases him:i=m
      ·subst him
       rw[ai4 (by omega)]at hv'
       cases hv'
       rw[ho]at ho';cases ho'
       exact⟨hnw,hnew.congr fun k hk=>CP (by have:=JG hlow _ _ hk;omega) _⟩
      ·rw[ain (by omega)]at hv'
       refine⟨(hf.1 i hi o' u ho' he' hv').1,(hold i hi him o' u ho' he' hv').congr fun k hk=>CP (fun e=>?_) _⟩
       subst e
       exact hnone (hcl i hi o' ho' he' ⟨u,hv'⟩ _ hk)) (by omega) (by simpa using hlen) (by omega) (by
      intro i hi o' ho' he' hv' k hk
      by_cases him:i=m
      ·subst him;exact xL (hahead k hk)
      ·obtain⟨u,hu⟩:=hv'
       rw[ain (by omega)]at hu
       exact xL (hcl i hi o' ho' he' ⟨u,hu⟩ k hk)) (by
      intro i hi o' ho' he' hn'
      by_cases him:i=m
      ·subst him;exact⟨v,by rw[ai4 (by omega)]⟩
      ·exact xL (hrd i (by omega) o' ho' he' hn')) (by
      intro i hi hnv
      exact hpend i hi fun hv=>hnv (xL hv))
     refine⟨ph',k1,hx1.trans k2,hp1.trans hn1 k3,k4,fun i u hu=>?_,k6,k7⟩
     refine k5 i u ?_
     rw[ain (fun e=>?_)];exact hu
     subst e;exact hnone ⟨u,hu⟩
    split at e
    ·rename_i hw
     cases hop:Fw P h (kS aX (aY aX) b7 aJ m) o with
     |none=>rw[hop]at e;cases e
     |some q=>
      obtain⟨nx,h1⟩:=q
      rw[hop]at e
      cases nx<;>try (cases e;done)
      rename_i v
      dsimp only at e
      cases ha:kK o with
      |false=>
       obtain⟨hh,_⟩:=SF (h':=h) (fun _ _ h=>h) he ha hop
       subst hh
       exact hstep v h1 ph hr (hJ.refl _ _ _) (Ph.refl _ _) (aho _) e (fun i hi _ o' u ho' he' hv'=>(hf.1 i hi o' u ho' he' hv').2)
        (.inr ⟨hw,.inl ⟨ha,hop⟩⟩) hf.2.1 hf.2.2
      |true=>
       obtain⟨_,ob,_,rfl,hvo,hno⟩:=MU ha hop
       obtain⟨hr1,hx1⟩:=hr.N8 ob hno
       refine hstep v (h.new ob) (fun j=>if j=m then some h.next else ph j) hr1 hx1 (Ph.new ob) (by simp) e (fun i hi him o' u ho' he' hv'=>?_) ?_ (fun i j b hi hj=>?_) (fun i b hi=>?_)
       ·obtain⟨_,ho2⟩:=hf.1 i hi o' u ho' he' hv'
        simp only[ag4 him]
        rcases ho2 with k1| ⟨k1,⟨k2,k3⟩| ⟨k2,a,b,k3,k4,k5,k6,k7⟩⟩
        ·exact .inl k1
        ·exact .inr ⟨k1,.inl ⟨k2,(SF (abv hr ob) he' k2 k3).2⟩⟩
        ·have:=(hf.2.2 i _ k3).2
         have hg:(h.new ob).get a.next=h.get a.next:=by rw[aj.eL,ag4 (by omega)]
         exact .inr ⟨k1,.inr ⟨k2,a,b,k3,k4,k5,by rw[hg];exact k6,by rw[hg];exact k7⟩⟩
       ·simp only[ag8]
        exact .inr ⟨hw,.inr ⟨ha,h,_,rfl,hop,hr.wQ,rfl,by rw[aj.eL,ag8 rfl];exact hvo⟩⟩
       ·by_cases h1:i=m
        ·by_cases h2:j=m
         ·rw[h1,h2]
         ·simp only[ag8 h1]at hi
          simp only[ag4 h2]at hj
          cases hi
          exact absurd (hf.2.2 j _ hj).2 (ai8 _)
        ·by_cases h2:j=m
         ·simp only[ag4 h1]at hi
          simp only[ag8 h2]at hj
          cases hj
          exact absurd (hf.2.2 i _ hi).2 (ai8 _)
         ·simp only[ag4 h1]at hi
          simp only[ag4 h2]at hj
          exact hf.2.1 i j b hi hj
       ·by_cases h1:i=m
        ·simp only[ag8 h1]at hi;cases hi;exact⟨hlb,by simp⟩
        ·simp only[ag4 h1]at hi
         have:=hf.2.2 i b hi
         exact⟨this.1,by simp;omega⟩
    ·rename_i hw
     exact hstep BV.undef h ph hr (hJ.refl _ _ _) (Ph.refl _ _) (aho _) e (fun i hi _ o' u ho' he' hv'=>(hf.1 i hi o' u ho' he' hv').2) (.inl ⟨hw,rfl⟩) hf.2.1 hf.2.2
    ·cases e
def BV.QU {u v:BV}(e:BV.QT u v=true):u=v:=by
 unfold BV.QT at e
 simp only[aiB]at e
 rcases e with e|e
 ·exact(U1 40).1 _ _ e
 ·exact @of_decide_eq_true _ (Classical.propDecidable _) e
def Mb {aX:Array Oper}{b7:List BV}{aJ:List (Option BV)}{x:Nat}:∀(is:List Nat),D6 P aX (aY aX) b7 aJ x h is=true->
 ∀i∈is,∀o v,aX[i]?=some o->aJ[i]?=some (some v)->kq o=false->kK o=false->Il o=true->dn (aY aX) x i=false->
  lg o aX (fun t=>some (nF aX (aY aX) b7 aJ i t))=some true->Fw P h (kS aX (aY aX) b7 aJ i) o=some (.value v,h):=by
 intro is
 induction is with
 |nil=>intro _ i hi;cases hi
 |cons j is ih=>
  intro e i hi o v ho hv he ha hlo hb hw
  simp only[D6,ag2]at e
  obtain⟨e1,e2⟩:=e
  rcases ag9.1 hi with rfl|hi
  ·have hv':aJ.getD i none=some v:=by rw[List.getD,hv];rfl
   rw[ho,hv']at e1
   simp only[he,ha,hlo,hb,hw,ajJ,aip,agZ,ahN]at e1
   cases hop:Fw P h (kS aX (aY aX) b7 aJ i) o with
   |none=>rw[hop]at e1;cases e1
   |some q=>
    obtain⟨nx,h1⟩:=q
    rw[hop]at e1
    cases nx<;>try (cases e1;done)
    have:=BV.QU e1
    subst this
    have:=(SF (h':=h) (fun _ _ h=>h) he ha hop).1
    subst this
    rfl
  ·exact ih e2 i hi o v ho hv he ha hlo hb hw
end
end
section
section
variable {P:Program} {g:Gh} {h h' hp:aj} {w:World} {lb ub:Nat} {ph:Nat->Option Nat} {d d':HI} {tmps:Array Value} {x:Nat} {r:List Nat} {o:Oper}
def Vb (hr:bc P g h w)(hd:iG P g h w lb ub hp ph d tmps (x::r)){effs':List Nat}(hde:d.cO=x::effs')(ho:d.aX[x]?=some o)(hlb:lb<=h.next)(hub:ub<=h.next)
 {v:BV}{v':Value}(hv:ao P g w v v')(e:CA P d x v h=some (d',h')):
 ∃ph',bc P g h' w/\hJ g h w g h' w/\Ph g h g h'/\d'.aX=d.aX/\d'.b7=d.b7/\iG P g h' w lb h'.next h' ph' d' (Eo tmps o.dst v') r:=by
 have hok:=nc hd.ok
 have hlow:∀(i:Nat) o,d.aX[i]?=some o->∀e∈o.after.toList,Region.binds .any e=true->e.on<i:=fun i o ho=>(hok.1 i o ho).low
 have hxm:x∈d.cO:=by rw[hde];simp
 obtain⟨_,ox,hox,hxe⟩:=(hd.cO x).1 hxm
 rw[ho]at hox;cases hox
 have hxlt:x<d.aX.size:=hd.lt x (by simp)
 have hxnr:=(ahO.1 hd.lJ).1
 unfold CA at e
 dsimp only at e
 split at e
 ·rename_i hre
  simp only[ahY]at e
  obtain⟨⟨h1,vals'⟩,e,e2⟩:=e
  simp only[ah3]at e2
  obtain⟨rfl,rfl⟩:=e2
  rw[hde,ajD,ajM]at e
  rw[ajM]at hre
  have hvx:∀i,i≠x->(d.aJ.set x (some v))[i]?=d.aJ[i]?:=fun i hi=>by rw[ain (by omega)]
  have hxl:x<d.aJ.length:=by rw[hd.W5];exact hxlt
  have hvxx:(d.aJ.set x (some v))[x]?=some (some v):=by rw[ai4 hxl]
  have hinv:aat P g h lb d.aX d.b7 effs' (d.aJ.set x (some v)) ph r:=by
   refine⟨fun i hi o' u ho' he' hv'=>?_,hd.MV,fun i b hb=>⟨(hd.Qy i b hb).1,ahC (hd.Qy i b hb).2 hub⟩⟩
   have hix:i≠x:=fun e=>hxnr (e▸hi)
   have hv0:d.aJ[i]?=some (some u):=by rw[<-hvx i hix];exact hv'
   obtain⟨hnw,hopen⟩:=hd.zl i (by simp[hi]) o' u ho' he' hv0
   have hcong:∀k,dn (aY d.aX) i k=true->(d.aJ.set x (some v)).getD k none=d.aJ.getD k none:=fun k hk=>CP (fun e=>by subst e;rw[hnw _ hxm]at hk;cases hk) _
   refine⟨fun e' he'=>hnw e' (by rw[hde];simp[he']),?_⟩
   refine Jr.congr hcong ?_
   rcases hopen with k1| ⟨k1,⟨k2,k3⟩|k2⟩
   ·exact .inl k1
   ·refine .inr ⟨k1,.inl ⟨k2,?_⟩⟩
    cases hlo:Il o' with
    |false=>exact YT he' k2 hlo k3 h
    |true=>
     refine Mb _ hre i ?_ o' u ho' hv0 he' k2 hlo (hd.YU.1 i (by simp[hi])) k1
     rw[List.mem_range'_1]
     have:=hd.lt i (by simp[hi]);omega
   ·exact .inr ⟨k1,.inr k2⟩
  have hval1:∀i,qc d.aJ i->qc (d.aJ.set x (some v)) i:=fun i h=>xL h
  have hcl:Xj d.aX (d.aJ.set x (some v)) r:=by
   intro i hi o' ho' he' hv' k hk
   have hix:i≠x:=fun e=>hxnr (e▸hi)
   obtain⟨u,hu⟩:=hv'
   rw[hvx i hix]at hu
   have hnw:=(hd.zl i (by simp[hi]) o' u ho' he' hu).1
   have hkl:k<d.aX.size:=by have:=JG hlow i k hk;have:=hd.lt i (by simp[hi]);omega
   by_cases hkr:k∈x::r
   ·have hko:=ahF hkl
    cases hke:kq d.aX[k]with
    |true=>have:=hnw k ((hd.cO k).2 ⟨hkr,_,hko,hke⟩);rw[this]at hk;cases hk
    |false=>exact hval1 k (hd.ready k hkr _ hko hke (GY hlow hnw hk))
   ·exact hval1 k (hd.aJ k hkl hkr)
  have hpend:∀i,i<d.aX.size->¬qc (d.aJ.set x (some v)) i->i∈r:=by
   intro i hi hn
   apply ahK
   intro hir
   by_cases hix:i=x
   ·subst hix;exact hn ⟨v,hvxx⟩
   ·exact hn (hval1 i (hd.aJ i hi (by simp[hix,hir])))
  have heff:∀k∈r,abd d.aX k->k∈effs':=by
   intro k hk he
   have:=(hd.cO k).2 ⟨by simp[hk],he⟩
   rw[hde]at this
   rcases ag9.1 this with rfl|h1
   ·exact absurd hk hxnr
   ·exact h1
  obtain⟨ph',k1,k2,k3,k4,k5,k6,k7⟩:=GH hlow heff d.aX.size 0 h _ ph e hr hinv hlb (by simpa using hd.W5) (by omega) hcl (fun i hi=>by omega) hpend
  refine⟨ph',k1,k2,k3,rfl,rfl,?_⟩
  exact{
   ok:=hd.ok
   NT:=hd.NT
   size:=by unfold Eo;split<;>simp[hd.size]
   W5:=k4
   lJ:=(ahO.1 hd.lJ).2
   lt:=fun j hj=>hd.lt j (by simp[hj])
   YU:=hd.YU.2
   dc:=fun j hj hn k hk=>by
    by_cases hji:j=x
    ·subst hji
     intro hm
     have:=hd.YU.1 k (by simp[hm]);rw[this]at hk;cases hk
    ·intro hm
     exact hd.dc j hj (by simp[hji,hn]) k hk (by simp[hm])
   cO:=fun e'=>by
    simp only[hde,ajD]
    constructor
    ·intro h1
     obtain⟨h2,h3⟩:=(hd.cO e').1 (by rw[hde];simp[h1])
     refine⟨?_,h3⟩
     rcases ag9.1 h2 with rfl|h2
     ·exfalso
      have hp:=hd.A3
      rw[hde]at hp
      have:=JG hlow _ _ ((aio.1 hp).1 _ h1)
      omega
     ·exact h2
    ·rintro⟨h1,h2⟩;exact heff _ h1 h2
   A3:=by
    have hp:=hd.A3
    rw[hde]at hp
    simp only[hde,ajD]
    exact(aio.1 hp).2
   aJ:=fun j hj hn=>by
    have:qc (d.aJ.set x (some v)) j:=ahK fun h=>hn (hpend j hj h)
    obtain⟨u,hu⟩:=this
    exact⟨u,k5 j u hu⟩
   Hu:=fun t u hu=>by
    by_cases hdt:o.dst=some t
    ·have hw:=(hok.1 x o ho).dst t hdt
     have hcs:gb d.aX d.b7 vals' r t=v:=by
      unfold gb
      rw[hw]
      dsimp only
      rw[ag4 hxnr,List.getD,k5 x v hvxx];rfl
     show ao P g w (gb d.aX d.b7 vals' r t) u
     rw[hcs]
     have hlt:=yr hd.NT ho hdt
     have:u=v':=by
      unfold Eo at hu
      rw[hdt]at hu
      dsimp only at hu
      rw[ahA (by rw[hd.size];exact hlt)]at hu
      cases hu;rfl
     rw[this];exact hv
    ·have hut:tmps[t]?=some u:=by
      unfold Eo at hu
      cases hdd:o.dst with
      |none=>rw[hdd]at hu;exact hu
      |some t'=>
       rw[hdd]at hu hdt
       dsimp only at hu
       rwa [ahH (fun e=>hdt (by rw[e]))]at hu
     have hcs:gb d.aX d.b7 vals' r t=gb d.aX d.b7 d.aJ (x::r) t:=by
      unfold gb
      cases hw:eO d.aX t with
      |none=>rfl
      |some k=>
       dsimp only
       obtain⟨o',ho',hd'⟩:=pF hw
       have hki:k≠x:=fun e=>by
        subst e
        rw[ho]at ho';cases ho'
        exact hdt hd'
       by_cases hkr:k∈r
       ·rw[ag8 hkr,ag8 (by simp[hkr])]
       ·rw[ag4 hkr,ag4 (by simp[hkr,hki])]
        obtain⟨u',hu'⟩:=hd.aJ k (ahn.1 ho').1 (by simp[hkr,hki])
        have:=k5 k u' (by rw[hvx k hki];exact hu')
        rw[List.getD,List.getD,this,hu']
     show ao P g w (gb d.aX d.b7 vals' r t) u
     rw[hcs]
     exact hd.Hu t u hut
   ready:=fun j hj o' ho' he' hn=>by
    have hn':AH d.aX effs' j:=by simpa only[hde,ajD]using hn
    exact k7 j (hd.lt j (by simp[hj])) o' ho' he' hn'
   zl:=fun j hj o' u ho' he' hv'=>by
    have:=k6.1 j hj o' u ho' he' hv'
    simpa only[hde,ajD]using this
   MV:=k6.2.1
   Qy:=k6.2.2}
 ·cases e
def Va (hr:bc P g h w){aX:Array Oper}{cx:List BV}(hv:aq P g w cx tmps.toList)(hok:HV aX=true)(hds:HX aX cx.length=true)(hlb:lb<=h.next)(t:Nat){aJ:List (Option BV)}
 (e:sX P aX (aY aX) cx (qW aX) (List.range aX.size) h (List.replicate aX.size none)=some (h',aJ)):
 ∃ph,bc P g h' w/\hJ g h w g h' w/\Ph g h g h'/\iG P g h' w lb h'.next h' ph {aX,b7:=cx,aJ,cO:=qW aX} tmps (Region.linearise .any aX t):=by
 have hsp:=nc hok
 have hlow:∀(i:Nat) o,aX[i]?=some o->∀e∈o.after.toList,Region.binds .any e=true->e.on<i:=fun i o ho=>(hsp.1 i o ho).low
 have hlin:=PG hlow aX.size t (Array.replicate aX.size false) (by simp) (fun i hi=>by
  rw[ajs]at hi;split at hi<;>cases hi)
 obtain⟨l1,l2,l3,l4⟩:=hlin
 have hall:∀i,i<aX.size->i∈Region.linearise .any aX t:=fun i hi=>l4 (by
  simp only[ajz]
  exact ahD (ah1 _ _) (by simp)) i (by rw[ajs,ag8 hi])
 have hlt:∀i∈Region.linearise .any aX t,i<aX.size:=fun i hi=>by
  have:=l2 i hi
  rw[ajs]at this
  split at this
  ·assumption
  ·cases this
 rw[ajM]at e
 have hnone:∀(i:Nat) v,(List.replicate aX.size (none:Option BV))[i]?≠some (some v):=fun i v h=>by
  rw[aim]at h;split at h<;>cases h
 have hmem:∀e,e∈qW aX↔abd aX e:=fun e=>by
  unfold qW
  rw[aiD,ai2]
  constructor
  ·rintro⟨h1,h2⟩
   exact⟨_,ahF h1,by simpa [ahF h1]using h2⟩
  ·rintro⟨o,h1,h2⟩
   exact⟨(ahn.1 h1).1,by simpa [h1]using h2⟩
 obtain⟨ph',k1,k2,k3,k4,k5,k6,k7⟩:=GH (P:=P) (g:=g) (w:=w) (lb:=lb) (ah:=Region.linearise .any aX t) hlow (fun k _ he=>(hmem k).2 he) aX.size 0 h _ (fun _=>none) e hr
  ⟨fun i _ o v _ _ h=>absurd h (hnone i v),(fun i j b h=>by cases h),(fun i b h=>by cases h)⟩ hlb (by simp) (by omega)
  (fun i _ o _ _ ⟨v,hv⟩=>absurd hv (hnone i v)) (fun i hi=>by omega) (fun i hi _=>hall i hi)
 refine⟨ph',k1,k2,k3,?_⟩
 exact{
  ok:=hok
  NT:=hds
  size:=by have:=hv.length;simpa using this
  W5:=k4
  lJ:=l1
  lt:=hlt
  YU:=l3
  dc:=fun i hi hn=>absurd (hall i hi) hn
  cO:=fun e=>by
   rw[hmem]
   constructor
   ·intro h1
    obtain⟨o,h2,h3⟩:=h1
    exact⟨hall e (ahn.1 h2).1,o,h2,h3⟩
   ·exact fun h=>h.2
  A3:=hsp.2
  aJ:=fun i hi hn=>absurd (hall i hi) hn
  Hu:=fun s u hu=>by
   have hcs:gb aX cx aJ (Region.linearise .any aX t) s=cx.getD s BV.undef:=by
    unfold gb
    cases hw:eO aX s with
    |none=>rfl
    |some k=>
     dsimp only
     obtain⟨o',ho',_⟩:=pF hw
     rw[ag8 (hall k (ahn.1 ho').1)]
   show ao P g w (gb aX cx aJ (Region.linearise .any aX t) s) u
   rw[hcs]
   obtain⟨b,hb,hbv⟩:=hv.aei (show tmps.toList[s]?=some u by simpa using hu)
   rw[List.getD,hb];exact hbv
  ready:=fun j hj o' ho' he' hn=>k7 j (hlt j hj) o' ho' he' hn
  zl:=fun j hj o' u ho' he' hv'=>k6.1 j hj o' u ho' he' hv'
  MV:=k6.2.1
  Qy:=k6.2.2}
def NW {aX:Array Oper}{aJ:List (Option BV)}:∀(l:List BV) (t s:Nat) (y:BV),l[s]?=some y->
 (q8 aX aJ t l)[s]?=some (match eO aX (t+s)with|some k=>(aJ.getD k none).getD .lH|none=>y):=by
 intro l
 induction l with
 |nil=>intro t s y h;simp at h
 |cons a l ih=>
  intro t s y h
  cases s with
  |zero=>simp at h;subst h;simp only[q8,ail,air];cases eO aX t<;>rfl
  |succ s=>
   simp at h
   have:=ih (t+1) s y h
   simp only[q8,aik]
   rw[this]
   have e:t+1+s=t+(s+1):=by omega
   rw[e]
def BE {aX:Array Oper}{aJ:List (Option BV)}:∀(l:List BV) (t:Nat),(q8 aX aJ t l).length=l.length:=by
 intro l
 induction l with
 |nil=>intro t;rfl
 |cons a l ih=>intro t;simp[q8,ih]
def X4 (hd:iG P g h w lb ub hp ph d tmps []):aq P g w (q8 d.aX d.aJ 0 d.b7) tmps.toList:=by
 refine aq.rL (by rw[BE];simpa using hd.size) fun i b v hb hv=>?_
 have hil:i<d.b7.length:=by have:=(aha.1 hb).1;rw[BE]at this;exact this
 have:=NW (aX:=d.aX) (aJ:=d.aJ) d.b7 0 i _ (ag7 hil)
 rw[hb]at this
 have hs:=hd.Hu i v (by simpa using hv)
 cases this
 unfold gb at hs
 simp only[ah2]
 cases hw:eO d.aX i with
 |none=>rw[hw]at hs;dsimp only at hs;rw[List.getD,ag7 hil]at hs;exact hs
 |some k=>rw[hw]at hs;dsimp only at hs;rw[ag4 (by simp)]at hs;exact hs
end
end
section
section
variable {P:Program} {g g':Gh} {h h':aj} {w w':World} {lb ub:Nat} {az:sg} {b b':bq} {f:Frame}
def qI.afA (hf:qI P g h w lb ub false b f)(hm:b.mode= .run):∀d r sv ah x,f.todo≠ .call d x r sv::ah:=by
 intro d r sv ah x e
 have:=hf.run hm
 unfold cZ at this
 split at this
 ·obtain⟨_,rest',k',h1,_⟩:=this;rw[h1]at e;cases e
 ·obtain⟨_,h1⟩:=this
  rw[e]at h1
  cases ht:b.todo with
  |nil=>rw[ht]at h1;simp only[bS]at h1;cases h1
  |cons i k=>
   rw[ht]at h1
   simp only[bS]at h1
   obtain⟨i',ir,h2,h3,_⟩:=h1
   cases h2
   cases i<;>simp only[eZ]at h3<;>first
    | (cases h3;done)
    | (obtain⟨_,_,h3⟩:=h3;cases h3;done)
    |exact h3
def Bv (hr:bc P g h w)(hf:qI P g h w lb ub false b f)(hlb:lb<=h.next)(hub:ub<=h.next){v:BV}{v':Value}(hv:ao P g w v v')(e:q9 P b v h=some (b',h')):
 bc P g h' w/\hJ g h w g h' w/\Ph g h g h'/\qI P g h' w lb h'.next true b' (f.finish v')/\h.next<=h'.next:=by
 unfold q9 at e
 split at e
 case h_2=>cases e
 rename_i hmode
 have hrun:=hf.run hmode
 obtain⟨ffn,ftmps,ftodo,fdefers,fmode,fkind,fround⟩:=f
 have hfm:fmode= .run:=by have:=hf.mode;rw[hmode]at this;exact this
 subst hfm
 split at e
 ·rename_i aX i ah k ht
  cases e
  unfold cZ at hrun
  rw[ht]at hrun
  dsimp only at hrun
  obtain⟨h1,h2⟩:=hrun
  simp only[bS]at h2
  obtain⟨it,ir,hft,h3,h4⟩:=h2
  simp only[eZ]at h3
  subst h3 hft
  refine⟨hr,hJ.refl _ _ _,Ph.refl _ _,?_,aho _⟩
  have hfin:(Frame.finish {fn:=ffn,tmps:=ftmps,todo:= .inRegion aX (i::ah)::ir,defers:=fdefers,mode:= .run,kind:=fkind,roundOf:=fround} v')=
   {fn:=ffn,tmps:=Eo ftmps ((aX[i]?).bind (·.dst)) v',todo:= .inRegion aX ah::ir,defers:=fdefers,mode:= .run,kind:=fkind,roundOf:=fround}:=by
   simp only[Frame.finish]
   cases (aX[i]?).bind (·.dst)<;>rfl
  rw[hfin]
  refine⟨hf.fn,hf.kind,hf.oI,hf.defers,hf.mode,hf.round,fun _=>?_,fun hn=>absurd hmode hn⟩
  unfold cZ
  dsimp only
  exact⟨Zv h1 hv _,_,_,rfl,rfl,h4⟩
 ·rename_i d k ht
  split at e
  ·rename_i x cO he
   simp only[ahY]at e
   obtain⟨⟨d',h1⟩,e1,e2⟩:=e
   simp only[ah3]at e2
   obtain⟨rfl,rfl⟩:=e2
   unfold cZ at hrun
   rw[ht]at hrun
   dsimp only at hrun
   obtain⟨h2,ah,k',hft,h3,hp,_,⟨ph,hd⟩,h5⟩:=hrun
   subst hft
   obtain⟨x',r,hrest,hx'⟩:=h5 rfl
   rw[he]at hx'
   simp at hx'
   subst hx' hrest
   obtain⟨o,ho,_⟩:=((hd.cO x).1 (by rw[he];simp)).2
   obtain⟨ph',k1,k2,k3,k4,k5,k6⟩:=Vb hr hd he ho hlb hub hv e1
   refine⟨k1,k2,k3,?_,k2.next⟩
   have hfin:(Frame.finish {fn:=ffn,tmps:=ftmps,todo:= .inRegion d.aX (x::r)::k',defers:=fdefers,mode:= .run,kind:=fkind,roundOf:=fround} v')=
    {fn:=ffn,tmps:=Eo ftmps o.dst v',todo:= .inRegion d.aX r::k',defers:=fdefers,mode:= .run,kind:=fkind,roundOf:=fround}:=by
    simp only[Frame.finish,ho,ais]
    cases o.dst<;>rfl
   rw[hfin]
   refine⟨hf.fn,hf.kind,hf.oI,hf.defers,hf.mode,hf.round,fun _=>?_,fun hn=>absurd hmode hn⟩
   unfold cZ
   dsimp only
   refine⟨by rw[k5];exact h2,r,k',by rw[k4],h3,h1,fun _=>rfl,⟨ph',k6⟩,fun h=>by cases h⟩
  ·cases e
 ·rename_i l k ht
  cases e
  unfold cZ at hrun
  rw[ht]at hrun
  dsimp only at hrun
  obtain⟨h1,h2⟩:=hrun
  simp only[bS]at h2
  obtain⟨it,ir,hft,h3,h4⟩:=h2
  simp only[eZ]at h3
  obtain⟨aL,hm,rfl⟩:=h3
  subst hft
  refine⟨hr,hJ.refl _ _ _,Ph.refl _ _,?_,aho _⟩
  refine⟨hf.fn,hf.kind,hf.oI,hf.defers,hf.mode,hf.round,fun _=>?_,fun hn=>absurd hmode hn⟩
  unfold cZ
  dsimp only
  exact⟨h1,_,_,rfl,⟨aL,hm,rfl⟩,h4⟩
 ·cases e
def KB {fid:FuncId}{args:List BV}{args':Array Value}{kind:CallKind}(hk:kind= .normal)(ha:aq P g w args args'.toList)(e:gq P fid args kind=some b):
 qI P g h w lb ub true b (Frame.enter P fid args' kind):=by
 unfold gq at e
 split at e
 ·rename_i fn hfn
  split at e
  ·rename_i c hb
   cases e
   have hlen:args'.size=args.length:=by have:=ha.length;simpa using this
   have henv:aq P g w (args++List.replicate (fn.ntmps-args.length) BV.undef) (args'++Array.replicate (fn.ntmps-args'.size) undef).toList:=by
    rw[aiY,ajz,hlen]
    refine aq.append ha ?_
    refine aq.rL (by simp) fun i b v hb hv=>?_
    rw[aim]at hb hv
    split at hb
    ·rename_i hc
     rw[ag8 hc]at hv
     cases hb;cases hv;exact ao.undef
    ·cases hb
   unfold Frame.enter
   simp only[hfn,ahm,ah4,ais,hb]
   refine⟨rfl,rfl,hk,by simp[iC],rfl,by simp[mW],fun _=>?_,fun hn=>absurd rfl hn⟩
   unfold cZ
   dsimp only
   exact⟨henv,_,_,rfl,rfl,by simp[bS]⟩
  ·cases e
 ·cases e
end
end
section
section
variable {P:Program} {g g':Gh} {h h':aj} {w w':World} {lb ub:Nat} {az:sg} {b b':bq} {f:Frame} {bs:List bq} {cs:List Frame}
def vq (P:Program)(az:sg)(g:Gh)(h:aj)(w:World)(s':au)(r:GStep):Prop:=
 ∃g' w' lb' f' cs',r.bare= .go {frame:=f',callers:=cs',status:= .running,dying:=none} w'/\Nl P az g' w' lb' s' f' cs'/\hJ g h w g' s'.h w'
def vq.ext {g0:Gh}{h0:aj}{w0:World}(e:hJ g0 h0 w0 g h w){s':au}{r:GStep}(h':vq P az g h w s' r):vq P az g0 h0 w0 s' r:=by
 obtain⟨g',w',lb',f',cs',h1,h2,h3⟩:=h'
 exact⟨g',w',lb',f',cs',h1,h2,e.trans h3⟩
def wc (hr:bc P g h w)(hlb:lb<=h.next)(hub:ub<=h.next)(hf:qI P g h w lb ub false b f)(hc:mQ P g h w az lb bs cs){v:BV}{v':Value}(hv:ao P g w v v')
 {s':au}(e:((q9 P b v h).map fun (fr,h)=>({fr,cs:=bs,h}:au))=some s'){r:GStep}(hb:r.bare= .go {frame:=f.finish v',callers:=cs,status:= .running,dying:=none} w):vq P az g h w s' r:=by
 simp only[ahY]at e
 obtain⟨⟨b',h'⟩,e1,rfl⟩:=e
 obtain⟨h1,h2,h3,h4,h5⟩:=Bv hr hf hlb hub hv e1
 exact⟨g,w,lb,_,cs,hb,⟨h1,ahD hlb h5,h4,hc.mono h2.mono (h3.lt hlb)⟩,h2⟩
def Eb (hr:bc P g h w)(hlb:lb<=h.next)(hf:qI P g h w lb h.next false b f)(hmode:b.mode= .run)(hc:mQ P g h w az lb bs cs){s:Sem Next}{n:bA}{h1:aj}
 (hdone:kE P g h w n h1 (s.run P w)){s':au}(e:qR P b bs .normal (n,h1)=some s'):vq P az g h w s' (stepG.apply P true f cs none s w):=by
 obtain⟨g1,w1,hr1,x1,p1,hn⟩:=hdone
 have hf1:=hf.mono x1.mono (p1.lt (aho _))
 have hc1:=hc.mono x1.mono (p1.lt hlb)
 have hlb1:lb<=h1.next:=ahD hlb x1.next
 have hfm:f.mode= .run:=by have:=hf.mode;rw[hmode]at this;exact this
 refine vq.ext x1 ?_
 cases n with
 |value v=>
  obtain⟨v',hv,hvr⟩:=hn
  exact wc hr1 hlb1 x1.next hf1 hc1 hvr e (Np hv)
 |skip=>exact wc hr1 hlb1 x1.next hf1 hc1 ao.undef e (RF hn)
 |enter fid args=>
  obtain⟨args',hv,ha⟩:=hn
  simp only[qR,ahY]at e
  obtain⟨c,e1,rfl⟩:=e
  refine⟨g1,w1,h.next,_,_,aaB hv (hf.afA hmode),⟨hr1,x1.next,KB rfl ha e1,?_⟩,hJ.refl _ _ _⟩
  simp only[mQ]
  exact⟨f,cs,lb,rfl,hlb,hf1,hc1⟩
 |round l fid tmps assign body=>
  obtain⟨l',tmps',hv,hl,ht⟩:=hn
  simp only[qR]at e
  cases e
  refine⟨g1,w1,h.next,_,_,aaD hv,⟨hr1,x1.next,?_,?_⟩,hJ.refl _ _ _⟩
  ·refine⟨rfl,rfl,rfl,by simp[iC,Frame.round],rfl,⟨l',hl,rfl⟩,fun _=>?_,fun hn=>absurd rfl hn⟩
   unfold cZ
   dsimp only
   exact⟨ht,_,_,rfl,rfl,_,_,rfl,rfl,_,_,rfl,rfl,rfl⟩
  ·simp only[mQ]
   exact⟨f,cs,lb,rfl,hlb,hf1,hc1⟩
def Hr (hr:bc P g h w)(hlb:lb<=h.next)(hk:b.kind=f.kind)(hc:mQ P g h w az lb bs cs){v:BV}{v':Value}(hv:ao P g w v v'){s':au}(e:sO P b bs v h=some s'):
 vq P az g h w s' (doReturn P true f cs none v' w):=by
 unfold sO at e
 split at e
 ·rename_i cb rb
  simp only[mQ]at hc
  obtain⟨c,cr,lb',rfl,h1,h2,h3⟩:=hc
  split at e
  ·rename_i hkd
   refine wc hr (ahD h1 hlb) hlb h2 h3 hv e ?_
   unfold doReturn
   rw[<-hk,hkd];rfl
  ·cases e
 ·cases e
def Bk (hr:bc P g h w){l aL:Nat}{r:TR}(hb:h.get l=some (.loop r))(hm:g.m l=some (aL,0)):
 ∃r',w.heap[aL]?=some (.loop r')/\Xm P g w r r'/\∀st pd,bc P g (h.put l (some (.loop {r with state:=st,pending:=pd}))) (w.putObj aL (.loop {r' with state:=st,pending:=pd}))/\
  hJ g h w g (h.put l (some (.loop {r with state:=st,pending:=pd}))) (w.putObj aL (.loop {r' with state:=st,pending:=pd})):=by
 obtain⟨_,o',hw,ho⟩:=hr.Xg _ _ _ _ hb hm
 simp only[cV]at ho
 obtain⟨_,r',rfl,hl⟩:=ho
 refine⟨r',hw,hl,fun st pd=>hr.Ly hb hm hw rfl ⟨rfl,rfl,rfl⟩ (fun s hs=>?_) fun hmono=>?_⟩
 ·simp[World.shape?,hw]at hs
 ·simp only[cV]
  refine⟨trivial,_,rfl,?_⟩
  have:=hl.mono hmono
  exact⟨rfl,rfl,this.2.2⟩
def WQ (hr:bc P g h w)(hlb:lb<=h.next)(hf:qI P g h w lb h.next true b f)(hmode:b.mode= .run)(henv:aq P g w b.cx f.tmps.toList)(hc:mQ P g h w az lb bs cs){jump:Option Code}{s':au}
 (e:zk P b bs h jump=some s'){r:GStep}
 (hret:f.roundOf=none->(jump=none\/jump=some .ret)->r.bare= .go {frame:={f with mode:= .returning},callers:=cs,status:= .running,dying:=none} w)
 (hround:∀l v w1,f.roundOf=some l->(Instr.endRound l jump).run P w= .ok v w1->r.bare=(doReturn P true f cs none v w1).bare):vq P az g h w s' r:=by
 unfold zk at e
 have hro:=hf.round
 split at e
 ·rename_i hb
  rw[hb]at hro
  simp only[mW]at hro
  have hfin:∀s',some ({fr:={b with mode:= .returning},cs:=bs,h:=h}:au)=some s'->(jump=none\/jump=some .ret)->vq P az g h w s' r:=by
   intro s' e hj
   cases e
   refine⟨g,w,lb,_,cs,hret hro hj,⟨hr,hlb,?_,hc⟩,hJ.refl _ _ _⟩
   exact⟨hf.fn,hf.kind,hf.oI,hf.defers,rfl,hf.round,(fun h=>by cases h),fun _=>henv⟩
  split at e
  ·exact hfin _ e (.inl rfl)
  ·exact hfin _ e (.inr rfl)
  ·cases e
 ·rename_i l hb
  rw[hb]at hro
  simp only[mW]at hro
  obtain⟨aL,hm,hfr⟩:=hro
  split at e
  ·rename_i r0 hl
   obtain⟨r',hw,hlr,hwr⟩:=Bk hr hl hm
   obtain⟨h1,h2⟩:=hwr (if jump.isNone then .ready else .done) jump
   have hrun:=run_endRound (P:=P) jump hw
   have hb:=hround aL _ _ hfr hrun
   have:=Hr (f:=f) h1 (by simpa using hlb) hf.kind (hc.mono h2.mono ((Ph.put hm _).lt hlb)) (v:= .bool jump.isNone) (v':= .bool jump.isNone) (by simp[ao]) e
   obtain⟨g',w',lb',f',cs',k1,k2,k3⟩:=this
   exact⟨g',w',lb',f',cs',hb.trans k1,k2,h2.trans k3⟩
  ·cases e
end
end
section
section
variable {P:Program} {g g':Gh} {h h':aj} {w w':World} {lb ub:Nat} {az:sg} {b b':bq} {f:Frame} {bs:List bq} {cs:List Frame}
def Yn {cx:List BV}{tmps:Array Value}(hv:aq P g w cx tmps.toList)(t:Nat):ao P g w (cx.getD t BV.undef) (tmps.getD t undef):=by
 have:=Gz hv {(default:Frame)with tmps:=tmps} rfl (.tmp t)
 simpa only[vB,Frame.eval]using this
def Jg (hr:bc P g h w){fn:Func}{cx:List BV}{tmps:Array Value}(hv:aq P g w cx tmps.toList){v:BV}(e:Di P h fn cx=some v):
 ∃v',(results fn tmps).run P w= .ok v' w/\ao P g w v v':=by
 have key:∀(l:List ResultVar) (vs:List BV),(l.mapM fun| .tmp t=>some (cx.getD t BV.undef)| .cell a t=>xy P h t (cx.getD a BV.undef))=some vs->
  ∃us,(l.mapM (fun| .tmp t=>pure (tmps.getD t undef)| .cell a t=>do loadVar t (<-asAddr (tmps.getD a undef)):ResultVar->Sem Value)).run P w= .ok us w/\aq P g w vs us:=by
  intro l
  induction l with
  |nil=>intro vs e;simp at e;subst e;exact⟨[],by simp,by simp[aq]⟩
  |cons x l ih=>
   intro vs e
   simp only[akm,Option.bind_eq_bind,ajy,Option.pure_def,ahi]at e
   obtain⟨y,h1,ys,h2,rfl⟩:=e
   obtain⟨us,h3,h4⟩:=ih ys h2
   have hx:∃u,((fun| .tmp t=>pure (tmps.getD t undef)| .cell a t=>do loadVar t (<-asAddr (tmps.getD a undef)):ResultVar->Sem Value) x).run P w= .ok u w/\ao P g w y u:=by
    cases x with
    |tmp t=>
     simp only[ahi]at h1
     subst h1
     exact⟨_,by simp,Yn hv t⟩
    |cell a t=>
     obtain⟨ad,v',ha,hl,hvr⟩:=Jf hr (Yn hv a) h1
     refine⟨v',?_,hvr⟩
     dsimp only
     rw[ha]
     simp[asAddr,hl]
   obtain⟨u,k1,k2⟩:=hx
   refine⟨u::us,?_,by simp only[aq];exact⟨u,us,rfl,k2,h4⟩⟩
   rw[akm]
   refine(Sem.run_bind P w _ _).trans ?_
   rw[k1,Result.andThen_ok]
   refine(Sem.run_bind P w _ _).trans ?_
   rw[h3,Result.andThen_ok]
   simp
 unfold Di at e
 have hres:∀us,((fn.results.toList).mapM (fun| .tmp t=>pure (tmps.getD t undef)| .cell a t=>do loadVar t (<-asAddr (tmps.getD a undef)):ResultVar->Sem Value)).run P w= .ok us w->
  (results fn tmps).run P w= .ok (if h:us.toArray.size=1 then us.toArray[0]else .tuple us.toArray) w:=by
  intro us hus
  unfold results
  refine(Sem.run_bind P w _ _).trans ?_
  rw[ajY]
  have:((Functor.map List.toArray ((fn.results.toList).mapM (fun| .tmp t=>pure (tmps.getD t undef)| .cell a t=>do loadVar t (<-asAddr (tmps.getD a undef)):ResultVar->Sem Value))):Sem (Array Value)).run P w= .ok us.toArray w:=by
   rw[map_eq_pure_bind]
   refine(Sem.run_bind P w _ _).trans ?_
   rw[hus,Result.andThen_ok];simp
  exact(ahE (fun r=>Result.andThen r (fun a w'=>Sem.run P (pure (if h:a.size=1 then a[0]else Value.tuple a)) w')) this).trans rfl
 split at e
 ·rename_i x hm
  cases e
  obtain⟨us,h1,h2⟩:=key _ _ hm
  obtain⟨u,rfl,hu⟩:=aq.one (by simpa using h2)
  exact⟨u,by rw[hres _ h1];simp,hu⟩
 ·rename_i vs hne hm
  cases e
  obtain⟨us,h1,h2⟩:=key _ _ hm
  refine⟨.tuple us.toArray,?_,by simp only[ao];exact⟨_,rfl,by simpa using h2⟩⟩
  rw[hres _ h1,dif_neg]
  intro hs
  have hl:=h2.length
  simp only[List.size_toArray]at hs
  cases vs with
  |nil=>simp at hl;simp[hl]at hs
  |cons a r=>
   cases r with
   |nil=>exact hne a rfl
   |cons b r=>simp at hl;omega
 ·cases e
def Ty (hr:bc P g h w)(hlb:lb<=h.next)(hf:qI P g h w lb h.next true b f)(hmode:b.mode≠ .run)(hc:mQ P g h w az lb bs cs){s':au}(e:yW P b bs h=some s'):
 vq P az g h w s' (unwind P true f cs none w):=by
 have henv:=hf.cx hmode
 obtain⟨ffn,ftmps,ftodo,fdefers,fmode,fkind,fround⟩:=f
 have hds:=hf.defers
 have hfm:=hf.mode
 unfold yW at e
 split at e
 ·rename_i d ds hbd
  rw[hbd]at hds
  simp only[iC]at hds
  obtain⟨d',dr,hfd,⟨ht,ha⟩,hdr⟩:=hds
  subst hfd
  obtain⟨tgt,args⟩:=d'
  dsimp only at ht ha
  split at e
  ·rename_i block hbt
   rw[hbt]at ht
   simp only[xX]at ht
   obtain⟨aL,hm,rfl⟩:=ht
   split at e
   ·rename_i calls hb
    cases e
    obtain⟨_,o',hw,ho⟩:=hr.Xg _ _ _ _ hb hm
    simp only[cV]at ho
    obtain⟨_,ds',rfl,hdd⟩:=ho
    obtain⟨h1,h2⟩:=hr.Ly (w':=w.putObj aL (.deferred none)) (o':= .deferred none) (co':= .deferred none) hb hm hw rfl ⟨rfl,rfl,rfl⟩ (fun s hs=>by simp[World.shape?,hw]at hs) (fun _=>by simp[cV])
    have hrun:=run_takeDeferred (P:=P) hw
    refine⟨g,_,lb,{fn:=ffn,tmps:=ftmps,todo:=ftodo,defers:=ds'++dr,mode:=fmode,kind:=fkind,roundOf:=fround},cs,?_,⟨h1,by simpa using hlb,?_,hc.mono h2.mono ((Ph.put hm _).lt hlb)⟩,h2⟩
    ·simp only[unwind,Sem.runT_eq,hrun,GStep.bare_after,GStep.bare_go]
    ·exact⟨hf.fn,hf.kind,hf.oI,(hdd.mono h2.mono).append (hdr.mono h2.mono),hf.mode.mono h2.mono,hf.round.mono h2.mono,fun h=>absurd h hmode,fun _=>aq.mono h2.mono _ _ henv⟩
   ·cases e
  ·cases e
 ·rename_i hbd
  rw[hbd]at hds
  simp only[iC]at hds
  subst hds
  cases hbm:b.mode with
  |run=>exact absurd hbm hmode
  |returning=>
   rw[hbm]at e hfm
   simp only[xS]at hfm
   subst hfm
   dsimp only at e
   split at e
   ·cases e
   ·rename_i fn0 hfn
    split at e
    ·rename_i v hres
     have hfn':P.funcs[ffn]?=some fn0:=by rw[<-hfn,hf.fn]
     obtain⟨v',hrun,hv⟩:=Jg hr henv hres
     have:=Hr (f:={fn:=ffn,tmps:=ftmps,todo:=ftodo,defers:=[],mode:= .returning,kind:=fkind,roundOf:=fround}) hr hlb hf.kind hc hv e
     obtain⟨g',w',lb',f',cs',k1,k2,k3⟩:=this
     refine⟨g',w',lb',f',cs',?_,k2,k3⟩
     rw[<-k1]
     simp only[unwind,hfn',Sem.runT_eq,hrun,GStep.bare_after]
    ·cases e
end
end
section
section
variable {P:Program} {g g':Gh} {h h':aj} {w w':World} {lb ub:Nat} {az:sg} {b b':bq} {f:Frame} {bs:List bq} {cs:List Frame}
def dN (P:Program)(az:sg)(g:Gh)(h:aj)(w:World)(s':au)(m:Machine):Prop:=
 ∃g' w' lb' f' cs',Steps P m (lone f' cs' w')/\Nl P az g' w' lb' s' f' cs'/\hJ g h w g' s'.h w'
def dN.xB {s':au}(hl:vq P az g h w s' (stepG P true {frame:=f,callers:=cs,status:= .running,dying:=none} w)):dN P az g h w s' (lone f cs w):=by
 obtain⟨g',w',lb',f',cs',h1,h2,h3⟩:=hl
 exact⟨g',w',lb',f',cs',Steps.one (step_lone_go h1),h2,h3⟩
def dN.trans {g1:Gh}{h1:aj}{w1:World}{f1:Frame}{cs1:List Frame}{s':au}(hs:Steps P (lone f cs w) (lone f1 cs1 w1))(hx:hJ g h w g1 h1 w1)(ht:dN P az g1 h1 w1 s' (lone f1 cs1 w1)):
 dN P az g h w s' (lone f cs w):=by
 obtain⟨g',w',lb',f',cs',k1,k2,k3⟩:=ht
 exact⟨g',w',lb',f',cs',hs.trans k1,k2,hx.trans k3⟩
def vq.abM {s':au}{r r':GStep}(e:r.bare=r'.bare)(hl:vq P az g h w s' r'):vq P az g h w s' r:=by
 obtain⟨g',w',lb',f',cs',h1,h2,h3⟩:=hl
 exact⟨g',w',lb',f',cs',e.trans h1,h2,h3⟩
def cZ.plain {top:Bool}{cx:List BV}{todo:List dI}(he:aq P g w cx f.tmps.toList)(hi:bS g todo f.todo)(henv:b.cx=cx)(htodo:b.todo=todo):cZ P g h w lb ub top b f:=by
 unfold cZ
 split
 ·rename_i d k ht
  exfalso
  rw[htodo]at ht
  rw[ht]at hi
  simp only[bS,eZ]at hi
  obtain⟨_,_,_,h1,_⟩:=hi
  exact h1
 ·rw[henv,htodo];exact⟨he,hi⟩
section
variable {bfn:FuncId} {benv:List BV} {btodo:List dI} {bds:List tN} {bkd:CallKind} {bro:Option Nat} {fn:FuncId} {tmps:Array Value} {ftodo:List Item} {ds:List Deferred} {kd:CallKind} {ro:Option Nat}
abbrev bf (bfn:FuncId)(benv:List BV)(btodo:List dI)(bds:List tN)(bkd:CallKind)(bro:Option Nat):bq:=
 {fn:=bfn,cx:=benv,todo:=btodo,defers:=bds,mode:= .run,kind:=bkd,roundOf:=bro}
def qI.with {top top':Bool}{ub':Nat}(hf:qI P g h w lb ub top (bf bfn benv btodo bds bkd bro) (rf fn tmps ftodo ds kd ro)){benv':List BV}{tmps':Array Value}{btodo':List dI}{ftodo':List Item}
 (he:aq P g w benv' tmps'.toList)(hi:bS g btodo' ftodo'):qI P g h w lb ub' top' (bf bfn benv' btodo' bds bkd bro) (rf fn tmps' ftodo' ds kd ro):=
 ⟨hf.fn,hf.kind,hf.oI,hf.defers,hf.mode,hf.round,fun _=>cZ.plain (f:=rf fn tmps' ftodo' ds kd ro) he hi rfl rfl,fun h=>absurd rfl h⟩
def Rx (hr:bc P g h w)(hlb:lb<=h.next)(hf:qI P g h w lb h.next true (bf bfn benv btodo bds bkd bro) (rf fn tmps ftodo ds kd ro))(hc:mQ P g h w az lb bs cs){benv':List BV}{tmps':Array Value}{btodo':List dI}{ftodo':List Item}
 (he:aq P g w benv' tmps'.toList)(hi:bS g btodo' ftodo')(hs:step P (lone (rf fn tmps ftodo ds kd ro) cs w)= .next (lone (rf fn tmps' ftodo' ds kd ro) cs w)):
 dN P az g h w {fr:=bf bfn benv' btodo' bds bkd bro,cs:=bs,h} (lone (rf fn tmps ftodo ds kd ro) cs w):=
 ⟨g,w,lb,_,cs,Steps.one hs,⟨hr,hlb,hf.with he hi,hc⟩,hJ.refl _ _ _⟩
def Tx (hr:bc P g h w)(hlb:lb<=h.next){aX:Array Oper}{i:Nat}{ah:List Nat}{k:List dI}{ir:List Item}
 (hf:qI P g h w lb h.next true (bf bfn benv (.inRegion aX (i::ah)::k) bds bkd bro) (rf fn tmps (.inRegion aX (i::ah)::ir) ds kd ro))(hc:mQ P g h w az lb bs cs)
 (henv:aq P g w benv tmps.toList)(hir:bS g k ir){s':au}(e:dm P {fr:=bf bfn benv (.inRegion aX (i::ah)::k) bds bkd bro,cs:=bs,h}=some s'):
 dN P az g h w s' (lone (rf fn tmps (.inRegion aX (i::ah)::ir) ds kd ro) cs w):=by
 simp only[dm]at e
 split at e
 ·rename_i ho
  cases e
  refine Rx hr hlb hf hc henv (btodo':= .inRegion aX ah::k) ⟨_,_,rfl,rfl,hir⟩ ?_
  rw[Kh (by simp[ho])]
  simp[Frame.finish,ho]
 ·rename_i o ho
  have hwr:∀{r:Bool},lg o aX (fun t=>benv[t]?)=some r->Region.wanted o (yielded aX tmps)=r:=fun hw=>
   IG (P:=P) (g:=g) (w:=w) (fun j b' _ t _=>by
    cases hb:benv[t]? with
    |none=>
     left
     refine⟨rfl,?_⟩
     have:tmps.toList[t]?=none:=by rw[ahS];have:=henv.length;have:=ait.1 hb;omega
     simpa using this
    |some y=>
     obtain⟨v,h1,h2⟩:=henv.get hb
     exact .inr ⟨y,v,rfl,by simpa using h1,h2⟩) hw
  split at e
  ·rename_i hw
   have hw':=hwr hw
   cases hq:Fw P h (vB benv) o with
   |none=>rw[hq]at e;cases e
   |some q=>
    obtain⟨n,h1⟩:=q
    rw[hq]at e
    have hd:=Tw hr (σ:=(rf fn tmps (.inRegion aX (i::ah)::ir) ds kd ro).eval) (fun x _=>Gz henv _ rfl x) hq
    have:=Eb (f:=rf fn tmps (.inRegion aX (i::ah)::ir) ds kd ro) hr hlb (hf.with (btodo':= .inRegion aX (i::ah)::k) henv ⟨_,_,rfl,rfl,hir⟩) rfl hc hd e
    refine dN.xB ?_
    rw[No ho hw' (.inr fun c hcc=>by simp[Fw,hcc]at hq)]
    exact this
  ·rename_i hw
   have hw':=hwr hw
   simp only[ahm,ahi]at e
   subst e
   have hstep:step P (lone (rf fn tmps (.inRegion aX (i::ah)::ir) ds kd ro) cs w)= .next (lone (rf fn (Eo tmps o.dst undef) (.inRegion aX ah::ir) ds kd ro) cs w):=by
    rw[Kh (by simp[ho,hw']),DZ ho]
   refine Rx hr hlb hf hc (benv':=vo benv o.dst BV.undef) (tmps':=Eo tmps o.dst undef) (btodo':= .inRegion aX ah::k) (Zv henv ao.undef _) ⟨_,_,rfl,rfl,hir⟩ hstep
  ·cases e
def ZT (hr:bc P g h w)(hlb:lb<=h.next){d:HI}{k:List dI}
 (hf:qI P g h w lb h.next true (bf bfn benv (.fY d::k) bds bkd bro) (rf fn tmps ftodo ds kd ro))(hc:mQ P g h w az lb bs cs)
 {s':au}(e:dm P {fr:=bf bfn benv (.fY d::k) bds bkd bro,cs:=bs,h}=some s'):
 dN P az g h w s' (lone (rf fn tmps ftodo ds kd ro) cs w):=by
 have hrun:=hf.run rfl
 unfold cZ at hrun
 dsimp only at hrun
 obtain⟨henv,ah,k',hft,hk,hp,hhp,⟨ph,hd⟩,_⟩:=hrun
 rw[hhp rfl]at hd
 clear hhp hp
 subst hft henv
 obtain⟨tmps',rest',g1,w1,s1,hr1,x1,p1,hd1,hcase⟩:=X5 (fn:=fn) (ds:=ds) (kd:=kd) (ro:=ro) (k:=k') (cs:=cs) hr hd
 have hk1:=hk.mono x1.mono
 have hc1:=hc.mono x1.mono p1
 have hround:=hf.round.mono x1.mono
 have hdefs:=hf.defers.mono x1.mono
 simp only[dm]at e
 rcases hcase with ⟨rfl,heff⟩| ⟨x,r,cO,rfl,heff⟩
 ·rw[heff]at e
  cases e
  refine dN.trans s1 x1 ⟨g1,w1,lb,_,cs,Steps.one IP,⟨hr1,hlb,?_,hc1⟩,hJ.refl _ _ _⟩
  exact⟨hf.fn,hf.kind,hf.oI,hdefs,hf.mode,hround,fun _=>cZ.plain (f:=rf fn tmps' k' ds kd ro) (X4 hd1) hk1 rfl rfl,fun h=>absurd rfl h⟩
 ·rw[heff]at e
  dsimp only at e
  obtain⟨o,ho,_⟩:=((hd1.cO x).1 (by rw[heff];simp)).2
  rw[ho]at e
  dsimp only at e
  have hf1:qI P g1 h w1 lb h.next false (bf bfn d.b7 (.fY d::k) bds bkd bro) (rf fn tmps' (.inRegion d.aX (x::r)::k') ds kd ro):=
   ⟨hf.fn,hf.kind,hf.oI,hdefs,hf.mode,hround,fun _=>by
     unfold cZ
     dsimp only
     exact⟨rfl,_,_,rfl,hk1,h,(fun q=>by cases q),⟨ph,hd1⟩,fun _=>⟨x,r,rfl,by rw[heff];rfl⟩⟩,fun h=>absurd rfl h⟩
  refine dN.trans s1 x1 ?_
  split at e
  ·rename_i hw
   have hw':=hd1.wanted ho hw
   cases hq:Fw P h (kS d.aX (aY d.aX) d.b7 d.aJ x) o with
   |none=>rw[hq]at e;cases e
   |some q=>
    obtain⟨n,h1⟩:=q
    rw[hq]at e
    have hdn:=Tw hr1 (σ:=(rf fn tmps' (.inRegion d.aX (x::r)::k') ds kd ro).eval) (hd1.eval ho _ rfl) hq
    have:=Eb (f:=rf fn tmps' (.inRegion d.aX (x::r)::k') ds kd ro) hr1 hlb hf1 rfl hc1 hdn e
    refine dN.xB ?_
    rw[No ho hw' (.inr fun c hcc=>by simp[Fw,hcc]at hq)]
    exact this
  ·rename_i hw
   have hw':=hd1.wanted ho hw
   have:=wc (r:=stepG P true {frame:=rf fn tmps' (.inRegion d.aX (x::r)::k') ds kd ro,callers:=cs,status:= .running,dying:=none} w1) hr1 hlb (aho _) hf1 hc1 ao.undef e (by simp[stepG,stepG.exec,ho,hw'])
   exact dN.xB this
  ·cases e
end
end
end
section
section
variable {P:Program} {g g':Gh} {h h':aj} {w w':World} {lb ub:Nat} {az:sg} {b b':bq} {f:Frame} {bs:List bq} {cs:List Frame}
variable {bfn:FuncId} {benv:List BV} {btodo:List dI} {bds:List tN} {bkd:CallKind} {bro:Option Nat} {fn:FuncId} {tmps:Array Value} {ftodo:List Item} {ds:List Deferred} {kd:CallKind} {ro:Option Nat}
def bc.make (hr:bc P g h w){o:aI}{co:Obj}(ho:∀g' w',eC g w g' w'->g'.m h.next=some (w.heap.size,0)->cV P g' w' o 0 co)(hno:oC h.next o:=by exact oC.bare rfl rfl):
 bc P (g.oS h.next w.heap.size 0) (h.new o) (w.alloc co)/\hJ g h w (g.oS h.next w.heap.size 0) (h.new o) (w.alloc co)/\Ph g h (g.oS h.next w.heap.size 0) (h.new o):=by
 obtain⟨h1,h2⟩:=hr.N8 o hno
 obtain⟨k1,k2⟩:=h1.real (b:=h.next) (o:=o) (co:=co) (w':=w.alloc co) (by rw[aj.eL,ag8 rfl]) hr.wQ rfl ⟨rfl,rfl,rfl⟩ (fun hm=>ho _ _ hm (Gh.iq _ _ _ _)) hno.nC
 refine⟨k1,h2.trans k2,?_⟩
 intro b hb hm _
 refine⟨by rw[Gh.gl g (by omega)];exact hm,?_⟩
 rw[aj.eL,ag4 (by omega)]
def yE (hr:bc P g h w)(hlb:lb<=h.next)(hf:qI P g h w lb h.next true (bf bfn benv btodo bds bkd bro) (rf fn tmps ftodo ds kd ro))(henv:aq P g w benv tmps.toList)(hc:mQ P g h w az lb bs cs){jump:Option Code}{s':au}
 (e:zk P (bf bfn benv btodo bds bkd bro) bs h jump=some s')
 (hret:ro=none->(jump=none\/jump=some .ret)->(stepG P true {frame:=rf fn tmps ftodo ds kd ro,callers:=cs,status:= .running,dying:=none} w).bare= .go {frame:={rf fn tmps ftodo ds kd ro with mode:= .returning},callers:=cs,status:= .running,dying:=none} w)
 (hround:∀l v w1,ro=some l->(Instr.endRound l jump).run P w= .ok v w1->(stepG P true {frame:=rf fn tmps ftodo ds kd ro,callers:=cs,status:= .running,dying:=none} w).bare=(doReturn P true (rf fn tmps ftodo ds kd ro) cs none v w1).bare):
 dN P az g h w s' (lone (rf fn tmps ftodo ds kd ro) cs w):=
 dN.xB (WQ hr hlb hf rfl henv hc e hret hround)
def ZS (hmix:P.follows .mixedOrders=true)(hr:bc P g h w)(hlb:lb<=h.next){c:Code}{k:List dI}{ir:List Item}
 (hf:qI P g h w lb h.next true (bf bfn benv (.code c::k) bds bkd bro) (rf fn tmps (.code c::ir) ds kd ro))(hc:mQ P g h w az lb bs cs)
 (henv:aq P g w benv tmps.toList)(hir:bS g k ir)(hnr:∀f' ps a b',c≠ .rangeFunc f' ps a b'){s':au}(e:dm P {fr:=bf bfn benv (.code c::k) bds bkd bro,cs:=bs,h}=some s'):
 dN P az g h w s' (lone (rf fn tmps (.code c::ir) ds kd ro) cs w):=by
 cases c with
 |skip=>simp only[dm]at e;cases e;exact Rx hr hlb hf hc henv hir adp
 |label l=>simp only[dm]at e;cases e;exact Rx hr hlb hf hc henv hir aaC
 |seq x y=>simp only[dm]at e;cases e;exact Rx hr hlb hf hc henv (btodo':= .code x:: .code y::k) ⟨_,_,rfl,rfl,_,_,rfl,rfl,hir⟩ afk
 |cond x t u=>
  simp only[dm]at e
  split at e
  ·rename_i tb hx
   cases e
   have hx':=Gz henv (rf fn tmps (.code (.cond x t u)::ir) ds kd ro) rfl x
   rw[hx]at hx'
   simp only[ao]at hx'
   exact Rx hr hlb hf hc henv (btodo':= .code (if tb then t else u)::k) ⟨_,_,rfl,rfl,hir⟩ (adk hx')
  ·cases e
 |block l x=>simp only[dm]at e;cases e;exact Rx hr hlb hf hc henv (btodo':= .code x:: .inBlock l::k) ⟨_,_,rfl,rfl,_,_,rfl,rfl,hir⟩ aaA
 |loop x=>simp only[dm]at e;cases e;exact Rx hr hlb hf hc henv (btodo':= .code x:: .inLoop x::k) ⟨_,_,rfl,rfl,_,_,rfl,rfl,hir⟩ ado
 |scope x=>simp only[dm]at e;cases e;exact Rx hr hlb hf hc henv (btodo':= .code x:: .inScope x::k) ⟨_,_,rfl,rfl,_,_,rfl,rfl,hir⟩ aaE
 |ret=>
  simp only[dm]at e
  refine yE hr hlb hf henv hc e (fun hro _=>?_) (fun l v w1 hro hrun=>?_)
  ·subst hro;simp[stepG,stepG.exec]
  ·subst hro;simp[stepG,stepG.exec,hrun]
 |exit id=>
  simp only[dm]at e
  obtain⟨h1,h2⟩:=abg (id:=id) hir
  split at e
  ·rename_i k' hk'
   obtain⟨i',h3,h4⟩:=h1 _ hk'
   cases e
   exact Rx hr hlb hf hc henv h4 (adm h3)
  ·rename_i hk'
   have hn:=h2 hk'
   refine yE hr hlb hf henv hc e (fun hro hj=>by rcases hj with hj|hj<;>cases hj) (fun l v w1 hro hrun=>?_)
   subst hro;simp[stepG,stepG.exec,hrun,hn]
 |goto l=>
  simp only[dm]at e
  obtain⟨h1,h2⟩:=abt (l:=l) hir
  split at e
  ·rename_i k' hk'
   obtain⟨i',h3,h4⟩:=h1 _ hk'
   cases e
   exact Rx hr hlb hf hc henv h4 (adn h3)
  ·rename_i hk'
   have hn:=h2 hk'
   refine yE hr hlb hf henv hc e (fun hro hj=>by rcases hj with hj|hj<;>cases hj) (fun l v w1 hro hrun=>?_)
   subst hro;simp[stepG,stepG.exec,hrun,hn]
 |refuse s=>simp only[dm]at e;cases e
 |rangeFunc f' ps a b'=>exact absurd rfl (hnr _ _ _ _)
 |region id aX draw=>
  simp only[dm]at e
  split at e
  ·rename_i hdr
   have hdr:draw=false:=by simpa using hdr
   subst hdr
   cases e
   exact Rx hr hlb hf hc henv (btodo':= .inRegion aX (List.range aX.size)::k) ⟨_,_,rfl,rfl,hir⟩ XC
  ·rename_i hdr
   have hdr:draw=true:=by simpa using hdr
   subst hdr
   split at e
   ·cases e
   ·rename_i hok
    rw[ahl,Bool.not_eq_false,ag2]at hok
    simp only[ahY]at e
    obtain⟨⟨h1,aJ⟩,e1,e2⟩:=e
    dsimp only at e2
    cases e2
    obtain⟨t,hst⟩:=adl (P:=P) (w:=w) (cs:=cs) (fn:=fn) (tmps:=tmps) (ds:=ds) (kd:=kd) (ro:=ro) (k:=ir) (id:=id) (aX:=aX) hmix
    obtain⟨hr1,x1⟩:=hr.same (w':={w with drawn:=w.drawn+1}) rfl ⟨rfl,rfl,rfl⟩
    have henv1:=aq.mono x1.mono _ _ henv
    obtain⟨ph,hr2,x2,p2,hd⟩:=Va (lb:=lb) (tmps:=tmps) hr1 henv1 hok.1 hok.2 hlb t e1
    have x12:=x1.trans x2
    refine⟨g,_,lb,_,cs,Steps.one hst,⟨hr2,ahD hlb x2.next,?_,hc.mono x12.mono (p2.lt hlb)⟩,x12⟩
    refine⟨hf.fn,hf.kind,hf.oI,hf.defers.mono x12.mono,hf.mode,hf.round.mono x12.mono,fun _=>?_,fun h=>absurd rfl h⟩
    unfold cZ
    dsimp only
    exact⟨rfl,_,_,rfl,hir.mono x12.mono,h1,fun _=>rfl,⟨ph,hd⟩,fun h=>by cases h⟩
def Mi (hr:bc P g h w)(hlb:lb<=h.next){rfo:Operand}{ps:Array Nat}{asg body:Code}{k:List dI}{ir:List Item}
 (hf:qI P g h w lb h.next true (bf bfn benv (.code (.rangeFunc rfo ps asg body)::k) bds bkd bro) (rf fn tmps (.code (.rangeFunc rfo ps asg body)::ir) ds kd ro))(hc:mQ P g h w az lb bs cs)
 (henv:aq P g w benv tmps.toList)(hir:bS g k ir){s':au}(e:dm P {fr:=bf bfn benv (.code (.rangeFunc rfo ps asg body)::k) bds bkd bro,cs:=bs,h}=some s'):
 dN P az g h w s' (lone (rf fn tmps (.code (.rangeFunc rfo ps asg body)::ir) ds kd ro) cs w):=by
 have key:∀(g1:Gh) (h1:aj) (w1:World) (aL blk':Nat) (mark:List tN) (mark':List Deferred),bc P g1 h1 w1->hJ g h w g1 h1 w1->Ph g h g1 h1->g1.m aL=some (blk',0)->iC P g1 w1 mark mark'->
  (Instr.enterLoop fn tmps ps asg body ro).run P w= .ok (w1.heap.size,mark') (w1.alloc (.loop {state:= .ready,pending:=none,fn,tmps,params:=ps,assign:=asg,body,defers:=blk'}))->
  ((G0 (vB benv rfo) [.yield h1.next]).bind fun d=>
     (Bi P (h1.new (.loop {state:= .ready,pending:=none,fn:=bfn,tmps:=benv,params:=ps,assign:=asg,body,defers:=aL})) d.target d.args).bind fun r=>match r with
       | (.enter g args,h3)=>qR P {fn:=bfn,cx:=benv,todo:= .inRangeFunc h1.next::k,defers:=mark++bds,mode:= .run,kind:=bkd,roundOf:=bro} bs .normal (.enter g args,h3)|_=>none)=some s'->
  dN P az g h w s' (lone (rf fn tmps (.code (.rangeFunc rfo ps asg body)::ir) ds kd ro) cs w):=by
  intro g1 h1 w1 aL blk' mark mark' hr1 x1 p1 hblk hmark hrun e
  have hfn:bfn=fn:=hf.fn
  subst hfn
  generalize hH:h1.new (.loop {state:= .ready,pending:=none,fn:=bfn,tmps:=benv,params:=ps,assign:=asg,body,defers:=aL})=H at e
  generalize hW:w1.alloc (.loop {state:= .ready,pending:=none,fn:=bfn,tmps,params:=ps,assign:=asg,body,defers:=blk'})=W at hrun
  have hmk:bc P (g1.oS h1.next w1.heap.size 0) H W/\hJ g1 h1 w1 (g1.oS h1.next w1.heap.size 0) H W/\Ph g1 h1 (g1.oS h1.next w1.heap.size 0) H:=by
   rw[<-hH,<-hW]
   refine hr1.make (fun g' w' hm _=>?_)
   simp only[cV]
   exact⟨trivial,_,rfl,rfl,rfl,rfl,aq.mono (x1.mono.trans hm) _ _ henv,rfl,rfl,rfl,hm.mm _ _ hblk⟩
  obtain⟨hr2,x2,p2⟩:=hmk
  have x12:=x1.trans x2
  have p12:Ph g h _ _:=p1.trans x1.next p2
  simp only[ajy]at e
  obtain⟨d,hd,⟨n,h3⟩,hi,e⟩:=e
  cases n<;>try (cases e;done)
  rename_i gid args
  dsimp only at e
  have henv2:=aq.mono x12.mono _ _ henv
  have hfo:=Gz henv2 (rf bfn tmps (.inRangeFunc w1.heap.size::ir) (mark'++ds) kd ro) rfl rfo
  have hyv:aq P (g1.oS h1.next w1.heap.size 0) W [.yield h1.next] (#[Value.func (.yield w1.heap.size) #[] #[]]:Array Value).toList:=by
   simp only[aq]
   exact⟨_,_,rfl,by simp only[ao];exact⟨_,Gh.iq _ _ _ _,rfl⟩,rfl⟩
  obtain⟨d',hd',hdr⟩:=Lm hr2 hfo hyv hd
  have hdone:=Ll hr2 hdr.1 hdr.2 hi
  have hf2:qI P (g1.oS h1.next w1.heap.size 0) H W lb H.next false
   {fn:=bfn,cx:=benv,todo:= .inRangeFunc h1.next::k,defers:=mark++bds,mode:= .run,kind:=bkd,roundOf:=bro} (rf bfn tmps (.inRangeFunc w1.heap.size::ir) (mark'++ds) kd ro):=
   ⟨rfl,hf.kind,hf.oI,(hmark.mono x2.mono).append (hf.defers.mono x12.mono),rfl,hf.round.mono x12.mono,fun _=>
     cZ.plain (todo:= .inRangeFunc h1.next::k) (f:=rf bfn tmps (.inRangeFunc w1.heap.size::ir) (mark'++ds) kd ro) henv2 ⟨_,_,rfl,⟨_,Gh.iq _ _ _ _,rfl⟩,hir.mono x12.mono⟩ rfl rfl,fun h=>absurd rfl h⟩
  have hs:((do let d<-resolve (rf bfn tmps (.inRangeFunc w1.heap.size::ir) (mark'++ds) kd ro).eval {callee:= .value rfo,args:=#[.const (.func (.yield w1.heap.size) #[] #[])],argTypes:=#[]} 0;invoke d.target d.args):Sem Next).run P W=
   (invoke d'.target d'.args).run P W:=by
   refine(Sem.run_bind P _ _ _).trans ?_
   have:(resolve (rf bfn tmps (.inRangeFunc w1.heap.size::ir) (mark'++ds) kd ro).eval {callee:= .value rfo,args:=#[.const (.func (.yield w1.heap.size) #[] #[])],argTypes:=#[]} 0)=Deferred.ofValue ((rf bfn tmps (.inRangeFunc w1.heap.size::ir) (mark'++ds) kd ro).eval rfo) #[Value.func (.yield w1.heap.size) #[] #[]]:=by simp[resolve,Frame.eval]
   rw[this,hd',Result.andThen_ok]
  have hap:=Eb (s:=do let d<-resolve (rf bfn tmps (.inRangeFunc w1.heap.size::ir) (mark'++ds) kd ro).eval {callee:= .value rfo,args:=#[.const (.func (.yield w1.heap.size) #[] #[])],argTypes:=#[]} 0;invoke d.target d.args)
   hr2 (ahD hlb x12.next) hf2 rfl (hc.mono x12.mono (p12.lt hlb)) (by rw[hs];exact hdone) e
  refine dN.xB (vq.ext x12 (vq.abM ?_ hap))
  simp only[stepG,stepG.exec,Sem.runT_eq,hrun,GStep.bare_after]
 simp only[dm]at e
 have hround:=hf.round
 cases bro with
 |none=>
  have hro:ro=none:=hround
  subst hro
  obtain⟨hr1,x1,p1⟩:=hr.make (o:= .deferred (some [])) (co:= .deferred (some [])) (fun g' w' _ _=>by simp only[cV];exact⟨trivial,[],rfl,by simp[iC]⟩)
  refine key _ _ _ h.next w.heap.size _ [{target:= .collected w.heap.size,args:=#[]}] hr1 x1 p1 (Gh.iq _ _ _ _) ?_ ?_ e
  ·exact⟨_,_,rfl,⟨by simp only[xX];exact⟨_,Gh.iq _ _ _ _,rfl⟩,by simp[aq]⟩,rfl⟩
  ·rw[run_enterLoop_outer,World.size_alloc]
 |some l=>
  simp only[mW]at hround
  obtain⟨l',hm,hro⟩:=hround
  have hro:ro=some l':=hro
  subst hro
  dsimp only at e
  cases hb:h.get l with
  |none=>rw[hb]at e;cases e
  |some o=>
   rw[hb]at e
   cases o<;>try (cases e;done)
   rename_i r
   obtain⟨r',hw,hl,_⟩:=Bk hr hb hm
   refine key g h w r.defers r'.defers [] [] hr (hJ.refl _ _ _) (Ph.refl _ _) hl.2.2.2.2.2.2.2 (by simp[iC]) ?_ e
   rw[run_enterLoop_inner hw]
end
end
end Go.PB
end
