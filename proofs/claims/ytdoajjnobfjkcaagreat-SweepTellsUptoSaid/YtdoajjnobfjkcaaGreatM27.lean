import Derived.Test.YtdoajjnobfjkcaaGreatM26
set_option linter.all false
noncomputable section
namespace Go.Proofs
open Go Go.PB
structure Wl.Ni (x:Wl):Prop where
 one:x.an.one
 pos:∀e∈x.th,1<=e.r
 afS:∀e∈x.th,1<=e.w.k
 bare:∀e∈x.th,e.w.bare=e.w
 k6:∀e∈x.th,e.w.k=6\/e.w.k=7->x.an.kind e.w.of=5
 k9:∀e∈x.th,e.w.k=9->x.an.kind e.w.of=8
 k11:∀e∈x.th,e.w.k=11->x.an.kind e.w.of=10
 Ez:∀e∈x.th,e.w.k=14->x.is e.w.of/\x.an.kind e.w.of≠14
 Ss:∀e∈x.th,e.w.k=15->x.an.kind e.w.km=13/\(x.an.at e.w.km).of=e.r/\x.is e.w.of
 Xe:∀e∈x.th,e.w.k=16->x.is e.w.km/\x.is e.w.of
 Jv:∀e∈x.th,e.w.k=13->e.w.of=0\/x.an.kind e.w.of=15/\(x.an.at e.w.of).km=e.r
 num:∀e∈x.th,e.w.k=8\/e.w.k=9->0<=e.w.n/\e.w.n<=9007199254740992/\0<=e.w.lo/\e.w.lo<=e.w.n
 Mz:x.Clo
def Wl.jF {x:Wl}{r:Int}{y:Wh}(h:x.an.get r=some y):(⟨r,y⟩:En)∈x.th:=by
 have:=aV.np h
 simp only[Wl.an,ahp]at this
 obtain⟨e,he,h1⟩:=this
 cases h1;exact he
def Wl.Ni.get {x:Wl}(h:x.Ni){e:En}(he:e∈x.th):x.an.get e.r=some e.w:=(aV.jF h.one).2 (ahp.2 ⟨e,he,rfl⟩)
def Wl.CR {x:Wl}{r:Int}(h:x.is r):∃e∈x.th,e.r=r:=by
 obtain⟨y,hy⟩:=ahw.1 h
 exact⟨_,Wl.jF hy,rfl⟩
def Wl.Ni.is {x:Wl}(h:x.Ni){e:En}(he:e∈x.th):x.is e.r:=by simp[Wl.is,h.get he]
def Wl.Ni.kind {x:Wl}(h:x.Ni){e:En}(he:e∈x.th):x.an.kind e.r=e.w.k:=by simp[aV.kind,h.get he]
def Wl.Ni.at {x:Wl}(h:x.Ni){e:En}(he:e∈x.th):x.an.at e.r=e.w:=by simp[aV.at,h.get he]
def Wl.wb {x:Wl}{r:Int}(h:x.an.kind r≠0):x.is r:=by
 unfold Wl.is;unfold aV.kind at h
 cases hg:x.an.get r with
 |none=>rw[hg]at h;exact absurd rfl h
 |some y=>rfl
def Pe {y:Wh}(h:y.bare=y):(¬(y.k=6\/y.k=7\/y.k=9\/y.k=11\/y.k=13\/y.k=14\/y.k=15\/y.k=16)->y.of=0)/\(¬(y.k=15\/y.k=16)->y.km=0):=by
 constructor
 ·intro hk;rw[<-h];simp only[Wh.bare];rw[ag4 hk]
 ·intro hk;rw[<-h];simp only[Wh.bare];rw[ag4 hk]
def U0 {y:Wh}(h:y.bare=y)(hk:y.k=5\/y.k=8\/y.k=14):aE.bD y.aJ=[]:=by
 have h1:y.v= .zero:=by rw[<-h];simp only[Wh.bare];rw[ag4 (by omega)]
 have h2:y.vs=[]:=by rw[<-h];simp only[Wh.bare];rw[ag4 (by omega)]
 have h3:y.ns=[]:=by rw[<-h];simp only[Wh.bare];rw[ag4 (by omega)]
 simp only[Wh.aJ,h1,h2,h3,ajp,ahM,aE.bD,Ng]
structure Wl.May (x:Wl)(s:List Int):Prop where
 is:∀q∈s,x.is q
 Ve:∀e∈x.th,e.w.k=14->(e.r∈s↔e.w.of∈s)
 Ti:∀e∈x.th,e.r∉s->∀q∈aE.bD e.w.aJ,q∉s
 of:∀e∈x.th,e.r∉s->e.w.k≠13->e.w.of∉s
 km:∀e∈x.th,e.r∉s->e.w.km∉s
def Wl.May.zero {x:Wl}(h:x.Ni){s:List Int}(hm:x.May s):(0:Int)∉s:=fun h0=>by
 obtain⟨e,he,h1⟩:=Wl.CR (hm.is 0 h0)
 have:=h.pos e he;omega
def Wl.Ni.ah {x:Wl}(h:x.Ni){l:List Su}(hall:l.all x.cN=true):x.May (x.ah l):=by
 have mem:∀q,q∈x.ah l↔x.is q/\¬x.ln l q:=fun q=>by
  simp only[Wl.ah,aiD,agW]
  exact⟨fun ⟨a,b⟩=>⟨by obtain⟨e,he,rfl⟩:=ahp.1 a;exact h.is he,b⟩,fun ⟨a,b⟩=>⟨Wl.KL a,b⟩⟩
 have rch:∀q,x.LC (gi l) q->x.is q:=fun q hq=>by
  induction hq with
  |az hb=>
   obtain⟨s,hsm,hq⟩:=aiq.1 hb
   have:=((x.cW s).1 (ahG.1 hall s hsm)).2.2.2.2
   simp only[mF,aE.xG,aiq,ahp]at hq
   obtain⟨v,⟨n,hn,rfl⟩,hq⟩:=hq
   have:=this n hn _ hq
   simp only[Wl.xw,ag2]at this
   exact this.1
  |step _ hn _=>exact h.Mz _ _ hn
 have cases:∀{e:En},e∈x.th->x.ln l e.r->x.LC (gi l) e.r\/(e.w.k=14/\x.ln l e.w.of)\/e.w.k=5\/e.w.k=8:=by
  intro e he hl
  generalize hq:e.r=q at hl
  cases hl with
  |az hb=>exact .inl hb
  |Ve he2 hk h2=>
   have e1:=h.get he;rw[hq,h.get he2]at e1
   injection e1 with e1
   exact .inr (.inl (by rw[<-e1];exact⟨hk,h2⟩))
  |use he2 hk h2=>
   have hkd:=h.kind he
   rw[hq]at hkd
   rcases hk with hk|hk|hk
   ·rw[h.k6 _ he2 (.inl hk)]at hkd;omega
   ·rw[h.k6 _ he2 (.inr hk)]at hkd;omega
   ·rw[h.k9 _ he2 hk]at hkd;omega
 have nx:∀{e:En} {q:Int},e∈x.th->x.LC (gi l) e.r->(q∈aE.bD e.w.aJ\/q∈e.w.eM)->x.ln l q:=fun he hr hq=> .az (.step hr ((Wl.D4 (h.get he)).2 hq))
 have nm:∀{e:En},e∈x.th->e.r∉x.ah l->x.ln l e.r:=fun he hn=>ahK fun hc=>hn ((mem _).2 ⟨h.is he,hc⟩)
 have dead:∀{q:Int},x.ln l q->q∉x.ah l:=fun hl hq=>((mem _).1 hq).2 hl
 have zero:(0:Int)∉x.ah l:=fun h0=>by
  obtain⟨e,he,h1⟩:=Wl.CR ((mem 0).1 h0).1
  have:=h.pos e he;omega
 refine⟨fun q hq=>((mem q).1 hq).1,fun e he hk=>?_,fun e he hn q hq=>?_,fun e he hn hk=>?_,fun e he hn=>?_⟩
 ·have Ez:=h.Ez e he hk
  rw[mem,mem]
  refine⟨fun ⟨_,b⟩=>⟨Ez.1,fun hl=>b (.Ve he hk hl)⟩,fun ⟨_,b⟩=>⟨h.is he,fun hl=>b ?_⟩⟩
  rcases cases he hl with h1| ⟨_,h1⟩|h1|h1
  ·exact nx he h1 (.inr (by simp[Wh.eM,hk]))
  ·exact h1
  ·omega
  ·omega
 ·rcases cases he (nm he hn)with h1| ⟨h1,_⟩|h1|h1
  ·exact dead (nx he h1 (.inl hq))
  all_goals (rw[U0 (h.bare e he) (by omega)]at hq;cases hq)
 ·have hl:=nm he hn
  by_cases ho:e.w.of=0
  ·rw[ho];exact zero
  ·have hk2:=fun hk=>ho ((Pe (h.bare e he)).1 hk)
   by_cases h14:e.w.k=14
   ·exact fun hof=>hn ((mem _).2 ⟨h.is he,fun hl=>by
     rcases cases he hl with h1| ⟨_,h1⟩|h1|h1
     ·exact((mem _).1 hof).2 (nx he h1 (.inr (by simp[Wh.eM,h14])))
     ·exact((mem _).1 hof).2 h1
     ·omega
     ·omega⟩)
   ·by_cases h6:e.w.k=6\/e.w.k=7\/e.w.k=9
    ·exact dead (.use he h6 hl)
    ·rcases cases he hl with h1| ⟨h1,_⟩|h1|h1
     ·refine dead (nx he h1 (.inr ?_))
      have:e.w.k=11\/e.w.k=15\/e.w.k=16:=ahK fun hc=>hk2 (by omega)
      rcases this with h2|h2|h2<;>simp[Wh.eM,h2]
     ·exact absurd h1 h14
     ·exact absurd (by omega) hk2
     ·exact absurd (by omega) hk2
 ·by_cases hb:e.w.km=0
  ·rw[hb];exact zero
  ·have hk2:=fun hk=>hb ((Pe (h.bare e he)).2 hk)
   have:e.w.k=15\/e.w.k=16:=ahK fun hc=>hk2 hc
   rcases cases he (nm he hn)with h1| ⟨h1,_⟩|h1|h1
   ·exact dead (nx he h1 (.inr (by simp[Wh.eM,this,show ¬(e.w.k=14\/e.w.k=11)by omega])))
   all_goals omega
def Wl.kJ (x:Wl)(s:List Int)(m q:Int):Int:=if q∈s/\(x.an.at q).k=9/\(x.an.at q).of=m then (x.an.at q).n else 0
def Wl.fh (x:Wl)(s:List Int)(e:En):Wh:=
 if e.w.k=13 then (if e.w.of∈s then {e.w with of:=0}else e.w)
 else if e.w.k=8 then {e.w with lo:=min (e.w.lo+eT (x.kJ s e.r) (x.th.map En.r)) e.w.n}else e.w
def Wl.drop (x:Wl)(s:List Int):Wl:={x with th:=(x.th.filter fun e=>decide (e.r∉s)).map fun e=>⟨e.r,x.fh s e⟩}
def DW (x:Wl)(s:List Int)(e:En):(x.fh s e).k=e.w.k/\(x.fh s e).km=e.w.km/\(x.fh s e).n=e.w.n/\(x.fh s e).aJ=e.w.aJ/\(e.w.k≠13->(x.fh s e).of=e.w.of)/\(e.w.k=13->(x.fh s e).of=if e.w.of∈s then 0 else e.w.of)/\(e.w.k≠8->(x.fh s e).lo=e.w.lo):=by
 unfold Wl.fh
 by_cases h:e.w.k=13
 ·by_cases h2:e.w.of∈s<;>simp[h,h2,Wh.aJ]
 ·by_cases h2:e.w.k=8<;>simp[h,h2,Wh.aJ]
def zS {x:Wl}{s:List Int}{e:En}:e∈(x.drop s).th↔∃d∈x.th,d.r∉s/\e=⟨d.r,x.fh s d⟩:=by
 simp only[Wl.drop,ahp,aiD,agW,aj9]
 exact⟨fun ⟨d,a,b,c⟩=>⟨d,a,b,c.symm⟩,fun ⟨d,a,b,c⟩=>⟨d,a,b,c.symm⟩⟩
def HW (x:Wl)(s:List Int):(x.drop s).th.map En.r=(x.th.map En.r).filter fun r=>decide (r∉s):=by
 simp only[Wl.drop,ajQ,List.filter_map]
 rfl
def Kz {x:Wl}(h:x.an.one)(s:List Int){d:En}(hd:d∈x.th)(hn:d.r∉s):(x.drop s).an.get d.r=some (x.fh s d):=by
 have h1:(x.drop s).an.one:=by
  rw[aV.one,Wl.ct,HW]
  rw[aV.one,Wl.ct]at h
  exact h.sublist aiz
 exact(aV.jF h1).2 (ahp.2 ⟨⟨d.r,x.fh s d⟩,zS.2 ⟨d,hd,hn,rfl⟩,rfl⟩)
def Hz {f:Int->Int}(hf:∀q,0<=f q)(l:List Int):0<=eT f l:=by
 induction l with
 |nil=>simp[eT]
 |cons a r ih=>have:=hf a;simp only[eT,aiC]at ih ⊢;omega
def Wl.Ni.kJ {x:Wl}(h:x.Ni)(s:List Int)(m q:Int):0<=x.kJ s m q/\x.kJ s m q<=9007199254740992:=by
 unfold Wl.kJ
 split
 ·rename_i hc
  have:x.is q:=Wl.wb (by
   intro h0
   unfold aV.kind at h0
   have hk:=hc.2.1
   cases hg:x.an.get q with
   |none=>simp[aV.at,hg,Wh.zero]at hk
   |some y=>
    rw[hg]at h0
    have h0:y.k=0:=h0
    simp only[aV.at,hg,ah4]at hk;omega)
  obtain⟨e,he,rfl⟩:=Wl.CR this
  rw[h.at he]at hc ⊢
  have:=h.num e he (.inr hc.2.1)
  omega
 ·omega
def Wl.Ni.drop {x:Wl}(h:x.Ni){s:List Int}(hm:x.May s):(x.drop s).Ni:=by
 have h0:=hm.zero h
 have kd:∀{q:Int},q∉s->(x.drop s).an.kind q=x.an.kind q:=fun {q} hq=>by
  by_cases hi:x.is q
  ·obtain⟨e,he,rfl⟩:=Wl.CR hi
   rw[h.kind he,aV.kind,Kz h.one s he hq]
   exact(DW x s e).1
  ·have n1:x.an.get q=none:=by simpa [Wl.is]using hi
   have n2:(x.drop s).an.get q=none:=by
    cases hg:(x.drop s).an.get q with
    |none=>rfl
    |some y=>
     obtain⟨d,hd,_,h2⟩:=zS.1 (Wl.jF hg)
     have hq2:q=d.r:=ahE En.r h2
     exact absurd (by rw[hq2];exact h.is hd) hi
   simp[aV.kind,n1,n2]
 have is2:∀{q:Int},q∉s->x.is q->(x.drop s).is q:=fun {q} hq hi=>by
  obtain⟨e,he,rfl⟩:=Wl.CR hi
  simp[Wl.is,Kz h.one s he hq]
 have at2:∀{e:En},e∈x.th->e.r∉s->(x.drop s).an.at e.r=x.fh s e:=fun {e} he hq=>by simp[aV.at,Kz h.one s he hq]
 have one:(x.drop s).an.one:=by
  have h:=h.one
  rw[aV.one,Wl.ct,HW]
  rw[aV.one,Wl.ct]at h
  exact h.sublist aiz
 refine⟨one,?_,?_,?_,?_,?_,?_,?_,?_,?_,?_,?_,?_⟩
 all_goals try (intro e he;obtain⟨d,hd,hn,rfl⟩:=zS.1 he;obtain⟨w1,w2,w3,w4,w5,w6,w7⟩:=DW x s d;dsimp only)
 ·exact h.pos d hd
 ·rw[w1];exact h.afS d hd
 ·have hb:=h.bare d hd
  unfold Wl.fh
  by_cases c:d.w.k=13
  ·rw[ag8 c]
   split
   ·have e1:({d.w with of:=0}:Wh).bare={d.w.bare with of:=if d.w.k=6\/d.w.k=7\/d.w.k=9\/d.w.k=11\/d.w.k=13\/d.w.k=14\/d.w.k=15\/d.w.k=16 then 0 else 0}:=rfl
    rw[e1,hb];simp
   ·exact hb
  ·rw[ag4 c]
   split
   ·rename_i c8
    have e1:∀z,({d.w with lo:=z}:Wh).bare={d.w.bare with lo:=if d.w.k=8 then z else 0}:=fun z=>rfl
    rw[e1,hb,ag8 c8]
   ·exact hb
 ·intro hk
  rw[w1]at hk
  have Jv:d.w.k≠13:=by omega
  rw[w5 Jv,kd (hm.of d hd hn Jv)];exact h.k6 d hd hk
 ·intro hk
  rw[w1]at hk
  have Jv:d.w.k≠13:=by omega
  rw[w5 Jv,kd (hm.of d hd hn Jv)];exact h.k9 d hd hk
 ·intro hk
  rw[w1]at hk
  have Jv:d.w.k≠13:=by omega
  rw[w5 Jv,kd (hm.of d hd hn Jv)];exact h.k11 d hd hk
 ·intro hk
  rw[w1]at hk
  have Jv:d.w.k≠13:=by omega
  have:=h.Ez d hd hk
  rw[w5 Jv,kd (hm.of d hd hn Jv)];exact⟨is2 (hm.of d hd hn Jv) this.1,this.2⟩
 ·intro hk
  rw[w1]at hk
  have Jv:d.w.k≠13:=by omega
  obtain⟨a,b,c⟩:=h.Ss d hd hk
  have hb:=hm.km d hd hn
  rw[w5 Jv,w2,kd hb]
  obtain⟨e2,he2,hr2⟩:=Wl.CR (Wl.wb (x:=x) (r:=d.w.km) (by omega))
  refine⟨a,?_,is2 (hm.of d hd hn Jv) c⟩
  rw[<-hr2]at a b hb ⊢
  rw[at2 he2 hb]
  rw[h.kind he2]at a
  rw[h.at he2]at b
  rw[(DW x s e2).2.2.2.2.2.1 a,b,ag4 hn]
 ·intro hk
  rw[w1]at hk
  have Jv:d.w.k≠13:=by omega
  obtain⟨a,b⟩:=h.Xe d hd hk
  rw[w5 Jv,w2]
  exact⟨is2 (hm.km d hd hn) a,is2 (hm.of d hd hn Jv) b⟩
 ·intro hk
  rw[w1]at hk
  rw[w6 hk]
  by_cases c:d.w.of∈s
  ·rw[ag8 c];exact .inl rfl
  ·rw[ag4 c]
   rcases h.Jv d hd hk with h1| ⟨h1,h2⟩
   ·exact .inl h1
   ·refine .inr ⟨by rw[kd c];exact h1,?_⟩
    obtain⟨e2,he2,hr2⟩:=Wl.CR (Wl.wb (x:=x) (r:=d.w.of) (by omega))
    rw[<-hr2]at c h2 ⊢
    rw[at2 he2 c,(DW x s e2).2.1]
    rw[h.at he2]at h2
    exact h2
 ·intro hk
  rw[w1]at hk
  have n1:=h.num d hd hk
  rw[w3]
  by_cases c:d.w.k=8
  ·have e1:(x.fh s d).lo=min (d.w.lo+eT (x.kJ s d.r) (x.th.map En.r)) d.w.n:=by simp[Wl.fh,c]
   have:=Hz (fun q=>(h.kJ s d.r q).1) (x.th.map En.r)
   rw[e1];omega
  ·rw[w7 c];exact n1
 ·intro r q hq
  obtain⟨y,hy,hq⟩:=hq
  obtain⟨d,hd,hn,h2⟩:=zS.1 (Wl.jF hy)
  have er:r=d.r:=ahE En.r h2
  have ew:y=x.fh s d:=ahE En.w h2
  subst er ew
  obtain⟨w1,w2,w3,w4,w5,w6,w7⟩:=DW x s d
  rw[w4]at hq
  rcases hq with hq|hq
  ·exact is2 (hm.Ti d hd hn q hq) (h.Mz _ _ ((Wl.D4 (h.get hd)).2 (.inl hq)))
  ·by_cases c:d.w.k=13
   ·simp[Wh.eM,w1,c]at hq
   ·have el:(x.fh s d).eM=d.w.eM:=by simp only[Wh.eM,w1,w2,w5 c]
    rw[el]at hq
    refine is2 ?_ (h.Mz _ _ ((Wl.D4 (h.get hd)).2 (.inr hq)))
    unfold Wh.eM at hq
    split at hq
    ·rw[ahb]at hq;subst hq;exact hm.of d hd hn c
    ·split at hq
     ·simp only[ag9,aiy,ajk]at hq
      rcases hq with rfl|rfl
      ·exact hm.of d hd hn c
      ·exact hm.km d hd hn
     ·cases hq
section
def Yq (s l:List Int)(st:List Nat)(ck:Nat)(hl:l.length<2^63):PH cy (kD (aw l) (fM s) st ck) (kF (aw l) (fM s) st ck) 2 eW
 (fun d=>decide (0<=D.int d)=l.any fun r=>decide (r∈s)):=by
 have loop:∀(ah:List Int) (i:Nat),l.drop i=ah->
  ay pg hZ [af] (.bx 2 (qa (kD (aw l) (fM s) st ck) (kF (aw l) (fM s) st ck)) (fun d=>decide (0<=D.int d)=ah.any fun r=>decide (r∈s))) (iy (aw l) (fM s) st ck i):=by
  intro ah
  induction ah with
  |nil=>
   intro i hd
   have:=drop_nil hd
   refine r6 ?_
   have hn:¬(i:Int)<(l.length:Int):=by omega
   simp only[rk,agV,hn,ahj,agZ,ag1,ag3,ahk]
   exact⟨rfl,.z (-1),.ret,by simp⟩
  |cons x ah ih=>
   intro i hd
   obtain⟨g1,g2,g3⟩:=aB hd
   have hcl:(i:Int)<(l.length:Int):=by omega
   have hat:D.at (aw l) i= .z x:=bn g1
   refine r6 ?_
   simp only[rk,agV,hcl,hat,aU g3,D.bV,ag6,ahg,ag3,ag0,ag1,ahf,gC,agW,agX,aht,ahe,aic,bo g3 hl]
   refine⟨fun h=>⟨fun _=>⟨rfl,.z i,.ret,by simp[h]⟩,fun h1=>absurd (by rw[rM _ h];rfl) h1⟩,fun h=>?_⟩
   have e:=ih (i+1) g2
   simpa [h]using e
 exact Fy (loop l 0 rfl)
def Pq (s l:List Int)(st:List Nat)(ck:Nat)(hl:l.length<2^63):PH bM (rV (aw l) (fM s) st ck) (rX (aw l) (fM s) st ck) 2 fl
 (fun d=>D.bool d=l.any fun r=>decide (r∈s)):=by
 refine B6 ?_
 simp only[rk,D.bE]
 refine⟨_,_,rfl,Yq s l st ck hl,?_⟩
 intro d hd
 exact⟨rfl,vP hd⟩
def Qz {C:cm}{G:mR}{m:List (D×D)}{ks l:List Int}{st:List Nat}{ck:Nat}{e:RT}{k:D->RT}(hm:D.ct m=aw ks)(h0:(∀q∈ks,q∈l)->rk pg C G e)(hk:∀n∈ks,n∉l->rk pg C G (k (.z n))):
 rk pg C G (.ite (oK m st ck (D.ct m) st ck) (.pick (D.ct m) (aw l) e k) .bG):=by
 refine⟨fun _=>⟨fun h=>h0 fun q hq=>?_,fun d hd hn=>?_⟩,fun h=>by simp[oK]at h⟩
 ·have:=h (.z q) (by rw[hm,s6];exact hq)
  rwa [s6]at this
 ·rw[hm]at hd
  obtain⟨n,rfl,hm⟩:=PQ.1 hd
  exact hk n hm fun h=>hn (s6.2 h)
def MT (s:List Int)(v:D):D.ct (j9 s v)=aw s:=by
 induction s with
 |nil=>rfl
 |cons a r ih=>simp only[j9,ahJ,D.ct]at ih ⊢;rw[ih]
def aV.fE (t:aV)(m:Int)(y:Wh):D.fE t.ax (.z m) y.ax=aV.ax (t.map fun p=>if p.1=m then (p.1,y)else p):=by
 induction t with
 |nil=>rfl
 |cons p r ih=>
  simp only[aV.ax,ahJ,D.fE,D.Ui]at ih ⊢
  by_cases h:p.1=m
  ·simp only[h,ahg,ahz];rw[ih]
  ·simp only[h,ahj,ahN];rw[ih]
def aV.pD (t:aV)(m:Int):D.pD t.ax (.z m)=aV.ax (t.filter fun p=>decide (p.1≠m)):=by
 induction t with
 |nil=>rfl
 |cons p r ih=>
  simp only[aV.ax,ahJ,D.pD,D.Ui,ajn]at ih ⊢
  by_cases h:p.1=m
  ·simp only[h,ahg,aic,not_true_eq_false,ahj,agZ,ahN];rw[ih]
  ·simp only[h,ahj,aic,aj3,ahg,ahz,ahJ];rw[ih]
def gX.pD (t:gX)(o s:Int):∃u:gX,D.pD t.ax (.r [.z o,.z s])=u.ax:=by
 induction t with
 |nil=>exact⟨[],rfl⟩
 |cons p r ih=>
  obtain⟨u,hu⟩:=ih
  simp only[gX.ax,ahJ,D.pD]at hu ⊢
  cases D.A5 (D.r [.z p.1.1,.z p.1.2]) (.r [.z o,.z s])with
  |true=>exact⟨u,hu⟩
  |false=>exact⟨p::u,by simp only[hu,gX.ax,ahJ]⟩
section
variable {W:WS} {x:Wl} {f:gX}
def Wl.oT (x:Wl)(s z:List Int)(p:Int×Wh):Wh:=
 if p.1∈s then p.2 else if p.2.k=13 then (if p.2.of∈z then {p.2 with of:=0}else p.2)
 else if p.2.k=8 then {p.2 with lo:=min (p.2.lo+eT (x.kJ s p.1) z) p.2.n}else p.2
abbrev Wl.oS (x:Wl)(s z:List Int):aV:=x.an.map fun p=>(p.1,x.oT s z p)
def ON (s z:List Int)(h:x.an.one)(r:Int):(x.oS s z).get r=(x.an.get r).map fun y=>x.oT s z (r,y):=by
 have:∀t:aV,aV.get (t.map fun p=>(p.1,x.oT s z p)) r=(t.get r).map fun y=>x.oT s z (r,y):=by
  intro t
  induction t with
  |nil=>rfl
  |cons p q ih=>
   simp only[ahJ,aV.get]
   by_cases e:p.1=r
   ·subst e;simp
   ·rw[ag4 e,ag4 e];exact ih
 exact this _
noncomputable abbrev QD (x:Wl)(s:List Int)(d:D):Prop:=(d.aa 0).int=0/\cn (D.aa d 1)=(x.drop s).an.ax/\∃f':gX,cn (D.aa d 4)=f'.ax
noncomputable abbrev GD (W:WS)(x:Wl)(s:List Int):mR:= .bx 2 (lq (oU W (aw s)) (oW W (aw s))) (QD x s)
def adj (hi:x.OU)(hx:x.Ni)(hW:zC W (x.wo f))(s:List Int)(hm:x.May s)(hs:s.Nodup):PH cA (oU W (aw s)) (oW W (aw s)) 2 lq (QD x s):=by
 have hth:=hi.th
 have hT:W.th=x.an.ax:=hW.th
 have hsl:s.length<=x.th.length:=Wl.CS hs hm.is
 have hkeys:(x.wo f).th.map (·.1)=x.th.map En.r:=Wl.ct x
 have one:=hx.one
 have h0:=hm.zero hx
 have hv1:∀{q},q∈s->D.int (D.val (fM s) (.z q))=1:=fun hq=>by rw[rM _ hq];rfl
 have unw:∀(y:Wh) (z:List Int) (r:Int),r∈s->x.oT s z (r,y)=y:=fun y z r hr=>by unfold Wl.oT;rw[ag8 hr]
 have lp5:∀(f2:gX) (z2:List Int) (st5 st7 st10:List Nat) (c8:Nat),(x.oS s z2).filter (fun p=>decide (p.1∉s))=(x.drop s).an->ay pg cA [aM] (GD W x s) (pw W (aw s) (D.ct (fM s)) st7 c8 (x.oS s z2).ax f2.ax st5 (fM s) st7 c8 (aw []) st10):=by
  intro f2 z2 st5 st7 st10 c8 hfin
  have:=mB (M:=fun z=>∀st10:List Nat,ay pg cA [aM] (GD W x s) (pw W (aw s) (D.ct (fM s)) st7 c8 (aV.ax ((x.oS s z2).filter fun p=>decide (p.1∉z))) f2.ax st5 (fM s) st7 c8 (aw z) st10)) s (fun z hz hnd ih st10=>?_) st10
  ·have e1:((x.oS s z2).filter fun p=>decide (p.1∉([]:List Int)))=x.oS s z2:=by
    rw[List.filter_eq_self];intro a _;simp
   rwa [e1]at this
  ·refine L3 (Qz (MT s _) (fun hall=>?_) fun n hn1 hn2=>?_)
   ·have e2:((x.oS s z2).filter fun p=>decide (p.1∉z))=(x.drop s).an:=by
     rw[<-hfin]
     refine ajd fun p _=>?_
     rw[ahu];simp only[agW]
     exact not_congr ⟨hz p.1,hall p.1⟩
    rw[e2]
    refine⟨rfl,.r [.z 0,i5 (x.drop s).an.ax,i6 st10,.z W.ck,i5 f2.ax,i6 st5,.z W.cf],?_,rfl,dh _,f2,dh _⟩
    have d1:cn (D.aa (.r [.z 0,i5 (x.drop s).an.ax,i6 st10,.z (W.ck:Int),i5 f2.ax,i6 st5,.z (W.cf:Int)]) 1)=(x.drop s).an.ax:=dh _
    have d2:cK (D.aa (.r [.z 0,i5 (x.drop s).an.ax,i6 st10,.z (W.ck:Int),i5 f2.ax,i6 st5,.z (W.cf:Int)]) 2)=st10:=nb _
    have d3:cJ (D.aa (.r [.z 0,i5 (x.drop s).an.ax,i6 st10,.z (W.ck:Int),i5 f2.ax,i6 st5,.z (W.cf:Int)]) 3)=W.ck:=na _
    have d4:cn (D.aa (.r [.z 0,i5 (x.drop s).an.ax,i6 st10,.z (W.ck:Int),i5 f2.ax,i6 st5,.z (W.cf:Int)]) 4)=f2.ax:=dh _
    have d5:cK (D.aa (.r [.z 0,i5 (x.drop s).an.ax,i6 st10,.z (W.ck:Int),i5 f2.ax,i6 st5,.z (W.cf:Int)]) 5)=st5:=nb _
    have d6:cJ (D.aa (.r [.z 0,i5 (x.drop s).an.ax,i6 st10,.z (W.ck:Int),i5 f2.ax,i6 st5,.z (W.cf:Int)]) 6)=W.cf:=na _
    simp only[lq,d1,d2,d3,d4,d5,d6]
    exact .ret
   ·have:=ih n hn1 hn2 (D.Ay (aV.ax ((x.oS s z2).filter fun p=>decide (p.1∉z))) st10 (.z n))
    have e3:D.pD (aV.ax ((x.oS s z2).filter fun p=>decide (p.1∉z))) (.z n)=aV.ax ((x.oS s z2).filter fun p=>decide (p.1∉n::z)):=by
     rw[aV.pD,akA]
     congr 1
     refine ajd fun p _=>?_
     rw[ahu];simp only[agW,ag2,ag9,akP,aic]
    simp only[rk,D.bV]
    rw[e3]
    exact this
 have lp4:∀(f2:gX) (st8 st4:List Nat) (c5:Nat),ay pg cA [aM] (GD W x s) (fJ W (aw s) (D.ct (fM s)) st4 c5 (fM s) st4 c5 (aw []) f2.ax st8 (x.oS s []).ax):=by
  intro f2 st8 st4 c5
  refine mB (M:=fun z=>∀(f2:gX) (st8:List Nat),ay pg cA [aM] (GD W x s) (fJ W (aw s) (D.ct (fM s)) st4 c5 (fM s) st4 c5 (aw z) f2.ax st8 (x.oS s z).ax)) s (fun z hz hnd ih f2 st8=>?_) f2 st8
  refine L0 (Qz (MT s _) (fun hall=>?_) fun q hq hqz=>?_)
  ·refine lp5 f2 z st8 st4 W.st c5 ?_
   have hp:z.Perm s:=(aiQ hnd hs).2 fun a=>⟨hz a,hall a⟩
   have hsum:∀m,eT (x.kJ s m) z=eT (x.kJ s m) (x.th.map En.r):=fun m=>by
    have off:∀q,q∉s->x.kJ s m q=0:=fun q hq=>by unfold Wl.kJ;rw[ag4 fun h=>hq h.1]
    have ks:∀l:List Int,eT (x.kJ s m) l=eT (x.kJ s m) (l.filter fun q=>decide (q∈s)):=fun l=>by
     induction l with
     |nil=>rfl
     |cons a r ih=>
      by_cases ha:a∈s
      ·simp only[ajn,ha,ahg,ahz,eT,aiC]at ih ⊢;rw[ih]
      ·simp only[ajn,ha,ahj,agZ,ahN]
       rw[<-ih];simp only[eT,aiC,off a ha];omega
    rw[ks (x.th.map En.r)]
    refine M6 (hp.trans ((aiQ hs (hi.Iy.lJ.sublist aiz)).2 fun a=>?_))
    simp only[aiD,agW]
    exact⟨fun ha=>⟨Wl.KL (hm.is a ha),ha⟩,fun h=>h.2⟩
   have mz:∀a,a∈z↔a∈s:=fun a=>hp.mem_iff
   have:∀t:List En,(∀e∈t,e∈x.th)->(((t.map fun e=>(e.r,e.w)).map fun p=>(p.1,x.oT s z p)).filter fun p=>decide (p.1∉s))=((t.filter fun e=>decide (e.r∉s)).map fun e=>(⟨e.r,x.fh s e⟩:En)).map fun e=>(e.r,e.w):=by
    intro t
    induction t with
    |nil=>intro _;rfl
    |cons e r ih=>
     intro ht
     have ih:=ih fun e he=>ht e (ahB _ he)
     by_cases h1:e.r∈s
     ·simp only[ahJ,ajn,h1,not_true_eq_false,ahj,agZ,ahN];exact ih
     ·simp only[ahJ,ajn,h1,aj3,ahg,ahz,ai6,ah3,ahk]
      refine⟨?_,ih⟩
      unfold Wl.oT Wl.fh
      dsimp only
      rw[ag4 h1,hsum]
      simp only[mz]
   exact this x.th fun _ h=>h
  ·have hk:=ih q hq hqz
   obtain⟨e,he,rfl⟩:=Wl.CR (hm.is q hq)
   have hg:=hx.get he
   have hge:(x.oS s z).get e.r=some e.w:=by rw[ON s z one,hg];simp[unw _ _ _ hq]
   have cS:D.cS (x.oS s z).ax (.z e.r)=true:=by rw[aV.cS,hge];rfl
   have val:D.val (x.oS s z).ax (.z e.r)=e.w.ax:=aV.val hge
   have oth:∀p:Int×Wh,(p.1∉s->(p.2.k=13->p.2.of≠e.r)/\(p.2.k=8->x.kJ s p.1 e.r=0))->x.oT s (e.r::z) p=x.oT s z p:=fun p h=>by
    by_cases h1:p.1∈s
    ·simp[Wl.oT,h1]
    ·obtain⟨a,b⟩:=h h1
     by_cases c:p.2.k=13
     ·simp[Wl.oT,h1,c,a c]
     ·by_cases c8:p.2.k=8
      ·have:eT (x.kJ s p.1) (e.r::z)=eT (x.kJ s p.1) z:=by simp only[eT,aiC,b c8];omega
       simp[Wl.oT,h1,c8,this]
      ·simp[Wl.oT,h1,c,c8]
   have stay:(∀p∈x.an,p.1∉s->(p.2.k=13->p.2.of≠e.r)/\(p.2.k=8->x.kJ s p.1 e.r=0))->x.oS s (e.r::z)=x.oS s z:=fun h=>
    aiZ fun p hp=>by rw[oth p (h p hp)]
   have turn:∀em∈x.th,(∀p∈x.an,p.1∉s->p.1≠em.r->(p.2.k=13->p.2.of≠e.r)/\(p.2.k=8->x.kJ s p.1 e.r=0))->D.fE (x.oS s z).ax (.z em.r) (x.oT s (e.r::z) (em.r,em.w)).ax=(x.oS s (e.r::z)).ax:=fun em hem h=>by
    rw[aV.fE,Wl.oS,ajQ]
    congr 1
    refine aiZ fun p hp=>?_
    dsimp only[Function.comp]
    by_cases hpm:p.1=em.r
    ·have:p.2=em.w:=by
      have h1:=(aV.jF one).2 (show (p.1,p.2)∈x.an from hp)
      rw[hpm,hx.get hem]at h1;injection h1 with h1;exact h1.symm
     rw[ag8 hpm,<-hpm,<-this]
    ·rw[ag4 hpm,oth p fun hn=>h p hp hn hpm]
   have memx:∀p∈x.an,(⟨p.1,p.2⟩:En)∈x.th:=fun p hp=>by
    simp only[Wl.an,ahp]at hp
    obtain⟨d,hd,rfl⟩:=hp
    exact hd
   have nosw:e.w.k≠15->∀p∈x.an,p.2.k=13->p.2.of≠e.r:=fun h15 p hp h13 ho=>by
    rcases hx.Jv _ (memx p hp) h13 with h1| ⟨h1,_⟩
    ·have:=hx.pos e he;dsimp only at h1;omega
    ·dsimp only at h1;rw[ho,hx.kind he]at h1;exact h15 h1
   have noad:e.w.k≠9->∀m,x.kJ s m e.r=0:=fun h9 m=>by unfold Wl.kJ;rw[hx.at he,ag4 fun h=>h9 h.2.1]
   simp only[rk,D.bV,cS,val,Wh.cU,Wh.di,Wh.gg,Wh.i7,Wh.lu,gC,ag3,ag0,ag1,ahf,aht,ahe,aic,agW,agX]
   refine⟨fun h14=>?_,fun n14=>⟨fun h9=>?_,fun n9=>⟨fun h15=>?_,fun n15=>?_⟩⟩⟩
   ·obtain⟨u,hu⟩:=gX.pD f2 e.w.of e.w.set
    rw[hu,<-stay fun p hp _=>⟨nosw (by omega) p hp,fun _=>noad (by omega) _⟩]
    exact hk u _
   ·
    have hkm:=hx.k9 e he h9
    obtain⟨em,hem,hemr⟩:=Wl.CR (Wl.wb (x:=x) (r:=e.w.of) (by omega))
    rw[<-hemr]at hkm ⊢
    rw[hx.kind hem]at hkm
    have hUg:(x.oS s z).get em.r=some (x.oT s z (em.r,em.w)):=by rw[ON s z one,hx.get hem];rfl
    refine⟨fun _=>⟨fun hof=>⟨fun h0=>absurd (hv1 hof) (by rw[h0];decide),fun _=>?_⟩,fun hof=>?_⟩,fun hno=>by rw[aV.cS,hUg]at hno;cases hno⟩
    ·rw[<-stay fun p hp hn=>⟨nosw (by omega) p hp,fun _=>by unfold Wl.kJ;rw[hx.at he,ag4 fun h=>hn (by rw[<-h.2.2,<-hemr];exact hof)]⟩]
     exact hk f2 st8
    ·have n1:=hx.num em hem (.inl hkm)
     have n2:=hx.num e he (.inr h9)
     have hS:=Hz (fun q=>(hx.kJ s em.r q).1) z
     have key:=hk f2 st8
     rw[<-turn em hem fun p hp hn hne=>⟨nosw (by omega) p hp,fun _=>by unfold Wl.kJ;rw[hx.at he,ag4 fun h=>hne (by rw[<-h.2.2,<-hemr])]⟩]at key
     have eU:x.oT s z (em.r,em.w)={em.w with lo:=min (em.w.lo+eT (x.kJ s em.r) z) em.w.n}:=by simp[Wl.oT,hof,hkm]
     have eA:x.kJ s em.r e.r=e.w.n:=by unfold Wl.kJ;rw[hx.at he,ag8 ⟨hq,h9,hemr.symm⟩]
     have eY:x.oT s (e.r::z) (em.r,em.w)={x.oT s z (em.r,em.w)with lo:=min ((x.oT s z (em.r,em.w)).lo+e.w.n) (x.oT s z (em.r,em.w)).n}:=by
      rw[eU]
      simp only[Wl.oT,hof,hkm,ahN,ahz,show ¬((8:Int)=13)by decide,eT,aiC,eA]
      congr 1
      simp only[eT]at hS
      omega
     have bl:0<=(x.oT s z (em.r,em.w)).lo/\(x.oT s z (em.r,em.w)).lo<=9007199254740992:=by rw[eU];dsimp only;omega
     generalize hUU:x.oT s z (em.r,em.w)=U at*
     rw[aV.val hUg]
     simp only[Wh.cU,Wh.mH,Wh.mI,Wh.sP,Wh.lu,Wh.zf,Wh.di,Wh.gg,Wh.i7,Wh.o0,Wh.iI,Wh.fv,lK]
     rw[bO (by omega) (by omega)]
     rw[eY,Wh.aD]at key
     rw[show (if U.lo+e.w.n<U.n then U.lo+e.w.n else U.n)=min (U.lo+e.w.n) U.n by split<;>omega]
     exact key
   ·
    obtain⟨hkm,hgo,_⟩:=hx.Ss e he h15
    obtain⟨em,hem,hemr⟩:=Wl.CR (Wl.wb (x:=x) (r:=e.w.km) (by omega))
    rw[<-hemr]at hkm hgo ⊢
    rw[hx.kind hem]at hkm
    rw[hx.at hem]at hgo
    have hUg:(x.oS s z).get em.r=some (x.oT s z (em.r,em.w)):=by rw[ON s z one,hx.get hem];rfl
    refine⟨fun hby=>⟨fun h0=>absurd (hv1 hby) (by rw[h0];decide),fun _=>?_⟩,fun hby=>⟨fun _=>?_,fun hno=>by rw[aV.cS,hUg]at hno;cases hno⟩⟩
    ·rw[<-stay fun p hp hn=>⟨fun h13 ho=>?_,fun _=>noad (by omega) _⟩]
     ·exact hk f2 st8
     ·rcases hx.Jv _ (memx p hp) h13 with h1| ⟨_,h1⟩
      ·have:=hx.pos e he;dsimp only at h1;omega
      ·dsimp only at h1;rw[ho,hx.at he]at h1;exact hn (by rw[<-h1,<-hemr];exact hby)
    ·have key:=hk f2 st8
     rw[<-turn em hem fun p hp hn hne=>⟨fun h13 ho=>?_,fun _=>noad (by omega) _⟩]at key
     ·have eU:x.oT s z (em.r,em.w)=em.w:=by simp[Wl.oT,hby,hkm,hgo,hqz]
      have eY:x.oT s (e.r::z) (em.r,em.w)={em.w with of:=0}:=by simp[Wl.oT,hby,hkm,hgo]
      rw[eU]at hUg
      rw[aV.val hUg]
      simp only[Wh.cU,Wh.mH,Wh.mI,Wh.sP,Wh.lu,Wh.zf,Wh.di,Wh.gg,Wh.i7,Wh.o0,Wh.iI,Wh.fv,lK]
      rw[eY,Wh.aD]at key
      exact key
     ·rcases hx.Jv _ (memx p hp) h13 with h1| ⟨_,h1⟩
      ·have:=hx.pos e he;dsimp only at h1;omega
      ·dsimp only at h1;rw[ho,hx.at he]at h1;exact hne (by rw[<-h1,<-hemr])
   ·rw[<-stay fun p hp _=>⟨nosw n15 p hp,fun _=>noad n9 _⟩]
    exact hk f2 st8
 have lp3:∀(st1:List Nat) (c2:Nat),ay pg cA [aM] (GD W x s) (nV W (aw s) (fM s) st1 c2 (aw []) (D.ct W.th) W.st W.ck):=by
  intro st1 c2
  refine mB (M:=fun z=>ay pg cA [aM] (GD W x s) (nV W (aw s) (fM s) st1 c2 (aw z) (D.ct W.th) W.st W.ck)) ((x.wo f).th.map (·.1)) fun z hz hnd ih=>?_
  refine Ow (yL hW (fun hall=>?_) fun n hn1 hn2=>?_)
  ·have e1:W.th=(x.oS s []).ax:=by
    rw[hT]
    congr 1
    refine((aiZ fun p hp=>?_).trans (akL _)).symm
    have hp2:(⟨p.1,p.2⟩:En)∈x.th:=by
     simp only[Wl.an,ahp]at hp
     obtain⟨d,hd,rfl⟩:=hp
     exact hd
    have n1:=fun h8=>hx.num _ hp2 (.inl h8)
    show (p.1,x.oT s [] p)=p
    unfold Wl.oT
    split
    ·rfl
    ·split
     ·simp
     ·split
      ·rename_i h8
       have:=n1 h8
       have e2:min (p.2.lo+eT (x.kJ s p.1) []) p.2.n=p.2.lo:=by simp only[eT,List.foldr_nil];dsimp only at this;omega
       rw[e2]
      ·rfl
   have e2:W.fa=f.ax:=hW.fa
   show ay _ _ _ _ (fJ W (aw s) (D.ct (fM s)) st1 c2 (fM s) st1 c2 (aw []) W.fa W.sf W.th)
   have:=lp4 f W.sf st1 c2
   rw[<-e2,<-e1]at this
   exact this
  ·have ihn:=ih n hn1 hn2
   rw[hkeys]at hn1
   obtain⟨e,he,rfl⟩:=ahp.1 hn1
   have hg:=hx.get he
   obtain⟨w1,w2,w3⟩:=hi.w e he
   have hrl:=aE.gj e.w.aJ
   simp only[Wh.sz]at w2
   have next:e.r∉s->ay pg cA [aM] (GD W x s) (xu W (aw s) (.z e.r) (D.ct W.th) W.st W.ck (.z e.r::aw z) (fM s) st1 c2):=fun hn=>by
    have c:=Pq s (aE.bD e.w.aJ) st1 c2 (by omega)
    have hany:((aE.bD e.w.aJ).any fun r=>decide (r∈s))=false:=by
     rw[List.any_eq_false];intro a ha;simpa using hm.Ti e he hn a ha
    have hby:=hm.km e he hn
    refine K7 ?_
    simp only[rk,hT,aV.cS,hg,aV.val hg,ahU,Wh.cU,Wh.di,Wh.gg,gC,hby,ahj,ahg,ag3,ag0,agZ,ag1,ahf,ahk,aiI,aic,ahV,D.bE]
    refine⟨fun h13=>?_,fun h13=>?_⟩
    ·simp only[hm.of e he hn h13,ahj,agZ,ag1,ag3,ahk]
     refine⟨_,_,rfl,TL e.w w1 (by simp only[Wh.sz];exact w2) w3,?_⟩
     intro d hd
     rw[hd]
     refine⟨_,_,rfl,c,?_⟩
     intro d hd
     rw[hd,hany]
     exact⟨fun h=>(by cases h),fun _=>hT▸ihn⟩
    ·refine⟨_,_,rfl,TL e.w w1 (by simp only[Wh.sz];exact w2) w3,?_⟩
     intro d hd
     rw[hd]
     refine⟨_,_,rfl,c,?_⟩
     intro d hd
     rw[hd,hany]
     exact⟨fun h=>(by cases h),fun _=>hT▸ihn⟩
   simp only[rk,D.bV,gC,aht,ahe,aic,agW,agX]
   exact⟨fun hn=>⟨fun _=>ihn,fun h1=>absurd (hv1 hn) h1⟩,next⟩
 have lp2:∀(st1:List Nat) (c2:Nat),ay pg cA [aM] (GD W x s) (jj W (aw s) (fM s) st1 c2 (aw []) (D.ct W.th) W.st W.ck):=by
  intro st1 c2
  refine mB (M:=fun z=>ay pg cA [aM] (GD W x s) (jj W (aw s) (fM s) st1 c2 (aw z) (D.ct W.th) W.st W.ck)) ((x.wo f).th.map (·.1)) fun z hz hnd ih=>?_
  refine Ov (yL hW (fun hall=>lp3 st1 c2) fun n hn1 hn2=>?_)
  have ihn:=ih n hn1 hn2
  rw[hkeys]at hn1
  obtain⟨e,he,rfl⟩:=ahp.1 hn1
  have hg:=hx.get he
  have next:e.w.k=14->ay pg cA [aM] (GD W x s) (xv W (aw s) e.r (.z e.r) (D.ct W.th) W.st W.ck (.z e.r::aw z) (fM s) st1 c2):=fun h14=>by
   refine K9 ?_
   simp only[rk,hT,aV.cS,hg,aV.val hg,ahU,Wh.di,gC,MR,ag3,ag0,ag1,ahf,agW,agX,aht,ahe,aic]
   exact⟨fun hof=>⟨fun _=>⟨fun _=>hT▸ihn,fun hn=>absurd ((hm.Ve e he h14).2 hof) hn⟩,fun _=>hT▸ihn⟩,fun _=>hT▸ihn⟩
  simp only[rk,D.bV,hT,aV.cS,hg,aV.val hg,ahU,Wh.cU,Wh.di,gC,ag3,ag0,ag1,ahf,agW,agX,aiI,aic,ahV,aht,ahe]
  refine⟨fun _=>hT▸ihn,fun h14=>⟨fun hn=>⟨fun _=>⟨fun hof=>⟨fun h0=>absurd (hv1 hof) (by rw[h0];decide),fun _=>hT▸next h14⟩,fun hof=>absurd ((hm.Ve e he h14).1 hn) hof⟩,fun _=>hT▸next h14⟩,fun _=>hT▸next h14⟩⟩
 have lp1:∀(ah:List Int) (i:Nat) (st2:List Nat) (c3:Nat),s.drop i=ah->ay pg cA [aM] (GD W x s) (ru W (aw s) i (fM (s.take i)) st2 c3):=by
  intro ah
  induction ah with
  |nil=>
   intro i st2 c3 hd
   have hil:=drop_nil hd
   refine G5 ?_
   rw[ag5 hil]
   have hn:¬(i:Int)<(s.length:Int):=by omega
   simp only[rk,agV,hn,ahj,agZ,ag1,ag3,ahk]
   exact lp2 st2 c3
  |cons a ah ih=>
   intro i st2 c3 hd
   obtain⟨g1,g2,g3⟩:=aB hd
   have hcl:(i:Int)<(s.length:Int):=by omega
   have hat:D.at (aw s) i= .z a:=bn g1
   have e:=ih (i+1) (st2++[c3]) (c3+1) g2
   rw[aQ g1,show fM (s.take i++[a])=fM (s.take i)++[(.z a,.z 1)]from(D5 _ _ _).symm]at e
   refine G5 ?_
   simp only[rk,agV,hcl,hat,aU g3,g3,D.bV,ag6,ahg,ag3,ag0,ag1,ahf,gC,agW,agX,bo g3 (by omega)]
   refine⟨_,_,rfl,Co hW a,?_⟩
   intro d hd
   have hd:D.bool d=true:=hd.trans (hm.is a (agY g1))
   rw[hd]
   exact⟨fun h=>(by cases h),fun _=>⟨fun h=>absurd h (I2 g1 hs),fun _=>e⟩⟩
 refine YY ?_
 exact lp1 s 0 [] 0 rfl
end
end
section
section
variable {R:RS} {x:Wl} (hi:x.OU) (h20:x.th.length<=2^20) (hR:Fe R x.ro) (hc:x.Clo) (l:List Su) (hs:SuS l)
def Bt {x:Wl}{i:Nat}{e:En}(h:x.th[i]?=some e):D.at x.an.ak i= .r [.z e.r,e.w.ax]:=yS (t:=x.an) (p:=(e.r,e.w)) (by simp[Wl.an,h])
def dT (x:Wl):x.an.ak.length=x.th.length:=by simp[aV.ak,Wl.an]
include hi h20 hR hc hs
noncomputable abbrev GLv (x:Wl)(R:RS)(l:List Su):mR:= .bx 1 (kI (p9 R (l.map Su.ax)) (Rm R)) (QL x l (x.fL l))
theorem QI:PH cB (p9 R (l.map Su.ax)) (Rm R) 1 kI (QL x l (x.fL l)):=by
 have hth:=hi.th
 have hT:R.th=x.an.ak:=hR.th
 have lp3:l.all x.cN=true->∀(s:List Int),s.Nodup->(∀q∈s,q∈x.all)->(∀q,q∈s↔x.ln l q)->∀(ah:List En) (i:Nat),x.th.drop i=ah->
  ay pg cB [aW,aM] (GLv x R l) (nt R (l.map Su.ax) s.length (aw s) (((x.th.take i).map En.r).filter fun r=>decide (r∈s)).length i (aw (((x.th.take i).map En.r).filter fun r=>decide (r∈s)))):=by
  intro hall s h1 h2 hsl ah
  have hsn:=Wl.AP h1 h2
  induction ah with
  |nil=>
   intro i hd
   have hil:=drop_nil hd
   refine Db ?_
   rw[ag5 hil,Wl.N4 hsl]
   have hn:¬(i:Int)<(x.th.length:Int):=by omega
   simp only[rk,hT,dT,hn,agV,ahj,ahg,agZ,ag0,ag1,ag3,ahk,ahf,D.bE]
   refine⟨rfl,.r [.r (aw (x.fL l)),.z 0],.ret,?_⟩
   simp only[QL];rw[ag8 hall];exact⟨rfl,rfl⟩
  |cons e ah ih=>
   intro i hd
   obtain⟨g1,g2,g3⟩:=aB hd
   have hcl:(i:Int)<(x.th.length:Int):=by omega
   have rm:aO 8 ((((x.th.take i).map En.r).filter fun r=>decide (r∈s)).length+1)=true:=by
    have:(((x.th.take i).map En.r).filter fun r=>decide (r∈s)).length<=i:=by
     refine ahD (ah1 _ _) ?_
     rw[agV,ahx];omega
    simp only[aO,agW];omega
   have:=ih (i+1) g2
   rw[aQ g1,ahr,aiP]at this
   refine Db ?_
   simp only[rk,hT,dT,hcl,Bt g1,aU g3,g3,agV,ag6,ahg,ag3,ag0,ag1,ahf,rm,ahI,bo g3 (by omega)]
   refine⟨_,_,_,rfl,Iu s e.r (by omega),?_⟩
   rintro _ rfl
   simp only[D.bz,agW,agX]
   refine⟨fun h=>?_,fun h=>?_⟩
   ·simpa [h,D.aa,D.at]using this
   ·simpa [h]using this
 have lp2:l.all x.cN=true->∀(s:List Int),(∀t:List Int,t.Nodup->(∀q∈t,q∈x.all)->(∀q∈s,q∈t)->(∀q∈t,x.ln l q)->s.length<t.length->ay pg cB [aW,aM] (GLv x R l) (jZ R (l.map Su.ax) t.length (aw t) true))->
  ((∀e∈x.th,LF s e)->ay pg cB [aW,aM] (GLv x R l) (jZ R (l.map Su.ax) s.length (aw s) false))->s.Nodup->
  ∀(ah:List En) (i:Nat) (t:List Int) (b:Bool),x.th.drop i=ah->t.Nodup->(∀q∈t,q∈x.all)->(∀q∈s,q∈t)->(∀q∈t,x.ln l q)->
  ((b=true/\s.length<t.length)\/(b=false/\t=s/\∀e∈x.th.take i,LF s e))->
  ay pg cB [aW,aM] (GLv x R l) (iS R (l.map Su.ax) t.length (aw t) b i):=by
  intro hall s O9 done hs ah
  induction ah with
  |nil=>
   intro i t b hd h1 h2 h3 h4 h5
   have hil:=drop_nil hd
   rw[ag5 hil]at h5
   refine BO ?_
   have hn:¬(i:Int)<(x.th.length:Int):=by omega
   simp only[rk,hT,dT,hn,ahj,agZ,ag1,ag3,ahk]
   rcases h5 with ⟨rfl,h5⟩| ⟨rfl,rfl,h5⟩
   ·exact O9 t h1 h2 h3 h4 h5
   ·exact done h5
  |cons e ah ih=>
   intro i t b hd h1 h2 h3 h4 h5
   obtain⟨g1,g2,g3⟩:=aB hd
   have hmem:=agY g1
   have htl:=Wl.AP h1 h2
   have hwk:IntKind.i64.wrap e.w.k=e.w.k:=(hi.w e hmem).1.wk
   have JB:∀(u:List Int) (q:Int),q∉u->u.Nodup->(∀q∈u,q∈x.all)->(∀q∈s,q∈u)->(∀q∈u,x.ln l q)->q∈x.all->x.ln l q->
    (u++[q]).Nodup/\(∀a∈u++[q],a∈x.all)/\(∀a∈s,a∈u++[q])/\(∀a∈u++[q],x.ln l a)/\s.length<(u++[q]).length:=fun u q hq k1 k2 k3 k4 k5 k6=>by
    refine⟨ah5.2 ⟨k1,by simp,fun a ha b hb=>by rw[ahb]at hb;subst hb;rintro rfl;exact hq ha⟩,fun a ha=>?_,fun a ha=>ahP _ (k3 a ha),fun a ha=>?_,?_⟩
    ·rcases ahd.1 ha with ha|ha
     ·exact k2 a ha
     ·rw[ahb]at ha;subst ha;exact k5
    ·rcases ahd.1 ha with ha|ha
     ·exact k4 a ha
     ·rw[ahb]at ha;subst ha;exact k6
    ·have:=hG hs k3
     rw[ahc,ah9];omega
   have two:∀(u:List Int) (b:Bool),u.Nodup->(∀q∈u,q∈x.all)->(∀q∈s,q∈u)->(∀q∈u,x.ln l q)->u.length<=2*x.th.length->
    ((b=true/\s.length<u.length)\/(b=false/\u=s/\(∀e∈x.th.take i,LF s e)/\(e.w.k=6\/e.w.k=7\/e.w.k=9->e.r∈s->e.w.of∈s)))->
    ay pg cB [aW,aM] (GLv x R l) (jl R (l.map Su.ax) u.length (aw u) b i e.r e.w.k e.w.ax):=by
    intro u b k1 k2 k3 k4 kl k5
    have Fs:(u=s->e.w.k=14->e.w.of∈s->e.r∈s)->ay pg cB [aW,aM] (GLv x R l) (iS R (l.map Su.ax) u.length (aw u) b ((i+1:Nat):Int)):=fun hk=>by
     refine ih (i+1) u b g2 k1 k2 k3 k4 ?_
     rcases k5 with k5| ⟨k5,k6,k7,k8⟩
     ·exact .inl k5
     ·refine .inr ⟨k5,k6,fun e2 he2=>?_⟩
      rw[aQ g1]at he2
      rcases ahd.1 he2 with he2|he2
      ·exact k7 e2 he2
      ·rw[ahb]at he2;subst he2;exact⟨hk k6,k8⟩
    refine Hc ?_
    have rm:aO 8 (u.length+1)=true:=by simp only[aO,agW];omega
    simp only[rk,agV,ahg,ag3,ag0,ag1,ahf,Wh.di,rm,ahI,bo g3 (by omega),aht,ahe,aic]
    refine⟨fun h14=>⟨_,_,_,rfl,Iu u e.w.of (by omega),?_⟩,fun h14=>Fs fun _ h=>absurd h h14⟩
    rintro _ rfl
    simp only[D.bz,agW,agX]
    refine⟨fun hof=>⟨_,_,_,rfl,Iu u e.r (by omega),?_⟩,fun hof=>Fs fun hus _ h=>absurd (hus▸h) hof⟩
    rintro _ rfl
    simp only[D.bz,ahl,agX,ahq,agW]
    refine⟨fun hr=>?_,fun hr=>Fs fun hus _ _=>hus▸hr⟩
    obtain⟨m1,m2,m3,m4,m5⟩:=JB u e.r hr k1 k2 k3 k4 (Wl.acC hmem) (.Ve hmem h14 (k4 _ hof))
    have:=ih (i+1) (u++[e.r]) true g2 m1 m2 m3 m4 (.inl ⟨rfl,m5⟩)
    simpa using this
   have same:(t=s->e.w.k=6\/e.w.k=7\/e.w.k=9->e.r∈s->e.w.of∈s)->ay pg cB [aW,aM] (GLv x R l) (jl R (l.map Su.ax) t.length (aw t) b i e.r e.w.k e.w.ax):=fun hk=>
    two t b h1 h2 h3 h4 htl (by rcases h5 with h5| ⟨h5,h6,h7⟩;exact .inl h5;exact .inr ⟨h5,h6,h7,hk h6⟩)
   refine BO ?_
   have hcl:(i:Int)<(x.th.length:Int):=by omega
   have rm:aO 8 (t.length+1)=true:=by simp only[aO,agW];omega
   have f0:D.int (D.aa (.r [.z e.r,e.w.ax]) 0)=e.r:=rfl
   have f1:D.aa (.r [.z e.r,e.w.ax]) 1=e.w.ax:=rfl
   simp only[rk,hT,dT,hcl,Bt g1,f0,f1,aU g3,g3,agV,ag6,ahg,ag3,ag0,ag1,ahf,rm,ahI,Wh.cU,Wh.di,hwk,aht,ahe,aic]
   refine⟨_,_,_,rfl,Iu t e.r (by omega),?_⟩
   rintro _ rfl
   simp only[D.bz,agW,agX]
   refine⟨fun hr=>⟨fun hk=>?_,fun hn6=>⟨fun hk=>?_,fun hn7=>⟨fun hk=>?_,fun hn9=>same fun _ h=>by omega⟩⟩⟩,fun hr=>same fun AA _ h=>absurd (AA▸h) hr⟩
   all_goals
    refine⟨_,_,_,rfl,Iu t e.w.of (by omega),?_⟩
    rintro _ rfl
    simp only[D.bz,ahl,agX,ahq,agW]
    refine⟨fun hof=>?_,fun hof=>same fun AA _ _=>AA▸hof⟩
    obtain⟨m1,m2,m3,m4,m5⟩:=JB t e.w.of hof h1 h2 h3 h4 (Wl.XI hmem) (.use hmem (by omega) (h4 _ hr))
    have:=two (t++[e.w.of]) true m1 m2 m3 m4 (Wl.AP m1 m2) (.inl ⟨rfl,m5⟩)
    simpa using this
 have lp1:l.all x.cN=true->∀(n:Nat) (s:List Int),2*x.th.length-s.length=n->s.Nodup->(∀q∈s,q∈x.all)->(∀q,x.LC (gi l) q->q∈s)->(∀q∈s,x.ln l q)->
  ay pg cB [aW,aM] (GLv x R l) (jZ R (l.map Su.ax) s.length (aw s) true):=by
  intro hall n
  induction n using Nat.strongRecOn with
  |_ n ih=>
   intro s hn h1 h2 h3 h4
   refine Da ?_
   simp only[rk,ag3,ag0,ag1,ahf]
   refine lp2 hall s (fun t k1 k2 k3 k4 k5=>?_) (fun hsh=>?_) h1 x.th 0 s false rfl h1 h2 (fun _ h=>h) h4 (.inr ⟨rfl,rfl,by simp⟩)
   ·have:=Wl.AP k1 k2
    exact ih _ (by omega) t rfl k1 k2 (fun q hq=>k3 q (h3 q hq)) k4
   ·refine Da ?_
    simp only[rk,agZ,ag1,ag3,ahk]
    exact lp3 hall s h1 h2 (fun q=>⟨h4 q,fun hq=>(hq.bind fun q hq=> .az (h3 q hq)).aey hsh⟩) x.th 0 rfl
 refine SZ ?_
 simp only[rk]
 refine⟨_,_,rfl,Wz hi hR hc l hs,?_⟩
 rintro d ⟨r,h1,h2⟩
 rw[h1]
 by_cases hall:l.all x.cN=true
 ·rw[ag8 hall]at h2
  obtain⟨h2,h3,h4⟩:=h2
  rw[h2,agV]
  refine⟨fun h=>by simp at h,fun _=>lp1 hall _ r rfl h3.lJ (fun q hq=>?_) (fun q hq=>(h4 q).2 hq) fun q hq=> .az ((h4 q).1 hq)⟩
  have:x.is q:=by
   have hz:=(h4 q).1 hq
   clear hq
   induction hz with
   |az hb=>
    obtain⟨s,hsm,hq⟩:=aiq.1 hb
    have:=((x.cW s).1 (ahG.1 hall s hsm)).2.2.2.2
    simp only[mF,aE.xG,aiq,ahp]at hq
    obtain⟨v,⟨n,hn,rfl⟩,hq⟩:=hq
    have:=this n hn _ hq
    simp only[Wl.xw,ag2]at this
    exact this.1
   |step _ hn _=>exact hc _ _ hn
  exact ahP _ (Wl.KL this)
 ·rw[ag4 hall]at h2
  rw[h2.1]
  refine⟨fun _=>⟨rfl,.r [.r [],.z 190],.ret,?_⟩,fun h=>by simp at h⟩
  simp only[QL];rw[ag4 hall];exact⟨rfl,rfl⟩
theorem QJ:PH jB (AD R (l.map Su.ax)) (Rm R) 1 sB (QL x l (x.ah l)):=by
 have hth:=hi.th
 have hT:R.th=x.an.ak:=hR.th
 have hlive:∀e∈x.th,(e.r∈x.fL l↔x.ln l e.r):=fun e he=>by
  simp only[Wl.fL,aiD,agW]
  exact⟨fun h=>h.2,fun h=>⟨ahp.2 ⟨e,he,rfl⟩,h⟩⟩
 have hll:(x.fL l).length<=x.th.length:=by
  unfold Wl.fL
  exact ahD (ah1 _ _) (by simp)
 have lp:l.all x.cN=true->∀(ah:List En) (i:Nat),x.th.drop i=ah->ay pg jB [aW,aM] (.bx 1 (sB (AD R (l.map Su.ax)) (Rm R)) (QL x l (x.ah l)))
  (nu R (l.map Su.ax) (aw (x.fL l)) (((x.th.take i).map En.r).filter fun r=>decide (r∉x.fL l)).length i (aw (((x.th.take i).map En.r).filter fun r=>decide (r∉x.fL l)))):=by
  intro hall ah
  induction ah with
  |nil=>
   intro i hd
   have hil:=drop_nil hd
   refine Dc ?_
   rw[ag5 hil]
   have e1:((x.th.map En.r).filter fun r=>decide (r∉x.fL l))=x.ah l:=by
    unfold Wl.ah
    refine ajd fun r hr=>?_
    obtain⟨e,he,rfl⟩:=ahp.1 hr
    rw[ahu];simp only[agW]
    exact not_congr (hlive e he)
   rw[e1]
   have hn:¬(i:Int)<(x.th.length:Int):=by omega
   simp only[rk,hT,dT,hn,agV,ahj,ahg,agZ,ag0,ag1,ag3,ahk,ahf,D.bE]
   refine⟨rfl,.r [.r (aw (x.ah l)),.z 0],.ret,?_⟩
   simp only[QL];rw[ag8 hall];exact⟨rfl,rfl⟩
  |cons e ah ih=>
   intro i hd
   obtain⟨g1,g2,g3⟩:=aB hd
   have hcl:(i:Int)<(x.th.length:Int):=by omega
   have rm:aO 8 ((((x.th.take i).map En.r).filter fun r=>decide (r∉x.fL l)).length+1)=true:=by
    have:(((x.th.take i).map En.r).filter fun r=>decide (r∉x.fL l)).length<=i:=by
     refine ahD (ah1 _ _) ?_
     rw[agV,ahx];omega
    simp only[aO,agW];omega
   have:=ih (i+1) g2
   rw[aQ g1,ahr,aiP]at this
   refine Dc ?_
   simp only[rk,hT,dT,hcl,Bt g1,aU g3,g3,agV,ag6,ahg,ag3,ag0,ag1,ahf,rm,ahI,bo g3 (by omega)]
   refine⟨_,_,_,rfl,Iu (x.fL l) e.r (by omega),?_⟩
   rintro _ rfl
   simp only[D.bz,ahl,agX,ahq,agW]
   refine⟨fun h=>?_,fun h=>?_⟩
   ·simpa [h,D.aa,D.at]using this
   ·simpa [h]using this
 refine S0 ?_
 simp only[rk]
 refine⟨_,_,rfl,QI hi h20 hR hc l hs,?_⟩
 intro d hd
 simp only[QL]at hd
 by_cases hall:l.all x.cN=true
 ·rw[ag8 hall]at hd
  rw[hd.1,hd.2]
  refine⟨fun h=>by simp at h,fun _=>lp hall x.th 0 rfl⟩
 ·rw[ag4 hall]at hd
  rw[hd.2]
  refine⟨fun _=>⟨rfl,.r [.r [],.z 190],.ret,?_⟩,fun h=>by simp at h⟩
  simp only[QL];rw[ag4 hall];exact⟨rfl,rfl⟩
end
end
end Go.Proofs
end
