import Derived.Below
import Derived.Test.YtdoajjnobfjkcaaGreatM4
set_option linter.all false
noncomputable section
namespace Go.PB
open Go
section
section
variable {P:Program} {g g':Gh} {h h':aj} {w w':World} {lb ub:Nat} {az:sg} {b b':bq} {f:Frame} {bs:List bq} {cs:List Frame}
def ZZ (hmix:P.follows .mixedOrders=true){s s':au}(hs:Nl P az g w lb s f cs)(e:dm P s=some s'):dN P az g s.h w s' (lone f cs w):=by
 obtain⟨⟨bfn,benv,btodo,bds,bmode,bkd,bro⟩,bs,h⟩:=s
 obtain⟨hr,hlb,hf,hc⟩:=hs
 obtain⟨fn,tmps,ftodo,ds,fmode,kd,ro⟩:=f
 dsimp only at hr hlb hf hc ⊢
 by_cases hmode:bmode= .run
 case neg=>
  have e':yW P {fn:=bfn,cx:=benv,todo:=btodo,defers:=bds,mode:=bmode,kind:=bkd,roundOf:=bro} bs h=some s':=by
   unfold dm at e
   cases bmode<;>first|exact absurd rfl hmode|exact e
  have hu:=Ty hr hlb hf hmode hc e'
  have hfm:=hf.mode
  refine dN.xB ?_
  have:stepG P true {frame:={fn:=fn,tmps:=tmps,todo:=ftodo,defers:=ds,mode:=fmode,kind:=kd,roundOf:=ro},callers:=cs,status:= .running,dying:=none} w=
   unwind P true {fn:=fn,tmps:=tmps,todo:=ftodo,defers:=ds,mode:=fmode,kind:=kd,roundOf:=ro} cs none w:=by
   dsimp only at hfm
   cases bmode with
   |run=>exact absurd rfl hmode
   |returning=>simp only[xS]at hfm;subst hfm;simp[stepG]
  rw[this];exact hu
 case pos=>
  subst hmode
  have hfm:fmode= .run:=hf.mode
  subst hfm
  have hplain:∀i k,btodo=i::k->(∀d,i≠ .fY d)->aq P g w benv tmps.toList/\bS g (i::k) ftodo:=by
   intro i k hb hnd
   have hrun:=hf.run rfl
   unfold cZ at hrun
   split at hrun
   ·rename_i d k' ht
    dsimp only at ht
    rw[hb]at ht
    cases ht
    exact absurd rfl (hnd d)
   ·dsimp only at hrun
    rw[hb]at hrun
    exact hrun
  cases btodo with
  |nil=>
   have hrun:=hf.run rfl
   unfold cZ at hrun
   dsimp only at hrun
   obtain⟨henv,hi⟩:=hrun
   simp only[bS]at hi
   subst hi
   simp only[dm]at e
   refine yE hr hlb hf henv hc e (fun hro _=>?_) (fun l v w1 hro hrun=>?_)
   ·subst hro;simp[stepG,stepG.exec]
   ·subst hro;simp[stepG,stepG.exec,hrun]
  |cons i k=>
   by_cases hnd:∀d,i≠ .fY d
   case neg=>
    have:∃d,i= .fY d:=ahK fun hn=>hnd fun d hd=>hn ⟨d,hd⟩
    obtain⟨d,rfl⟩:=this
    exact ZT hr hlb hf hc e
   case pos=>
    obtain⟨henv,hi⟩:=hplain i k rfl hnd
    simp only[bS]at hi
    obtain⟨it,ir,rfl,hit,hir⟩:=hi
    cases i with
    |fY d=>exact absurd rfl (hnd d)
    |code c=>
     simp only[eZ]at hit
     subst hit
     by_cases hrf:∃f' ps a b',c= .rangeFunc f' ps a b'
     ·obtain⟨f',ps,a,b',rfl⟩:=hrf
      exact Mi hr hlb hf hc henv hir e
     ·exact ZS hmix hr hlb hf hc henv hir (fun f' ps a b' hc=>hrf ⟨f',ps,a,b',hc⟩) e
    |inBlock l=>
     simp only[eZ]at hit
     subst hit
     simp only[dm]at e;cases e
     exact Rx hr hlb hf hc henv hir UX
    |inLoop c=>
     simp only[eZ]at hit
     subst hit
     simp only[dm]at e;cases e
     exact Rx hr hlb hf hc henv (btodo':= .code c:: .inLoop c::k) ⟨_,_,rfl,rfl,_,_,rfl,rfl,hir⟩ XB
    |inScope c=>
     simp only[eZ]at hit
     subst hit
     simp only[dm]at e;cases e
     exact Rx hr hlb hf hc henv hir UY
    |inRegion aX todo=>
     simp only[eZ]at hit
     subst hit
     cases todo with
     |nil=>simp only[dm]at e;cases e;exact Rx hr hlb hf hc henv hir IP
     |cons i ah=>exact Tx hr hlb hf hc henv hir e
    |inRangeFunc l=>simp only[dm]at e;cases e
    |endRangeFunc l=>
     simp only[eZ]at hit
     obtain⟨aL,hm,rfl⟩:=hit
     simp only[dm]at e
     split at e
     ·rename_i r hb
      split at e
      ·cases e
      ·rename_i hnb
       cases e
       obtain⟨r',hw,hl,hwr⟩:=Bk hr hb hm
       obtain⟨h1,x1⟩:=hwr .exhausted r.pending
       have hrun:=run_endLoop (P:=P) hw (by rw[<-hl.1];exact hnb)
       have hpe:r.pending=r'.pending:=hl.2.1
       rw[hpe]at h1 x1
       refine⟨g,_,lb,rf fn tmps ((r'.pending.map Item.code).toList++ir) ds kd ro,cs,Steps.one (step_lone_go ?_),⟨by rw[hpe];exact h1,by simpa using hlb,?_,?_⟩,by rw[hpe];exact x1⟩
       ·simp only[stepG,stepG.exec,Sem.runT_eq,hrun,GStep.bare_after,GStep.bare_go]
       ·have hmono:=x1.mono
        refine⟨hf.fn,hf.kind,hf.oI,hf.defers.mono hmono,hf.mode,hf.round.mono hmono,fun _=>?_,fun h=>absurd rfl h⟩
        refine cZ.plain (todo:=(r.pending.map dI.code).toList++k) (f:=rf fn tmps ((r'.pending.map Item.code).toList++ir) ds kd ro) (aq.mono hmono _ _ henv) ?_ rfl rfl
        rw[hpe]
        cases r'.pending with
        |none=>exact hir.mono hmono
        |some c=>exact⟨_,_,rfl,rfl,hir.mono hmono⟩
       ·rw[hpe];exact hc.mono x1.mono ((Ph.put hm _).lt hlb)
     ·cases e
    |beginRound=>
     simp only[eZ]at hit
     subst hit
     simp only[dm]at e
     have hround:=hf.round
     split at e
     ·rename_i l
      simp only[mW]at hround
      obtain⟨aL,hm,hro⟩:=hround
      have hro:ro=some aL:=hro
      subst hro
      split at e
      ·rename_i r hb
       split at e
       ·rename_i hst
        cases e
        obtain⟨r',hw,hl,hwr⟩:=Bk hr hb hm
        obtain⟨h1,x1⟩:=hwr .busy r.pending
        have hrun:=run_beginRound (P:=P) hw (by rw[<-hl.1];exact hst)
        have hpe:r.pending=r'.pending:=hl.2.1
        have hmono:=x1.mono
        refine⟨g,_,lb,rf fn tmps ir ds kd (some aL),cs,Steps.one (step_lone_go ?_),⟨h1,by simpa using hlb,?_,?_⟩,x1⟩
        ·rw[hpe]
         simp[stepG,stepG.exec,stepG.apply,Sem.runT_eq,Sem.run_bind,hrun,Frame.finish]
        ·exact⟨hf.fn,hf.kind,hf.oI,hf.defers.mono hmono,hf.mode,⟨aL,hm,rfl⟩,fun _=>cZ.plain (f:=rf fn tmps ir ds kd (some aL)) (aq.mono hmono _ _ henv) (hir.mono hmono) rfl rfl,fun h=>absurd rfl h⟩
        ·exact hc.mono x1.mono ((Ph.put hm _).lt hlb)
       ·cases e
      ·cases e
     ·cases e
end
end
section
noncomputable section
structure Eh (w w':World):Prop where
 size:w.heap.size<=w'.heap.size
 heap:∀c,c<w.heap.size->w'.heap[c]?=w.heap[c]?
 os:w'.os=w.os
 output:w'.output=w.output
 tape:w'.tape=w.tape
def Eh.below {w w':World}(h:Eh w w'):_root_.Go.RowKit.Below w.heap.size w w':=⟨h.os,h.tape,h.output,h.size,h.heap⟩
def Eh.refl (w:World):Eh w w:=⟨aho _,fun _ _=>rfl,rfl,rfl,rfl⟩
def LL:List (Nat×aI)->Tr aI->Tr aI
 | [],t=>t
 | (b,o)::r,t=>LL r (Tr.Er (b+1) t b (some o))
section
variable {P:Program} {g g':Gh} {h h':aj} {w w':World} {lb ub:Nat} {f:Frame} {cs c0:List Frame}
def bc.Fs (hr:bc P g h w)(hk:Eh w w'):bc P g h w'/\hJ g h w g h w':=by
 have hm:eC g w g w':=⟨fun _ _ e=>e,fun _ e=>e,fun c hc=>hk.heap c (hr.mE c hc),fun c s hs=>by
  have hlt:c<w.heap.size:=by
   unfold World.shape? at hs
   by_cases hc:c<w.heap.size
   ·exact hc
   ·have:w.heap[c]?=none:=by simp;omega
    rw[this]at hs;cases hs
  rw[fZ (w:=w) (hk.heap c hlt)];exact hs,fun _ _ _ e=>e⟩
 refine⟨hr.nm.M0 (fun l x y e=>ahC (hr.nv l x y e) hk.size) hr.nw ?_ (fun c hc=>ahC (hr.mE c hc) hk.size),
  ⟨hm,hk.size,fun c hc _=>hk.heap c hc,fun _ _ e=>e,fun _ _ h=> .inl h,aho _,hk.os,hk.output,hk.tape⟩⟩
 intro l o aL az h1 m1
 obtain⟨n,o',ho,hr'⟩:=hr.qJ _ _ _ _ h1 m1
 exact⟨n,o',(hk.heap aL (hr.nv _ _ _ m1)).trans ho,hr'.mono hm⟩
def KC {fid:FuncId}{as:List BV}{b:bq}{top:Bool}(e:gq P fid as .normal=some b)(hf:qI P g h w lb ub top b f):∃as':Array Value,aq P g w as as'.toList/\f=Frame.enter P fid as' .normal:=by
 unfold gq at e
 split at e
 ·rename_i fn hfn
  split at e
  ·rename_i c hb
   cases e
   obtain⟨ffn,ftmps,ftodo,fds,fmode,fkind,fro⟩:=f
   have h1:fid=ffn:=hf.fn
   have h2:CallKind.normal=fkind:=hf.kind
   have h3:fmode= .run:=hf.mode
   have h4:fro=none:=hf.round
   have h5:=hf.defers
   simp only[iC]at h5
   have h6:=hf.run rfl
   unfold cZ at h6
   dsimp only at h6
   obtain⟨henv,hit⟩:=h6
   simp only[bS,eZ]at hit
   obtain⟨it,ir,ht,hi,rfl⟩:=hit
   subst h1 h2 h3 h4 h5 hi ht
   have hlen:=henv.length
   simp only[ahc,ah8]at hlen
   refine⟨(ftmps.toList.take as.length).toArray,?_,?_⟩
   ·have:=henv.take as.length
    simpa using this
   ·have htail:ftmps.toList.drop as.length=List.replicate (fn.ntmps-as.length) undef:=by
     have hd:=henv.drop as.length
     rw[List.drop_left]at hd
     apply ajc
     intro i
     rw[aim]
     by_cases hi:i<fn.ntmps-as.length
     ·rw[ag8 hi]
      obtain⟨v,h1,h2⟩:=hd.get (i:=i) (b:=BV.undef) (by rw[aim,ag8 hi])
      rw[h1]
      simp only[BV.undef,ao]at h2
      obtain⟨vs,rfl,h3⟩:=h2
      simp only[aq]at h3
      have:vs=#[]:=by apply aiV;simpa using h3
      rw[this];rfl
     ·rw[ag4 hi]
      have:=hd.length
      simp only[ah8]at this
      rw[ait];omega
    have htm:ftmps=(ftmps.toList.take as.length).toArray++Array.replicate (fn.ntmps-(ftmps.toList.take as.length).toArray.size) undef:=by
     apply aiV
     rw[aiY,ajz]
     have hsz:(ftmps.toList.take as.length).toArray.size=as.length:=by simp;rw[<-aiX];omega
     rw[hsz,<-htail]
     simp
    unfold Frame.enter
    simp only[hfn,ahm,ah4,ais,hb]
    rw[<-htm]
  ·cases e
 ·cases e
def Sc {s:au}(h:s.ended=true):s.cs=[]/\s.fr.mode= .returning/\s.fr.defers=[]:=by
 simp only[au.ended,ag2,aj7]at h
 obtain⟨⟨h1,h2⟩,h3⟩:=h
 refine⟨h1,?_,h3⟩
 cases hmm:s.fr.mode<;>rw[hmm]at h2<;>first|rfl| (cases h2;done)
def Mc {n:Nat}(hn:0<n):∃i w1,i<n/\(choose (.mapNext n)).run P w= .ok i w1/\w1.heap=w.heap/\(w1.os=w.os/\w1.output=w.output/\w1.tape=w.tape):=by
 by_cases h1:n<=1
 ·exact⟨0,w,by omega,by simp[choose,Sem.run,Question.forced,h1],rfl,rfl,rfl,rfl⟩
 ·refine⟨w.tape w.drawn (.mapNext n) % n,{w with drawn:=w.drawn+1},akF _ hn,?_,rfl,rfl,rfl,rfl⟩
  have:Question.forced (.mapNext n)=false:=by simp[Question.forced];omega
  simp[choose,Sem.run,this,Question.cut]
def Lp {ks:List D}{st:List Nat}{k:D}(hl:st.length=ks.length)(hn:ks.Nodup)(hk:k∈ks):∃i:Nat,ks[i]?=some k/\st[i]?=some (D.iJ ks st k):=by
 obtain⟨i,hi⟩:=aid hk
 have hil:i<st.length:=by rw[hl];exact(aha.1 hi).1
 have hs:=ag7 hil
 exact⟨i,hi,by rw[D.xJ hn hi hs];exact hs⟩
def WR (hr:bc P g h w){ty:TypeId}{r m:Nat}{ks:List D}{st:List Nat}{ck:Nat}{seen:List D}{kt:TypeId}{vk:VK}{l:List (D×D)}{st':List Nat}{ck':Nat}{it':Value}
 (hb:h.get r=some (.gV m ks st ck seen))(hb2:h.get m=some (.bg kt vk l st' ck'))(hsame:oK l st' ck' ks st ck=true)(hi:ao P g w (.aP r 0) it'):
 ((∀k∈ks,k∈seen)/\iU P g h w (.tuple [.bool false]) h ((Instr.next it' false ty).run P w))\/
 ∃k,k∈ks/\k∉seen/\(∀p,yT P m kt vk l k=some p->iU P g h w (.tuple [.bool true,p.1,p.2]) (h.put r (some (.gV m ks st ck (k::seen)))) ((Instr.next it' false ty).run P w)):=by
 have hsame:D.ct l=ks/\st'=st/\ck'=ck:=by unfold oK at hsame;simpa using hsame
 obtain⟨hks,rfl,rfl⟩:=hsame
 simp only[ao]at hi;obtain⟨aL,az,hm,rfl⟩:=hi
 obtain⟨o',hw,ho⟩:=hr.afP hb hm
 simp only[cV]at ho
 obtain⟨rfl,blk2,hm2,hseen,rfl⟩:=ho
 obtain⟨_,es,hw2,hrel⟩:=hr.Ji hb2 hm2
 have hsl:st'.length=ks.length:=by rw[<-hks,D.uY,hrel.sl]
 have hnd:ks.Nodup:=by rw[<-hks];exact hrel.nd
 have hget:(getObj aL).run P w= .ok (.mapIter (some blk2) ck' (seen.reverse.map (D.iJ ks st')).toArray ck') w:=by simp[getObj,Sem.run,hw]
 have hget2:=jq (P:=P) hw2
 have hent:∀d,d∈es->∃(i:Nat) (p:D×D),l[i]?=some p/\es.toList[i]?=some d/\d.born=D.iJ ks st' p.1/\st'[i]?=some d.born:=fun d hd=>by
  obtain⟨i,hi⟩:=aid (show d∈es.toList by simpa using hd)
  have hil:i<l.length:=by have:=(aha.1 hi).1;rw[hrel.len]at this;exact this
  have hp:=ag7 hil
  have hs:=ag7 (show i<st'.length by rw[hrel.sl];exact hil)
  have hbn:=hrel.born i _ d hs hi
  have:=D.xJ (st:=st') hrel.nd (D.j8 hp) hs
  rw[hks]at this
  exact⟨i,_,hp,hi,by rw[this,hbn],by rw[hbn];exact hs⟩
 have hsb:∀k,k∈ks->((seen.reverse.map (D.iJ ks st')).contains (D.iJ ks st' k)=true↔k∈seen):=by
  intro k hk
  simp only[ajF,ahp,List.mem_reverse]
  constructor
  ·rintro⟨j,hj,he⟩
   obtain⟨i1,a1,a2⟩:=Lp hsl hnd (hseen j hj)
   obtain⟨i2,b1,b2⟩:=Lp hsl hnd hk
   rw[he]at a2
   have:i1=i2:=(aje (aha.1 a2).1 hrel.snd).1 (a2.trans b2.symm)
   subst this
   rw[a1]at b1;cases b1;exact hj
  ·intro hk';exact⟨k,hk',rfl⟩
 have hkm:∀(i:Nat) p,l[i]?=some p->p.1∈ks:=fun i p hp=>by rw[<-hks];exact agY (D.j8 hp)
 have hcond:(!(seen.reverse.map (D.iJ ks st')).toArray.isEmpty&&!es.isEmpty&&es.all (fun e=>decide (e.born≥ck')))=false:=by
  by_cases h0:es.isEmpty=true
  ·simp[h0]
  ·have hall:es.all (fun e=>decide (e.born≥ck'))=false:=by
    rw[aj2]
    intro hc
    rw[aiR]at hc
    have hpos:0<es.size:=by
     rcases ajw es.size with h|h
     ·exact absurd (by rw[ai0];exact h) h0
     ·exact h
    have h1:=hc es[0] (Array.getElem_mem hpos)
    obtain⟨i,p,_,_,_,h4⟩:=hent es[0] (Array.getElem_mem hpos)
    have h2:=hrel.FJ _ (agY h4)
    simp at h1
    omega
   simp[hall]
 generalize hO':((es.filter fun e=>!(seen.reverse.map (D.iJ ks st')).toArray.contains e.born).filter fun e=>decide (e.born<ck'))=O'
 generalize hN':((es.filter fun e=>!(seen.reverse.map (D.iJ ks st')).toArray.contains e.born).filter fun e=>decide (e.born≥ck'))=N'
 have hN0:N'=#[]:=by
  rw[<-hN',Array.filter_eq_empty_iff]
  intro x hx
  have hx1:x∈es:=(ajl.1 hx).1
  obtain⟨i,p,_,_,_,h4⟩:=hent x hx1
  have:=hrel.FJ _ (agY h4)
  simp
  omega
 subst hN0
 have hOm:∀d,d∈O'->∃(i:Nat) (p:D×D),l[i]?=some p/\es.toList[i]?=some d/\d.born=D.iJ ks st' p.1/\p.1∉seen:=by
  intro d hd
  rw[<-hO']at hd
  have hd1:=(ajl.1 hd).1
  have hd2:=ajl.1 hd1
  obtain⟨i,p,k1,k2,k3,_⟩:=hent d hd2.1
  refine⟨i,p,k1,k2,k3,fun hk=>?_⟩
  have h5:=hd2.2
  have h6:=(hsb p.1 (hkm i p k1)).2 hk
  rw[k3]at h5
  simp only[akh,h6]at h5
  cases h5
 have hOe:O'.isEmpty=true->∀k∈ks,k∈seen:=by
  intro h0 k hk
  obtain⟨i,hi⟩:=aid hk
  rw[<-hks]at hi
  obtain⟨p,hp,hpk⟩:=D.MN hi
  have hil:=(aha.1 hp).1
  obtain⟨d,hd⟩:∃d,es.toList[i]?=some d:=⟨_,ag7 (show i<es.toList.length by rw[hrel.len];exact hil)⟩
  have hdm:d∈es:=by simpa using agY hd
  have hs:=ag7 (show i<st'.length by rw[hrel.sl];exact hil)
  have hbn:=hrel.born i _ d hs hd
  have hst:=D.xJ (st:=st') hrel.nd (D.j8 hp) hs
  rw[hks,hpk]at hst
  apply ahK
  intro hns
  have hdO:d∈O':=by
   rw[<-hO',ajl,ajl]
   refine⟨⟨hdm,?_⟩,?_⟩
   ·rw[hbn,<-hst]
    have:=fun h=>hns ((hsb k hk).1 h)
    simp only[akh]
    cases hc:(seen.reverse.map (D.iJ ks st')).contains (D.iJ ks st' k)with
    |true=>exact absurd hc this
    |false=>rfl
   ·have:=hrel.FJ _ (agY hs)
    rw[hbn];simpa using this
  have hO0:O'=#[]:=ajG (by rw[ai0]at h0;exact h0)
  rw[hO0]at hdO
  simp at hdO
 let C:Array (Option MapEntry):=(if O'.isEmpty then #[none]else #[])++(O'++#[]).map some
 have hpos:0<C.size:=by
  by_cases h0:O'.isEmpty=true
  ·simp only[C,h0,ahz,Array.size_append]
   exact ahC (by decide:0<1) (Nat.le_add_right 1 _)
  ·have:O'.size≠0:=fun h=>h0 (by rw[ai0];exact h)
   simp[C,h0];omega
 obtain⟨i,w1,hi,hrun,hheap,hos⟩:=Mc (P:=P) (w:=w) hpos
 obtain⟨hr1,x1⟩:=hr.same hheap hos
 have hCi:C[i]?=some C[i]:=ahF hi
 cases hcc:C[i]with
 |none=>
  have h0:O'.isEmpty=true:=by
   by_cases h0:O'.isEmpty=true
   ·exact h0
   ·exfalso
    have hmm:none∈C:=Array.mem_of_getElem? (by rw[hCi,hcc])
    simp only[C,h0,ahN,agZ]at hmm
    simp at hmm
  rw[hcc]at hCi
  left
  refine⟨hOe h0,.tuple #[.bool false],g,w1,?_,hr1,x1,Ph.refl _ _,by simp only[ao];exact⟨_,rfl,aq.cons (by simp[ao]) aq.nil⟩⟩
  simp only[Instr.next,air,Sem.run_bind,hget,hget2,Result.andThen_ok,hcond,agZ,ahN,hO',hN']
  rw[show (if O'.isEmpty=true then #[none]else #[])++Array.map some (O'++#[])=C from rfl,hrun]
  simp only[Result.andThen_ok,hCi,Sem.run_pure]
 |some d=>
  rw[hcc]at hCi
  have hdO:d∈O':=by
   have hmm:some d∈C:=by rw[Array.mem_iff_getElem?];exact⟨i,hCi⟩
   simp only[C]at hmm
   rw[Array.mem_append]at hmm
   rcases hmm with hmm|hmm
   ·split at hmm<;>simp at hmm
   ·simpa using hmm
  obtain⟨j,p,hj,hd,hbn,hns⟩:=hOm d hdO
  right
  refine⟨p.1,hkm j p hj,hns,fun q hq=>?_⟩
  have hw1:w1.heap[aL]?=some (.mapIter (some blk2) ck' (seen.reverse.map (D.iJ ks st')).toArray ck'):=by rw[hheap];exact hw
  have hput:=hr1.Ly (o':= .gV m ks st' ck' (p.1::seen)) (co':= .mapIter (some blk2) ck' ((seen.reverse.map (D.iJ ks st')).toArray.push d.born) ck') hb hm hw1 (w':=w1.dL aL (.mapIter (some blk2) ck' ((seen.reverse.map (D.iJ ks st')).toArray.push d.born) ck')) rfl ⟨rfl,rfl,rfl⟩
   (fun s hs=>by simp[World.shape?,hw1]at hs) (fun hmono=>by
     simp only[cV]
     refine⟨trivial,blk2,hmono.mm _ _ hm2,fun k hk=>?_,by simp[hbn]⟩
     rcases ag9.1 hk with hk|hk
     ·subst hk;exact hkm j p hj
     ·exact hseen k hk)
  have hx:=x1.trans hput.2
  refine⟨.tuple #[.bool true,d.key,d.val],g,w1.dL aL (.mapIter (some blk2) ck' ((seen.reverse.map (D.iJ ks st')).toArray.push d.born) ck'),?_,hput.1,hx,Ph.put hm _,?_⟩
  ·simp only[Instr.next,air,Sem.run_bind,hget,hget2,Result.andThen_ok,hcond,agZ,ahN,hO',hN']
   rw[show (if O'.isEmpty=true then #[none]else #[])++Array.map some (O'++#[])=C from rfl,hrun]
   simp only[Result.andThen_ok,hCi]
   simp[setObj,Sem.run,hw1,World.dL]
  ·have hkr:=hrel.key j p d hj hd
   have hvr:=hrel.val j p d hj hd
   have hv:D.val l p.1=p.2:=by unfold D.val;rw[D.JU hrel.nd (show l[j]?=some (p.1,p.2)from hj)];rfl
   unfold yT at hq
   split at hq
   ·have hk2:=ao.mono hx.mono _ _ hkr
    have hv2:=hvr.mono hx.mono
    unfold y5 at hv2
    simp only[ao]
    cases vk with
    |data et=>
     dsimp only at hq hv2
     split at hq
     ·cases hq
      exact⟨_,rfl,aq.cons (by simp[ao]) (aq.cons hk2 (aq.cons (by rw[hv];exact hv2) aq.nil))⟩
     ·cases hq
    |IZ=>cases hq
    |bY f et=>
     dsimp only at hq hv2
     cases hq
     obtain⟨x,x1',x2⟩:=hv2
     refine⟨_,rfl,aq.cons (by simp[ao]) (aq.cons hk2 (aq.cons ?_ aq.nil))⟩
     simp only[ao]
     exact⟨x.1,x.2,x1',x2,_,hx.mono.mm _ _ hm2⟩
   ·cases hq
end
end
end
section
noncomputable section
inductive T (α:Type) where
 |ret (a:α)
 |bG
 |ite (c:Bool) (t e:T α)
 |same (u v:BV) (t:T α)
def T.bind {α β:Type}:T α->(α->T β)->T β
 | .ret a,k=>k a
 | .bG,_=> .bG
 | .ite c t e,k=> .ite c (T.bind t k) (T.bind e k)
 | .same u v t,k=> .same u v (T.bind t k)
def T.of {α:Type}:Option α->T α
 |some a=> .ret a
 |none=> .bG
inductive T.dy {α:Type}(a:α):T α->Prop where
 |ret:T.dy a (.ret a)
 |tt {c:Bool} {t e:T α} (h:c=true) (k:T.dy a t):T.dy a (.ite c t e)
 |ff {c:Bool} {t e:T α} (h:c=false) (k:T.dy a e):T.dy a (.ite c t e)
 |same {u v:BV} {t:T α} (h:u=v) (k:T.dy a t):T.dy a (.same u v t)
section
variable {α β:Type}
def T.bm {a b:α}(h:T.dy a (.ret b)):b=a:=by cases h;rfl
def T.aR {a:α}(h:T.dy a .bG):False:=by cases h
def T.gw {a:α}{o:Option α}(h:T.dy a (T.of o)):o=some a:=by
 cases o with
 |none=>cases h
 |some b=>cases h;rfl
def T.bI {b:β}{k:α->T β}:∀{t:T α},T.dy b (T.bind t k)->∃a,T.dy a t/\T.dy b (k a):=by
 intro t
 induction t with
 |ret a=>intro h;exact⟨a,.ret,h⟩
 |bG=>intro h;cases h
 |ite c t e iht ihe=>
  intro h
  cases h with
  |tt hc h=>obtain⟨a,h1,h2⟩:=iht h;exact⟨a,.tt hc h1,h2⟩
  |ff hc h=>obtain⟨a,h1,h2⟩:=ihe h;exact⟨a,.ff hc h1,h2⟩
 |same u v t ih=>
  intro h
  cases h with
  |same he h=>obtain⟨a,h1,h2⟩:=ih h;exact⟨a,.same he h1,h2⟩
def T.fD {a:α}{c:Bool}{t:T α}(h:T.dy a (.ite c t .bG)):c=true/\T.dy a t:=by
 cases h with
 |tt hc h=>exact⟨hc,h⟩
 |ff hc h=>cases h
end
def cP (i:Int)(n:Nat):Bool:=decide (0<=i)&&decide (i.toNat<n)
def ve (v:BV)(h:aj):T (bA×aj):= .ret (.value v,h)
def Fq (P:Program)(h:aj)(t:TypeId)(x ix:BV):T (bA×aj):=
 match P.underlying t,ix with
 |some (.slice e),.int _ i=>
  (match x with
  | .bw e' l=>if Nat.beq e e'&&cQ P e then .ite (cP i l.length) (ve (.wq (aK P e (D.at l i.toNat))) h) .bG else .bG
  | .Fi e' l=>if Nat.beq e e'&&cQ P e then .ite (cP i l.length) (ve (.wq (aK P e (D.at l i.toNat))) h) .bG else .bG
  | .aZ b n _=>if cQ P e then .ite (cP i n) (ve (.vO b e i.toNat 0) h) .bG else .bG
  |x=>T.of ((kZ P t x ix).map fun v=>(.value v,h)))
 |_,_=>T.of ((kZ P t x ix).map fun v=>(.value v,h))
def Uz (P:Program)(t:TypeId)(cs:List BV)(off:Nat):Option BV:=
 match il P t,kb P t with
 |some ag,some n=>if ag then (fF cs off n).map .agg else cs[off]?
 |_,_=>none
def abi {α:Type}(P:Program)(h:aj)(b f:Nat)(k:D)(K:TypeId->List (D×D)->TypeId->List Nat->Nat->T α):T α:=
 match h.get b with
 |some (.bg kt (.bY f' e) l st c)=>if Nat.beq f f'&&cQ P e then .ite (D.cS l k) (K e l kt st c) .bG else .bG
 |_=> .bG
def N5 (P:Program)(h:aj)(t:TypeId)(b f:Nat)(k:D)(off:Nat):T (bA×aj):=
 abi P h b f k fun e l _ _ _=>T.of ((Uz P t (aK P e (D.val l k)) off).map fun v=>(.value v,h))
def Yz (P:Program)(h:aj)(t:TypeId)(a:BV):T (bA×aj):=
 match a with
 | .vO b e i off=>
   (match h.get b with
   |some (.ak e' l _)=>if Nat.beq e e'&&cQ P e then .ite (decide (i<l.length)) (T.of ((Uz P t (aK P e (D.at l i)) off).map fun v=>(.value v,h))) .bG else .bG
   |_=> .bG)
 | .oQ b f k off=>N5 P h t b f k off
 | .aP b off=>
   (match h.get b with
   |some (.qQ b' f k)=>N5 P h t b' f k off
   |_=>T.of ((xy P h t (.aP b off)).map fun v=>(.value v,h)))
 |a=>T.of ((xy P h t a).map fun v=>(.value v,h))
def J1 (P:Program)(h:aj)(n:Nat)(b f:Nat)(k:D)(off:Nat)(v:BV):T (bA×aj):=
 if decide (v.cells.length=n)&&v.cells.all BV.one then
  abi P h b f k fun e l kt st c=>(match putCells (aK P e (D.val l k)) off v.cells with
   |some cs=>(match Rg P e cs with
    |some d=> .ret (.skip,h.put b (some (.bg kt (.bY f e) (D.fE l k d) st c)))
    |none=> .bG)
   |none=> .bG)
 else .bG
def TD (P:Program)(h:aj)(t:TypeId)(a v:BV):T (bA×aj):=
 match a,kb P t with
 | .vO b e i off,some n=>
   (match h.get b with
   |some (.ak e' l vt)=>
    if decide (v.cells.length=n)&&v.cells.all BV.one&&(Nat.beq e e'&&cQ P e)then
     (match putCells (aK P e (D.at l i)) off v.cells with
     |some cs=>(match Rg P e cs with
      |some d=> .ite (decide (i<l.length)) (.ret (.skip,h.put b (some (.ak e (l.set i d) vt)))) .bG
      |none=> .bG)
     |none=> .bG)
    else .bG
   |_=> .bG)
 | .oQ b f k off,some n=>J1 P h n b f k off v
 | .aP b off,some n=>
   (match h.get b with
   |some (.qQ b' f k)=>J1 P h n b' f k off v
   |_=>T.of ((Bx P h t (.aP b off) v).map fun h=>(.skip,h)))
 |a,_=>T.of ((Bx P h t a v).map fun h=>(.skip,h))
def eqK (a b:D):Bool:=match a,b with| .z x,.z y=>x==y|a,b=>D.A5 b a
def abu:List (D×D)->D->Bool
 | [],_=>false
 |p::q,k=>match eqK k p.1 with|true=>true|false=>abu q k
def abj (d:D)(K:BV->T (bA×aj))(N:T (bA×aj)):List (D×D)->T (bA×aj)
 | []=>N
 |p::q=> .ite (eqK d p.1) (K (.func (.func p.2.int.toNat) [] [])) (abj d K N q)
def N6 (P:Program)(h:aj)(t:TypeId)(x k:BV)(ok:Bool):T (bA×aj):=
 match P.underlying t,(match x with| .map r=>(match h.get r with|some (.bg kt' vk l _ _)=>some (r,kt',vk,l)|_=>none)|_=>none:Option (Nat×TypeId×VK×List (D×D)))with
 |some (.map kt et),some (r,kt',vk,l)=>
  if !Ac P 4 kt k then .bG else
  (match PD P kt k with
  |some d=>
   if Nat.beq kt kt' then
    (match vk with
    | .data et'=>if cQ P et&&Nat.beq et et' then
       .ite (D.cS l d) (ve (if ok then .tuple [cj P et (D.val l d),.bool true]else cj P et (D.val l d)) h)
        (T.of ((oL P et).map fun z=>(.value (if ok then .tuple [z,.bool false]else z),h)))
       else .bG
    | .bY f _=>
       .ite (D.cS l d) (ve (if ok then .tuple [.oQ r f d 0,.bool true]else .oQ r f d 0) h)
        (T.of ((oL P et).map fun z=>(.value (if ok then .tuple [z,.bool false]else z),h)))
    | .IZ=>abj d (fun v=>ve (if ok then .tuple [v,.bool true]else v) h) (T.of ((oL P et).map fun z=>(.value (if ok then .tuple [z,.bool false]else z),h))) l)
   else .bG
  |none=> .bG)
 |_,_=> .bG
def UP (P:Program)(h:aj)(r:Nat)(kt:TypeId)(f:Nat)(e:TypeId)(l:List (D×D))(st:List Nat)(clock:Nat)(k:D)(v:BV):Option aj:=
 match cQ P e,v with
 |true,.aP c off=>
  (match h.get c with
  |some (.cells cs e' false)=>
   (match Nat.beq e e'&&Nat.beq off 0,Rg P e cs with
   |true,some d=>some ((h.put c (some (.qQ r f k))).put r (some (.bg kt (.bY f e) (l++[(k,d)]) (st++[clock]) (clock+1))))
   |_,_=>none)
  |_=>none)
 |_,_=>none
def Z2 {P:Program}{h h':aj}{r:Nat}{kt:TypeId}{f:Nat}{e:TypeId}{l:List (D×D)}{st:List Nat}{clock:Nat}{k:D}{v:BV}(hk:D.cS l k=false)(x:UP P h r kt f e l st clock k v=some h'):Jj P h r kt (.bY f e) l st clock k v=some h':=by
 unfold UP at x
 split at x
 ·rename_i c off hdt
  split at x
  ·rename_i cs e' hc
   split at x
   ·rename_i d hb hd
    simp only[Jj,hdt,ahz,hc,hb,hd,hk,agZ,ahN]
    exact x
   ·cases x
  ·cases x
 ·cases x
def Bl (P:Program)(h:aj)(t:TypeId)(m k v:BV):T (bA×aj):=
 match P.underlying t,m with
 |some (.map kt _),.map r=>
  (match h.get r with
  |some (.bg kt' vk l st clock)=>
   if !Ac P 4 kt k then .bG else
   (match PD P kt k with
   |some d=>if Nat.beq kt kt' then
     (match vk with
     | .data et=>if cQ P et then
        (match unV P et v with
        |some dv=> .ite (D.cS l d) (.ret (.skip,h.put r (some (.bg kt vk (D.fE l d dv) st clock)))) (.ret (.skip,h.put r (some (.bg kt vk (l++[(d,dv)]) (st++[clock]) (clock+1)))))
        |none=> .bG)else .bG
     | .bY f e=> .ite (D.cS l d) .bG (T.of ((UP P h r kt f e l st clock d v).map fun h=>(.skip,h)))
     | .IZ=>(match abu l d,v with|false,.func (.func f) [] []=> .ret (.skip,h.put r (some (.bg kt .IZ (l++[(d,.z (Int.ofNat f))]) (st++[clock]) (clock+1))))|_,_=> .bG))
     else .bG
   |none=> .bG)
  |_=>T.of ((jD P h t m k v).map fun h=>(.skip,h)))
 |_,_=>T.of ((jD P h t m k v).map fun h=>(.skip,h))
def Sd (P:Program)(h:aj)(it:BV):T (bA×aj):=
 match it with
 | .aP r 0=>
   (match h.get r with
   |some (.gV m ks st clock seen)=>
    (match seen.head?,h.get m with
    |some k,some (.bg kt vk l st' clock')=> .ite (oK l st' clock' ks st clock) (T.of ((yT P m kt vk l k).map fun p=>(.value (.tuple [p.1,p.2]),h))) .bG
    |_,_=> .bG)
   |_=>T.of ((zg P h (.aP r 0)).map fun v=>(.value v,h)))
 |it=>T.of ((zg P h it).map fun v=>(.value v,h))
def Sp (P:Program)(h:aj)(t:TypeId)(x ix:BV):T (bA×aj):=
 match P.underlying t,x,ix with
 |some .string,.b8 s,.int _ i=> .ite (cP i s.length) (ve (.int .u8 (s.getD i.toNat 0).toNat) h) .bG
 |_,_,_=>T.of ((Ih P t x ix).map fun v=>(.value v,h))
def sD:Option BV->T (Option Nat)
 |none=> .ret none
 |some (.int _ i)=> .ite (decide (0<=i)) (.ret (some i.toNat)) .bG
 |_=> .bG
def Tz (P:Program)(h:aj)(t:TypeId)(x:BV)(lo hi mx:Option BV):T (bA×aj):=
 match P.underlying t,x with
 |some .string,.b8 s=>(sD lo).bind fun lo=>(sD hi).bind fun hi=>
   match mx with
   |none=> .ite (decide (lo.getD 0<=hi.getD s.length)&&decide (hi.getD s.length<=s.length)) (ve (.b8 ((s.take (hi.getD s.length)).drop (lo.getD 0))) h) .bG
   |some _=> .bG
 |some (.slice e),.bw e' l=>
  if Nat.beq e e'&&cQ P e then (sD lo).bind fun lo=>(sD hi).bind fun hi=>(sD mx).bind fun mx=>
   match mx with
   |none=> .ite (decide (lo.getD 0<=hi.getD l.length)&&decide (hi.getD l.length<=l.length)) (ve (.bw e (kg l (lo.getD 0) (hi.getD l.length))) h) .bG
   |some m=> .ite (Nat.beq m (hi.getD l.length)&&hi.isSome&&decide (lo.getD 0<=hi.getD l.length)&&decide (hi.getD l.length<=l.length)) (ve (.Fi e (kg l (lo.getD 0) (hi.getD l.length))) h) .bG
  else .bG
 |some (.slice e),.Fi e' l=>
  if Nat.beq e e'&&cQ P e then (sD lo).bind fun lo=>(sD hi).bind fun hi=>(sD mx).bind fun mx=>
   match mx with
   |none=> .ite (decide (lo.getD 0<=hi.getD l.length)&&decide (hi.getD l.length<=l.length)) (ve (.bw e (kg l (lo.getD 0) (hi.getD l.length))) h) .bG
   |some m=> .ite (Nat.beq m (hi.getD l.length)&&hi.isSome&&decide (lo.getD 0<=hi.getD l.length)&&decide (hi.getD l.length<=l.length)) (ve (.Fi e (kg l (lo.getD 0) (hi.getD l.length))) h) .bG
  else .bG
 |some (.slice e),.aZ b n vt=>
  if cQ P e then (sD lo).bind fun lo=>(sD hi).bind fun hi=>(sD mx).bind fun mx=>
   .ite (Nat.beq (lo.getD 0) 0&&Nat.beq (hi.getD 1) 0&&Nat.beq (mx.getD 1) 0) (ve (.Fi e []) h) (.ite (Nat.beq (lo.getD 0) 0&&(hi.isSome&&mx.isSome)&&Nat.beq (hi.getD 0) n&&Nat.beq (mx.getD 0) n) (ve (.aZ b n vt) h) .bG)
  else .bG
 |_,_=>T.of ((sliceB P t x lo hi mx).map fun v=>(.value v,h))
def rZ (l c bytes:Int):Bool:=decide (0<=l)&&decide (l<=c)&&decide (c<2^40)&&decide (bytes*c<=2^47)
def YA (P:Program)(h:aj)(t:TypeId)(len cap:BV):T (bA×aj):=
 match P.underlying t,len,cap with
 |some (.slice e),.int _ l,.int _ c=>
  (match P.info? e,oL P e with
  |some i,some z=>
   if cQ P e&&z.cells.all BV.one then
    (match Rg P e z.cells with
    |some d=> .ite (rZ l c i.bytes) (.ret (.value (.aZ h.next l.toNat false),h.new (.ak e (List.replicate l.toNat d) false))) .bG
    |none=> .bG)
   else .bG
  |_,_=> .bG)
 |_,_,_=> .bG
def ads (P:Program)(h:aj)(op:BinOp)(t:TypeId)(x y:BV):T (bA×aj):=
 match op,x,y with
 | .add,.b8 a,.b8 b=> .ite (decide (a.length+b.length<2^62)) (ve (.b8 (a++b)) h) .bG
 | .shl,.int k a,.int _ b=> .ite (decide (0<=b)) (ve (.int k (k.wrap (a*2^(min b.toNat k.bits)))) h) .bG
 | .shr,.int k a,.int _ b=> .ite (decide (0<=b)) (ve (.int k (a.fdiv (2^(min b.toNat k.bits)))) h) .bG
 | .quo,.int k a,.int k' b=>if k≠k' then .bG else .ite (decide (b≠0)) (ve (.int k (k.wrap (a.tdiv b))) h) .bG
 | .rem,.int k a,.int k' b=>if k≠k' then .bG else .ite (decide (b≠0)) (ve (.int k (a.tmod b)) h) .bG
 | .eql,.bw _ l,.cX=>(match P.underlying t with|some (.slice _)=> .ite l.isEmpty .bG (ve (.bool false) h)|_=> .bG)
 | .neq,.bw _ l,.cX=>(match P.underlying t with|some (.slice _)=> .ite l.isEmpty .bG (ve (.bool true) h)|_=> .bG)
 | .eql,.aZ _ n _,.cX=>(match P.underlying t with|some (.slice _)=> .ite (decide (n=0)) .bG (ve (.bool false) h)|_=> .bG)
 | .neq,.aZ _ n _,.cX=>(match P.underlying t with|some (.slice _)=> .ite (decide (n=0)) .bG (ve (.bool true) h)|_=> .bG)
 |op,x,y=>T.of ((AR P op t x y).map fun v=>(.value v,h))
def aeA (h:aj)(e:TypeId)(x:BV):T (List D):=
 match x with
 | .aZ b n _=>(match h.get b with|some (.ak e' l _)=>if Nat.beq e e' then .ite (decide (n<=l.length)) (.ret (l.take n)) .bG else .bG|_=> .bG)
 |x=>T.of (TC h e x)
def Kj (h:aj)(e:TypeId)(bytes:Nat)(s:BV)(xs:List D):T (bA×aj):=
 match s with
 | .aZ b n vt=>
   (match h.get b with
   |some (.ak e' l vt')=>if Nat.beq e e'&&(vt==vt')then .ite (decide (n=l.length)&&aO bytes (n+xs.length)) (.ret (.value (.aZ h.next (n+xs.length) vt),(h.put b none).new (.ak e (l++xs) vt))) .bG else .bG
   |_=> .bG)
 | .cX=> .ite (aO bytes xs.length) (.ret (.value (.aZ h.next xs.length true),h.new (.ak e xs true))) .bG
 | .Fi e' l=>if Nat.beq e e' then .ite ((decide (0<xs.length)||decide (l.length=0))&&aO bytes (l.length+xs.length)) (.ret (.value (.aZ h.next (l.length+xs.length) true),h.new (.ak e (l++xs) true))) .bG else .bG
 |_=> .bG
def NC (P:Program)(h:aj)(argTypes:Array TypeId)(args:List BV):T (bA×aj):=
 match argTypes[0]?,argTypes[1]?,args with
 |some st,some xt0,[s,x]=>
  (match P.underlying st,P.underlying xt0 with
  |some (.slice e),some xt=>
   (match P.info? e with
   |some i=>
    if cQ P e&&!(abw xt)&&!(i.bytes==0||!OT P e i.size)then (aeA h e x).bind fun xs=>Kj h e i.bytes s xs else .bG
   |none=> .bG)
  |_,_=> .bG)
 |_,_,_=> .bG
def opT (P:Program)(h:aj)(ρ:Operand->BV)(o:Oper):T (bA×aj):=
 match o.op with
 | .pick c a b=>(match ρ c with| .bool x=> .ite x (ve (ρ a) h) (ve (ρ b) h)|_=> .bG)
 | .indexAddr t x ix=>Fq P h t (ρ x) (ρ ix)
 | .load t a=>Yz P h t (ρ a)
 | .store t a x=>TD P h t (ρ a) (ρ x)
 | .index t x ix=>Sp P h t (ρ x) (ρ ix)
 | .slice t x lo hi mx=>Tz P h t (ρ x) (lo.map ρ) (hi.map ρ) (mx.map ρ)
 | .makeSlice t l c=>YA P h t (ρ l) (ρ c)
 | .lookup t x ix ok=>N6 P h t (ρ x) (ρ ix) ok
 | .mapUpdate t m k x=>Bl P h t (ρ m) (ρ k) (ρ x)
 | .insert t m k x=>Bl P h t (ρ m) (ρ k) (ρ x)
 | .entry it=>Sd P h (ρ it)
 | .binOp op t x y _=>if Gy P op t x y (ρ x) (ρ y)then ads P h op t (ρ x) (ρ y)else .bG
 | .call c=>(match c.callee with| .builtin .append=>NC P h c.argTypes (c.args.toList.map ρ)|_=>T.of (Fw P h ρ o))
 |_=>T.of (Fw P h ρ o)
section
variable {P:Program} {h:aj}
def GL {i:Int}{n:Nat}(e:cP i n=true):¬i<0/\i.toNat<n:=by
 unfold cP at e
 simp only[ag2,agW]at e
 omega
def dO {v:BV}{r:bA×aj}(e:T.dy r (ve v h)):r=(.value v,h):=(T.bm e).symm
def KK {t:TypeId}{x ix:BV}{r:bA×aj}(e:T.dy r (Fq P h t x ix)):(kZ P t x ix).map (fun v=>((bA.value v,h):bA×aj))=some r:=by
 unfold Fq at e
 split at e
 ·rename_i el k i hu
  have hs:cQ P el=true->∃n,kb P el=some n:=fun hd=>⟨_,(ft hd).2.1⟩
  split at e
  ·rename_i e' l
   split at e
   ·rename_i hc
    obtain⟨h1,h2⟩:=T.fD e
    obtain⟨h3,h4⟩:=GL h1
    rw[dO h2]
    obtain⟨n,hn⟩:=hs (by simp only[ag2]at hc;exact hc.2)
    simp only[kZ,hu,hn,ag4 h3,hc,ahz,ag8 h4,ahm]
   ·exact(T.aR e).elim
  ·rename_i e' l
   split at e
   ·rename_i hc
    obtain⟨h1,h2⟩:=T.fD e
    obtain⟨h3,h4⟩:=GL h1
    rw[dO h2]
    obtain⟨n,hn⟩:=hs (by simp only[ag2]at hc;exact hc.2)
    simp only[kZ,hu,hn,ag4 h3,hc,ahz,ag8 h4,ahm]
   ·exact(T.aR e).elim
  ·rename_i b n vt
   split at e
   ·rename_i hc
    obtain⟨h1,h2⟩:=T.fD e
    obtain⟨h3,h4⟩:=GL h1
    rw[dO h2]
    obtain⟨m,hn⟩:=hs hc
    simp only[kZ,hu,hn,ag4 h3,hc,ahz,ag8 h4,ahm]
   ·exact(T.aR e).elim
  ·exact T.gw e
 ·exact T.gw e
def Pv {α:Type}{b f:Nat}{k:D}{K:TypeId->List (D×D)->TypeId->List Nat->Nat->T α}{r:α}(e:T.dy r (abi P h b f k K)):∃el l kt st c,Ia P h b f k=some (el,l,kt,st,c)/\T.dy r (K el l kt st c):=by
 unfold abi at e
 split at e
 ·rename_i kt f' el l st c hb
  split at e
  ·rename_i hc
   obtain⟨h1,h2⟩:=T.fD e
   refine⟨el,l,kt,st,c,?_,h2⟩
   simp only[Ia,hb,hc,h1,aib,ahz]
  ·exact(T.aR e).elim
 ·exact(T.aR e).elim
def KO {t:TypeId}{b f:Nat}{k:D}{off:Nat}{r:bA×aj}(e:T.dy r (N5 P h t b f k off)):∃ag n,il P t=some ag/\kb P t=some n/\(GN P h ag n b f k off).map (fun v=>((bA.value v,h):bA×aj))=some r:=by
 unfold N5 at e
 obtain⟨el,l,kt,st,c,hf,e⟩:=Pv e
 have h3:=T.gw e
 unfold Uz at h3
 split at h3
 ·rename_i ag n hag hn
  refine⟨ag,n,hag,hn,?_⟩
  rw[<-h3]
  simp only[GN,hf]
 ·cases h3
def Vy {t:TypeId}{a:BV}{r:bA×aj}(e:T.dy r (Yz P h t a)):(xy P h t a).map (fun v=>((bA.value v,h):bA×aj))=some r:=by
 unfold Yz at e
 split at e
 ·rename_i b el i off
  split at e
  ·rename_i e' l vt hb
   split at e
   ·rename_i hc
    obtain⟨h1,h2⟩:=T.fD e
    have h1:i<l.length:=by simpa using h1
    have h3:=T.gw h2
    unfold Uz at h3
    split at h3
    ·rename_i ag n hag hn
     rw[<-h3]
     simp only[xy,hag,hn,hb,hc,ahz,ag8 h1]
    ·cases h3
   ·exact(T.aR e).elim
  ·exact(T.aR e).elim
 ·rename_i b f k off
  obtain⟨ag,n,hag,hn,e⟩:=KO e
  rw[<-e];simp only[xy,hag,hn]
 ·rename_i b off
  split at e
  ·rename_i b' f k hb
   obtain⟨ag,n,hag,hn,e⟩:=KO e
   rw[<-e];simp only[xy,hag,hn,hb]
  ·exact T.gw e
 ·exact T.gw e
def Jk {n:Nat}{b f:Nat}{k:D}{off:Nat}{v:BV}{r:bA×aj}(e:T.dy r (J1 P h n b f k off v)):(IC P h n b f k off v).map (fun h=>((bA.skip,h):bA×aj))=some r:=by
 unfold J1 at e
 split at e
 ·rename_i hc
  obtain⟨el,l,kt,st,c,hf,e⟩:=Pv e
  split at e
  ·rename_i cs hp
   split at e
   ·rename_i d hu
    rw[<-T.bm e]
    simp only[IC,hc,hf,hp,hu,ahz,ahm]
   ·exact(T.aR e).elim
  ·exact(T.aR e).elim
 ·exact(T.aR e).elim
def TE {t:TypeId}{a v:BV}{r:bA×aj}(e:T.dy r (TD P h t a v)):(Bx P h t a v).map (fun h=>((bA.skip,h):bA×aj))=some r:=by
 unfold TD at e
 split at e
 ·rename_i b el i off n hn
  split at e
  ·rename_i e' l vt hb
   split at e
   ·rename_i hc
    split at e
    ·rename_i cs hp
     split at e
     ·rename_i d hu
      obtain⟨h1,h2⟩:=T.fD e
      have h1:i<l.length:=by simpa using h1
      rw[<-T.bm h2]
      simp only[Bx,hn,hb,hc,ahz,hp,hu,ag8 h1,ahm]
     ·exact(T.aR e).elim
    ·exact(T.aR e).elim
   ·exact(T.aR e).elim
  ·exact(T.aR e).elim
 ·rename_i b f k off n hn
  have:=Jk e
  simp only[Bx,hn];exact this
 ·rename_i b off n hn
  split at e
  ·rename_i b' f k hb
   have:=Jk e
   simp only[Bx,hn,hb];exact this
  ·exact T.gw e
 ·exact T.gw e
def Ya (a b:D):eqK a b=D.A5 b a:=by
 have e2:D.A5 b a=true↔b=a:=by unfold D.A5;simp
 rw[ahu,e2]
 unfold eqK
 split
 ·simp;exact eq_comm
 ·exact e2
def Up (d:D):∀(l:List (D×D)),abu l d=D.cS l d
 | []=>rfl
 |p::q=>by simp only[abu,Ya,Up d q,D.cS,D.ep];cases D.A5 p.1 d<;>rfl
def Yf {d:D}{K:BV->T (bA×aj)}{N:T (bA×aj)}{r:bA×aj}:∀{l:List (D×D)},T.dy r (abj d K N l)->(D.cS l d=true/\T.dy r (K (.func (.func (D.val l d).int.toNat) [] [])))\/(D.cS l d=false/\T.dy r N):=by
 intro l
 induction l with
 |nil=>intro e;exact .inr ⟨rfl,e⟩
 |cons p q ih=>
  intro e
  unfold abj at e
  rw[Ya]at e
  cases e with
  |tt h1 e=>left;simp only[D.cS,D.val,D.ep,h1];exact⟨rfl,e⟩
  |ff h1 e=>simp only[D.cS,D.val,D.ep,h1];exact ih e
def PM {t:TypeId}{x k:BV}{ok:Bool}{r:bA×aj}(e:T.dy r (N6 P h t x k ok)):(we P h t x k ok).map (fun v=>((bA.value v,h):bA×aj))=some r:=by
 unfold N6 at e
 split at e
 ·rename_i kt et r0 kt' vk l hu hx
  split at e
  ·exact(T.aR e).elim
  ·rename_i hk
   split at e
   ·rename_i d hd
    split at e
    ·rename_i hkt
     have key:∀u,xI P r0 et vk l d=some u->(we P h t x k ok)=some (if ok then .tuple [u,.bool (D.cS l d)]else u):=fun u hs=>by
      have ⟨hxm,st,ck,hb⟩:x= .map r0/\∃st ck,h.get r0=some (.bg kt' vk l st ck):=by
       split at hx
       ·rename_i r1
        split at hx
        ·rename_i hb;cases hx;exact⟨rfl,_,_,hb⟩
        ·cases hx
       ·cases hx
      subst hxm
      simp only[we,hu,ag4 hk,hb,hd,hkt,ahz,hs]
     split at e
     ·rename_i et'
      split at e
      ·rename_i hc
       cases e with
       |tt h1 e=>
        rw[dO e,key (cj P et (D.val l d)) (by simp only[xI,hc,ahz,h1])]
        rw[h1];rfl
       |ff h1 e=>
        have e:=T.gw e
        cases hz:oL P et with
        |none=>rw[hz]at e;cases e
        |some z=>
         rw[hz]at e;cases e
         rw[key z (by simp only[xI,hc,ahz,h1,agZ,ahN];exact hz)]
         rw[h1];rfl
      ·exact(T.aR e).elim
     ·rename_i f el
      cases e with
      |tt h1 e=>
       rw[dO e,key (.oQ r0 f d 0) (by simp only[xI,h1,ahz])]
       rw[h1];rfl
      |ff h1 e=>
       have e:=T.gw e
       cases hz:oL P et with
       |none=>rw[hz]at e;cases e
       |some z=>
        rw[hz]at e;cases e
        rw[key z (by simp only[xI,h1,agZ,ahN];exact hz)]
        rw[h1];rfl
     ·rcases Yf e with ⟨h1,e⟩| ⟨h1,e⟩
      ·rw[dO e,key (.func (.func (D.val l d).int.toNat) [] []) (by simp only[xI,h1,ahz])]
       rw[h1];rfl
      ·have e:=T.gw e
       cases hz:oL P et with
       |none=>rw[hz]at e;cases e
       |some z=>
        rw[hz]at e;cases e
        rw[key z (by simp only[xI,h1,agZ,ahN];exact hz)]
        rw[h1];rfl
    ·exact(T.aR e).elim
   ·exact(T.aR e).elim
 ·exact(T.aR e).elim
def CT {t:TypeId}{m k v:BV}{r:bA×aj}(e:T.dy r (Bl P h t m k v)):(jD P h t m k v).map (fun h=>((bA.skip,h):bA×aj))=some r:=by
 unfold Bl at e
 split at e
 ·rename_i kt et r0 hu
  split at e
  ·rename_i kt' vk l st clock hb
   split at e
   ·exact(T.aR e).elim
   ·rename_i hk
    split at e
    ·rename_i d hd
     split at e
     ·rename_i hkt
      have hkt2:=ahh hkt
      split at e
      ·rename_i et'
       split at e
       ·rename_i hdt
        split at e
        ·rename_i dv hdv
         cases e with
         |tt h1 e=>
          rw[<-T.bm e]
          simp only[jD,hu,hb,ag4 hk,hd,hkt,ahz,Jj,hdt,hdv,h1,ahm]
         |ff h1 e=>
          rw[<-T.bm e]
          simp only[jD,hu,hb,ag4 hk,hd,hkt,ahz,Jj,hdt,hdv,h1,agZ,ahN,ahm]
        ·exact(T.aR e).elim
       ·exact(T.aR e).elim
      ·cases e with
       |tt h1 e=>exact(T.aR e).elim
       |ff h1 e=>
        have e:=T.gw e
        cases hs:UP P h r0 kt _ _ l st clock d v with
        |none=>rw[hs]at e;cases e
        |some h'=>
         rw[hs]at e
         simp only[jD,hu,hb,ag4 hk,hd,hkt,ahz,Z2 h1 hs]
         exact e
      ·split at e
       ·rename_i f h1
        rw[Up]at h1
        rw[<-T.bm e]
        simp only[jD,hu,hb,ag4 hk,hd,hkt,ahz,Jj,h1,agZ,ahN,ahm]
       ·exact(T.aR e).elim
     ·exact(T.aR e).elim
    ·exact(T.aR e).elim
  ·exact T.gw e
 ·exact T.gw e
def Se {it:BV}{r:bA×aj}(e:T.dy r (Sd P h it)):(zg P h it).map (fun v=>((bA.value v,h):bA×aj))=some r:=by
 unfold Sd at e
 split at e
 ·rename_i r0
  split at e
  ·rename_i m ks st clock seen hb
   split at e
   ·rename_i k kt vk l st' clock' hs hb2
    obtain⟨h1,h2⟩:=T.fD e
    have h2:=T.gw h2
    simp only[zg,hb,hs,hb2,h1,ahz]
    cases hs2:yT P m kt vk l k with
    |none=>rw[hs2]at h2;cases h2
    |some p=>rw[hs2]at h2;exact h2
   ·exact(T.aR e).elim
  ·exact T.gw e
 ·exact T.gw e
def Sq {t:TypeId}{x ix:BV}{r:bA×aj}(e:T.dy r (Sp P h t x ix)):(Ih P t x ix).map (fun v=>((bA.value v,h):bA×aj))=some r:=by
 unfold Sp at e
 split at e
 ·rename_i s k i hu
  obtain⟨h1,h2⟩:=T.fD e
  obtain⟨h3,h4⟩:=GL h1
  rw[dO h2]
  simp only[Ih,ag4 h3,hu,ag7 h4,ahm,List.getD,ah4]
 ·exact T.gw e
def cT {x:Option BV}{r:Option Nat}(e:T.dy r (sD x)):jM x=some r:=by
 unfold sD at e
 split at e
 ·rw[<-T.bm e];rfl
 ·obtain⟨h1,h2⟩:=T.fD e
  have h1:(0:Int)<=_:=aiw h1
  rw[<-T.bm h2]
  simp only[jM]
  rw[ag4 (by omega)]
 ·exact(T.aR e).elim
def TA {t:TypeId}{x:BV}{lo hi mx:Option BV}{r:bA×aj}(e:T.dy r (Tz P h t x lo hi mx)):(sliceB P t x lo hi mx).map (fun v=>((bA.value v,h):bA×aj))=some r:=by
 unfold Tz at e
 split at e
 ·rename_i s hu
  obtain⟨l,hl,e⟩:=T.bI e
  obtain⟨hh,hh2,e⟩:=T.bI e
  cases mx with
  |none=>
   obtain⟨h1,h2⟩:=T.fD e
   rw[dO h2]
   have hb0:jM none=some none:=rfl
   simp only[sliceB,cT hl,cT hh2,hb0,hu,Option.isNone_none,ah0,h1,ahz,ahm]
  |some m=>exact(T.aR e).elim
 ·rename_i el e' l hu
  split at e
  ·rename_i hc
   obtain⟨lo',hl,e⟩:=T.bI e
   obtain⟨hi',hh2,e⟩:=T.bI e
   obtain⟨mx',hm2,e⟩:=T.bI e
   split at e
   ·obtain⟨h1,h2⟩:=T.fD e
    rw[dO h2]
    simp only[sliceB,cT hl,cT hh2,cT hm2,hu,hc,h1,ahz,ahm]
   ·obtain⟨h1,h2⟩:=T.fD e
    rw[dO h2]
    simp only[sliceB,cT hl,cT hh2,cT hm2,hu,hc,h1,ahz,ahm]
  ·exact(T.aR e).elim
 ·rename_i el e' l hu
  split at e
  ·rename_i hc
   obtain⟨lo',hl,e⟩:=T.bI e
   obtain⟨hi',hh2,e⟩:=T.bI e
   obtain⟨mx',hm2,e⟩:=T.bI e
   split at e
   ·obtain⟨h1,h2⟩:=T.fD e
    rw[dO h2]
    simp only[sliceB,cT hl,cT hh2,cT hm2,hu,hc,h1,ahz,ahm]
   ·obtain⟨h1,h2⟩:=T.fD e
    rw[dO h2]
    simp only[sliceB,cT hl,cT hh2,cT hm2,hu,hc,h1,ahz,ahm]
  ·exact(T.aR e).elim
 ·rename_i el b n vt hu
  split at e
  ·rename_i hd
   obtain⟨lo',hl,e⟩:=T.bI e
   obtain⟨hi',hh2,e⟩:=T.bI e
   obtain⟨mx',hm2,e⟩:=T.bI e
   cases e with
   |tt hc e=>
    rw[dO e]
    simp only[sliceB,cT hl,cT hh2,cT hm2,hu,hd,ah0,hc,ahz,ahm]
   |ff hc e=>
    obtain⟨h1,h2⟩:=T.fD e
    rw[dO h2]
    simp only[sliceB,cT hl,cT hh2,cT hm2,hu,hd,ah0,hc,h1,ahz,ahm,agZ,ahN]
  ·exact(T.aR e).elim
 ·exact T.gw e
def VA {t:TypeId}{l c:BV}{r:bA×aj}(e:T.dy r (YA P h t l c)):(sY P h t l c).map (fun x=>((bA.value x.1,x.2):bA×aj))=some r:=by
 unfold YA at e
 split at e
 ·rename_i el kl li kc ci hu
  split at e
  ·rename_i i z hi hz
   split at e
   ·rename_i hc
    split at e
    ·rename_i d hd
     obtain⟨h1,h2⟩:=T.fD e
     rw[<-T.bm h2]
     unfold rZ at h1
     simp only[sY,hu,hi,hz,hc,ahz,hd,h1,ahm]
    ·exact(T.aR e).elim
   ·exact(T.aR e).elim
  ·exact(T.aR e).elim
 ·exact(T.aR e).elim
def XM {op:BinOp}{t:TypeId}{x y:BV}{r:bA×aj}(e:T.dy r (ads P h op t x y)):(AR P op t x y).map (fun v=>((bA.value v,h):bA×aj))=some r:=by
 unfold ads at e
 split at e
 ·obtain⟨h1,h2⟩:=T.fD e
  rw[dO h2]
  have h1:=aiw h1
  simp only[AR,ag8 h1,ahm]
 ·obtain⟨h1,h2⟩:=T.fD e
  rw[dO h2]
  have h1:=aiw h1
  simp only[AR]
  rw[ag4 (by omega)];rfl
 ·obtain⟨h1,h2⟩:=T.fD e
  rw[dO h2]
  have h1:=aiw h1
  simp only[AR]
  rw[ag4 (by omega)];rfl
 ·split at e
  ·exact(T.aR e).elim
  ·rename_i hk
   obtain⟨h1,h2⟩:=T.fD e
   rw[dO h2]
   have h1:=aiw h1
   simp only[AR,ag4 hk,ag4 h1,ahm]
 ·split at e
  ·exact(T.aR e).elim
  ·rename_i hk
   obtain⟨h1,h2⟩:=T.fD e
   rw[dO h2]
   have h1:=aiw h1
   simp only[AR,ag4 hk,ag4 h1,ahm]
 ·split at e
  ·rename_i e' l x s hu
   cases e with
   |tt hc e=>exact(T.aR e).elim
   |ff hc e=>
    rw[dO e]
    cases l with
    |nil=>cases hc
    |cons a r=>simp[AR,FI,hu,GU,Oa]
  ·exact(T.aR e).elim
 ·split at e
  ·rename_i e' l x s hu
   cases e with
   |tt hc e=>exact(T.aR e).elim
   |ff hc e=>
    rw[dO e]
    cases l with
    |nil=>cases hc
    |cons a r=>simp[AR,FI,hu,GU,Oa]
  ·exact(T.aR e).elim
 ·split at e
  ·rename_i b n vt x s hu
   cases e with
   |tt hc e=>exact(T.aR e).elim
   |ff hc e=>
    rw[dO e]
    cases n with
    |zero=>simp at hc
    |succ n=>simp[AR,FI,hu,GU,Oa]
  ·exact(T.aR e).elim
 ·split at e
  ·rename_i b n vt x s hu
   cases e with
   |tt hc e=>exact(T.aR e).elim
   |ff hc e=>
    rw[dO e]
    cases n with
    |zero=>simp at hc
    |succ n=>simp[AR,FI,hu,GU,Oa]
  ·exact(T.aR e).elim
 ·exact T.gw e
def Z3 {el:TypeId}{x:BV}{l:List D}(e:T.dy l (aeA h el x)):TC h el x=some l:=by
 unfold aeA at e
 split at e
 ·split at e
  ·rename_i hb
   split at e
   ·rename_i hc
    obtain⟨h1,h2⟩:=T.fD e
    have h1:=aiw h1
    rw[<-T.bm h2]
    simp only[TC,hb,hc,ahz,ag8 h1]
   ·exact(T.aR e).elim
  ·exact(T.aR e).elim
 ·exact T.gw e
def NB {el:TypeId}{bytes:Nat}{s:BV}{xs:List D}{r:bA×aj}(e:T.dy r (Kj h el bytes s xs)):(AQ h el bytes s xs).map (fun x=>((bA.value x.1,x.2):bA×aj))=some r:=by
 unfold Kj at e
 split at e
 ·split at e
  ·rename_i hb
   split at e
   ·rename_i hc
    obtain⟨h1,h2⟩:=T.fD e
    rw[<-T.bm h2]
    simp only[AQ,hb,hc,ahz,h1,ahm]
   ·exact(T.aR e).elim
  ·exact(T.aR e).elim
 ·obtain⟨h1,h2⟩:=T.fD e
  rw[<-T.bm h2]
  simp only[AQ,h1,ahz,ahm]
 ·split at e
  ·rename_i hc
   obtain⟨h1,h2⟩:=T.fD e
   rw[<-T.bm h2]
   simp only[AQ,hc,ahz,h1,ahm]
  ·exact(T.aR e).elim
 ·exact(T.aR e).elim
def Pa {ts:Array TypeId}{args:List BV}{r:bA×aj}(e:T.dy r (NC P h ts args)):(F9 P h ts args).map (fun x=>((bA.value x.1,x.2):bA×aj))=some r:=by
 unfold NC at e
 split at e
 ·rename_i st xt0 s x h1 h2
  split at e
  ·rename_i el xt hu hx
   split at e
   ·rename_i i hi
    split at e
    ·rename_i hc
     obtain⟨xs,hs,e⟩:=T.bI e
     have e:=NB e
     rw[<-e]
     simp only[F9,h1,h2,hu,hx,hi,hc,ahz,Z3 hs]
    ·exact(T.aR e).elim
   ·exact(T.aR e).elim
  ·exact(T.aR e).elim
 ·exact(T.aR e).elim
def JX {ρ:Operand->BV}{o:Oper}{r:bA×aj}(e:T.dy r (opT P h ρ o)):Fw P h ρ o=some r:=by
 obtain⟨dst,op,ty,pos,after,guard⟩:=o
 cases op<;>simp only[opT]at e<;>try exact T.gw e
 case pick c a b=>
  split at e
  ·rename_i x hx
   simp only[Fw,hx]
   cases e with
   |tt hc e=>subst hc;rw[dO e];rfl
   |ff hc e=>subst hc;rw[dO e];rfl
  ·exact(T.aR e).elim
 case indexAddr=>exact KK e
 case load=>exact Vy e
 case store=>exact TE e
 case index=>exact Sq e
 case slice=>exact TA e
 case makeSlice=>exact VA e
 case lookup=>exact PM e
 case mapUpdate=>exact CT e
 case insert=>exact CT e
 case entry=>exact Se e
 case binOp op t x y c=>
  split at e
  ·rename_i hg;simp only[Fw,hg,ahz];exact XM e
  ·exact(T.aR e).elim
 case call c=>
  split at e
  ·rename_i hc
   have:=Pa e
   simp only[Fw,Aw,hc,ais,Bi,Cv]
   exact this
  ·exact T.gw e
end
def Eg (o:Oper)(aX:Array Oper)(cx:Nat->Option BV):T Bool:=
 match o.guard with
 |none=> .ret true
 |some (j,want)=>
  match (aX[j]?).bind (·.dst)with
  |some d=>(match cx d with
   |some (.bool b)=> .ite b (.ret want) (.ret (!want))
   |some .lH=> .bG
   |_=> .ret false)
  |none=> .ret false
def yY {o:Oper}{aX:Array Oper}{cx:Nat->Option BV}{r:Bool}(e:T.dy r (Eg o aX cx)):lg o aX cx=some r:=by
 unfold Eg at e
 unfold lg
 split at e
 ·rename_i hg;rw[hg];rw[<-T.bm e]
 ·rename_i j want hg
  rw[hg]
  dsimp only
  unfold LB
  split at e
  ·rename_i d hd
   rw[hd]
   dsimp only
   split at e
   ·rename_i b hb
    rw[hb]
    cases e with
    |tt hc e=>subst hc;rw[<-T.bm e];cases want<;>rfl
    |ff hc e=>subst hc;rw[<-T.bm e];cases want<;>rfl
   ·exact(T.aR e).elim
   ·rename_i h1 h2
    rw[<-T.bm e]
    split
    ·rename_i b hb;exact absurd hb (h1 b)
    ·rename_i hb;exact absurd hb h2
    ·rfl
  ·rename_i hd;rw[hd];rw[<-T.bm e];rfl
def yx (P:Program)(aX:Array Oper)(bits:List Nat)(b7:List BV)(cO:List Nat):List Nat->aj->List (Option BV)->T (aj×List (Option BV))
 | [],h,aJ=> .ret (h,aJ)
 |i::ah,h,aJ=>
  match aX[i]?,aJ.getD i none with
  |some o,none=>
   if kq o||cO.any (dn bits i)then yx P aX bits b7 cO ah h aJ else
   (Eg o aX (fun t=>some (nF aX bits b7 aJ i t))).bind fun w=>
     match w with
     |true=>(opT P h (kS aX bits b7 aJ i) o).bind fun r=>
      match r with
      | (.value v,h')=>yx P aX bits b7 cO ah h' (aJ.set i (some v))
      |_=> .bG
     |false=>yx P aX bits b7 cO ah h (aJ.set i (some BV.undef))
  |_,_=>yx P aX bits b7 cO ah h aJ
def Hn (P:Program)(aX:Array Oper)(bits:List Nat)(b7:List BV)(aJ:List (Option BV))(x:Nat)(h:aj):List Nat->T Unit
 | []=> .ret ()
 |i::ah=>
  T.bind (α:=Unit) (match aX[i]?,aJ.getD i none with
  |some o,some v=>
   if kq o||kK o||!Il o||dn bits x i then .ret ()else
   (Eg o aX (fun t=>some (nF aX bits b7 aJ i t))).bind fun w=>
     match w with
     |true=>(opT P h (kS aX bits b7 aJ i) o).bind fun r=>(match r with| (.value u,_)=> .same u v (.ret ())|_=> .bG)
     |false=> .ret ()
  |_,_=> .ret ()) fun _=>Hn P aX bits b7 aJ x h ah
def HU (P:Program)(d:HI)(x:Nat)(v:BV)(h:aj):T (HI×aj):=
 let bits:=aY d.aX
 let aJ:=d.aJ.set x (some v)
 let cO:=d.cO.tail
 let is:=List.range d.aX.size
 (Hn P d.aX bits d.b7 d.aJ x h is).bind fun _=>(yx P d.aX bits d.b7 cO is h aJ).bind fun r=> .ret ({d with aJ:=r.2,cO},r.1)
section
variable {P:Program}
def IY {aX:Array Oper}{bits:List Nat}{b7:List BV}{cO:List Nat}:∀(l:List Nat) (h:aj) (aJ:List (Option BV)) {r:aj×List (Option BV)},T.dy r (yx P aX bits b7 cO l h aJ)->sX P aX bits b7 cO l h aJ=some r:=by
 intro l
 induction l with
 |nil=>intro h aJ r e;rw[<-T.bm e];rfl
 |cons i ah ih=>
  intro h aJ r e
  simp only[yx]at e
  simp only[sX]
  split at e
  ·rename_i o ho hv
   simp only[ho,hv]
   split at e
   ·rename_i hc;rw[ag8 hc];exact ih _ _ e
   ·rename_i hc
    rw[ag4 hc]
    obtain⟨w,hw,e⟩:=T.bI e
    rw[yY hw]
    cases w with
    |true=>
     dsimp only at e ⊢
     obtain⟨q,hq,e⟩:=T.bI e
     rw[JX hq]
     obtain⟨n,h'⟩:=q
     cases n<;>first|exact ih _ _ e|exact(T.aR e).elim
    |false=>exact ih _ _ e
  ·rename_i hno
   split
   ·rename_i o ho hv;exact absurd hv (hno o ho)
   ·exact ih _ _ e
def OE {aX:Array Oper}{bits:List Nat}{b7:List BV}{aJ:List (Option BV)}{x:Nat}{h:aj}:∀(l:List Nat),T.dy () (Hn P aX bits b7 aJ x h l)->D6 P aX bits b7 aJ x h l=true:=by
 intro l
 induction l with
 |nil=>intro _;rfl
 |cons i ah ih=>
  intro e
  simp only[Hn]at e
  obtain⟨⟨⟩,e1,e2⟩:=T.bI e
  simp only[D6,ag2]
  refine⟨?_,ih e2⟩
  split at e1
  ·rename_i o v ho hv
   simp only[ho,hv]
   split at e1
   ·rename_i hc;rw[ag8 hc]
   ·rename_i hc
    rw[ag4 hc]
    obtain⟨w,hw,e1⟩:=T.bI e1
    rw[yY hw]
    cases w with
    |true=>
     dsimp only at e1 ⊢
     obtain⟨q,hq,e1⟩:=T.bI e1
     rw[JX hq]
     obtain⟨n,h'⟩:=q
     cases n with
     |value u=>cases e1 with|same he _=>subst he;exact BV.Tm _
     |_=>exact(T.aR e1).elim
    |false=>rfl
  ·rename_i hno
   split
   ·rename_i o v ho hv;exact absurd hv (hno o v ho)
   ·rfl
def LG {d d':HI}{x:Nat}{v:BV}{h h':aj}(e:T.dy (d',h') (HU P d x v h)):CA P d x v h=some (d',h'):=by
 unfold HU at e
 obtain⟨⟨⟩,e1,e⟩:=T.bI e
 obtain⟨r,e2,e⟩:=T.bI e
 have:=T.bm e
 unfold CA
 dsimp only
 rw[ag8 (OE _ e1),IY _ _ _ e2,<-this]
 rfl
end
def rh (P:Program)(fr:bq)(v:BV)(h:aj):T (bq×aj):=
 match fr.mode,fr.todo with
 | .run,.fY d::k=>(match d.cO with
   |x::_=>(HU P d x v h).bind fun r=> .ret ({fr with todo:= .fY r.1::k},r.2)
   | []=> .bG)
 |_,_=>T.of (q9 P fr v h)
inductive Nx where
 |pick (ks seen:List D) (s0:au) (k:D->au)
 |st (s:au)
 |HN (s1 s2:au)
 |call (f:FuncId) (as:List BV) (fr:bq) (cs:List bq) (h:aj)
def stT (o:Option au):T Nx:=T.of (o.map Nx.st)
def ND (P:Program)(tb:FuncId->Bool)(fr:bq)(cs:List bq)(r:bA×aj):T Nx:=
 match r with
 | (.value v,h)=>(rh P fr v h).bind fun r=> .ret (.st {fr:=r.1,cs,h:=r.2})
 | (.skip,h)=>(rh P fr BV.undef h).bind fun r=> .ret (.st {fr:=r.1,cs,h:=r.2})
 | (.enter f as,h)=>(match tb f,gq P f as .normal with
   |true,some _=> .ret (.call f as fr cs h)
   |_,_=>stT (qR P fr cs .normal (.enter f as,h)))
 |r=>stT (qR P fr cs .normal r)
def DV (P:Program)(fr:bq)(cs:List bq)(v:BV)(h:aj):T Nx:=
 match cs,fr.kind with
 |caller::ah,.normal=>(rh P caller v h).bind fun r=> .ret (.st {fr:=r.1,cs:=ah,h:=r.2})
 |cs,_=>stT (sO P fr cs v h)
def Ik (P:Program)(fr:bq)(cs:List bq)(h:aj)(jump:Option Code):T Nx:=
 match fr.roundOf with
 |none=>stT (zk P fr cs h jump)
 |some l=>(match h.get l with
  |some (.loop r)=>DV P fr cs (.bool jump.isNone) (h.put l (some (.loop {r with state:=if jump.isNone then .ready else .done,pending:=jump})))
  |_=> .bG)
def OM (P:Program)(fr:bq)(cs:List bq)(h:aj):T Nx:=
 match fr.defers,fr.mode with
 | [],.returning=>(match P.funcs[fr.fn]? with
   |some fn=>(match Di P h fn fr.cx with|some v=>DV P fr cs v h|none=> .bG)
   |none=> .bG)
 |_,_=>stT (yW P fr cs h)
def toT (fr:bq)(cs:List bq)(h:aj)(todo:List dI):T Nx:= .ret (.st {fr:={fr with todo},cs,h})
def ac7 (P:Program)(fr:bq)(cs:List bq)(h:aj)(aX:Array Oper)(dst:Option Nat)(ah:List Nat)(kk:List dI)(it:BV):Option (T Nx):=
 match it with
 | .aP r 0=>
   (match h.get r with
   |some (.gV m ks st ck seen)=>
    (match h.get m with
    |some (.bg kt vk l st' ck')=>
     (match yT P m kt vk l (.z 0)with
     |some _=>some (.ite (oK l st' ck' ks st ck)
       (.ret (.pick ks seen ⟨{fr with cx:=vo fr.cx dst (.tuple [.bool false]),todo:= .inRegion aX ah::kk},cs,h⟩
         fun k=>⟨{fr with cx:=vo fr.cx dst (match yT P m kt vk l k with|some p=> .tuple [.bool true,p.1,p.2]|none=> .lH),todo:= .inRegion aX ah::kk},cs,h.put r (some (.gV m ks st ck (k::seen)))⟩)) .bG)
     |none=>some .bG)
    |_=>some .bG)
   |_=>none)
 |_=>none
def adr (cx:List BV)(o:Oper):Option (Nat×Bool):=
 match o.op with
 | .binOp .eql _ (.tmp j) y _=>(match cx[j]?,vB cx y with|some (.bw e l),.cX=>some (j,l.isEmpty)|some (.aZ _ n _),.cX=>some (j,decide (n=0))|_,_=>none)
 | .binOp .neq _ (.tmp j) y _=>(match cx[j]?,vB cx y with|some (.bw e l),.cX=>some (j,l.isEmpty)|some (.aZ _ n _),.cX=>some (j,decide (n=0))|_,_=>none)
 |_=>none
def acg (P:Program)(tb:FuncId->Bool)(fr:bq)(cs:List bq)(h:aj)(aX:Array Oper)(o:Oper)(ah:List Nat)(k:List dI):T Nx:=
 match o.op with
 | .next it false=>(match ac7 P fr cs h aX o.dst ah k (vB fr.cx it)with
   |some t=>t
   |none=> .bG)
 |_=>(opT P h (vB fr.cx) o).bind (ND P tb fr cs)
def Z4 (P:Program)(tb:FuncId->Bool)(s:au):T Nx:=
 match s with
 | ⟨fr,cs,h⟩=>
   match fr.mode with
   | .run=>
     (match fr.todo with
     | []=>Ik P fr cs h none
     | .code .ret::_=>Ik P fr cs h (some .ret)
     | .code (.cond c thn els)::k=>(match vB fr.cx c with
       | .bool b=> .ite b (toT fr cs h (.code thn::k)) (toT fr cs h (.code els::k))
       |_=> .bG)
     | .code (.exit id)::k=>(match qY id k with|some k'=>toT fr cs h k'|none=>Ik P fr cs h (some (.exit id)))
     | .code (.goto l)::k=>(match rp l k with|some k'=>toT fr cs h k'|none=>Ik P fr cs h (some (.goto l)))
     | .code (.region _ aX true)::k=>
       if !(HV aX&&HX aX fr.cx.length)then .bG else
       (yx P aX (aY aX) fr.cx (qW aX) (List.range aX.size) h (List.replicate aX.size none)).bind fun r=>
         toT fr cs r.1 (.fY {aX,b7:=fr.cx,aJ:=r.2,cO:=qW aX}::k)
     | .inRegion aX (i::ah)::k=>(match aX[i]? with
       |none=>toT fr cs h (.inRegion aX ah::k)
       |some o=>(Eg o aX (fun t=>fr.cx[t]?)).bind fun w=>
        match w with
        |true=>(match adr fr.cx o with
         |some (j,c)=> .ite c (.ret (.HN ⟨{fr with cx:=fr.cx.set j .cX},cs,h⟩ ⟨{fr with cx:=fr.cx.set j .kR},cs,h⟩)) (acg P tb fr cs h aX o ah k)
         |none=>acg P tb fr cs h aX o ah k)
        |false=>toT {fr with cx:=vo fr.cx o.dst BV.undef} cs h (.inRegion aX ah::k))
     | .fY d::k=>(match d.cO with
       | []=>toT {fr with cx:=q8 d.aX d.aJ 0 d.b7} cs h k
       |x::_=>(match d.aX[x]? with
        |none=> .bG
        |some o=>(Eg o d.aX (fun t=>some (nF d.aX (aY d.aX) d.b7 d.aJ x t))).bind fun w=>
         match w with
         |true=>(opT P h (kS d.aX (aY d.aX) d.b7 d.aJ x) o).bind (ND P tb fr cs)
         |false=>(rh P fr BV.undef h).bind fun r=> .ret (.st {fr:=r.1,cs,h:=r.2})))
     |_=>stT (dm P ⟨fr,cs,h⟩))
   |_=>OM P fr cs h
def rU (P:Program)(o:Option au):Nx->Prop
 | .pick _ _ _ _=>False
 | .HN _ _=>False
 | .st s=>o=some s
 | .call f as fr cs h=>∃c,gq P f as .normal=some c/\o=some ⟨c,fr::cs,h⟩
def rU.of {P:Program}{o:Option au}{s:au}(h:o=some s):rU P o (.st s):=h
section
variable {P:Program} {tb:FuncId->Bool}
def Ed {o:Option au}{x:Nx}(e:T.dy x (stT o)):rU P o x:=by
 have:=T.gw e
 cases o with
 |none=>cases this
 |some s=>simp only[ahm,ahi]at this;subst this;rfl
def qE {fr:bq}{v:BV}{h:aj}{r:bq×aj}(e:T.dy r (rh P fr v h)):q9 P fr v h=some r:=by
 unfold rh at e
 split at e
 ·rename_i d k hm ht
  split at e
  ·rename_i x xs hd
   obtain⟨⟨d',h'⟩,e1,e⟩:=T.bI e
   rw[<-T.bm e]
   simp only[q9,hm,ht,hd,LG e1,ahm]
  ·exact(T.aR e).elim
 ·exact T.gw e
def Kk {fr:bq}{cs:List bq}{q:bA×aj}{x:Nx}(e:T.dy x (ND P tb fr cs q)):rU P (qR P fr cs .normal q) x:=by
 unfold ND at e
 split at e
 ·obtain⟨r,e1,e⟩:=T.bI e
  rw[<-T.bm e]
  simp only[rU,qR,qE e1,ahm]
 ·obtain⟨r,e1,e⟩:=T.bI e
  rw[<-T.bm e]
  simp only[rU,qR,qE e1,ahm]
 ·split at e
  ·rename_i c _ hc
   rw[<-T.bm e]
   exact⟨c,hc,by simp only[qR,hc,ahm]⟩
  ·exact Ed e
 ·exact Ed e
def Ev {fr:bq}{cs:List bq}{v:BV}{h:aj}{x:Nx}(e:T.dy x (DV P fr cs v h)):rU P (sO P fr cs v h) x:=by
 unfold DV at e
 split at e
 ·rename_i caller ah hk
  obtain⟨r,e1,e⟩:=T.bI e
  rw[<-T.bm e]
  simp only[rU,sO,hk,qE e1,ahm]
 ·exact Ed e
def Bj {fr:bq}{cs:List bq}{h:aj}{j:Option Code}{x:Nx}(e:T.dy x (Ik P fr cs h j)):rU P (zk P fr cs h j) x:=by
 unfold Ik at e
 split at e
 ·exact Ed e
 ·rename_i l hl
  split at e
  ·rename_i r hr
   simp only[zk,hl,hr]
   exact Ev e
  ·exact(T.aR e).elim
def Rj {fr:bq}{cs:List bq}{h:aj}{x:Nx}(e:T.dy x (OM P fr cs h)):rU P (yW P fr cs h) x:=by
 unfold OM at e
 split at e
 ·rename_i hd hm
  split at e
  ·rename_i fn hf
   split at e
   ·rename_i v hv
    simp only[yW,hd,hm,hf,hv]
    exact Ev e
   ·exact(T.aR e).elim
  ·exact(T.aR e).elim
 ·exact Ed e
def yV {fr:bq}{cs:List bq}{h:aj}{todo:List dI}{x:Nx}(e:T.dy x (toT fr cs h todo)):x= .st {fr:={fr with todo},cs,h}:=(T.bm e).symm
structure acy (P:Program)(s:au)(ks seen:List D)(s0:au)(k:D->au):Prop where
 ex:∃(fn:FuncId) (cx:List BV) (aX:Array Oper) (i:Nat) (ah:List Nat) (kk:List dI) (ds:List tN) (kind:CallKind) (ro:Option Nat) (cs:List bq) (h:aj) (o:Oper) (it:Operand) (r m:Nat) (st:List Nat) (ck:Nat) (kt:TypeId) (vk:VK) (l:List (D×D)) (st':List Nat) (ck':Nat),
  s=⟨⟨fn,cx,.inRegion aX (i::ah)::kk,ds,.run,kind,ro⟩,cs,h⟩/\aX[i]?=some o/\o.op= .next it false/\lg o aX (fun t=>cx[t]?)=some true/\vB cx it= .aP r 0/\
  h.get r=some (.gV m ks st ck seen)/\h.get m=some (.bg kt vk l st' ck')/\oK l st' ck' ks st ck=true/\(∃p,yT P m kt vk l (.z 0)=some p)/\
  s0=⟨⟨fn,vo cx o.dst (.tuple [.bool false]),.inRegion aX ah::kk,ds,.run,kind,ro⟩,cs,h⟩/\
  k=fun d=>⟨⟨fn,vo cx o.dst (match yT P m kt vk l d with|some p=> .tuple [.bool true,p.1,p.2]|none=> .lH),.inRegion aX ah::kk,ds,.run,kind,ro⟩,cs,h.put r (some (.gV m ks st ck (d::seen)))⟩
def WG {m:Nat}{kt:TypeId}{vk:VK}{l:List (D×D)}{d d':D}{p:BV×BV}(e:yT P m kt vk l d=some p):∃q,yT P m kt vk l d'=some q:=by
 unfold yT at e ⊢
 split at e
 ·rename_i hc
  rw[ag8 hc]
  cases vk with
  |data et=>
   dsimp only at e ⊢
   split at e
   ·rename_i h2;rw[ag8 h2];exact⟨_,rfl⟩
   ·cases e
  |bY f et=>exact⟨_,rfl⟩
  |IZ=>cases e
 ·cases e
structure aff (s s1 s2:au):Prop where
 ex:∃(fn:FuncId) (cx:List BV) (aX:Array Oper) (todo:List Nat) (kk:List dI) (ds:List tN) (kind:CallKind) (ro:Option Nat) (cs:List bq) (h:aj) (j:Nat),
  s=⟨⟨fn,cx,.inRegion aX todo::kk,ds,.run,kind,ro⟩,cs,h⟩/\((∃e,cx[j]?=some (.bw e []))\/∃b vt,cx[j]?=some (.aZ b 0 vt))/\s1=⟨⟨fn,cx.set j .cX,.inRegion aX todo::kk,ds,.run,kind,ro⟩,cs,h⟩/\s2=⟨⟨fn,cx.set j .kR,.inRegion aX todo::kk,ds,.run,kind,ro⟩,cs,h⟩
def Nm (P:Program)(s:au)(x:Nx):Prop:=
 rU P (dm P s) x\/(∃ks seen s0 k,x= .pick ks seen s0 k/\acy P s ks seen s0 k)\/∃s1 s2,x= .HN s1 s2/\aff s s1 s2
def UZ {cx:List BV}{o:Oper}{j:Nat}{c:Bool}(h:adr cx o=some (j,c))(hc:c=true):(∃e,cx[j]?=some (.bw e []))\/∃b vt,cx[j]?=some (.aZ b 0 vt):=by
 unfold adr at h
 split at h
 all_goals try (cases h;done)
 all_goals
  split at h
  ·rename_i h1 _;cases h;rw[aj7.1 hc]at h1;exact .inl ⟨_,h1⟩
  ·rename_i h1 _;cases h;rw[aiw hc]at h1;exact .inr ⟨_,_,h1⟩
  ·cases h
def QQ {fr:bq}{cs:List bq}{h:aj}{aX:Array Oper}{i:Nat}{ah:List Nat}{k:List dI}{o:Oper}{x:Nx}(hm:fr.mode= .run)(ht:fr.todo= .inRegion aX (i::ah)::k)(ho:aX[i]?=some o)
 (hwt:lg o aX (fun t=>fr.cx[t]?)=some true)(e:T.dy x (acg P tb fr cs h aX o ah k)):Nm P ⟨fr,cs,h⟩ x:=by
 unfold acg at e
 split at e
 ·rename_i it hop
  split at e
  ·rename_i t hpk
   right;left
   unfold ac7 at hpk
   split at hpk
   ·rename_i r hit
    split at hpk
    ·rename_i m ks st ck seen hb
     split at hpk
     ·rename_i kt vk l st' ck' hb2
      split at hpk
      ·rename_i p hp
       cases hpk
       obtain⟨h1,h2⟩:=T.fD e
       have h3:=T.bm h2
       obtain⟨ffn,fenv,ftodo,fds,fmode,fkind,fro⟩:=fr
       dsimp only at hm ht
       subst hm;subst ht
       exact⟨_,_,_,_,h3.symm,⟨⟨_,_,_,_,_,_,_,_,_,_,_,_,_,_,_,_,_,_,_,_,_,_,rfl,ho,hop,hwt,hit,hb,hb2,h1,⟨p,hp⟩,rfl,rfl⟩⟩⟩
      ·cases hpk;exact(T.aR e).elim
     ·cases hpk;exact(T.aR e).elim
    ·cases hpk
   ·cases hpk
  ·exact(T.aR e).elim
 ·left
  simp only[dm,hm,ht]
  rw[ho]
  dsimp only
  rw[hwt]
  obtain⟨q,e1,e⟩:=T.bI e
  dsimp only
  rw[JX e1];exact Kk e
def WY {s:au}{x:Nx}(e:T.dy x (Z4 P tb s)):Nm P s x:=by
 unfold Nm
 obtain⟨fr,cs,h⟩:=s
 unfold Z4 at e
 dsimp only at e
 split at e
 ·rename_i hm
  split at e
  ·left;rename_i ht;simp only[dm,hm,ht];exact Bj e
  ·left;rename_i ht;simp only[dm,hm,ht];exact Bj e
  ·left
   rename_i c thn els k ht
   split at e
   ·rename_i b hb
    simp only[dm,hm,ht,hb]
    cases e with
    |tt hc e=>subst hc;rw[yV e];exact rU.of (by simp[hm])
    |ff hc e=>subst hc;rw[yV e];exact rU.of (by simp[hm])
   ·exact(T.aR e).elim
  ·left
   rename_i id k ht
   simp only[dm,hm,ht]
   split at e
   ·rename_i k' hk;rw[yV e,hk];exact rU.of (by simp[hm])
   ·rename_i hk;rw[hk];exact Bj e
  ·left
   rename_i l k ht
   simp only[dm,hm,ht]
   split at e
   ·rename_i k' hk;rw[yV e,hk];exact rU.of (by simp[hm])
   ·rename_i hk;rw[hk];exact Bj e
  ·left
   rename_i id aX k ht
   split at e
   ·exact(T.aR e).elim
   ·rename_i hc
    obtain⟨r,e1,e⟩:=T.bI e
    rw[yV e]
    simp only[rU,dm,hm,ht,aip,agZ,ahN,ag4 hc,IY _ _ _ e1,ahm]
  ·rename_i aX i ah k ht
   split at e
   ·left;rename_i ho;simp only[dm,hm,ht];rw[ho,yV e];exact rU.of (by simp[hm])
   ·rename_i o ho
    obtain⟨w,hw,e⟩:=T.bI e
    have hwt:=yY hw
    cases w with
    |true=>
     dsimp only at e
     split at e
     ·rename_i j c hq
      cases e with
      |tt hc e=>
       have h3:=T.bm e
       have hj:=UZ hq hc
       obtain⟨ffn,fenv,ftodo,fds,fmode,fkind,fro⟩:=fr
       dsimp only at hm ht hj
       subst hm;subst ht
       exact .inr (.inr ⟨_,_,h3.symm,⟨⟨_,_,_,_,_,_,_,_,_,_,_,rfl,hj,rfl,rfl⟩⟩⟩)
      |ff hc e=>exact QQ hm ht ho hwt e
     ·exact QQ hm ht ho hwt e
    |false=>left;simp only[dm,hm,ht];rw[ho];dsimp only;rw[hwt];dsimp only at e ⊢;rw[yV e];exact rU.of (by simp[hm])
  ·left
   rename_i d k ht
   simp only[dm,hm,ht]
   split at e
   ·rename_i hd;rw[hd,yV e];exact rU.of (by simp[hm])
   ·rename_i y ys hd
    rw[hd]
    dsimp only
    split at e
    ·exact(T.aR e).elim
    ·rename_i o ho
     rw[ho]
     dsimp only
     obtain⟨w,hw,e⟩:=T.bI e
     rw[yY hw]
     cases w with
     |true=>
      dsimp only at e ⊢
      obtain⟨q,e1,e⟩:=T.bI e
      rw[JX e1];exact Kk e
     |false=>
      dsimp only at e ⊢
      obtain⟨r,e1,e⟩:=T.bI e
      rw[qE e1,<-T.bm e];rfl
  ·left;exact Ed e
 ·left
  rename_i hm
  have:dm P ⟨fr,cs,h⟩=yW P fr cs h:=by
   unfold dm
   cases hmm:fr.mode with
   |run=>exact absurd hmm hm
   |returning=>simp only[hmm]
  rw[this];exact Rj e
end
end
end
end Go.PB
end
