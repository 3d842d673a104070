import Derived.ChangeArms
import Derived.DataReads
import Derived.OpenShut
import Derived.WideShapes
import Derived.Deep.Slices
import Derived.Test.YtdoajjnobfjkcaaGreatM6
set_option linter.all false
noncomputable section
namespace Go.PB
open Go
section
noncomputable section
mutual
def KW:BV->List (Nat×Bool)
 | .aP b _=>[(b,false)]
 | .wq cs=>Bp cs
 | .aZ b _ vt=>[(b,vt)]
 | .vO b _ _ _=>[(b,false)]
 | .oQ b _ _ _=>[(b,false)]
 | .map b=>[(b,false)]
 | .func _ a c=>Bp a++Bp c
 | .yield l=>[(l,false)]
 | .agg cs=>Bp cs
 | .tuple cs=>Bp cs
 |_=>[]
def Bp:List BV->List (Nat×Bool)
 | []=>[]
 |v::vs=>KW v++Bp vs
end
def Xf:aI->List (Nat×Bool)
 | .cells cs _ _=>Bp cs
 | .gV m _ _ _ _=>[(m,false)]
 | .loop b=>(b.defers,false)::Bp b.tmps
 |_=>[]
def nmI:dI->List (Nat×Bool)
 | .inRangeFunc l=>[(l,false)]
 | .endRangeFunc l=>[(l,false)]
 |_=>[]
def agb:List dI->List (Nat×Bool)
 | []=>[]
 |i::r=>nmI i++agb r
def nmD (d:tN):List (Nat×Bool):=
 (match d.target with
 | .fn _ c=>Bp c
 | .yield l=>[(l,false)]
 | .collected r=>[(r,false)]
 |_=>[])++Bp d.args
def af9:List tN->List (Nat×Bool)
 | []=>[]
 |d::r=>nmD d++af9 r
def nmF (fr:bq):List (Nat×Bool):=Bp fr.cx++(agb fr.todo++(af9 fr.defers++(match fr.roundOf with|some l=>[(l,false)]|none=>[])))
def aga:List bq->List (Nat×Bool)
 | []=>[]
 |f::r=>nmF f++aga r
def CQ:List (Nat×Bool)->List (Nat×Bool)
 | []=>[]
 | (b,true)::r=>CQ r
 | (b,false)::r=>(b,false)::CQ r
def Lo:List (Nat×Bool)->List (Nat×Bool)
 | []=>[]
 | (b,true)::r=>(b,true)::Lo r
 | (b,false)::r=>Lo r
def zm (h:aj):Nat->List (Nat×Bool)->List Nat->Option (List Nat)
 |0,_,_=>none
 |_+1,[],seen=>some seen
 |n+1,(b,vt)::r,seen=>
  match h.get b with
  |none=>zm h n r seen
  |some o=>(match vt&&!(r8 (some o))with
   |true=>none
   |false=>(match SB seen b with
    |true=>zm h n r seen
    |false=>zm h n (r++(CQ (Xf o)++Lo (Xf o))) (seen++[b])))
def gB:Nat->List Nat->List (Nat×Nat)
 |_,[]=>[]
 |n,b::r=>(b,n)::gB (n+1) r
def aeu:Nat->Nat->List (Nat×Bool)
 |0,_=>[]
 |n+1,i=>(i,false)::aeu n (i+1)
def MW (ren:List (Nat×Nat)):Nat->Bool
 |0=>true
 |n+1=>(match fN ren n with|some m=>Nat.beq m n|none=>false)&&MW ren n
def Z7 (φ:Kg):dI->Option dI
 | .code c=>some (.code c)
 | .inBlock i=>some (.inBlock i)
 | .inLoop c=>some (.inLoop c)
 | .inScope c=>some (.inScope c)
 | .inRegion aX l=>some (.inRegion aX l)
 | .fY _=>none
 | .inRangeFunc l=>(match φ.rn l with|some c=>some (.inRangeFunc c)|none=>none)
 | .endRangeFunc l=>(match φ.rn l with|some c=>some (.endRangeFunc c)|none=>none)
 | .beginRound=>some .beginRound
def Hv (φ:Kg):List dI->Option (List dI)
 | []=>some []
 |i::r=>match Z7 φ i,Hv φ r with|some i',some r'=>some (i'::r')|_,_=>none
def adb (φ:Kg):AE->Option AE
 | .fn f c=>some (.fn f (kA φ c))
 | .yield l=>(match φ.rn l with|some c=>some (.yield c)|none=>none)
 | .builtin b a t c=>some (.builtin b a t c)
 | .collected r=>(match φ.rn r with|some c=>some (.collected c)|none=>none)
def Q7 (φ:Kg):List tN->Option (List tN)
 | []=>some []
 |d::r=>match adb φ d.target,Q7 φ r with|some t,some r'=>some (⟨t,kA φ d.args⟩::r')|_,_=>none
def Z8 (φ:Kg):Option Nat->Option (Option Nat)
 |none=>some none
 |some l=>(match φ.rn l with|some c=>some (some c)|none=>none)
def Z6 (φ:Kg)(fr:bq):Option bq:=
 match fr with
 | ⟨fn,cx,todo,ds,mode,kind,ro⟩=>
   match mode,Hv φ todo,Q7 φ ds,Z8 φ ro with
   | .run,some todo',some ds',some ro'=>some ⟨fn,kA φ cx,todo',ds',.run,kind,ro'⟩
   |_,_,_,_=>none
def Q8 (φ:Kg):List bq->Option (List bq)
 | []=>some []
 |f::r=>match Z6 φ f,Q8 φ r with|some f',some r'=>some (f'::r')|_,_=>none
def kx (h:aj)(p n:Nat):List (Nat×Nat)->List (Nat×Nat)
 | []=>[]
 | (a,c)::r=>match h.get a with
   |some (.bg _ (.bY f _) _ _ _)=>(f,match Nat.blt f p with|true=>f|false=>n+c)::kx h p n r
   |_=>kx h p n r
def Ep (h:aj)(p n:Nat)(ren:List (Nat×Nat)):Kg:=⟨fN ren,fN (kx h p n ren)⟩
def CU (fL:List Nat):Nat->List BV->List BV
 |_,[]=>[]
 |i,v::r=>(match SB fL i with|true=>v|false=> .lH)::CU fL (i+1) r
def yX:List (Nat×TypeId)->List BV->aj->List BV×aj
 | [],cx,h=>(cx,h)
 | (i,e)::r,cx,h=>
   match cx.getD i .lH with
   | .cX=>yX r (cx.set i (.aZ h.next 0 true)) (h.new (.ak e [] true))
   |_=>yX r cx h
def NK (p:Nat)(fL:List Nat)(vf:List (Nat×TypeId))(s:au):Option au:=
 match s with
 | ⟨⟨fn,cx,todo,ds,mode,kind,ro⟩,cs,h⟩=>
   match yX vf (CU fL 0 cx) h with
   | (env1,h1)=>
     match zm h1 300 (aeu p 0++(nmF ⟨fn,env1,todo,ds,mode,kind,ro⟩++aga cs)) []with
     |some seen=>
      (match yR 0 (gB 0 seen).length [] [] (gB 0 seen)&&MW (gB 0 seen) p&&Nat.ble p (gB 0 seen).length,Z6 (Ep h1 p (gB 0 seen).length (gB 0 seen)) ⟨fn,env1,todo,ds,mode,kind,ro⟩,Q8 (Ep h1 p (gB 0 seen).length (gB 0 seen)) cs,EC (Ep h1 p (gB 0 seen).length (gB 0 seen)) h1 (gB 0 seen)with
      |true,some fr',some cs',some L=>some ⟨fr',cs',hL L⟩
      |_,_,_,_=>none)
     |none=>none
def IV:Nat->Code->Nat
 |0,_=>0
 |f+1,c=>
  match c with
  | .seq a b=>Nat.succ (Nat.add (IV f a) (IV f b))
  | .cond _ a b=>Nat.succ (Nat.add (IV f a) (IV f b))
  | .block _ b=>Nat.succ (IV f b)
  | .loop b=>Nat.succ (IV f b)
  | .scope b=>Nat.succ (IV f b)
  | .region _ aX _=>Nat.succ aX.size
  |_=>1
def UR:List dI->Nat
 | []=>0
 | .code c::r=>Nat.succ (Nat.add (IV 200 c) (UR r))
 |_::r=>Nat.succ (UR r)
structure FU where
 fn:FuncId
 depth:Nat
 todo:Nat
 fL:List Nat
 vf:List (Nat×TypeId)
def X3 (p:Nat):List FU->au->Option au
 | [],_=>none
 |c::r,s=>
  match Nat.beq c.fn s.fr.fn&&(Nat.beq c.depth s.cs.length&&Nat.beq c.todo (Nat.add (UR s.fr.todo) (Nat.mul 4096 s.fr.todo.length)))with
  |true=>(match NK p c.fL c.vf s with|some s1=>NK p c.fL [] s1|none=>none)
  |false=>X3 p r s
section
variable {P:Program} {g g':Gh} {h h':aj} {w:World} {φ:Kg} {lb ub lb' ub':Nat}
def bS.sub (hs:zD P g g' w φ):∀{bs bs':List dI} {is:List Item},bS g bs is->Hv φ bs=some bs'->bS g' bs' is:=by
 intro bs
 induction bs with
 |nil=>intro bs' is h e;simp only[Hv,ahi]at e;subst e;exact h
 |cons b bs ih=>
  intro bs' is h e
  simp only[bS]at h
  obtain⟨i,ir,rfl,h1,h2⟩:=h
  simp only[Hv]at e
  split at e
  ·rename_i i' r' hi hr
   cases e
   simp only[bS]
   refine⟨i,ir,rfl,?_,ih h2 hr⟩
   cases b<;>simp only[Z7,ahi,reduceCtorEq]at hi
   case inRangeFunc l=>
    split at hi
    ·rename_i c hc;cases hi;simp only[eZ]at h1 ⊢;obtain⟨aL,hm,rfl⟩:=h1;exact⟨aL,hs.rn _ _ _ hc hm,rfl⟩
    ·cases hi
   case endRangeFunc l=>
    split at hi
    ·rename_i c hc;cases hi;simp only[eZ]at h1 ⊢;obtain⟨aL,hm,rfl⟩:=h1;exact⟨aL,hs.rn _ _ _ hc hm,rfl⟩
    ·cases hi
   all_goals (subst hi;exact h1)
  ·cases e
def iC.sub (hs:zD P g g' w φ):∀{bs bs':List tN} {ds:List Deferred},iC P g w bs ds->Q7 φ bs=some bs'->iC P g' w bs' ds:=by
 intro bs
 induction bs with
 |nil=>intro bs' ds h e;simp only[Q7,ahi]at e;subst e;exact h
 |cons b bs ih=>
  intro bs' ds h e
  simp only[iC]at h
  obtain⟨d,dr,rfl,h1,h2⟩:=h
  simp only[Q7]at e
  split at e
  ·rename_i t r' ht hr
   cases e
   simp only[iC]
   refine⟨d,dr,rfl,⟨?_,aq.sub hs _ _ h1.2⟩,ih h2 hr⟩
   have h3:=h1.1
   dsimp only
   cases htg:b.target<;>rw[htg]at ht h3<;>simp only[adb,ahi]at ht
   case fn f c=>subst ht;simp only[xX]at h3 ⊢;obtain⟨c',h4,h5⟩:=h3;exact⟨c',h4,aq.sub hs _ _ h5⟩
   case yield l=>
    split at ht
    ·rename_i c hc;cases ht;simp only[xX]at h3 ⊢;obtain⟨aL,hm,h4⟩:=h3;exact⟨aL,hs.rn _ _ _ hc hm,h4⟩
    ·cases ht
   case collected l=>
    split at ht
    ·rename_i c hc;cases ht;simp only[xX]at h3 ⊢;obtain⟨aL,hm,h4⟩:=h3;exact⟨aL,hs.rn _ _ _ hc hm,h4⟩
    ·cases ht
   all_goals (subst ht;exact h3)
  ·cases e
def qI.sub (hs:zD P g g' w φ){top top':Bool}{b b':bq}{f:Frame}(hf:qI P g h w lb ub top b f)(e:Z6 φ b=some b'):qI P g' h' w lb' ub' top' b' f:=by
 obtain⟨fn,cx,todo,ds,mode,kind,ro⟩:=b
 simp only[Z6]at e
 split at e
 ·rename_i todo' ds' ro' ht hd hro
  cases e
  have hrun:=hf.run rfl
  unfold cZ at hrun
  dsimp only at hrun
  refine⟨hf.fn,hf.kind,hf.oI,iC.sub hs hf.defers hd,hf.mode,?_,fun _=>?_,fun hne=>absurd rfl hne⟩
  ·have:=hf.round
   cases ro with
   |none=>simp only[Z8,ahi]at hro;subst hro;exact this
   |some l=>
    simp only[Z8]at hro
    split at hro
    ·rename_i c hc;cases hro;simp only[mW]at this ⊢;obtain⟨aL,hm,h1⟩:=this;exact⟨aL,hs.rn _ _ _ hc hm,h1⟩
    ·cases hro
  ·unfold cZ
   dsimp only
   have hno:∀d k,todo'≠ .fY d::k:=by
    rintro d k rfl
    cases todo with
    |nil=>simp[Hv]at ht
    |cons i r=>
     simp only[Hv]at ht
     split at ht
     ·rename_i i' r' hi hr
      simp only[ahi,ai6]at ht
      obtain⟨rfl,rfl⟩:=ht
      cases i<;>simp only[Z7,ahi,reduceCtorEq]at hi
      all_goals (split at hi<;>cases hi)
     ·cases ht
   have hno2:∀d k,todo≠ .fY d::k:=by
    rintro d k rfl
    simp[Hv,Z7]at ht
   split at hrun
   ·rename_i d k;exact absurd rfl (hno2 d k)
   ·have hfin:=And.intro (aq.sub hs _ _ hrun.1) (bS.sub hs hrun.2 ht)
    cases todo' with
    |nil=>exact hfin
    |cons i' r'=>cases i'<;>first|exact hfin|exact absurd rfl (hno _ _)
 ·cases e
def mQ.sub (hs:zD P g g' w φ){c0:List Frame}:∀{bs bs':List bq} {lb:Nat} {cs:List Frame},mQ P g h w (sg.of c0) lb bs cs->Q8 φ bs=some bs'->mQ P g' h' w (sg.of c0) 0 bs' cs:=by
 intro bs
 induction bs with
 |nil=>intro bs' lb cs hc e;simp only[Q8,ahi]at e;subst e;exact hc
 |cons b bs ih=>
  intro bs' lb cs hc e
  simp only[mQ]at hc
  obtain⟨c,cr,lb1,rfl,h1,h2,h3⟩:=hc
  simp only[Q8]at e
  split at e
  ·rename_i b' r' hb hr
   cases e
   simp only[mQ]
   exact⟨c,cr,0,rfl,aho _,h2.sub hs hb,ih h3 hr⟩
  ·cases e
def Im {fL:List Nat}:∀{i:Nat} {cx:List BV} {vs:List Value},aq P g w cx vs->aq P g w (CU fL i cx) vs:=by
 intro i cx
 induction cx generalizing i with
 |nil=>intro vs h;exact h
 |cons v r ih=>
  intro vs h
  simp only[aq]at h
  obtain⟨u,ur,rfl,h1,h2⟩:=h
  simp only[CU]
  refine aq.cons ?_ (ih h2)
  split
  ·exact h1
  ·simp[ao]
def W4:∀{vf:List (Nat×TypeId)} {cx:List BV} {h:aj} {vs:List Value},bc P g h w->aq P g w cx vs->bc P g (yX vf cx h).2 w/\hJ g h w g (yX vf cx h).2 w/\aq P g w (yX vf cx h).1 vs:=by
 intro vf
 induction vf with
 |nil=>intro cx h vs hr hv;exact⟨hr,hJ.refl _ _ _,hv⟩
 |cons p r ih=>
  obtain⟨i,e⟩:=p
  intro cx h vs hr hv
  simp only[yX]
  split
  ·rename_i hn
   obtain⟨k1,k2⟩:=hr.N8 (.ak e [] true)
   have hv2:aq P g w (cx.set i (.aZ h.next 0 true)) vs:=by
    refine aq.rL (by simpa using hv.length) fun j b v hb hvj=>?_
    rw[aiK]at hb
    split at hb
    ·rename_i hij
     subst hij
     split at hb
     ·rename_i hlt
      cases hb
      have hold:cx[i]?=some .cX:=by
       rw[List.getD,ag7 hlt]at hn
       rw[ag7 hlt];exact ahE some hn
      obtain⟨v2,h1,h2⟩:=hv.get hold
      rw[hvj]at h1;cases h1
      simp only[ao]at h2 ⊢
      exact .inl ⟨⟨trivial,trivial⟩,.inl h2⟩
     ·cases hb
    ·obtain⟨v2,h1,h2⟩:=hv.get hb
     rw[hvj]at h1;cases h1;exact h2
   obtain⟨m1,m2,m3⟩:=ih k1 hv2
   exact⟨m1,k2.trans m2,m3⟩
  ·exact ih hr hv
def W3:∀{vf:List (Nat×TypeId)} {cx:List BV} {h:aj} (b:Nat),b<h.next->(yX vf cx h).2.get b=h.get b:=by
 intro vf
 induction vf with
 |nil=>intro cx h b _;rfl
 |cons p r ih=>
  obtain⟨i,e⟩:=p
  intro cx h b hb
  simp only[yX]
  split
  ·rw[ih b (by simp;omega),aj.eL,ag4 (by omega)]
  ·exact ih b hb
def aac {vf:List (Nat×TypeId)}{cx:List BV}(hl:lb<=h.next):sr lb g h g (yX vf cx h).2:=fun b hb hm _=>⟨hm,W3 b (by omega)⟩
def ay.frame {f:FuncId}{rs:List TypeId}{G:mR}{fL:List Nat}{vf:List (Nat×TypeId)}{fn:FuncId}{cx:List BV}{todo:List dI}{ds:List tN}{mode:TS}{kind:CallKind}{ro:Option Nat}{cs:List bq}{h:aj}
 (hm:mode= .run)(hno:∀d k,todo≠ .fY d::k)(he:ay P f rs G ⟨⟨fn,(yX vf (CU fL 0 cx) h).1,todo,ds,mode,kind,ro⟩,cs,(yX vf (CU fL 0 cx) h).2⟩):ay P f rs G ⟨⟨fn,cx,todo,ds,mode,kind,ro⟩,cs,h⟩:=by
 refine ay.Af (fun c0 g w lb fr cs1 hs=>?_) he
 obtain⟨hr,h2,h3,h4⟩:=hs
 have hrun:=h3.run hm
 unfold cZ at hrun
 dsimp only at hrun
 split at hrun
 ·rename_i d k;exact absurd rfl (hno d k)
 ·obtain⟨k1,k2,k3⟩:=W4 (vf:=vf) hr (Im (fL:=fL) (i:=0) hrun.1)
  have hph:sr lb g h g (yX vf (CU fL 0 cx) h).2:=aac h2
  refine⟨g,w,lb,fr,cs1,Steps.refl _ _,⟨k1,ahD h2 k2.next,?_,h4.mono k2.mono hph⟩,k2⟩
  refine⟨h3.fn,h3.kind,h3.oI,h3.defers,h3.mode,h3.round,fun _=>?_,fun hne=>absurd hm hne⟩
  unfold cZ
  dsimp only
  cases todo with
  |nil=>exact⟨k3,hrun.2⟩
  |cons i' r'=>cases i'<;>first|exact⟨k3,hrun.2⟩|exact absurd rfl (hno _ _)
def jx (g:Gh)(ren:List (Nat×Nat))(p:Nat)(fams:List (Nat×Nat)):Gh:=
 {m:=fun c=>match Bh ren c with|some a=>g.m a|none=>none,fz:=g.fz,
  s:=fun f' k=>match Nat.blt f' p with|true=>g.s f' k|false=>(match Bh fams f' with|some f=>g.s f k|none=>none)}
def sW {p n f f':Nat}:∀{ren:List (Nat×Nat)},(f,f')∈kx h p n ren->∃a c o,(a,c)∈ren/\h.get a=some o/\o.zp=some f/\f'=(if f<p then f else n+c):=by
 intro ren
 induction ren with
 |nil=>intro e;cases e
 |cons q r ih=>
  obtain⟨a,c⟩:=q
  intro e
  simp only[kx]at e
  split at e
  ·rename_i kt f1 el l st ck hb
   rcases ag9.1 e with e|e
   ·cases e
    refine⟨a,c,_,ahT,hb,rfl,?_⟩
    by_cases hf:f<p
    ·rw[ag8 hf,show Nat.blt f p=true by simpa [ai5]using hf]
    ·rw[ag4 hf]
     cases hh:Nat.blt f p with
     |true=>exact absurd (by simpa [ai5]using hh) hf
     |false=>rfl
   ·obtain⟨a',c',o,h1,h2⟩:=ih e;exact⟨a',c',o,ahB _ h1,h2⟩
  ·obtain⟨a',c',o,h1,h2⟩:=ih e;exact⟨a',c',o,ahB _ h1,h2⟩
def lL {o o':aI}(e:qh φ o=some o'){f':Nat}(hf:o'.zp=some f'):∃f,o.zp=some f/\φ.fm f=some f'/\∀k,o'.xi f' k=o.xi f k:=by
 cases o<;>simp only[qh,ahi]at e
 case bg kt vk l st ck=>
  cases vk with
  |data et=>simp only[qh,ahi]at e;subst e;cases hf
  |IZ=>simp only[qh,ahi]at e;subst e;cases hf
  |bY f et=>
   simp only[qh]at e
   split at e
   ·rename_i f1 hf1
    cases e;cases hf
    exact⟨f,rfl,hf1,fun k=>by simp[aI.xi]⟩
   ·cases e
 case gV=>split at e<;>(cases e;try cases hf)
 case loop=>split at e<;>(cases e;try cases hf)
 case deferred d=>
  cases d with
  |none=>simp only[qh,ahi]at e;subst e;cases hf
  |some d=>cases d<;>simp only[qh,ahi,reduceCtorEq]at e;subst e;cases hf
 all_goals first
  | (subst e;cases hf;done)
  | (cases e;done)
def Hw {o o':aI}(e:qh φ o=some o'):o.nC=some o/\o'.nC=some o':=by
 cases o<;>simp only[qh,ahi]at e
 case bg kt vk l st ck=>
  cases vk with
  |data et=>simp only[qh,ahi]at e;subst e;exact⟨rfl,rfl⟩
  |IZ=>simp only[qh,ahi]at e;subst e;exact⟨rfl,rfl⟩
  |bY f et=>
   simp only[qh]at e
   split at e
   ·cases e;exact⟨rfl,rfl⟩
   ·cases e
 case gV=>split at e<;>(cases e;try exact⟨rfl,rfl⟩)
 case loop=>split at e<;>(cases e;try exact⟨rfl,rfl⟩)
 case deferred d=>
  cases d with
  |none=>simp only[qh,ahi]at e;subst e;exact⟨rfl,rfl⟩
  |some d=>cases d<;>simp only[qh,ahi,reduceCtorEq]at e;subst e;exact⟨rfl,rfl⟩
 all_goals first
  | (subst e;exact⟨rfl,rfl⟩)
  | (cases e;done)
def Xn.nm:Xn->Nat
 | .aL b=>b
 | .el b _ _=>b
def S9 {ren:List (Nat×Nat)}:∀{p:Nat},MW ren p=true->∀i,i<p->(i,i)∈ren:=by
 intro p
 induction p with
 |zero=>intro _ i hi;omega
 |succ p ih=>
  intro e i hi
  simp only[MW,ag2]at e
  by_cases h:i=p
  ·subst h
   have h1:=e.1
   split at h1
   ·rename_i m hm
    have:=ahh h1
    subst this
    exact jv hm
   ·cases h1
  ·exact ih e.2 i (by omega)
def xh {ren fams:List (Nat×Nat)}{p:Nat}(hok:yR 0 ren.length [] [] ren=true){a c:Nat}(h:(a,c)∈ren):(jx g ren p fams).m c=g.m a:=by
 obtain⟨_,_,r3⟩:=xH hok
 show (match Bh ren c with|some a=>g.m a|none=>none)=g.m a
 rw[abx r3 h]
def Ib (hr:bc P g h w){ren:List (Nat×Nat)}{p n:Nat}(hok:yR 0 ren.length [] [] ren=true)(hpn:(p=0/\n=0)\/(p<=ren.length/\n=ren.length)){f1 f2 f':Nat}(h1:(f1,f')∈kx h p n ren)(h2:(f2,f')∈kx h p n ren):f1=f2:=by
 obtain⟨_,_,r3⟩:=xH hok
 obtain⟨a1,c1,o1,m1,g1,k1,e1⟩:=sW h1
 obtain⟨a2,c2,o2,m2,g2,k2,e2⟩:=sW h2
 by_cases hf1:f1<p
 ·rw[ag8 hf1]at e1
  by_cases hf2:f2<p
  ·rw[ag8 hf2]at e2;omega
  ·rw[ag4 hf2]at e2;rcases hpn with ⟨_,_⟩| ⟨_,_⟩<;>omega
 ·rw[ag4 hf1]at e1
  by_cases hf2:f2<p
  ·rw[ag8 hf2]at e2;rcases hpn with ⟨_,_⟩| ⟨_,_⟩<;>omega
  ·rw[ag4 hf2]at e2
   have:c1=c2:=by omega
   subst this
   have:=OG r3 m1 m2
   subst this
   rw[g1]at g2;cases g2
   rw[k1]at k2;cases k2;rfl
def MI (hr:bc P g h w){ren:List (Nat×Nat)}{p n:Nat}(hok:yR 0 ren.length [] [] ren=true){f f1 f2:Nat}(h1:(f,f1)∈kx h p n ren)(h2:(f,f2)∈kx h p n ren):f1=f2:=by
 obtain⟨_,_,r3⟩:=xH hok
 obtain⟨a1,c1,o1,m1,g1,k1,e1⟩:=sW h1
 obtain⟨a2,c2,o2,m2,g2,k2,e2⟩:=sW h2
 have:=hr.fu _ _ _ _ _ g1 g2 k1 k2
 subst this
 have:=Ho r3 m1 m2
 subst this
 rw[e1,e2]
def Pf (hr:bc P g h w){ren:List (Nat×Nat)}{p n:Nat}(hok:yR 0 ren.length [] [] ren=true)(hpn:(p=0/\n=0)\/(p<=ren.length/\n=ren.length)){f f':Nat}(hf:(f,f')∈kx h p n ren)(k:D):(jx g ren p (kx h p n ren)).s f' k=g.s f k:=by
 show (match Nat.blt f' p with|true=>g.s f' k|false=>(match Bh (kx h p n ren) f' with|some f=>g.s f k|none=>none))=g.s f k
 split
 ·rename_i hb
  have hb:f'<p:=by simpa [ai5]using hb
  obtain⟨a,c,o,_,_,_,e⟩:=sW hf
  by_cases hfp:f<p
  ·rw[ag8 hfp]at e;rw[e]
  ·rw[ag4 hfp]at e;rcases hpn with ⟨_,_⟩| ⟨_,_⟩<;>omega
 ·cases e:Bh (kx h p n ren) f' with
  |none=>exact absurd rfl (Ii e _ hf)
  |some f1=>rw[Ib hr hok hpn (lG e) hf]
def DT (hr:bc P g h w){ren:List (Nat×Nat)}{L:List (Nat×aI)}{p n:Nat}(hok:yR 0 ren.length [] [] ren=true)(hpn:(p=0/\n=0)\/(p<=ren.length/\n=ren.length))(hob:EC (Ep h p n ren) h ren=some L):
 zD P g (jx g ren p (kx h p n ren)) w (Ep h p n ren)/\bc P (jx g ren p (kx h p n ren)) (hL L) w/\(∀c,qO (jx g ren p (kx h p n ren)) (hL L) c->∃l o az,h.at l=some o/\g.at l=some (c,az)/\∃i,(l.nm,i)∈ren)/\L.length=ren.length/\Fu L=ren.map (·.2):=by
 obtain⟨r1,_,r3⟩:=xH hok
 obtain⟨o1,o2⟩:=KY hob
 have hlen:L.length=ren.length:=by
  have:=ahE List.length o1
  rw[KU]at this
  simpa using this
 generalize hfams:kx h p n ren=fams at*
 have fmem:∀{f f'},(f,f')∈fams->∃a c o,(a,c)∈ren/\h.get a=some o/\o.zp=some f/\f'=(if f<p then f else n+c):=fun {f f'} hm=>by rw[<-hfams]at hm;exact sW hm
 have finj:∀{f1 f2 f'},(f1,f')∈fams->(f2,f')∈fams->f1=f2:=fun {f1 f2 f'} h1 h2=>by rw[<-hfams]at h1 h2;exact Ib hr hok hpn h1 h2
 have fs:∀{f f'} (k:D),(f,f')∈fams->(jx g ren p fams).s f' k=g.s f k:=fun {f f'} k hm=>by rw[<-hfams]at hm ⊢;exact Pf hr hok hpn hm k
 have fass:∀{f f'},(Ep h p n ren).fm f=some f'->(f,f')∈fams:=fun {f f'} hm=>by rw[<-hfams];exact jv hm
 have BF:∀{f f'},(f,f')∈fams->f'<2*L.length:=fun {f f'} hm=>by
  obtain⟨a,c,o,h1,_,_,h2⟩:=fmem hm
  have:=(r1 _ h1).2.2.1
  rw[hlen]
  dsimp only at this
  by_cases hf:f<p
  ·rw[ag8 hf]at h2;rcases hpn with ⟨_,_⟩| ⟨_,_⟩<;>omega
  ·rw[ag4 hf]at h2;rcases hpn with ⟨_,_⟩| ⟨_,_⟩<;>omega
 have hs:zD P g (jx g ren p fams) w (Ep h p n ren):=⟨fun b c x hb hm=>by rw[xh hok (jv hb)];exact hm,fun _ hc=>hc,fun f f' k x hf hx=>by rw[fs k (fass hf)];exact hx⟩
 have hgm:∀c x,(jx g ren p fams).m c=some x->∃a,(a,c)∈ren/\g.m a=some x:=by
  intro c x hc
  change (match Bh ren c with|some a=>g.m a|none=>none)=some x at hc
  split at hc
  ·rename_i a ha;exact⟨a,lG ha,hc⟩
  ·cases hc
 have hgs:∀f' k x,(jx g ren p fams).s f' k=some x->(f'<p/\g.s f' k=some x)\/∃f,(f,f')∈fams/\g.s f k=some x:=by
  intro f' k x hc
  change (match Nat.blt f' p with|true=>g.s f' k|false=>(match Bh fams f' with|some f=>g.s f k|none=>none))=some x at hc
  split at hc
  ·rename_i hb;exact .inl ⟨by simpa [ai5]using hb,hc⟩
  ·split at hc
   ·rename_i f hf;exact .inr ⟨f,lG hf,hc⟩
   ·cases hc
 have hget:∀c o,(hL L).get c=some o->∃b ob,(b,c)∈ren/\h.get b=some ob/\qh (Ep h p n ren) ob=some o:=by
  intro c o hc
  rcases YG L .leaf hc with hc|hc
  ·obtain⟨b,ob,j1,j2,j3⟩:=o2 c o hc;exact⟨b,ob,j1,j2,j3⟩
  ·rw[Tr.pj]at hc;cases hc
 have hat:∀l o,(hL L).at l=some o->∃l1 ob,(l1.nm,l.nm)∈ren/\h.at l1=some ob/\(jx g ren p fams).at l=g.at l1/\(∀az co,cV P g w ob az co->cV P (jx g ren p fams) w o az co)/\
  ((∃a c,l1= .aL a/\l= .aL c)\/∃a c f f' k,l1= .el a f k/\l= .el c f' k/\(f,f')∈fams):=by
  intro l o hl
  cases l with
  |aL c=>
   obtain⟨h1,h2⟩:=aj.wR hl
   obtain⟨a,ob,j1,j2,j3⟩:=hget _ _ h1
   exact⟨.aL a,ob,j1,aj.fO j2 (Hw j3).1,xh hok j1,fun az co hor=>hor.sub hs j3,.inl ⟨a,c,rfl,rfl⟩⟩
  |el c f' k=>
   obtain⟨y,h1,h2⟩:=aj.Kl hl
   obtain⟨a,ob,j1,j2,j3⟩:=hget _ _ h1
   obtain⟨f,k1,k2,k3⟩:=lL j3 (aI.nk h2)
   rw[k3]at h2
   have hfm:=fass k2
   refine⟨.el a f k,o,j1,aj.BB j2 h2,fs k hfm,fun az co hor=>?_,.inr ⟨a,c,f,f',k,rfl,rfl,hfm⟩⟩
   have:∃el d,o= .ak el [d] false:=by
    cases ob<;>try (cases h2;done)
    case bg kt vk l st ck=>
     cases vk with
     |data et=>cases h2
     |IZ=>cases h2
     |bY f1 et=>
      simp only[aI.xi]at h2
      split at h2
      ·cases e:D.ep l k with
       |none=>rw[e]at h2;cases h2
       |some d=>rw[e]at h2;cases h2;exact⟨_,_,rfl⟩
      ·cases h2
   obtain⟨el,d,rfl⟩:=this
   exact(hor.sub (o':= .ak el [d] true) hs rfl:_)
 have hnm:Jq (jx g ren p fams) (hL L):=by
  refine⟨?_,?_,?_,?_,?_,?_,?_⟩
  ·intro c o hc;obtain⟨b,ob,j1,_⟩:=hget _ _ hc;have:=(r1 _ j1).2.2.1;show c<2*L.length;rw[hlen];dsimp only at this;omega
  ·intro c x hc;obtain⟨a,j1,_⟩:=hgm _ _ hc;have:=(r1 _ j1).2.2.1;show c<2*L.length;rw[hlen];dsimp only at this;omega
  ·intro f' k x hx
   show f'<2*L.length
   rcases hgs _ _ _ hx with ⟨h1,_⟩| ⟨f,h1,_⟩
   ·rw[hlen];rcases hpn with ⟨_,_⟩| ⟨_,_⟩<;>omega
   ·exact BF h1
  ·intro c o f' hc hf
   obtain⟨b,ob,j1,j2,j3⟩:=hget _ _ hc
   obtain⟨f,k1,k2,_⟩:=lL j3 hf
   exact BF (fass k2)
  ·intro c c' o o' f' hc hc' hf hf'
   obtain⟨b,ob,j1,j2,j3⟩:=hget _ _ hc
   obtain⟨b',ob',j1',j2',j3'⟩:=hget _ _ hc'
   obtain⟨f,k1,k2,_⟩:=lL j3 hf
   obtain⟨f1,k1',k2',_⟩:=lL j3' hf'
   have:=finj (fass k2) (fass k2')
   subst this
   have:=hr.fu _ _ _ _ _ j2 j2' k1 k1'
   subst this
   exact Ho r3 j1 j1'
  ·intro c o f' k x hc hf hx
   obtain⟨b,ob,j1,j2,j3⟩:=hget _ _ hc
   obtain⟨f,k1,k2,k3⟩:=lL j3 hf
   rw[fs k (fass k2)]at hx
   obtain⟨⟨o1,h1⟩,y,h2⟩:=hr.sk _ _ _ _ _ j2 k1 hx
   exact⟨⟨o1,by rw[k3];exact h1⟩,y,by rw[xh hok j1];exact h2⟩
  ·intro c b' f k hc
   obtain⟨b,ob,j1,j2,j3⟩:=hget _ _ hc
   exact absurd rfl (aI.Ae (Hw j3).2)
 refine⟨hs,hnm.M0 ?_ ?_ ?_ hr.mE,?_,hlen,o1⟩
 ·intro l aL az hl
  cases l with
  |aL c=>obtain⟨a,_,j2⟩:=hgm _ _ hl;exact hr.Xd _ _ _ j2
  |el c f' k=>
   rcases hgs _ _ _ hl with ⟨_,h1⟩| ⟨f,_,h1⟩
   ·exact hr.nv (.el c f' k) _ _ h1
   ·exact hr.nv (.el c f k) _ _ h1
 ·intro l l' aL az base' o o' hc hc' m1 m2
  obtain⟨l1,ob,j1,j2,j3,_,j5⟩:=hat _ _ hc
  obtain⟨l1',ob',j1',j2',j3',_,j5'⟩:=hat _ _ hc'
  rw[j3]at m1;rw[j3']at m2
  have:=hr.nw _ _ _ _ _ _ _ j2 j2' m1 m2
  subst this
  have hnm:=Ho r3 j1 j1'
  rcases j5 with ⟨a,c,rfl,rfl⟩| ⟨a,c,f,f',k,rfl,rfl,hf⟩
  ·rcases j5' with ⟨a',c',e1,rfl⟩| ⟨a',c',f1,f1',k',e1,rfl,hf'⟩
   ·change c=c' at hnm;rw[hnm]
   ·cases e1
  ·rcases j5' with ⟨a',c',e1,rfl⟩| ⟨a',c',f1,f1',k',e1,rfl,hf'⟩
   ·cases e1
   ·cases e1
    change c=c' at hnm
    have:f'=f1':=by rw[<-hfams]at hf hf';exact MI hr hok hf hf'
    rw[hnm,this]
 ·intro l o aL az hc m1
  obtain⟨l1,ob,j1,j2,j3,j4,_⟩:=hat _ _ hc
  rw[j3]at m1
  obtain⟨n1,o',n2,n3⟩:=hr.qJ _ _ _ _ j2 m1
  exact⟨n1,o',n2,j4 _ _ n3⟩
 ·rintro c ⟨l,o,az,hb,hm⟩
  obtain⟨l1,ob,j1,j2,j3,_,_⟩:=hat _ _ hb
  rw[j3]at hm
  exact⟨l1,ob,az,j2,hm,_,j1⟩
def Ko (hr:bc P g h w){ren fams:List (Nat×Nat)}{p q:Nat}(hq:q<=p)(hok:yR 0 ren.length [] [] ren=true)(hpin:MW ren p=true):RC q g (jx g ren p fams):=
 ⟨fun i hi x hx=>by rw[xh hok (S9 hpin i (by omega))];exact hx,fun i hi k x hx=>by
   show (match Nat.blt i p with|true=>g.s i k|false=>_)=some x
   rw[show Nat.blt i p=true by simp[ai5];omega];exact hx⟩
def Mx {f:FuncId}{rs:List TypeId}{G:mR}{p:Nat}(hp:G.p<=p){fL:List Nat}{vf:List (Nat×TypeId)}{s s':au}(e:NK p fL vf s=some s')(he:ay P f rs G s'):ay P f rs G s:=by
 obtain⟨⟨fn,cx,todo,ds,mode,kind,ro⟩,cs,h⟩:=s
 unfold NK at e
 dsimp only at e
 generalize hve:yX vf (CU fL 0 cx) h=eh at e
 obtain⟨env1,h1⟩:=eh
 dsimp only at e
 split at e
 ·rename_i seen hseen
  generalize hren:gB 0 seen=ren at e
  split at e
  ·rename_i fr' cs' L hok hfr hcs hob
   cases e
   simp only[ag2]at hok
   obtain⟨⟨hok,hpin⟩,hple⟩:=hok
   have hple:=aja hple
   have hmode:mode= .run/\∀d k,todo≠ .fY d::k:=by
    unfold Z6 at hfr
    dsimp only at hfr
    split at hfr
    ·rename_i t' d' r' ht _ _
     exact⟨rfl,fun d k hk=>by subst hk;simp[Hv,Z7]at ht⟩
    ·cases hfr
   refine ay.frame (fL:=fL) (vf:=vf) hmode.1 hmode.2 ?_
   rw[hve]
   dsimp only
   intro c0 g w lb fr cs1 hs
   obtain⟨hr,h2,h3,h4⟩:=hs
   dsimp only at hr h2 h3 h4
   obtain⟨q1,q2,q3,q4,_⟩:=DT hr hok (.inr ⟨hple,rfl⟩) hob
   obtain⟨w',fr2,v',g',h',m1,m2,m3,m4,m5,m6⟩:=he c0 _ w 0 fr cs1 ⟨q2,ai3 _,h3.sub q1 hfr,mQ.sub q1 h4 hcs⟩
   have hown:∀c,qO (jx g ren p (kx h1 p ren.length ren)) (hL L) c->qO g h1 c:=fun c hc=>by obtain⟨a,o,az,j1,j2,_⟩:=q3 c hc;exact⟨a,o,az,j1,j2⟩
   have hpn:=Ko (fams:=kx h1 p ren.length ren) hr hp hok hpin
   refine⟨w',fr2,v',g',h',m1,m2,m3,⟨m4.size,fun c hc ho=>m4.oR c hc fun h=>ho (hown c h),m4.fz,fun c hc hf=>(m4.Sl c hc hf).imp id (hown c),m4.mE,fun c hc ho=>hown c (m4.nC c hc ho),m4.ms,m4.os⟩,⟨fun i hi x hx=>m5.m i hi x (hpn.m i hi x hx),fun i hi k x hx=>m5.s i hi k x (hpn.s i hi k x hx)⟩,m6⟩
  ·cases e
 ·cases e
def afg (P:Program)(p:Nat)(cut:au->Option au):Prop:=
 ∀(f:FuncId) (rs:List TypeId) (G:mR) (s s':au),G.p<=p->cut s=some s'->ay P f rs G s'->ay P f rs G s
def Ue (P:Program)(p:Nat):∀(l:List FU),afg P p (X3 p l):=by
 intro l
 induction l with
 |nil=>intro f rs G s s' _ e;cases e
 |cons c r ih=>
  intro f rs G s s' hp e he
  simp only[X3]at e
  split at e
  ·split at e
   ·rename_i s1 h1
    exact Mx hp h1 (Mx hp e he)
   ·cases e
  ·exact ih f rs G s s' hp e he
def RX (p:Nat)(h:aj)(v:BV):Option (BV×List (Nat×aI)):=
 match zm h 300 (aeu p 0++KW v) []with
 |some seen=>
  (match yR 0 (gB 0 seen).length [] [] (gB 0 seen)&&MW (gB 0 seen) p&&Nat.ble p (gB 0 seen).length,EC (Ep h p (gB 0 seen).length (gB 0 seen)) h (gB 0 seen)with
  |true,some L=>some (sZ (Ep h p (gB 0 seen).length (gB 0 seen)) v,L)
  |_,_=>none)
 |none=>none
mutual
def ao.Ig:∀(b:BV) (v:Value),ao P g w b v->∀x,(x,false)∈KW b->g.m x≠none
 | .aP b off,v,h,x,hx=>by simp only[KW,ahb,ah3]at hx;simp only[ao]at h;obtain⟨_,_,hm,_⟩:=h;rw[hx.1,hm];simp
 | .wq cs,v,h,x,hx=>by simp only[KW]at hx;simp only[ao]at h;obtain⟨_,_,_,_,vs,hv,_⟩:=h;exact aq.Ig cs vs hv x hx
 | .aZ b n vt,v,h,x,hx=>by
   simp only[KW,ahb,ah3]at hx
   simp only[ao]at h
   rcases h with ⟨⟨h1,_⟩,_⟩| ⟨_,_,_,hm,_⟩
   ·rw[<-hx.2]at h1;cases h1
   ·rw[hx.1,hm];simp
 | .vO b e i off,v,h,x,hx=>by simp only[KW,ahb,ah3]at hx;simp only[ao]at h;obtain⟨_,_,hm,_⟩:=h;rw[hx.1,hm];simp
 | .oQ b f k off,v,h,x,hx=>by simp only[KW,ahb,ah3]at hx;simp only[ao]at h;obtain⟨_,_,_,_,y,hy⟩:=h;rw[hx.1,hy];simp
 | .map b,v,h,x,hx=>by simp only[KW,ahb,ah3]at hx;simp only[ao]at h;obtain⟨_,hm,_⟩:=h;rw[hx.1,hm];simp
 | .func fn a c,v,h,x,hx=>by
   simp only[KW,ahd]at hx;simp only[ao]at h;obtain⟨_,_,_,ha,hc⟩:=h
   rcases hx with hx|hx
   ·exact aq.Ig a _ ha x hx
   ·exact aq.Ig c _ hc x hx
 | .yield l,v,h,x,hx=>by simp only[KW,ahb,ah3]at hx;simp only[ao]at h;obtain⟨_,hm,_⟩:=h;rw[hx.1,hm];simp
 | .agg cs,v,h,x,hx=>by simp only[KW]at hx;simp only[ao]at h;obtain⟨vs,_,hv⟩:=h;exact aq.Ig cs _ hv x hx
 | .tuple cs,v,h,x,hx=>by simp only[KW]at hx;simp only[ao]at h;obtain⟨vs,_,hv⟩:=h;exact aq.Ig cs _ hv x hx
 | .lH,_,_,x,hx=>by simp[KW]at hx
 | .bool _,_,_,x,hx=>by simp[KW]at hx
 | .int _ _,_,_,x,hx=>by simp[KW]at hx
 | .b8 _,_,_,x,hx=>by simp[KW]at hx
 | .nA,_,_,x,hx=>by simp[KW]at hx
 | .cX,_,_,x,hx=>by simp[KW]at hx
 | .kR,_,_,x,hx=>by simp[KW]at hx
 | .bw _ _,_,_,x,hx=>by simp[KW]at hx
 | .Fi _ _,_,_,x,hx=>by simp[KW]at hx
 | .LM,_,_,x,hx=>by simp[KW]at hx
def aq.Ig:∀(bs:List BV) (vs:List Value),aq P g w bs vs->∀x,(x,false)∈Bp bs->g.m x≠none
 | [],_,_,x,hx=>by simp[Bp]at hx
 |b::bs,vs,h,x,hx=>by
  simp only[Bp,ahd]at hx
  simp only[aq]at h
  obtain⟨v,vr,rfl,h1,h2⟩:=h
  rcases hx with hx|hx
  ·exact ao.Ig b v h1 x hx
  ·exact aq.Ig bs vr h2 x hx
end
def cV.Ig {o:aI}{az:Nat}{co:Obj}(h:cV P g w o az co):∀x,(x,false)∈Xf o->g.m x≠none:=by
 intro x hx
 cases o with
 |cells cs e s=>simp only[Xf]at hx;simp only[cV]at h;obtain⟨_,_,_,_,⟨vs,hv,_⟩,_⟩:=h;exact aq.Ig cs vs hv x hx
 |gV m ks st ck seen=>simp only[Xf,ahb,ah3]at hx;simp only[cV]at h;obtain⟨_,_,hm,_⟩:=h;rw[hx.1,hm];simp
 |loop b=>
  simp only[Xf,ag9,ah3]at hx;simp only[cV]at h;obtain⟨_,l,_,_,_,_,ht,_,_,_,hd⟩:=h
  rcases hx with ⟨rfl,_⟩|hx
  ·rw[hd];simp
  ·exact aq.Ig _ _ ht x hx
 |_=>simp[Xf]at hx
def Vi {y:Nat}{b:Bool}:∀{l:List (Nat×Bool)},(y,b)∈CQ l++Lo l->(y,b)∈l:=by
 intro l h
 have h1:∀l:List (Nat×Bool),(y,b)∈CQ l->(y,b)∈l:=by
  intro l
  induction l with
  |nil=>intro h;exact h
  |cons p r ih=>
   obtain⟨x,c⟩:=p
   intro h
   cases c with
   |true=>exact ahB _ (ih h)
   |false=>
    simp only[CQ]at h
    rcases ag9.1 h with h|h
    ·rw[h];exact ahT
    ·exact ahB _ (ih h)
 have h2:∀l:List (Nat×Bool),(y,b)∈Lo l->(y,b)∈l:=by
  intro l
  induction l with
  |nil=>intro h;exact h
  |cons p r ih=>
   obtain⟨x,c⟩:=p
   intro h
   cases c with
   |false=>exact ahB _ (ih h)
   |true=>
    simp only[Lo]at h
    rcases ag9.1 h with h|h
    ·rw[h];exact ahT
    ·exact ahB _ (ih h)
 rcases ahd.1 h with h|h
 ·exact h1 l h
 ·exact h2 l h
def QM (hr:bc P g h w):∀(n:Nat) {todo:List (Nat×Bool)} {seen l:List Nat},zm h n todo seen=some l->(∀x,(x,false)∈todo->g.m x≠none)->∀b∈l,b∈seen\/(g.m b=none->r8 (h.get b)=true):=by
 intro n
 induction n with
 |zero=>intro todo seen l e;cases e
 |succ n ih=>
  intro todo seen l e ht b hb
  cases todo with
  |nil=>simp only[zm,ahi]at e;subst e;exact .inl hb
  |cons p r=>
   obtain⟨x,vt⟩:=p
   have htr:∀y,(y,false)∈r->g.m y≠none:=fun y hy=>ht y (ahB _ hy)
   simp only[zm]at e
   split at e
   ·exact ih e htr b hb
   ·rename_i o ho
    split at e
    ·cases e
    ·rename_i hvt
     split at e
     ·exact ih e htr b hb
     ·have hgood:g.m x=none->r8 (h.get x)=true:=by
       intro hm
       cases vt with
       |false=>exact absurd hm (ht x ahT)
       |true=>rw[ho];simpa using hvt
      have hnext:∀y,(y,false)∈r++(CQ (Xf o)++Lo (Xf o))->g.m y≠none:=by
       intro y hy
       rcases ahd.1 hy with hy|hy
       ·exact htr y hy
       ·have hy:=Vi hy
        cases hm:g.m x with
        |none=>
         have:=hgood hm
         rw[ho]at this
         cases o<;>simp[r8]at this
         simp[Xf]at hy
        |some q=>
         obtain⟨aL,az⟩:=q
         cases hoo:o.nC with
         |none=>cases o<;>first| (simp[Xf]at hy;done)|cases hoo
         |some o2=>
          have:=aI.P1 hoo
          obtain⟨rfl,hoo⟩:=this
          obtain⟨_,o',_,hor⟩:=hr.Xg _ _ _ _ ho hm hoo
          exact hor.Ig y hy
      rcases ih e hnext b hb with h1|h1
      ·rcases ahd.1 h1 with h1|h1
       ·exact .inl h1
       ·simp at h1;subst h1;exact .inr hgood
      ·exact .inr h1
def SC {i:Nat}{o:aI}:∀{L:List (Nat×aI)},(i,o)∈L->(L.map (·.1)).Nodup->∀t:Tr aI,Tr.get (LL L t) i=some o:=by
 intro L
 induction L with
 |nil=>intro h;cases h
 |cons q r ih=>
  obtain⟨j,oj⟩:=q
  intro h hn t
  rw[ahJ,ahO]at hn
  simp only[LL]
  rcases ag9.1 h with h|h
  ·cases h
   rw[SD r _ fun p hp he=>hn.1 (ahp.2 ⟨p,hp,he⟩),Tr.Bb _ _ _ _ _ (by omega),ag8 rfl]
  ·exact ih h hn.2 _
def zF (ren:List (Nat×Nat))(p next i:Nat):Option Nat:=match Nat.blt i p with|true=>Bh ren i|false=>some (next+(i-p))
def Eu (fams:List (Nat×Nat))(p next f:Nat):Option Nat:=match Nat.blt f p with|true=>Bh fams f|false=>some (next+(f-p))
def Ms (h:aj)(ren:List (Nat×Nat))(p:Nat):Kg:=⟨zF ren p h.next,Eu (kx h 0 0 ren) p h.next⟩
def Zu (ψ:Kg):List (Nat×aI)->aj->Option aj
 | [],h=>some h
 | (i,o)::r,h=>match ψ.rn i,qh ψ o with|some b,some o'=>Zu ψ r (h.put b (some o'))|_,_=>none
def D3:Nat->List (Nat×aI)->Bool
 |_,[]=>true
 |n,(i,_)::r=>Nat.beq n i&&D3 (n+1) r
def Yl:List (Nat×Bool)->List Nat
 | []=>[]
 | (b,_)::r=>b::Yl r
def ML (h:aj):Nat->List Nat->List Nat->List Nat
 |0,_,acc=>acc
 |_+1,[],acc=>acc
 |n+1,b::r,acc=>match SB acc b with
  |true=>ML h n r acc
  |false=>(match h.get b with
   |some o=>ML h n (r++Yl (CQ (Xf o))) (acc++[b])
   |none=>ML h n r (acc++[b]))
def JT (hs:List Nat):List Nat->Nat
 | []=>0
 |b::r=>match SB hs b with|true=>Nat.succ (JT hs r)|false=>0
def NF (h:aj)(ren:List (Nat×Nat))(seen:List Nat)(p:Nat)(L:List (Nat×aI)):Option aj:=
 match D3 0 L,Zu (Ms h ren p) L (dA h seen)with
 |true,some h1=>some ⟨h1.next+2*L.length,h1.tr⟩
 |_,_=>none
def KT:∀{L:List (Nat×aI)} {n:Nat},D3 n L=true->(∀p∈L,n<=p.1/\p.1<n+L.length)/\(L.map (·.1)).Nodup:=by
 intro L
 induction L with
 |nil=>intro n _;exact⟨fun p hp=>(by cases hp),ajC⟩
 |cons q r ih=>
  obtain⟨i,o⟩:=q
  intro n e
  simp only[D3,ag2]at e
  have:=ahh e.1
  subst this
  obtain⟨h1,h2⟩:=ih e.2
  refine⟨fun p hp=>?_,?_⟩
  ·rcases ag9.1 hp with rfl|hp
   ·simp
   ·have:=h1 p hp;simp only[ahv];omega
  ·rw[ahJ,ahO]
   refine⟨fun hm=>?_,h2⟩
   obtain⟨p,hp,he⟩:=ahp.1 hm
   have:=(h1 p hp).1
   dsimp only at he;omega
def Wt {ψ:Kg}:∀{L:List (Nat×aI)} {h h1:aj},Zu ψ L h=some h1->(L.map (·.1)).Nodup->(∀i j b,ψ.rn i=some b->ψ.rn j=some b->i∈L.map (·.1)->j∈L.map (·.1)->i=j)->
 h1.next=h.next/\(∀i o,(i,o)∈L->∃b o',ψ.rn i=some b/\qh ψ o=some o'/\h1.get b=some o')/\∀b,(∀i,i∈L.map (·.1)->ψ.rn i≠some b)->h1.get b=h.get b:=by
 intro L
 induction L with
 |nil=>intro h h1 e _ _;simp only[Zu,ahi]at e;subst e;exact⟨rfl,fun i o hi=>(by cases hi),fun b _=>rfl⟩
 |cons q r ih=>
  obtain⟨i,o⟩:=q
  intro h h1 e hnd hinj
  simp only[Zu]at e
  split at e
  ·rename_i b o' hb ho
   rw[ahJ,ahO]at hnd
   obtain⟨k1,k2,k3⟩:=ih e hnd.2 fun i j b h1 h2 h3 h4=>hinj i j b h1 h2 (ahB _ h3) (ahB _ h4)
   refine⟨by simpa using k1,fun j oj hj=>?_,fun b1 hb1=>?_⟩
   ·rcases ag9.1 hj with hj|hj
    ·cases hj
     refine⟨b,o',hb,ho,?_⟩
     have hno:∀j,j∈r.map (·.1)->ψ.rn j≠some b:=fun j2 hj2 he2=>by
      have h5:=hinj j2 _ b he2 hb (ahB _ hj2) ahT
      try dsimp only at h5
      rw[h5]at hj2
      exact hnd.1 hj2
     rw[k3 b hno,aj.fe,ag8 rfl]
    ·exact k2 j oj hj
   ·rw[k3 b1 fun j hj=>hb1 j (ahB _ hj),aj.fe,ag4]
    intro he;subst he;exact hb1 i ahT hb
  ·cases e
def YP {b i:Nat}:∀{l:List Nat} {n:Nat},(b,i)∈gB n l->b∈l:=by
 intro l
 induction l with
 |nil=>intro n h;cases h
 |cons x r ih=>
  intro n h
  rcases ag9.1 h with h|h
  ·cases h;exact ahT
  ·exact ahB _ (ih h)
def XL {w':World}(hr:bc P g h w){seen:List Nat}{L L':List (Nat×aI)}{p:Nat}{h2:aj}(hgood:∀b∈seen,g.m b=none->r8 (h.get b)=true)
 (hok:yR 0 (gB 0 seen).length [] [] (gB 0 seen)=true)(hob:EC (Ep h 0 0 (gB 0 seen)) h (gB 0 seen)=some L)(hbk:NF h (gB 0 seen) seen p L'=some h2)
 (hx:Cn (jx g (gB 0 seen) 0 (kx h 0 0 (gB 0 seen))) (hL L) w g' (hL L') w')(hpin:RC p (jx g (gB 0 seen) 0 (kx h 0 0 (gB 0 seen))) g')(hr':bc P g' (hL L') w'):
 ∃g2,zD P g' g2 w' (Ms h (gB 0 seen) p)/\bc P g2 h2 w'/\hJ g h w g2 h2 w'/\∀lb,lb<=h.next->sr lb g h g2 h2:=by
 obtain⟨q1,q2,q3,q4,_⟩:=DT hr hok (.inl ⟨rfl,rfl⟩) hob
 obtain⟨r1,_,r3⟩:=xH hok
 obtain⟨o1,o2⟩:=KY hob
 generalize hren:gB 0 seen=ren at*
 unfold NF at hbk
 split at hbk
 case h_2=>cases hbk
 rename_i h1 hnm hput
 cases hbk
 obtain⟨n1,n2⟩:=KT hnm
 have hseen:∀b i,(b,i)∈ren->b∈seen:=fun b i hi=>by rw[<-hren]at hi;exact YP hi
 have hgetS:∀b i,(b,i)∈ren->∃o,h.get b=some o:=fun b i hi=>by
  have:i∈Fu L:=by rw[o1];exact ahp.2 ⟨(b,i),hi,rfl⟩
  rw[KU]at this
  obtain⟨q,hq,hqi⟩:=ahp.1 this
  obtain⟨c,o⟩:=q
  dsimp only at hqi;subst hqi
  obtain⟨b',ob,j1,j2,_⟩:=o2 _ _ hq
  have:=OG r3 hi j1
  subst this;exact⟨ob,j2⟩
 have hlt:∀b i,(b,i)∈ren->b<h.next:=fun b i hi=>by obtain⟨o,ho⟩:=hgetS b i hi;exact hr.Jt _ _ ho
 generalize hfams:kx h 0 0 ren=fams at*
 have fmem:∀{f f'},(f,f')∈fams->∃a o,(a,f')∈ren/\h.get a=some o/\o.zp=some f:=fun {f f'} hm=>by
  rw[<-hfams]at hm
  obtain⟨a,c,o,h1,h2,h3,h4⟩:=sW hm
  rw[ag4 (akf _),ah2]at h4
  subst h4
  exact⟨a,o,h1,h2,h3⟩
 have finj:∀{f1 f2 f'},(f1,f')∈fams->(f2,f')∈fams->f1=f2:=fun {f1 f2 f'} h1 h2=>by rw[<-hfams]at h1 h2;exact Ib hr hok (.inl ⟨rfl,rfl⟩) h1 h2
 have ffun:∀{f f1 f2},(f,f1)∈fams->(f,f2)∈fams->f1=f2:=fun {f f1 f2} h1 h2=>by rw[<-hfams]at h1 h2;exact MI hr hok h1 h2
 have fs:∀{f f'} (k:D),(f,f')∈fams->(jx g ren 0 fams).s f' k=g.s f k:=fun {f f'} k hm=>by rw[<-hfams]at hm ⊢;exact Pf hr hok (.inl ⟨rfl,rfl⟩) hm k
 have BF:∀{f f'},(f,f')∈fams->f<h.next:=fun {f f'} hm=>by obtain⟨a,o,_,h2,h3⟩:=fmem hm;exact hr.BF _ _ _ h2 h3
 have fseen:∀{f f'} {b:Nat} {o:aI},(f,f')∈fams->h.get b=some o->o.zp=some f->b∈seen:=fun {f f' b o} hm h1 h2=>by
  obtain⟨a,oa,h3,h4,h5⟩:=fmem hm
  rw[hr.fu _ _ _ _ _ h1 h4 h2 h5];exact hseen _ _ h3
 let g2:Gh:={m:=fun x=>if x<h.next then (match fN ren x with|some i=>(if i<p then g'.m i else g.m x)|none=>g.m x)else g'.m (p+(x-h.next)),fz:=g'.fz,s:=fun f k=>if f<h.next then (match fN fams f with|some f'=>(if f'<p then g'.s f' k else g.s f k)|none=>g.s f k)else g'.s (p+(f-h.next)) k}
 have rfun:∀{b i j},(b,i)∈ren->(b,j)∈ren->i=j:=fun h1 h2=>Ho r3 h1 h2
 have g2old:∀x,x<h.next->(∀i,(x,i)∈ren->¬i<p)->g2.m x=g.m x:=fun x hx hno=>by
  show (if x<h.next then (match fN ren x with|some i=>(if i<p then g'.m i else g.m x)|none=>g.m x)else _)=_
  rw[ag8 hx]
  cases e:fN ren x with
  |none=>rfl
  |some i=>dsimp only;rw[ag4 (hno i (jv e))]
 have g2pin:∀b i,(b,i)∈ren->i<p->g2.m b=g'.m i:=fun b i hm hp=>by
  show (if b<h.next then (match fN ren b with|some i=>(if i<p then g'.m i else g.m b)|none=>g.m b)else _)=_
  rw[ag8 (hlt _ _ hm)]
  cases e:fN ren b with
  |none=>exact absurd rfl (Cq e _ hm)
  |some j=>
   have:=rfun (jv e) hm
   subst this
   dsimp only;rw[ag8 hp]
 have g2mono:∀b x,g.m b=some x->g2.m b=some x:=fun b x hm=>by
  have hb:=hr.lt _ _ hm
  show (if b<h.next then (match fN ren b with|some i=>(if i<p then g'.m i else g.m b)|none=>g.m b)else _)=_
  rw[ag8 hb]
  cases e:fN ren b with
  |none=>exact hm
  |some i=>
   dsimp only
   split
   ·rename_i hp;exact hpin.m i hp x (by rw[xh hok (jv e)];exact hm)
   ·exact hm
 have g2ge:∀k,g2.m (h.next+k)=g'.m (p+k):=fun k=>by
  show (if h.next+k<h.next then _ else g'.m (p+(h.next+k-h.next)))=_
  rw[ag4 (by omega),ajx]
 have s2ge:∀f k,g2.s (h.next+f) k=g'.s (p+f) k:=fun f k=>by
  show (if h.next+f<h.next then _ else g'.s (p+(h.next+f-h.next)) k)=_
  rw[ag4 (by omega),ajx]
 have s2pin:∀{f f'} (k:D),(f,f')∈fams->f'<p->g2.s f k=g'.s f' k:=fun {f f'} k hm hp=>by
  show (if f<h.next then (match fN fams f with|some f'=>(if f'<p then g'.s f' k else g.s f k)|none=>g.s f k)else _)=_
  rw[ag8 (BF hm)]
  cases e:fN fams f with
  |none=>exact absurd rfl (Cq e _ hm)
  |some f1=>
   have:=ffun (jv e) hm
   subst this
   dsimp only;rw[ag8 hp]
 have s2old:∀f (k:D),f<h.next->(∀f',(f,f')∉fams)->g2.s f k=g.s f k:=fun f k hf hno=>by
  show (if f<h.next then (match fN fams f with|some f'=>(if f'<p then g'.s f' k else g.s f k)|none=>g.s f k)else _)=_
  rw[ag8 hf]
  cases e:fN fams f with
  |none=>rfl
  |some f1=>exact absurd (jv e) (hno f1)
 have s2mono:∀f k x,g.s f k=some x->g2.s f k=some x:=fun f k x hs=>by
  have hf:=hr.FJ _ _ _ hs
  show (if f<h.next then (match fN fams f with|some f'=>(if f'<p then g'.s f' k else g.s f k)|none=>g.s f k)else _)=_
  rw[ag8 hf]
  cases e:fN fams f with
  |none=>exact hs
  |some f1=>
   dsimp only
   split
   ·rename_i hp;exact hpin.s f1 hp k x (by rw[fs k (jv e)];exact hs)
   ·exact hs
 have hrn:∀i b,zF ren p h.next i=some b->(i<p/\Bh ren i=some b)\/(p<=i/\b=h.next+(i-p)):=fun i b hb=>by
  unfold zF at hb
  split at hb
  ·rename_i hlt;exact .inl ⟨by simpa [ai5]using hlt,hb⟩
  ·rename_i hlt;cases hb;exact .inr ⟨by
    have:¬(i<p):=fun hc=>by rw[show Nat.blt i p=true by simpa [ai5]using hc]at hlt;cases hlt
    omega,rfl⟩
 have hfn:∀f' f,Eu fams p h.next f'=some f->(f'<p/\(f,f')∈fams)\/(p<=f'/\f=h.next+(f'-p)):=fun i b hb=>by
  unfold Eu at hb
  split at hb
  ·rename_i hlt;exact .inl ⟨by simpa [ai5]using hlt,lG hb⟩
  ·rename_i hlt;cases hb;exact .inr ⟨by
    have:¬(i<p):=fun hc=>by rw[show Nat.blt i p=true by simpa [ai5]using hc]at hlt;cases hlt
    omega,rfl⟩
 have hg2:∀i b,zF ren p h.next i=some b->g2.m b=g'.m i:=fun i b hb=>by
  rcases hrn i b hb with ⟨hi,hb⟩| ⟨hi,rfl⟩
  ·exact g2pin b i (lG hb) hi
  ·rw[g2ge];congr 1;omega
 have hs2:∀f' f (k:D),Eu fams p h.next f'=some f->g2.s f k=g'.s f' k:=fun f' f k hb=>by
  rcases hfn f' f hb with ⟨hi,hb⟩| ⟨hi,rfl⟩
  ·exact s2pin k hb hi
  ·rw[s2ge];congr 1;omega
 have hbs:Ms h ren p=⟨zF ren p h.next,Eu fams p h.next⟩:=by unfold Ms;rw[hfams]
 rw[hbs]at hput ⊢
 have hs:zD P g' g2 w' ⟨zF ren p h.next,Eu fams p h.next⟩:=⟨fun i b x hb hm=>by rw[hg2 i b hb];exact hm,fun _ hc=>hc,fun f' f k x hf hx=>by rw[hs2 f' f k hf];exact hx⟩
 have hinj:∀i j b,zF ren p h.next i=some b->zF ren p h.next j=some b->i=j:=fun i j b hi hj=>by
  rcases hrn i b hi with ⟨h3,h4⟩| ⟨h3,h4⟩<;>rcases hrn j b hj with ⟨h5,h6⟩| ⟨h5,h6⟩
  ·exact Ho r3 (lG h4) (lG h6)
  ·have:=hlt _ _ (lG h4);omega
  ·have:=hlt _ _ (lG h6);omega
  ·omega
 have finj2:∀f1 f2 f,Eu fams p h.next f1=some f->Eu fams p h.next f2=some f->f1=f2:=fun i j b hi hj=>by
  rcases hfn i b hi with ⟨h3,h4⟩| ⟨h3,h4⟩<;>rcases hfn j b hj with ⟨h5,h6⟩| ⟨h5,h6⟩
  ·exact ffun h4 h6
  ·have:=BF h4;omega
  ·have:=BF h6;omega
  ·omega
 obtain⟨p1,p2,p3⟩:=Wt hput n2 fun i j b hi hj _ _=>hinj i j b hi hj
 rw[kP]at p1
 have hget:∀b o,h1.get b=some o->(b∉seen/\h.get b=some o)\/∃i oi,(i,oi)∈L'/\zF ren p h.next i=some b/\qh ⟨zF ren p h.next,Eu fams p h.next⟩ oi=some o:=fun b o hb=>by
  by_cases hex:∃i,i∈L'.map (·.1)/\zF ren p h.next i=some b
  ·obtain⟨i,hi,hib⟩:=hex
   obtain⟨q,hq,hqi⟩:=ahp.1 hi
   obtain⟨i',oi⟩:=q
   dsimp only at hqi;subst hqi
   obtain⟨b',o',k1,k2,k3⟩:=p2 _ _ hq
   dsimp only at k1
   rw[hib]at k1;cases k1
   rw[hb]at k3;cases k3
   exact .inr ⟨i',oi,hq,hib,k2⟩
  ·rw[p3 b fun i hi he=>hex ⟨i,hi,he⟩,zR]at hb
   split at hb
   ·cases hb
   ·rename_i hns;exact .inl ⟨hns,hb⟩
 have hLget:∀i oi,(i,oi)∈L'->(hL L').get i=some oi:=fun i oi hi=>by
  show Tr.get (LL L' .leaf) i=some oi
  exact SC hi n2 .leaf
 have hownL:∀c,qO (jx g ren 0 fams) (hL L) c->∃l o az,h.at l=some o/\g.at l=some (c,az)/\l.nm∈seen:=fun c hc=>by
  obtain⟨a,o,az,j1,j2,i,j3⟩:=q3 c hc
  exact⟨a,o,az,j1,j2,hseen _ _ j3⟩
 have hnot:∀l o aL az,l.nm∉seen->h.at l=some o->g.at l=some (aL,az)->¬qO (jx g ren 0 fams) (hL L) aL:=fun b o aL az hb ho hm hown=>by
  obtain⟨a,oa,base',j1,j2,j3⟩:=hownL aL hown
  exact hb (hr.nw _ _ _ _ _ _ _ ho j1 hm j2▸j3)
 have hmono:eC g w g2 w':=⟨g2mono,fun c hc=>hx.fz c hc,fun c hc=>hx.oR c (hr.mE c hc) (q2.NZ hc),hx.ms,s2mono⟩
 have hat:∀l o,(⟨h1.next+2*L'.length,h1.tr⟩:aj).at l=some o->(l.nm∉seen/\h.at l=some o/\g2.at l=g.at l)\/
  ∃l1 oi,(hL L').at l1=some oi/\g2.at l=g'.at l1/\(∀az co,cV P g' w' oi az co->cV P g2 w' o az co)/\
   ((∃i b,l1= .aL i/\l= .aL b/\zF ren p h.next i=some b)\/∃i b f' f k,l1= .el i f' k/\l= .el b f k/\zF ren p h.next i=some b/\Eu fams p h.next f'=some f):=by
  intro l o hl
  cases l with
  |aL b=>
   obtain⟨e1,e2⟩:=aj.wR hl
   rcases hget b o e1 with ⟨k1,k2⟩| ⟨i,oi,k1,k2,k3⟩
   ·exact .inl ⟨k1,aj.fO k2 e2,g2old _ (hr.Jt _ _ k2) fun i hi _=>k1 (hseen _ _ hi)⟩
   ·exact .inr ⟨.aL i,oi,aj.fO (hLget _ _ k1) (Hw k3).1,hg2 _ _ k2,fun az co hor=>hor.sub hs k3,.inl ⟨i,b,rfl,rfl,k2⟩⟩
  |el b f k=>
   obtain⟨y,e1,e2⟩:=aj.Kl hl
   rcases hget b y e1 with ⟨k1,k2⟩| ⟨i,oi,k1,k2,k3⟩
   ·have hfam:=aI.nk e2
    refine .inl ⟨k1,aj.BB k2 e2,s2old f k (hr.BF _ _ _ k2 hfam) fun f' hm=>k1 (fseen hm k2 hfam)⟩
   ·obtain⟨f',j1,j2,j3⟩:=lL k3 (aI.nk e2)
    rw[j3]at e2
    refine .inr ⟨.el i f' k,o,aj.BB (hLget _ _ k1) e2,hs2 f' f k j2,fun az co hor=>?_,.inr ⟨i,b,f',f,k,rfl,rfl,k2,j2⟩⟩
    have:∃el d,o= .ak el [d] false:=by
     cases oi<;>try (cases e2;done)
     case bg kt vk l st ck=>
      cases vk with
      |data et=>cases e2
      |IZ=>cases e2
      |bY f1 et=>
       simp only[aI.xi]at e2
       split at e2
       ·cases e:D.ep l k with
        |none=>rw[e]at e2;cases e2
        |some d=>rw[e]at e2;cases e2;exact⟨_,_,rfl⟩
       ·cases e2
    obtain⟨el,d,rfl⟩:=this
    exact(hor.sub (o':= .ak el [d] true) hs rfl:_)
 have hnmH:Jq g2 ⟨h1.next+2*L'.length,h1.tr⟩:=by
  refine⟨?_,?_,?_,?_,?_,?_,?_⟩
  ·intro b o hb
   show b<h1.next+2*L'.length
   rw[p1]
   rcases hget b o hb with ⟨_,h3⟩| ⟨i,oi,h3,h4,_⟩
   ·have:=hr.Jt _ _ h3;omega
   ·have:=(n1 _ h3).2
    rcases hrn i b h4 with ⟨h5,h6⟩| ⟨h5,rfl⟩
    ·have:=hlt _ _ (lG h6);omega
    ·dsimp only at this;omega
  ·intro b x hb
   show b<h1.next+2*L'.length
   rw[p1]
   by_cases hbl:b<h.next
   ·omega
   ·have:b=h.next+(b-h.next):=by omega
    rw[this,g2ge]at hb
    have:=hr'.lt _ _ hb
    change p+(b-h.next)<2*L'.length at this
    omega
  ·intro f k x hb
   show f<h1.next+2*L'.length
   rw[p1]
   by_cases hbl:f<h.next
   ·omega
   ·have:f=h.next+(f-h.next):=by omega
    rw[this,s2ge]at hb
    have:=hr'.FJ _ _ _ hb
    change p+(f-h.next)<2*L'.length at this
    omega
  ·intro b o f hb hf
   show f<h1.next+2*L'.length
   rw[p1]
   rcases hget b o hb with ⟨_,h3⟩| ⟨i,oi,h3,h4,h5⟩
   ·have:=hr.BF _ _ _ h3 hf;omega
   ·obtain⟨f',j1,j2,_⟩:=lL h5 hf
    have:=hr'.BF _ _ _ (hLget _ _ h3) j1
    change f'<2*L'.length at this
    rcases hfn f' f j2 with ⟨_,h6⟩| ⟨_,rfl⟩
    ·have:=BF h6;omega
    ·omega
  ·intro b b' o o' f hb hb' hf hf'
   rcases hget b o hb with ⟨s1,s2⟩| ⟨i,oi,s1,s2,s3⟩<;>rcases hget b' o' hb' with ⟨t1,t2⟩| ⟨j,oj,t1,t2,t3⟩
   ·exact hr.fu _ _ _ _ _ s2 t2 hf hf'
   ·exfalso
    obtain⟨f',j1,j2,_⟩:=lL t3 hf'
    rcases hfn f' f j2 with ⟨_,h6⟩| ⟨_,rfl⟩
    ·exact s1 (fseen h6 s2 hf)
    ·have:=hr.BF _ _ _ s2 hf;omega
   ·exfalso
    obtain⟨f',j1,j2,_⟩:=lL s3 hf
    rcases hfn f' f j2 with ⟨_,h6⟩| ⟨_,rfl⟩
    ·exact t1 (fseen h6 t2 hf')
    ·have:=hr.BF _ _ _ t2 hf';omega
   ·obtain⟨f1,j1,j2,_⟩:=lL s3 hf
    obtain⟨f2,j1',j2',_⟩:=lL t3 hf'
    have:=finj2 _ _ _ j2 j2'
    subst this
    have:=hr'.fu _ _ _ _ _ (hLget _ _ s1) (hLget _ _ t1) j1 j1'
    subst this
    rw[s2]at t2;cases t2;rfl
  ·intro b o f k x hb hf hx'
   rcases hget b o hb with ⟨s1,s2⟩| ⟨i,oi,s1,s2,s3⟩
   ·rw[s2old f k (hr.BF _ _ _ s2 hf) fun f' hm=>s1 (fseen hm s2 hf)]at hx'
    obtain⟨k1,y,k2⟩:=hr.sk _ _ _ _ _ s2 hf hx'
    exact⟨k1,y,g2mono _ _ k2⟩
   ·obtain⟨f1,j1,j2,j3⟩:=lL s3 hf
    rw[hs2 _ _ k j2]at hx'
    obtain⟨⟨o1,k1⟩,y,k2⟩:=hr'.sk _ _ _ _ _ (hLget _ _ s1) j1 hx'
    exact⟨⟨o1,by rw[j3];exact k1⟩,y,by rw[hg2 _ _ s2];exact k2⟩
  ·intro b b' f k hb
   rcases hget b _ hb with ⟨s1,s2⟩| ⟨i,oi,s1,s2,s3⟩
   ·obtain⟨⟨x,k1,k2⟩,y,k3⟩:=hr.al _ _ _ _ s2
    exact⟨⟨x,hmono.mm _ _ k1,s2mono _ _ _ k2⟩,y,hmono.mm _ _ k3⟩
   ·exact absurd rfl (aI.Ae (Hw s3).2)
 have himg:∀l aL az,g2.at l=some (aL,az)->aL<w'.heap.size:=by
  intro l aL az hl
  cases l with
  |aL b=>
   change g2.m b=_ at hl
   by_cases hbl:b<h.next
   ·by_cases hex:∃i,(b,i)∈ren/\i<p
    ·obtain⟨i,h3,h4⟩:=hex
     rw[g2pin _ _ h3 h4]at hl
     exact hr'.Xd _ _ _ hl
    ·rw[g2old _ hbl fun i h3 h4=>hex ⟨i,h3,h4⟩]at hl;exact ahC (hr.Xd _ _ _ hl) hx.size
   ·have:b=h.next+(b-h.next):=by omega
    rw[this,g2ge]at hl
    exact hr'.Xd _ _ _ hl
  |el b f k=>
   change g2.s f k=_ at hl
   by_cases hbl:f<h.next
   ·by_cases hex:∃f',(f,f')∈fams/\f'<p
    ·obtain⟨f',h3,h4⟩:=hex
     rw[s2pin k h3 h4]at hl
     exact hr'.nv (.el b f' k) _ _ hl
    ·have:g2.s f k=g.s f k:=by
      show (if f<h.next then (match fN fams f with|some f'=>(if f'<p then g'.s f' k else g.s f k)|none=>g.s f k)else _)=_
      rw[ag8 hbl]
      cases e:fN fams f with
      |none=>rfl
      |some f1=>dsimp only;rw[ag4 fun h=>hex ⟨f1,jv e,h⟩]
     rw[this]at hl
     exact ahC (hr.nv (.el b f k) _ _ hl) hx.size
   ·have:f=h.next+(f-h.next):=by omega
    rw[this,s2ge]at hl
    exact hr'.nv (.el b _ k) _ _ hl
 have hH:bc P g2 ⟨h1.next+2*L'.length,h1.tr⟩ w':=by
  refine hnmH.M0 himg ?_ ?_ hx.mE
  ·intro l l' aL az base' o o' hb hb' m1 m2
   rcases hat l o hb with ⟨s1,s2,s3⟩| ⟨i,oi,s1,s2,_,s4⟩<;>rcases hat l' o' hb' with ⟨t1,t2,t3⟩| ⟨j,oj,t1,t2,_,t4⟩
   ·rw[s3]at m1;rw[t3]at m2
    exact hr.nw _ _ _ _ _ _ _ s2 t2 m1 m2
   ·exfalso
    rw[s3]at m1
    rw[t2]at m2
    exact hnot _ _ _ _ s1 s2 m1 (hx.nC aL (hr.nv _ _ _ m1) ⟨j,oj,base',t1,m2⟩)
   ·exfalso
    rw[t3]at m2
    rw[s2]at m1
    exact hnot _ _ _ _ t1 t2 m2 (hx.nC aL (hr.nv _ _ _ m2) ⟨i,oi,az,s1,m1⟩)
   ·rw[s2]at m1;rw[t2]at m2
    have:=hr'.nw _ _ _ _ _ _ _ s1 t1 m1 m2
    subst this
    rcases s4 with ⟨i1,b1,e1,rfl,e3⟩| ⟨i1,b1,f1,f2,k,e1,rfl,e3,e4⟩
    ·rcases t4 with ⟨i2,b2,d1,rfl,d3⟩| ⟨i2,b2,f3,f4,k2,d1,rfl,d3,d4⟩
     ·rw[e1]at d1;cases d1;rw[e3]at d3;cases d3;rfl
     ·rw[e1]at d1;cases d1
    ·rcases t4 with ⟨i2,b2,d1,rfl,d3⟩| ⟨i2,b2,f3,f4,k2,d1,rfl,d3,d4⟩
     ·rw[e1]at d1;cases d1
     ·rw[e1]at d1;cases d1;rw[e3]at d3;cases d3;rw[e4]at d4;cases d4;rfl
  ·intro l o aL az hb m1
   rcases hat l o hb with ⟨s1,s2,s3⟩| ⟨i,oi,s1,s2,s3,_⟩
   ·rw[s3]at m1
    obtain⟨u1,o',u2,u3⟩:=hr.qJ _ _ _ _ s2 m1
    have hno:=hnot _ _ _ _ s1 s2 m1
    have hbl:=hr.nv _ _ _ m1
    refine⟨fun hf=>?_,o',(hx.oR aL hbl hno).trans u2,u3.mono hmono⟩
    rcases hx.Sl aL hbl hf with hf|hf
    ·exact u1 hf
    ·exact hno hf
   ·rw[s2]at m1
    obtain⟨u1,o',u2,u3⟩:=hr'.qJ _ _ _ _ s1 m1
    exact⟨u1,o',u2,s3 _ _ u3⟩
 refine⟨g2,hs,hH,⟨hmono,hx.size,fun c hc ho=>hx.oR c hc fun h=>ho ?_,fun c hc ho=>?_,fun c hc hf=>?_,?_,hx.os⟩,fun lb hlb b hb hm hv=>⟨?_,?_⟩⟩
 ·obtain⟨a,o,az,j1,j2,_⟩:=hownL c h;exact⟨a,o,az,j1,j2⟩
 ·obtain⟨l,o,az,hb,hm⟩:=ho
  rcases hat l o hb with ⟨s1,s2,s3⟩| ⟨i,oi,s1,s2,_,_⟩
  ·rw[s3]at hm;exact⟨l,o,az,s2,hm⟩
  ·rw[s2]at hm
   obtain⟨a,o,az,j1,j2,_⟩:=hownL c (hx.nC c hc ⟨i,oi,az,s1,hm⟩)
   exact⟨a,o,az,j1,j2⟩
 ·rcases hx.Sl c hc hf with h3|h3
  ·exact .inl h3
  ·obtain⟨a,o,az,j1,j2,_⟩:=hownL c h3;exact .inr ⟨a,o,az,j1,j2⟩
 ·show h.next<=h1.next+2*L'.length
  rw[p1];omega
 ·have hns:b∉seen:=fun hbs=>by have:=hgood b hbs hm;rw[this]at hv;cases hv
  rw[g2old _ (by omega) fun i hi _=>hns (hseen _ _ hi)];exact hm
 ·show h1.get b=h.get b
  have hns:b∉seen:=fun hbs=>by have:=hgood b hbs hm;rw[this]at hv;cases hv
  rw[p3 b fun i _ he=>?_,zR,ag4 hns]
  rcases hrn i b he with ⟨_,h6⟩| ⟨_,h6⟩
  ·exact hns (hseen _ _ (lG h6))
  ·omega
def Ey (P:Program)(h:aj):List (Option TypeId)->List BV->T (List BV×List Nat)
 |_,[]=> .ret ([],[])
 | [],v::vs=> .ret (v::vs,[])
 |none::ts,v::vs=>(Ey P h ts vs).bind fun y=> .ret (v::y.1,y.2)
 |some t::ts,v::vs=>(Sk P h t v).bind fun x=>(Ey P h ts vs).bind fun y=> .ret (cj P t x.1::y.1,x.2++y.2)
def Ie (hr:bc P g h w):∀{ts:List (Option TypeId)} {vs:List BV} {x:List BV×List Nat},T.dy x (Ey P h ts vs)->
 (∀b∈x.2,∃o,h.get b=some o/\o.nC=some o)/\∀vs',aq P g w vs vs'->aq P {g with fz:=xN g x.2} w x.1 vs'/\LD g h x.2:=by
 have up:∀(bs:List Nat),eC g w {g with fz:=xN g bs} w:=fun bs=>⟨fun _ _ e=>e,fun _ e=> .inl e,fun _ _=>rfl,fun _ _ e=>e,fun _ _ _ e=>e⟩
 intro ts
 induction ts with
 |nil=>
  intro vs x e
  cases vs with
  |nil=>rw[<-T.bm e];exact⟨fun b hb=>by simp at hb,fun vs' hv=>⟨aq.mono (up []) _ _ hv,LD.nil⟩⟩
  |cons v vs=>rw[<-T.bm e];exact⟨fun b hb=>by simp at hb,fun vs' hv=>⟨aq.mono (up []) _ _ hv,LD.nil⟩⟩
 |cons t ts ih=>
  intro vs x e
  cases vs with
  |nil=>
   have e:T.dy x (.ret ([],[])):=by cases t<;>exact e
   rw[<-T.bm e];exact⟨fun b hb=>by simp at hb,fun vs' hv=>⟨aq.mono (up []) _ _ hv,LD.nil⟩⟩
  |cons v vs=>
   cases t with
   |none=>
    simp only[Ey]at e
    obtain⟨x2,e2,e⟩:=T.bI e
    rw[<-T.bm e]
    obtain⟨m1,m2⟩:=ih e2
    refine⟨m1,fun vs' hv=>?_⟩
    simp only[aq]at hv
    obtain⟨u,ur,rfl,h1,h2⟩:=hv
    exact⟨aq.cons (ao.mono (up _) _ _ h1) (m2 ur h2).1,(m2 ur h2).2⟩
   |some t=>
    simp only[Ey]at e
    obtain⟨x1,e1,e⟩:=T.bI e
    obtain⟨x2,e2,e⟩:=T.bI e
    rw[<-T.bm e]
    obtain⟨k1,k2⟩:=CN hr e1
    obtain⟨m1,m2⟩:=ih e2
    refine⟨fun b hb=>?_,fun vs' hv=>?_⟩
    ·rcases ahd.1 hb with hb|hb
     ·exact k1 b hb
     ·exact m1 b hb
    ·simp only[aq]at hv
     obtain⟨u,ur,rfl,h1,h2⟩:=hv
     refine⟨aq.cons ?_ ?_,(k2 u h1).2.append (m2 ur h2).2⟩
     ·exact ao.mono (g:=⟨fun _=>none,xN g x1.2,fun _ _=>none⟩) (w:=w) ⟨fun b x h=>(by cases h),fun c=>CO (fun b hb=>ahP _ hb) c,fun _ _=>rfl,fun _ _ h=>h,fun _ _ _ h=>(by first|exact h|cases h)⟩ _ _ (k2 u h1).1
     ·exact aq.mono (g:={g with fz:=xN g x2.2}) (g':={g with fz:=xN g (x1.2++x2.2)}) (w:=w) ⟨fun b x h=>h,fun c=>CO (fun b hb=>aih _ hb) c,fun _ _=>rfl,fun _ _ h=>h,fun _ _ _ h=>h⟩ _ _ (m2 ur h2).1
def ay.afl (hmix:P.follows .mixedOrders=true){f k:FuncId}{frs:List TypeId}{G:mR}{as:List BV}{fr:bq}{cs:List bq}{h:aj}{s:au}{as0:List BV}{h0:aj}{fzs:List (Option TypeId)}{z:List BV×List Nat}{seen:List Nat}{L:List (Nat×aI)}{p:Nat}{R:D->T (BV×List (Nat×aI))}{Q':D->Prop}
 (hs:rU P (dm P s) (.call k as0 fr cs h0))(hz:T.dy z (Ey P h0 fzs as0))(cS:z.1=as)(hh:dA h0 z.2=h)(hrc:zm h 300 (Bp as) []=some seen)(hok:yR 0 (gB 0 seen).length [] [] (gB 0 seen)=true)(hob:EC (Ep h 0 0 (gB 0 seen)) h (gB 0 seen)=some L)
 (hp:BZ P k (kA (Ep h 0 0 (gB 0 seen)) as) L p R Q')
 (hk:∀d,Q' d->∃x h2 r,T.dy x (R d)/\NF h (gB 0 seen) seen p x.2=some h2/\T.dy r (rh P fr (sZ (Ms h (gB 0 seen) p) x.1) h2)/\ay P f frs G ⟨r.1,cs,r.2⟩):ay P f frs G s:=by
 obtain⟨c,hc,hst⟩:=hs
 refine ay.step hmix hst ?_
 intro c0 g00 w lb f1 cs1 hsr
 obtain⟨hr00,h2,h3,h4⟩:=hsr
 obtain⟨as',ha0,rfl⟩:=KC hc h3
 simp only[mQ]at h4
 obtain⟨m0,mr,lb2,rfl,hl,hf00,hcr0⟩:=h4
 obtain⟨j1,j2⟩:=Ie hr00 hz
 obtain⟨hr,y2⟩:=hr00.Fm j1
 have ha:=(j2 _ ha0).1
 have hp2:∀lb,sr lb g00 h0 {g00 with fz:=xN g00 z.2} (dA h0 z.2):=fun lb=>Ps (j2 _ ha0).2 lb
 have hf0:=hf00.mono (h':=dA h0 z.2) y2.mono (hp2 _)
 have hcr:=hcr0.mono (h':=dA h0 z.2) y2.mono (hp2 _)
 have hdn:(dA h0 z.2).next=h0.next:=kP h0 z.2
 dsimp only at h2
 rw[<-hdn]at h2
 rw[cS]at ha
 rw[hh]at hr y2 hf0 hcr h2
 clear hr00 ha0 hf00 hcr0
 generalize hg0:({g00 with fz:=xN g00 z.2}:Gh)=g0 at*
 obtain⟨q1,q2,q3,q4,_⟩:=DT hr hok (.inl ⟨rfl,rfl⟩) hob
 obtain⟨ed,w2,fr2,⟨v',g',d,x1,rfl,hx1,hx,hpin,hr',hv',hQ⟩,hco,_,hlv⟩:=hp _ w as' q2 (aq.sub q1 _ _ ha) (m0::mr)
 obtain⟨x2,h9,r,hx2,hbk,hfin,hend⟩:=hk d hQ
 have:=T.Sm hx1 hx2
 subst this
 have hfin:=qE hfin
 have hgood:∀b∈seen,g0.m b=none->r8 (h.get b)=true:=fun b hb=>by
  rcases QM hr 300 hrc (fun x hx=>aq.Ig as _ ha x hx) b hb with h5|h5
  ·cases h5
  ·exact h5
 obtain⟨g2,z1,z2,z3,z4⟩:=XL hr hgood hok hob hbk hx hpin hr'
 have hv:=ao.sub z1 _ _ hv'
 have hfz:=hf0.mono (h':=h9) z3.mono (z4 lb h2)
 have hcz:=hcr.mono (h':=h9) z3.mono (z4 lb2 (ahD hl h2))
 have hn:=z3.next
 obtain⟨r1,r2,r3,r4,r5⟩:=Bv z2 hfz (ahD (ahD hl h2) hn) (ahD h2 hn) hv hfin
 have hlb:lb2<=h9.next:=ahD (ahD hl h2) hn
 obtain⟨w',fr',v2,g3,h3',n1,n2,n3,n4,n5,n6⟩:=hend c0 g2 w2 lb2 _ mr ⟨r1,ahD hlb r5,r4,hcz.mono r2.mono (r3.lt hlb)⟩
 exact⟨w',fr',v2,g3,h3',((show Steps P _ _ from hco).trans (Steps.one (step_leave_returned hlv))).trans n1,n2,n3,.Fv (y2.trans (z3.trans r2)) n4,.G1 (y2.trans (z3.trans r2)).mono n5,n6⟩
end
end
end
section
noncomputable section
section
variable {P:Program} {g:Gh} {h:aj} {w:World}
def bc.seen (hr:bc P g h w){b:Nat}{o o':aI}(hb:h.get b=some o)(ho:∀az co,cV P g w o az co->cV P g w o' az co)
 (hf:o.zp=none:=by rfl)(hf':o'.zp=none:=by rfl)(hoo:o.nC=some o:=by rfl)(hoo':o'.nC=some o':=by rfl):
 bc P g (h.put b (some o')) w/\hJ g h w g (h.put b (some o')) w:=by
 have hat:∀l o1,(h.put b (some o')).at l=some o1->(l= .aL b/\o1=o')\/(l≠ .aL b/\h.at l=some o1):=fun l o1 e=>by
  by_cases e1:l= .aL b
  ·subst e1;rw[aj.Cs hoo']at e;cases e;exact .inl ⟨rfl,rfl⟩
  ·rw[aj.RN hb hf hf' e1]at e;exact .inr ⟨e1,e⟩
 have hbat:=aj.fO hb hoo
 have hold:∀l o1,(h.put b (some o')).at l=some o1->∃o2,h.at l=some o2:=fun l o1 e=>by
  rcases hat l o1 e with ⟨rfl,_⟩| ⟨_,h1⟩
  ·exact⟨o,hbat⟩
  ·exact⟨o1,h1⟩
 refine⟨(hr.nm.put hb hf' hoo').M0 hr.nv ?_ ?_ hr.mE,⟨eC.refl g w,aho _,fun _ _ _=>rfl,?_,fun _ _ h=> .inl h,aho _,rfl,rfl,rfl⟩⟩
 ·intro l1 l2 blk1 base1 base2 o1 o2 h1 h2 m1 m2
  obtain⟨_,g1⟩:=hold _ _ h1;obtain⟨_,g2⟩:=hold _ _ h2
  exact hr.nw _ _ _ _ _ _ _ g1 g2 m1 m2
 ·intro l o1 blk1 base1 h1 m1
  rcases hat l o1 h1 with ⟨rfl,rfl⟩| ⟨_,h1⟩
  ·obtain⟨n1,o2,ho2,hr2⟩:=hr.qJ _ _ _ _ hbat m1
   exact⟨n1,o2,ho2,ho _ _ hr2⟩
  ·exact hr.qJ _ _ _ _ h1 m1
 ·rintro c _ ⟨l,o1,base1,hl,hm1⟩
  obtain⟨o2,h2⟩:=hold _ _ hl
  exact⟨l,o2,base1,h2,hm1⟩
abbrev F6:=List (TypeId×Nat×TypeId)
def OR (h:aj)(b:Nat)(r:TypeId×Nat×TypeId):aj:=
 match h.get b with
 |some (.cells cs t s)=>(match Nat.beq r.1 t,cs.getD r.2.1 .lH with
  |true,.cX=>(h.new (.ak r.2.2 [] true)).put b (some (.cells (cs.set r.2.1 (.aZ h.next 0 true)) t s))
  |_,_=>h)
 |_=>h
def HB (b:Nat):F6->aj->aj
 | [],h=>h
 |r::rs,h=>HB b rs (OR h b r)
def OQ (rs:F6):Nat->aj->aj
 |0,h=>h
 |n+1,h=>HB n rs (OQ rs n h)
def Mj (rs:F6)(s:au):au:=
 match rs with
 | []=>s
 |_=>
  match s with
  | ⟨⟨fn,cx,todo,ds,mode,kind,ro⟩,[],h⟩=>
    (match mode,todo with
    | .run,.fY _::_=>s
    |_,_=>⟨⟨fn,cx,todo,ds,mode,kind,ro⟩,[],OQ rs h.next h⟩)
  |_=>s
def TO (hr:bc P g h w)(b:Nat)(r:TypeId×Nat×TypeId):bc P g (OR h b r) w/\hJ g h w g (OR h b r) w:=by
 unfold OR
 split
 ·rename_i cs t s hb
  split
  ·rename_i ht hn
   obtain⟨k1,k2⟩:=hr.N8 (.ak r.2.2 [] true)
   have hbn:b≠h.next:=fun e=>ai8 _ (e▸hr.Jt b _ hb)
   have hb1:(h.new (.ak r.2.2 [] true)).get b=some (.cells cs t s):=by rw[aj.eL,ag4 hbn];exact hb
   obtain⟨k3,k4⟩:=k1.seen hb1 (o':= .cells (cs.set r.2.1 (.aZ h.next 0 true)) t s) (fun az co hc=>by
    simp only[cV]at hc ⊢
    obtain⟨c,lo,hi,rfl,⟨vs,hv,hat⟩,hh⟩:=hc
    refine⟨c,lo,hi,rfl,⟨vs,?_,hat⟩,hh⟩
    refine aq.rL (by simpa using hv.length) fun j bv v hbj hvj=>?_
    rw[aiK]at hbj
    split at hbj
    ·rename_i hij
     subst hij
     split at hbj
     ·rename_i hlt
      cases hbj
      have hold:cs[r.2.1]?=some .cX:=by
       rw[List.getD,ag7 hlt]at hn
       rw[ag7 hlt];exact ahE some hn
      obtain⟨v2,h1,h2⟩:=hv.get hold
      rw[hvj]at h1;cases h1
      simp only[ao]at h2 ⊢
      exact .inl ⟨⟨trivial,trivial⟩,.inl h2⟩
     ·cases hbj
    ·obtain⟨v2,h1,h2⟩:=hv.get hbj
     rw[hvj]at h1;cases h1;exact h2)
   exact⟨k3,k2.trans k4⟩
  ·exact⟨hr,hJ.refl _ _ _⟩
 ·exact⟨hr,hJ.refl _ _ _⟩
def OS (b:Nat):∀(rs:F6) {h:aj},bc P g h w->bc P g (HB b rs h) w/\hJ g h w g (HB b rs h) w:=by
 intro rs
 induction rs with
 |nil=>intro h hr;exact⟨hr,hJ.refl _ _ _⟩
 |cons r rs ih=>
  intro h hr
  obtain⟨k1,k2⟩:=TO hr b r
  obtain⟨k3,k4⟩:=ih k1
  exact⟨k3,k2.trans k4⟩
def TN (hr:bc P g h w)(rs:F6):∀n,bc P g (OQ rs n h) w/\hJ g h w g (OQ rs n h) w:=by
 intro n
 induction n with
 |zero=>exact⟨hr,hJ.refl _ _ _⟩
 |succ n ih=>
  obtain⟨k3,k4⟩:=OS n rs ih.1
  exact⟨k3,ih.2.trans k4⟩
def ay.wid {f:FuncId}{rs:List TypeId}{G:mR}(rules:F6){s:au}(he:ay P f rs G (Mj rules s)):ay P f rs G s:=by
 unfold Mj at he
 split at he
 ·exact he
 ·split at he
  ·rename_i fn cx todo ds mode kind ro h
   split at he
   ·exact he
   ·rename_i hno
    refine ay.Af (fun c0 g w lb fr cs1 hs=>?_) he
    obtain⟨hr,h2,h3,h4⟩:=hs
    obtain⟨k1,k2⟩:=TN hr rules h.next
    refine⟨g,w,lb,fr,cs1,Steps.refl _ _,⟨k1,ahD h2 k2.next,⟨h3.fn,h3.kind,h3.oI,h3.defers,h3.mode,h3.round,fun hm=>?_,h3.cx⟩,h4⟩,k2⟩
    have hrun:=h3.run hm
    unfold cZ at hrun ⊢
    dsimp only at hrun hm ⊢
    cases todo with
    |nil=>exact hrun
    |cons i' r'=>
     cases i'<;>first|exact hrun| (subst hm;exact absurd rfl (hno _ _ rfl))
  ·exact he
def bc.agl (hr:bc P g h w){bs:List Nat}(hbs:∀b∈bs,∃o,h.get b=some o/\o.nC=some o){b:Nat}{o o':aI}(hb:h.get b=some o)(hnb:b∉bs)(ho:∀az co,cV P g w o az co->cV P {g with fz:=xN g bs} w o' az co)
 (hf:o.zp=none:=by rfl)(hf':o'.zp=none:=by rfl)(hoo:o.nC=some o:=by rfl)(hoo':o'.nC=some o':=by rfl):
 bc P {g with fz:=xN g bs} ((dA h bs).put b (some o')) w/\hJ g h w {g with fz:=xN g bs} ((dA h bs).put b (some o')) w:=by
 obtain⟨y1,y2⟩:=hr.Fm hbs
 have hb1:(dA h bs).get b=some o:=by rw[zR,ag4 hnb];exact hb
 have hat:∀l o1,((dA h bs).put b (some o')).at l=some o1->(l= .aL b/\o1=o')\/(l≠ .aL b/\(dA h bs).at l=some o1):=fun l o1 e=>by
  by_cases e1:l= .aL b
  ·subst e1;rw[aj.Cs hoo']at e;cases e;exact .inl ⟨rfl,rfl⟩
  ·rw[aj.RN hb1 hf hf' e1]at e;exact .inr ⟨e1,e⟩
 have hbat:=aj.fO hb1 hoo
 have hbat0:=aj.fO hb hoo
 have hold:∀l o1,((dA h bs).put b (some o')).at l=some o1->∃o2,(dA h bs).at l=some o2:=fun l o1 e=>by
  rcases hat l o1 e with ⟨rfl,_⟩| ⟨_,h1⟩
  ·exact⟨o,hbat⟩
  ·exact⟨o1,h1⟩
 refine⟨(y1.nm.put hb1 hf' hoo').M0 y1.nv ?_ ?_ y1.mE,y2.trans ⟨eC.refl _ w,aho _,fun _ _ _=>rfl,?_,fun _ _ h=> .inl h,aho _,rfl,rfl,rfl⟩⟩
 ·intro l1 l2 blk1 base1 base2 o1 o2 h1 h2 m1 m2
  obtain⟨_,g1⟩:=hold _ _ h1;obtain⟨_,g2⟩:=hold _ _ h2
  exact y1.nw _ _ _ _ _ _ _ g1 g2 m1 m2
 ·intro l o1 blk1 base1 h1 m1
  rcases hat l o1 h1 with ⟨rfl,rfl⟩| ⟨_,h1⟩
  ·obtain⟨n1,o2,ho2,_⟩:=y1.qJ _ _ _ _ hbat m1
   obtain⟨_,o3,ho3,hr3⟩:=hr.qJ _ _ _ _ hbat0 m1
   rw[ho2]at ho3;cases ho3
   exact⟨n1,o2,ho2,ho _ _ hr3⟩
  ·exact y1.qJ _ _ _ _ h1 m1
 ·rintro c _ ⟨l,o1,base1,hl,hm1⟩
  obtain⟨o2,h2⟩:=hold _ _ hl
  exact⟨l,o2,base1,h2,hm1⟩
def BV.Un:BV->Bool
 | .aZ _ _ _=>true
 | .cX=>true
 |_=>false
def BV.afO:BV->Bool
 | .bw _ _=>true
 |_=>false
def Si (P:Program)(h:aj)(b:Nat)(r:TypeId×Nat×TypeId):T aj:=
 match h.get b with
 |some (.cells cs t s)=>
  (match Nat.beq r.1 t,BV.Un (cs.getD r.2.1 .lH)with
  |true,true=>(Sk P h r.2.2 (cs.getD r.2.1 .lH)).bind fun x=>
    (match x.2.all (fun y=>!Nat.beq y b),BV.afO (cj P r.2.2 x.1)with
    |true,true=> .ret ((dA h x.2).put b (some (.cells (cs.set r.2.1 (cj P r.2.2 x.1)) t s)))
    |_,_=> .ret h)
  |_,_=> .ret h)
 |_=> .ret h
def KF (P:Program)(b:Nat):F6->aj->T aj
 | [],h=> .ret h
 |r::rs,h=>(Si P h b r).bind fun h'=>KF P b rs h'
def Sg (P:Program)(rs:F6):Nat->aj->T aj
 |0,h=> .ret h
 |n+1,h=>(Sg P rs n h).bind fun h'=>KF P n rs h'
def Yk (P:Program)(rs:F6)(s:au):T au:=
 match rs with
 | []=> .ret s
 |_=>
  match s with
  | ⟨⟨fn,cx,todo,ds,mode,kind,ro⟩,[],h⟩=>
    (match mode,todo with
    | .run,.fY _::_=> .ret s
    | .run,.code _::_=>(Sg P rs h.next h).bind fun h'=> .ret ⟨⟨fn,cx,todo,ds,mode,kind,ro⟩,[],h'⟩
    |_,_=> .ret s)
  |_=> .ret s
def FT (P:Program)(g:Gh)(h:aj)(w:World)(h':aj):Prop:=∃fz':Nat->Prop,bc P {g with fz:=fz'} h' w/\hJ g h w {g with fz:=fz'} h' w
def FT.refl (hr:bc P g h w):FT P g h w h:=⟨g.fz,hr,hJ.refl _ _ _⟩
def FT.trans {h1 h2:aj}(a:FT P g h w h1)(b:∀g',bc P g' h1 w->FT P g' h1 w h2):FT P g h w h2:=by
 obtain⟨f1,a1,a2⟩:=a
 obtain⟨f2,b1,b2⟩:=b _ a1
 exact⟨f2,b1,a2.trans b2⟩
def Sj {h':aj}(hr:bc P g h w){b:Nat}{r:TypeId×Nat×TypeId}(e:T.dy h' (Si P h b r)):FT P g h w h':=by
 unfold Si at e
 split at e
 ·rename_i cs t s hb
  split at e
  ·rename_i ht hc
   obtain⟨x,e1,e⟩:=T.bI e
   obtain⟨k1,k2⟩:=CN hr e1
   split at e
   ·rename_i hall hone
    rw[<-T.bm e]
    have hnb:b∉x.2:=fun hm=>by have:=ahG.1 hall b hm;simp at this
    obtain⟨z1,z2⟩:=hr.agl k1 hb hnb (o':= .cells (cs.set r.2.1 (cj P r.2.2 x.1)) t s) (fun az co hco=>by
     simp only[cV]at hco ⊢
     obtain⟨c0,lo,hi,rfl,⟨vs,hv,hat⟩,hh⟩:=hco
     refine⟨c0,lo,hi,rfl,⟨vs,?_,hat⟩,hh⟩
     have hmono:eC g w {g with fz:=xN g x.2} w:=⟨fun _ _ e=>e,fun _ e=> .inl e,fun _ _=>rfl,fun _ _ e=>e,fun _ _ _ e=>e⟩
     refine aq.rL (by simpa using hv.length) fun j bv v hbj hvj=>?_
     rw[aiK]at hbj
     split at hbj
     ·rename_i hij
      subst hij
      split at hbj
      ·rename_i hlt
       cases hbj
       have hold:cs[r.2.1]?=some (cs.getD r.2.1 .lH):=by
        rw[List.getD,ag7 hlt];rfl
       obtain⟨v2,h1,h2⟩:=hv.get hold
       rw[hvj]at h1;cases h1
       exact ao.mono (g:=⟨fun _=>none,xN g x.2,fun _ _=>none⟩) (g':={g with fz:=xN g x.2}) (w:=w) ⟨fun b x h=>(by cases h),fun c h=>h,fun _ _=>rfl,fun _ _ h=>h,fun _ _ _ h=>(by first|exact h|cases h)⟩ _ _ (k2 v h2).1
      ·cases hbj
     ·obtain⟨v2,h1,h2⟩:=hv.get hbj
      rw[hvj]at h1;cases h1;exact ao.mono hmono _ _ h2)
    exact⟨_,z1,z2⟩
   ·rw[<-T.bm e];exact .refl hr
  ·rw[<-T.bm e];exact .refl hr
 ·rw[<-T.bm e];exact .refl hr
def NX {b:Nat}:∀(rs:F6) {g:Gh} {h h':aj},bc P g h w->T.dy h' (KF P b rs h)->FT P g h w h':=by
 intro rs
 induction rs with
 |nil=>intro g h h' hr e;rw[<-T.bm e];exact .refl hr
 |cons r rs ih=>
  intro g h h' hr e
  obtain⟨h1,e1,e⟩:=T.bI e
  exact(Sj hr e1).trans fun g' hr'=>ih hr' e
def Sh {rs:F6}:∀(n:Nat) {g:Gh} {h h':aj},bc P g h w->T.dy h' (Sg P rs n h)->FT P g h w h':=by
 intro n
 induction n with
 |zero=>intro g h h' hr e;rw[<-T.bm e];exact .refl hr
 |succ n ih=>
  intro g h h' hr e
  obtain⟨h1,e1,e⟩:=T.bI e
  exact(ih hr e1).trans fun g' hr'=>NX rs hr' e
def ay.agE {f:FuncId}{rs:List TypeId}{G:mR}(rules:F6){s s':au}(hs':T.dy s' (Yk P rules s))(he:ay P f rs G s'):ay P f rs G s:=by
 unfold Yk at hs'
 split at hs'
 ·rw[T.bm hs'];exact he
 ·split at hs'
  ·rename_i fn cx todo ds mode kind ro h
   split at hs'
   ·rw[T.bm hs'];exact he
   ·rename_i c r
    obtain⟨h',e1,e2⟩:=T.bI hs'
    have e2:=T.bm e2
    subst e2
    refine ay.Af (fun c0 g w lb fr cs1 hs=>?_) he
    obtain⟨hr,h2,h3,h4⟩:=hs
    obtain⟨fz',k1,k2⟩:=Sh h.next hr e1
    refine⟨_,w,lb,fr,cs1,Steps.refl _ _,⟨k1,ahD h2 k2.next,⟨h3.fn,h3.kind,h3.oI,h3.defers.mono k2.mono,h3.mode.mono k2.mono,h3.round.mono k2.mono,fun hm=>?_,fun e=>aq.mono k2.mono _ _ (h3.cx e)⟩,h4⟩,k2⟩
    have hrun:=h3.run hm
    unfold cZ at hrun ⊢
    dsimp only at hrun ⊢
    exact⟨aq.mono k2.mono _ _ hrun.1,hrun.2.mono k2.mono⟩
   ·rw[T.bm hs'];exact he
  ·rw[T.bm hs'];exact he
def kB (h:aj):List (Option TypeId)->List BV->aj×List BV
 |_,[]=>(h,[])
 |some e::ts,.cX::vs=>
  (match kB (h.new (.ak e [] true)) ts vs with| (h',vs')=>(h',.aZ h.next 0 true::vs'))
 |some e::ts,.Fi _ []::vs=>
  (match kB (h.new (.ak e [] true)) ts vs with| (h',vs')=>(h',.aZ h.next 0 true::vs'))
 |_::ts,v::vs=>(match kB h ts vs with| (h',vs')=>(h',v::vs'))
 | [],v::vs=>(h,v::vs)
def JC (ws:List (Option TypeId))(h:aj)(v:BV):aj×BV:=
 match ws with
 | []=>(h,v)
 |_=>
  match v with
  | .tuple vs=>((kB h ws vs).1,.tuple (kB h ws vs).2)
  |v=>((kB h ws [v]).1,(match (kB h ws [v]).2 with| [u]=>u|_=>v))
def Nc:∀(ws:List (Option TypeId)) (vs:List BV) {h:aj},bc P g h w->(bc P g (kB h ws vs).1 w/\hJ g h w g (kB h ws vs).1 w)/\∀vs',aq P g w vs vs'->aq P g w (kB h ws vs).2 vs':=by
 intro ws
 induction ws with
 |nil=>
  intro vs h hr
  cases vs with
  |nil=>exact⟨⟨hr,hJ.refl _ _ _⟩,fun _ h=>h⟩
  |cons v vs=>
   have:kB h [] (v::vs)=(h,v::vs):=by cases v<;>first|rfl| (rename_i l;cases l<;>rfl)
   rw[this];exact⟨⟨hr,hJ.refl _ _ _⟩,fun _ h=>h⟩
 |cons t ts ih=>
  intro vs h hr
  cases vs with
  |nil=>cases t<;>exact⟨⟨hr,hJ.refl _ _ _⟩,fun _ h=>h⟩
  |cons v vs=>
   have plain:(bc P g (kB h ts vs).1 w/\hJ g h w g (kB h ts vs).1 w)/\∀vs',aq P g w (v::vs) vs'->aq P g w (v::(kB h ts vs).2) vs':=by
    obtain⟨k1,k2⟩:=ih vs hr
    refine⟨k1,fun vs' hv=>?_⟩
    simp only[aq]at hv
    obtain⟨u,ur,rfl,h1,h2⟩:=hv
    exact aq.cons h1 (k2 _ h2)
   cases t with
   |none=>
    have:kB h (none::ts) (v::vs)=((kB h ts vs).1,v::(kB h ts vs).2):=by cases v<;>first|rfl| (rename_i l;cases l<;>rfl)
    rw[this];exact plain
   |some e=>
    have seen:(∀v',ao P g w v v'->v'= .slice none 0 0\/∃a,v'= .slice (some a) 0 0)->(bc P g (kB (h.new (.ak e [] true)) ts vs).1 w/\hJ g h w g (kB (h.new (.ak e [] true)) ts vs).1 w)/\∀vs',aq P g w (v::vs) vs'->aq P g w (.aZ h.next 0 true::(kB (h.new (.ak e [] true)) ts vs).2) vs':=fun hz=>by
     obtain⟨k1,k2⟩:=hr.N8 (.ak e [] true)
     obtain⟨m1,m2⟩:=ih vs k1
     refine⟨⟨m1.1,k2.trans m1.2⟩,fun vs' hv=>?_⟩
     simp only[aq]at hv
     obtain⟨u,ur,rfl,h1,h2⟩:=hv
     refine aq.cons ?_ (m2 _ h2)
     simp only[ao]
     exact .inl ⟨⟨trivial,trivial⟩,hz _ h1⟩
    by_cases hv:v= .cX
    ·subst hv
     exact seen fun v' h1=>by simp only[ao]at h1;exact .inl h1
    ·by_cases hc:∃e',v= .Fi e' []
     ·obtain⟨e',rfl⟩:=hc
      refine seen fun v' h1=>?_
      simp only[ao]at h1
      rcases h1 with h1| ⟨aL,off,h1,_⟩
      ·exact h1.2
      ·exact .inr ⟨_,h1⟩
     ·have:kB h (some e::ts) (v::vs)=((kB h ts vs).1,v::(kB h ts vs).2):=by
       cases v<;>first|exact absurd rfl hv|rfl|skip
       rename_i e' l
       cases l with
       |nil=>exact absurd ⟨e',rfl⟩ hc
       |cons _ _=>rfl
      rw[this];exact plain
def aae (ws:List (Option TypeId))(v:BV)(hr:bc P g h w):(bc P g (JC ws h v).1 w/\hJ g h w g (JC ws h v).1 w)/\∀v',ao P g w v v'->ao P g w (JC ws h v).2 v':=by
 have one:∀v:BV,(bc P g (kB h ws [v]).1 w/\hJ g h w g (kB h ws [v]).1 w)/\∀v',ao P g w v v'->ao P g w (match (kB h ws [v]).2 with| [u]=>u|_=>v) v':=fun v=>by
  obtain⟨k1,k2⟩:=Nc ws [v] hr
  refine⟨k1,fun v' hv=>?_⟩
  have:=k2 [v'] (aq.cons hv aq.nil)
  split
  ·rename_i u hu
   rw[hu]at this
   obtain⟨x,hx,h1⟩:=this.one
   cases hx;exact h1
  ·exact hv
 unfold JC
 split
 ·exact⟨⟨hr,hJ.refl _ _ _⟩,fun _ h=>h⟩
 ·split
  ·rename_i vs
   obtain⟨k1,k2⟩:=Nc ws vs hr
   refine⟨k1,fun v' hv=>?_⟩
   simp only[ao]at hv ⊢
   obtain⟨us,rfl,hv⟩:=hv
   exact⟨us,rfl,k2 _ hv⟩
  ·exact one v
def abl (P:Program)(h:aj)(fz:List (Option TypeId))(v:BV):T (BV×List Nat):=
 match fz with
 | []=> .ret (v,[])
 |fz=>(match v with
  | .tuple vs=>(Ey P h fz vs).bind fun x=> .ret (.tuple x.1,x.2)
  |v=>(Ey P h fz [v]).bind fun x=>(match x.1 with| [u]=> .ret (u,x.2)|_=> .bG))
def Yi (hr:bc P g h w){fz:List (Option TypeId)}{v:BV}{x:BV×List Nat}(e:T.dy x (abl P h fz v)):
 (∀b∈x.2,∃o,h.get b=some o/\o.nC=some o)/\∀v',ao P g w v v'->ao P {g with fz:=xN g x.2} w x.1 v':=by
 have up:∀(bs:List Nat),eC g w {g with fz:=xN g bs} w:=fun bs=>⟨fun _ _ e=>e,fun _ e=> .inl e,fun _ _=>rfl,fun _ _ e=>e,fun _ _ _ e=>e⟩
 have one:∀{v:BV} {x:BV×List Nat},T.dy x ((Ey P h fz [v]).bind fun x=>(match x.1 with| [u]=>(.ret (u,x.2):T (BV×List Nat))|_=> .bG))->(∀b∈x.2,∃o,h.get b=some o/\o.nC=some o)/\∀v',ao P g w v v'->ao P {g with fz:=xN g x.2} w x.1 v':=fun {v x} e=>by
  obtain⟨y,e1,e⟩:=T.bI e
  obtain⟨k1,k2⟩:=Ie hr e1
  split at e
  ·rename_i u hu
   rw[<-T.bm e]
   refine⟨k1,fun v' hv=>?_⟩
   have:=(k2 [v'] (aq.cons hv (by simp[aq]))).1
   rw[hu]at this
   obtain⟨v2,h1,h2⟩:=this.one
   cases h1
   exact h2
  ·exact(T.aR e).elim
 unfold abl at e
 split at e
 ·rw[<-T.bm e];exact⟨fun b hb=>by simp at hb,fun v' hv=>ao.mono (up []) _ _ hv⟩
 ·split at e
  ·obtain⟨y,e1,e⟩:=T.bI e
   rw[<-T.bm e]
   obtain⟨k1,k2⟩:=Ie hr e1
   refine⟨k1,fun v' hv=>?_⟩
   simp only[ao]at hv ⊢
   obtain⟨vs,rfl,hv⟩:=hv
   exact⟨vs,rfl,(k2 _ hv).1⟩
  ·exact one e
def ay.abf {f:FuncId}{rs:List TypeId}{p:Nat}{R:D->T (BV×List (Nat×aI))}{Q:D->Prop}{s:au}(ws fz:List (Option TypeId))(hend:s.ended=true){v:BV}(hv:X9 P f s=some v){z:BV×List Nat}(hz:T.dy z (abl P s.h fz v)){x:BV×List (Nat×aI)}(hc:RX p (JC ws (dA s.h z.2) z.1).1 (JC ws (dA s.h z.2) z.1).2=some x){d:D}(hR:T.dy x (R d))(hq:Q d):ay P f rs (.bx p R Q) s:=by
 intro c0 g0 w lb fr cs hs
 obtain⟨rfl,hf,v',hlv,hvr0⟩:=MG hend hv hs
 obtain⟨j1,j2⟩:=Yi hs.1 hz
 obtain⟨hr0,y2⟩:=hs.1.Fm j1
 have hvr:=j2 _ hvr0
 generalize hg:({g0 with fz:=xN g0 z.2}:Gh)=g at*
 have hpg:RC p g0 g:=by subst hg;exact⟨fun _ _ _ h=>h,fun _ _ _ _ h=>h⟩
 obtain⟨⟨r1,r2⟩,r3⟩:=aae ws z.1 hr0
 unfold RX at hc
 split at hc
 ·rename_i seen hseen
  generalize hren:gB 0 seen=ren at hc
  split at hc
  ·rename_i L hok hob
   cases hc
   simp only[ag2]at hok
   obtain⟨⟨hok,hpin⟩,hple⟩:=hok
   have hple:=aja hple
   obtain⟨q1,q2,q3,q4,_⟩:=DT r1 hok (.inr ⟨hple,rfl⟩) hob
   have hown:∀c,qO (jx g ren p (kx (JC ws (dA s.h z.2) z.1).1 p ren.length ren)) (hL L) c->qO g (JC ws (dA s.h z.2) z.1).1 c:=fun c hc=>by obtain⟨a,o,az,j1,j2,_⟩:=q3 c hc;exact⟨a,o,az,j1,j2⟩
   refine⟨w,fr,v',jx g ren p (kx (JC ws (dA s.h z.2) z.1).1 p ren.length ren),hL L,Steps.refl _ _,hf,hlv,.Fv (y2.trans r2) ⟨aho _,fun _ _ _=>rfl,fun _ h=>h,fun _ _ h=> .inl h,r1.mE,fun c _ ho=>hown c ho,fun _ _ h=>h,rfl,rfl,rfl⟩,?_,d,_,hR,rfl,q2,ao.sub q1 _ _ (r3 _ hvr),hq⟩
   have:=Ko (fams:=kx (JC ws (dA s.h z.2) z.1).1 p ren.length ren) r1 (aho p) hok hpin
   exact⟨fun i hi x hx=>this.1 i hi x (hpg.1 i hi x hx),fun i hi k x hx=>this.2 i hi k x (hpg.2 i hi k x hx)⟩
  ·cases hc
 ·cases hc
def KE (P:Program)(l:List (Nat×TypeId))(s:au):T au:=
 match l with
 | []=> .ret s
 | (j,t)::r=>
   (match s with
   | ⟨⟨fn,cx,todo,ds,mode,kind,ro⟩,[],h⟩=>
     (match mode,todo,BV.Un (cx.getD j .lH)with
     | .run,.fY _::_,_=>KE P r s
     | .run,.code _::_,true=>(Sk P h t (cx.getD j .lH)).bind fun x=>KE P r ⟨⟨fn,cx.set j (cj P t x.1),todo,ds,mode,kind,ro⟩,[],dA h x.2⟩
     |_,_,_=>KE P r s)
   |_=> .ret s)
def ay.afI {f:FuncId}{rs:List TypeId}{G:mR}:∀(l:List (Nat×TypeId)) {s s':au},T.dy s' (KE P l s)->ay P f rs G s'->ay P f rs G s:=by
 intro l
 induction l with
 |nil=>intro s s' hs' he;rw[T.bm hs'];exact he
 |cons q r ih=>
  obtain⟨j,t⟩:=q
  intro s s' hs' he
  unfold KE at hs'
  split at hs'
  ·rename_i fn cx todo ds mode kind ro h
   split at hs'
   ·exact ih hs' he
   ·rename_i c rr hfz
    obtain⟨x,e1,e2⟩:=T.bI hs'
    refine ay.Af (fun c0 g w lb fr cs1 hs=>?_) (ih e2 he)
    obtain⟨hr,h2,h3,h4⟩:=hs
    obtain⟨j1,j2⟩:=CN hr e1
    obtain⟨k1,k2⟩:=hr.Fm j1
    have hrun:=h3.run rfl
    have hne:∀d k,(dI.code c::rr)≠ .fY d::k:=by intro d k hh;cases hh
    unfold cZ at hrun
    dsimp only at hrun
    have hd:(dA h x.2).next=h.next:=kP h x.2
    refine⟨_,w,lb,fr,cs1,Steps.refl _ _,⟨k1,by dsimp only;rw[hd];exact h2,⟨h3.fn,h3.kind,h3.oI,h3.defers.mono k2.mono,h3.mode.mono k2.mono,h3.round.mono k2.mono,fun hm=>?_,fun hm=>absurd rfl hm⟩,h4⟩,k2⟩
    unfold cZ
    dsimp only
    refine⟨aq.rL (by simpa using hrun.1.length) fun i b' v' hb' hv'=>?_,hrun.2.mono k2.mono⟩
    rw[aiK]at hb'
    split at hb'
    ·rename_i hij
     subst hij
     split at hb'
     ·rename_i hlt
      cases hb'
      have hold:cx[j]?=some (cx.getD j .lH):=by rw[List.getD,ag7 hlt];rfl
      obtain⟨v2,q1,q2⟩:=hrun.1.get hold
      rw[hv']at q1;cases q1
      exact ao.mono (g:=⟨fun _=>none,xN g x.2,fun _ _=>none⟩) (g':={g with fz:=xN g x.2}) (w:=w) (w':=w) ⟨fun b x h=>(by cases h),fun c h=>h,fun _ _=>rfl,fun _ _ h=>h,fun _ _ _ h=>(by first|exact h|cases h)⟩ _ _ (j2 _ q2).1
     ·cases hb'
    ·obtain⟨v2,q1,q2⟩:=hrun.1.get hb'
     rw[hv']at q1;cases q1;exact ao.mono k2.mono _ _ q2
   ·exact ih hs' he
  ·rw[T.bm hs'];exact he
def YJ:List (FuncId×List Nat)->FuncId->Option (List Nat)
 | [],_=>none
 | (g,l)::r,f=>match Nat.beq g f with|true=>some l|false=>YJ r f
def af5 (m:List (FuncId×List Nat))(b:bq):bq:=
 match b with
 | ⟨fn,cx,.inRangeFunc l::k,ds,.run,kind,ro⟩=>(match YJ m fn with|some fL=>⟨fn,CU fL 0 cx,.inRangeFunc l::k,ds,.run,kind,ro⟩|none=>⟨fn,cx,.inRangeFunc l::k,ds,.run,kind,ro⟩)
 |b=>b
def Ux (m:List (FuncId×List Nat)):List bq->List bq
 | []=>[]
 |b::r=>af5 m b::Ux m r
def UI:List bq->Bool
 | []=>true
 | ⟨_,_,.inRangeFunc _::_,_,.run,_,_⟩::r=>UI r
 |_=>false
def abJ (m:List (FuncId×List Nat))(n:Nat)(h:aj):aj:=
 match h.get n with
 |some (.loop r)=>(match YJ m r.fn with|some fL=>h.put n (some (.loop {r with tmps:=CU fL 0 r.tmps}))|none=>h)
 |_=>h
def abI (m:List (FuncId×List Nat)):Nat->aj->aj
 |0,h=>h
 |n+1,h=>abJ m n (abI m n h)
def aem (m:List (FuncId×List Nat))(s:au):au:=
 match m with
 | []=>s
 |m=>
  (match s with
  | ⟨⟨fn,cx,.code c::k,ds,.run,kind,ro⟩,cs,h⟩=>(match UI cs with|true=>⟨⟨fn,cx,.code c::k,ds,.run,kind,ro⟩,Ux m cs,abI m h.next h⟩|false=>s)
  |s=>s)
def YI (m:List (FuncId×List Nat))(n:Nat)(hr:bc P g h w):bc P g (abJ m n h) w/\hJ g h w g (abJ m n h) w:=by
 unfold abJ
 split
 ·rename_i r hb
  split
  ·rename_i fL hl
   exact hr.seen hb (o':= .loop {r with tmps:=CU fL 0 r.tmps}) fun az co hc=>by
    simp only[cV]at hc ⊢
    obtain⟨h0,l,h1,a1,a2,a3,a4,a5⟩:=hc
    exact⟨h0,l,h1,a1,a2,a3,Im a4,a5⟩
  ·exact⟨hr,hJ.refl _ _ _⟩
 ·exact⟨hr,hJ.refl _ _ _⟩
def YH (m:List (FuncId×List Nat))(hr:bc P g h w):∀n,bc P g (abI m n h) w/\hJ g h w g (abI m n h) w:=by
 intro n
 induction n with
 |zero=>exact⟨hr,hJ.refl _ _ _⟩
 |succ n ih=>
  obtain⟨k3,k4⟩:=YI m n ih.1
  exact⟨k3,ih.2.trans k4⟩
def mQ.msk {c0:List Frame}{h':aj}(m:List (FuncId×List Nat)):∀{bs:List bq} {lb:Nat} {cs:List Frame},UI bs=true->mQ P g h w (sg.of c0) lb bs cs->mQ P g h' w (sg.of c0) lb (Ux m bs) cs:=by
 intro bs
 induction bs with
 |nil=>intro lb cs _ hc;exact hc
 |cons b bs ih=>
  intro lb cs hrg hc
  simp only[mQ]at hc
  obtain⟨c,cr,lb1,rfl,h1,h2,h3⟩:=hc
  unfold UI at hrg
  split at hrg
  ·rename_i hh;cases hh
  ·rename_i fn cx l k ds kind ro r hh
   cases hh
   have hrun:=h2.run rfl
   unfold cZ at hrun
   dsimp only at hrun
   have key:∀env',aq P g w env' c.tmps.toList->qI P g h' w lb1 lb false ⟨fn,env',.inRangeFunc l::k,ds,.run,kind,ro⟩ c:=fun env' hv=>
    ⟨h2.fn,h2.kind,h2.oI,h2.defers,h2.mode,h2.round,fun _=>by unfold cZ;exact⟨hv,hrun.2⟩,fun hm=>absurd rfl hm⟩
   simp only[Ux,mQ]
   refine⟨c,cr,lb1,rfl,h1,?_,ih hrg h3⟩
   unfold af5
   dsimp only
   split
   ·exact key _ (Im hrun.1)
   ·exact key _ hrun.1
  ·cases hrg
def ay.msk {f:FuncId}{rs:List TypeId}{G:mR}(m:List (FuncId×List Nat)){s:au}(he:ay P f rs G (aem m s)):ay P f rs G s:=by
 unfold aem at he
 split at he
 ·exact he
 ·split at he
  ·rename_i fn cx c k ds kind ro cs h
   split at he
   ·rename_i hrg
    refine ay.Af (fun c0 g w lb fr cs1 hs=>?_) he
    obtain⟨hr,h2,h3,h4⟩:=hs
    obtain⟨k1,k2⟩:=YH m hr h.next
    refine⟨g,w,lb,fr,cs1,Steps.refl _ _,⟨k1,ahD h2 k2.next,⟨h3.fn,h3.kind,h3.oI,h3.defers,h3.mode,h3.round,fun hm=>?_,fun hm=>absurd rfl hm⟩,mQ.msk m hrg h4⟩,k2⟩
    have hrun:=h3.run rfl
    unfold cZ at hrun ⊢
    exact hrun
   ·exact he
  ·exact he
end
end
end
section
noncomputable section
inductive RT where
 |bj (s:au)
 |Ai (s:au)
 |ret (d:D)
 |aS (v:BV) (L:List (Nat×aI))
 |bG
 |ite (c:Bool) (t e:RT)
 |pick (ks seen:List D) (e:RT) (k:D->RT)
 |HN (t e:RT)
 |same (u v:BV) (t:RT)
 |PU (c b:Bool) (t:RT)
 |call (f:FuncId) (ds:List D) (k:D->RT)
 |aC (f:FuncId) (ags:List BV) (L:List (Nat×aI)) (p:Nat) (k:D->RT)
def T.rt {α:Type}:T α->(α->RT)->RT
 | .ret a,k=>k a
 | .bG,_=> .bG
 | .ite c t e,k=> .ite c (T.rt t k) (T.rt e k)
 | .same u v t,k=> .same u v (T.rt t k)
abbrev afi:=List (FuncId×List TypeId×List TypeId)
def Dl:afi->FuncId->Option (List TypeId×List TypeId)
 | [],_=>none
 | (g,ts,rs)::r,f=>match Nat.beq g f with|true=>some (ts,rs)|false=>Dl r f
abbrev RH:=List BV->List (Nat×aI)->D->T (BV×List (Nat×aI))
abbrev acz:=List (FuncId×RH)
def FD:acz->FuncId->Option RH
 | [],_=>none
 | (g,R)::r,f=>match Nat.beq g f with|true=>some R|false=>FD r f
def ac9 {α:Type}:Option α->Bool
 |some _=>true
 |none=>false
def KP (s:au):Option au:=
 match s with
 | ⟨⟨fn,cx,todo,ds,mode,kind,ro⟩,cs,h⟩=>
   match mode,todo with
   | .run,.inLoop body::k=>some ⟨⟨fn,cx,.code body:: .inLoop body::k,ds,.run,kind,ro⟩,cs,h⟩
   | .run,.code (.loop body)::k=>some ⟨⟨fn,cx,.code body:: .inLoop body::k,ds,.run,kind,ro⟩,cs,h⟩
   |_,_=>none
structure cm where
 f:FuncId
 rs:List TypeId
 bx:Option Nat:=none
 cz:afi:=[]
 bL:acz:=[]
 bJ:List FU:=[]
 B8:F6:=[]
 D0:List (FuncId×List (Option TypeId)):=[]
 fzs:F6:=[]
 xM:List (Option TypeId):=[]
 Ry:List (Option TypeId):=[]
 fze:List (Nat×TypeId):=[]
 msk:List (FuncId×List Nat):=[]
 fzl:List (Nat×Nat×TypeId):=[]
 U5:List FU:=[]
 pns:List (FuncId×Nat):=[]
def ab5:List (FuncId×Nat)->FuncId->Nat->Nat
 | [],_,n=>n
 | (g,m)::r,f,n=>match Nat.beq g f with|true=>m|false=>ab5 r f n
def ac6:List (FuncId×List (Option TypeId))->FuncId->List (Option TypeId)
 | [],_=>[]
 | (g,R)::r,f=>match Nat.beq g f with|true=>R|false=>ac6 r f
def abo:List (Nat×Nat×TypeId)->au->List (Nat×TypeId)
 | [],_=>[]
 | (m,x)::r,s=>match Nat.beq m (Nat.add (UR s.fr.todo) (Nat.mul 4096 s.fr.todo.length))with|true=>x::abo r s|false=>abo r s
def cm.p (C:cm):Nat:=match C.bx with|some p=>p|none=>0
def afB (p:Nat)(l:List FU)(s:au):Option au:=
 match l with
 | []=>none
 |l=>(match s.fr.todo with| .code _::_=>X3 p l s|_=>none)
def goH (P:Program)(C:cm)(K:au->RT)(R:RH)(g:FuncId)(ags:List BV)(fr:bq)(cs:List bq)(h:aj):RT:=
 (match zm h 300 (Bp ags) []with
   |some seen=>(match yR 0 (gB 0 seen).length [] [] (gB 0 seen),EC (Ep h 0 0 (gB 0 seen)) h (gB 0 seen)with
    |true,some L=> .aC g (kA (Ep h 0 0 (gB 0 seen)) ags) L (ab5 C.pns g (JT (ML h 100 (Yl (CQ (Bp ags))) []) seen)) fun d=>
      (R (kA (Ep h 0 0 (gB 0 seen)) ags) L d).rt fun x=>
      (match NF h (gB 0 seen) seen (ab5 C.pns g (JT (ML h 100 (Yl (CQ (Bp ags))) []) seen)) x.2 with
      |some h2=>(rh P fr (sZ (Ms h (gB 0 seen) (ab5 C.pns g (JT (ML h 100 (Yl (CQ (Bp ags))) []) seen))) x.1) h2).rt fun r=>K ⟨r.1,cs,r.2⟩
      |none=> .bG)
    |_,_=> .bG)
   |none=> .bG)
def aej (P:Program)(C:cm)(K:au->RT):Nx->RT
 | .pick ks seen s0 k=> .pick ks seen (K s0) fun d=>K (k d)
 | .HN s1 s2=> .HN (K s1) (K s2)
 | .st s=>
   (match (Mj C.B8 s).ended with
   |true=>(match X9 P C.f (Mj C.B8 s)with
    |some v=>(match C.bx with
     |none=>(abm P (Mj C.B8 s).h C.rs v).rt fun x=> .ret x.1
     |some p=>(abl P (Mj C.B8 s).h C.Ry v).rt fun z=>(match RX p (JC C.xM (dA (Mj C.B8 s).h z.2) z.1).1 (JC C.xM (dA (Mj C.B8 s).h z.2) z.1).2 with|some x=> .aS x.1 x.2|none=> .bG))
    |none=> .bG)
   |false=>(match KP s with
    |some s1=>(KE P (C.fze++abo C.fzl s1) (aem C.msk (Mj C.B8 s1))).rt fun s3=>(match X3 C.p C.bJ s3 with|some s2=> .bj s2|none=>K s1)
    |none=>(Yk P C.fzs (Mj C.B8 s)).rt fun s5=>(KE P C.fze s5).rt fun s4=>(match afB C.p C.U5 s4 with
     |some s2=> .bj s2
     |none=>K s4)))
 | .call g ags fr cs h=>
   (match Dl C.cz g with
   |some (ts,rs)=>(I1 P h ts ags).rt fun x=>
     (match rs.all (D9 P)with
     |true=> .call g x.1 fun d=>(rh P fr (Hp P rs d) h).rt fun r=>K ⟨r.1,cs,r.2⟩
     |false=> .call g x.1 fun d=>(rh P fr (Hp P rs d) (dA h x.2)).rt fun r=>K ⟨r.1,cs,r.2⟩)
   |none=>(match FD C.bL g with
    |some R=>(Ey P h (ac6 C.D0 g) ags).rt fun z=>goH P C K R g z.1 fr cs (dA h z.2)
    |none=> .bG))
def runT (P:Program)(C:cm):Nat->au->RT
 |0,s=> .Ai s
 |n+1,s=>(Z4 P (fun g=>ac9 (Dl C.cz g)||ac9 (FD C.bL g)) s).rt (aej P C (runT P C n))
def rk (P:Program)(C:cm)(G:mR):RT->Prop
 | .bj s=>ay P C.f C.rs G s
 | .Ai s=>ay P C.f C.rs G s
 | .ret d=>(match G with| .dQ Q=>Q d| .bx _ _ _=>False)
 | .aS v L=>(match G with| .dQ _=>False| .bx p R Q=>C.bx=some p/\∃d,T.dy (v,L) (R d)/\Q d)
 | .bG=>False
 | .ite c t e=>(c=true->rk P C G t)/\(c=false->rk P C G e)
 | .pick ks seen e k=>((∀d,d∈ks->d∈seen)->rk P C G e)/\∀d,d∈ks->d∉seen->rk P C G (k d)
 | .HN t e=>rk P C G t/\rk P C G e
 | .same u v t=>u=v/\rk P C G t
 | .PU c b t=>c=b/\rk P C G t
 | .call g ds k=>∃ts rs Q',Dl C.cz g=some (ts,rs)/\fk P g ts ds rs Q'/\∀d,Q' d->rk P C G (k d)
 | .aC g ags L p k=>∃R Q',FD C.bL g=some R/\BZ P g ags L p (R ags L) Q'/\∀d,Q' d->rk P C G (k d)
section
variable {P:Program} {C:cm} {G:mR}
def RT.BG {α:Type}{k:α->RT}:∀{t:T α},rk P C G (T.rt t k)->∃a,T.dy a t/\rk P C G (k a):=by
 intro t
 induction t with
 |ret a=>intro h;exact⟨a,.ret,h⟩
 |bG=>intro h;exact h.elim
 |ite c t e iht ihe=>
  intro h
  cases c with
  |true=>obtain⟨a,h1,h2⟩:=iht (h.1 rfl);exact⟨a,.tt rfl h1,h2⟩
  |false=>obtain⟨a,h1,h2⟩:=ihe (h.2 rfl);exact⟨a,.ff rfl h1,h2⟩
 |same u v t ih=>
  intro h
  obtain⟨a,h1,h2⟩:=ih h.2
  exact⟨a,.same h.1 h1,h2⟩
def EB {s s1:au}(e:KP s=some s1):dm P s=some s1:=by
 obtain⟨⟨fn,cx,todo,ds,mode,kind,ro⟩,cs,h⟩:=s
 unfold KP at e
 dsimp only at e
 split at e
 ·cases e;rfl
 ·cases e;rfl
 ·cases e
def aci (hmix:P.follows .mixedOrders=true)(hp:G.p<=C.p):∀(n:Nat) {s:au},rk P C G (runT P C n s)->ay P C.f C.rs G s:=by
 intro n
 induction n with
 |zero=>intro s h;exact h
 |succ n ih=>
  intro s h
  obtain⟨nx,h1,h2⟩:=RT.BG h
  rcases WY h1 with hg| ⟨ks,seen,s0,k,rfl,hpk⟩| ⟨s1,s2,rfl,hal⟩
  case inr.inl=>exact ay.pick hpk (fun h=>ih (h2.1 h)) (fun d h3 h4=>ih (h2.2 d h3 h4))
  case inr.inr=>exact ay.HN hal (ih h2.1) (ih h2.2)
  cases nx with
  |pick ks seen s0 k=>exact hg.elim
  |HN s1 s2=>exact hg.elim
  |st s1=>
   refine ay.step hmix hg ?_
   unfold aej at h2
   dsimp only at h2
   split at h2
   ·rename_i hend
    refine ay.wid C.B8 ?_
    split at h2
    ·rename_i v hv
     split at h2
     ·obtain⟨x,hx,hq⟩:=RT.BG h2
      cases G with
      |dQ Q=>exact ay.ended hend hv hx hq
      |bx p R Q=>exact hq.elim
     ·rename_i p hpe
      obtain⟨z,hz,h2⟩:=RT.BG h2
      split at h2
      ·rename_i x hx
       cases G with
       |dQ Q=>exact h2.elim
       |bx p' R Q=>
        obtain⟨h3,d,h4,h5⟩:=h2
        rw[hpe]at h3;cases h3
        exact ay.abf C.xM C.Ry hend hv hz hx h4 h5
      ·exact h2.elim
    ·exact h2.elim
   ·split at h2
    ·rename_i s2 hl
     obtain⟨s5,h6,h2⟩:=RT.BG h2
     split at h2
     ·rename_i s3 hc
      exact ay.step hmix (EB hl) (ay.wid C.B8 (ay.msk C.msk (ay.afI (C.fze++abo C.fzl _) h6 (Ue P C.p C.bJ _ _ _ _ _ hp hc h2))))
     ·exact ay.step hmix (EB hl) (ih h2)
    ·obtain⟨s5,h6,h2⟩:=RT.BG h2
     obtain⟨s4,h4,h5⟩:=RT.BG h2
     refine ay.wid C.B8 (ay.agE C.fzs h6 (ay.afI C.fze h4 ?_))
     split at h5
     ·rename_i s3 hc
      unfold afB at hc
      split at hc
      ·cases hc
      ·split at hc
       ·exact Ue P C.p _ _ _ _ _ _ hp hc h5
       ·cases hc
     ·exact ih h5
  |call g ags fr cs h0=>
   unfold aej at h2
   dsimp only at h2
   split at h2
   ·rename_i ts rs hsig
    obtain⟨x,hx,h3⟩:=RT.BG h2
    split at h3
    ·rename_i hsc
     obtain⟨ts',rs',Q',k1,k2,k3⟩:=h3
     rw[hsig]at k1;cases k1
     exact ay.call hmix hg hx k2 true (fun _=>hsc) fun d hd=>by
      obtain⟨r,hr,h5⟩:=RT.BG (k3 d hd)
      exact⟨r,hr,ih h5⟩
    ·obtain⟨ts',rs',Q',k1,k2,k3⟩:=h3
     rw[hsig]at k1;cases k1
     exact ay.call hmix hg hx k2 false (fun hc=>by cases hc) fun d hd=>by
      obtain⟨r,hr,h5⟩:=RT.BG (k3 d hd)
      exact⟨r,hr,ih h5⟩
   ·split at h2
    ·rename_i R hsig
     obtain⟨z,hz,h2⟩:=RT.BG h2
     unfold goH at h2
     split at h2
     ·rename_i seen hseen
      split at h2
      ·rename_i L hok hob
       obtain⟨R',Q',k1,k2,k3⟩:=h2
       rw[hsig]at k1;cases k1
       exact ay.afl hmix hg hz rfl rfl hseen hok hob k2 fun d hd=>by
        obtain⟨x,hx,h6⟩:=RT.BG (k3 d hd)
        split at h6
        ·rename_i hb hbk
         obtain⟨r,hr,h5⟩:=RT.BG h6
         exact⟨x,hb,r,hx,hbk,hr,ih h5⟩
        ·exact h6.elim
      ·exact h2.elim
     ·exact h2.elim
    ·exact h2.elim
end
section
variable {P:Program} {C:cm} {G:mR}
end
section
variable {P:Program} {C:cm} {G:mR}
def RT.okI {c:Bool}{t e:RT}(h1:c=true->rk P C G t)(h2:c=false->rk P C G e):rk P C G (.ite c t e):=⟨h1,h2⟩
def RT.okM {c b:Bool}{t:RT}(h:c=b)(k:rk P C G t):rk P C G (.PU c b t):=⟨h,k⟩
end
def Uh:Nat->List (Nat×BV)->List BV
 |0,_=>[]
 |n+1,l=>Uh n l++[match l.find? (fun p=>Nat.beq p.1 n)with|some p=>p.2|none=> .lH]
def Cz:Nat->Nat->Code->List dI->List dI
 |0,_,_,k=>k
 |f+1,n,c,k=>
  match Nat.ble n 1 with
  |true=> .code c::k
  |false=>
   match c with
   | .seq a b=>(match Nat.beq (Nat.mod n 2) 0 with|true=>Cz f (Nat.div n 2) a (.code b::k)|false=>Cz f (Nat.div n 2) b k)
   | .cond _ a b=>(match Nat.beq (Nat.mod n 2) 0 with|true=>Cz f (Nat.div n 2) a k|false=>Cz f (Nat.div n 2) b k)
   | .block id b=>Cz f (Nat.div n 2) b (.inBlock id::k)
   | .loop b=>Cz f (Nat.div n 2) b (.inLoop b::k)
   | .scope b=>Cz f (Nat.div n 2) b (.inScope b::k)
   |c=> .code c::k
def T8 (P:Program)(f:FuncId):Code:=match P.funcs[f]? with|some fn=>(match fn.body with|some c=>c|none=> .skip)|none=> .skip
def afL (P:Program)(f:FuncId)(path:Nat)(cx:List (Nat×BV))(L:List (Nat×aI)):au:=
 match P.funcs[f]? with
 |some fn=>⟨⟨f,Uh fn.ntmps cx,Cz 200 path (T8 P f) [],[],.run,.normal,none⟩,[],hL L⟩
 |none=>⟨default,[],hL L⟩
end
end
section
section
variable {P:Program} {w:World}
def aaF {fz:Nat->Prop}{t:TypeId}{d:D}{v:Value}(hd:cQ P t=true)(ha:il P t=some false)(h:nG P fz w t d [v]):ao P ⟨fun _=>none,fz,fun _ _=>none⟩ w (cj P t d) v:=by
 have:=nG.yU (g:=⟨fun _=>none,fz,fun _ _=>none⟩) hd h
 simp only[cj,ha]
 split
 ·rename_i y hy;rw[hy]at this;obtain⟨u,hu,h1⟩:=this.one;cases hu;exact h1
 ·simp only[ao]
end
end
end Go.PB
end
