import Derived.Test.YtemiekpfokoplaaGreatM6
set_option linter.all false
noncomputable section
namespace Go.PB
open Go
section
noncomputable section
mutual
def Hu:BV->List (Nat×Bool)
 | .aG b _=>[(b,false)]
 | .vF cs=>Ak cs
 | .aV b _ vt=>[(b,vt)]
 | .vd b _ _ _=>[(b,false)]
 | .pt b _ _ _=>[(b,false)]
 | .map b=>[(b,false)]
 | .PE b _=>[(b,false)]
 | .func _ a c=>Ak a++Ak c
 | .yield l=>[(l,false)]
 | .agg cs=>Ak cs
 | .tuple cs=>Ak cs
 |_=>[]
def Ak:List BV->List (Nat×Bool)
 | []=>[]
 |v::vs=>Hu v++Ak vs
end
def U1:ax->List (Nat×Bool)
 | .cells cs _ _=>Ak cs
 | .jS m _ _ _ _=>[(m,false)]
 | .loop b=>(b.defers,false)::Ak b.tmps
 |_=>[]
def nmI:dI->List (Nat×Bool)
 | .inRangeFunc l=>[(l,false)]
 | .endRangeFunc l=>[(l,false)]
 |_=>[]
def ad8:List dI->List (Nat×Bool)
 | []=>[]
 |i::r=>nmI i++ad8 r
def nmD (d:tZ):List (Nat×Bool):=
 (match d.target with
 | .fn _ c=>Ak c
 | .yield l=>[(l,false)]
 | .collected r=>[(r,false)]
 |_=>[])++Ak d.args
def ad6:List tZ->List (Nat×Bool)
 | []=>[]
 |d::r=>nmD d++ad6 r
def nmF (fr:aZ):List (Nat×Bool):=Ak fr.cx++(ad8 fr.todo++(ad6 fr.defers++(match fr.roundOf with|some l=>[(l,false)]|none=>[])))
def ad7:List aZ->List (Nat×Bool)
 | []=>[]
 |f::r=>nmF f++ad7 r
def BH:List (Nat×Bool)->List (Nat×Bool)
 | []=>[]
 | (b,true)::r=>BH r
 | (b,false)::r=>(b,false)::BH r
def J6:List (Nat×Bool)->List (Nat×Bool)
 | []=>[]
 | (b,true)::r=>(b,true)::J6 r
 | (b,false)::r=>J6 r
def yj (h:af):Nat->List (Nat×Bool)->List Nat->Option (List Nat)
 |0,_,_=>none
 |_+1,[],seen=>some seen
 |n+1,(b,vt)::r,seen=>
  match h.get b with
  |none=>yj h n r seen
  |some o=>(match vt&&!(rC (some o))with
   |true=>none
   |false=>(match QF seen b with
    |true=>yj h n r seen
    |false=>yj h n (r++(BH (U1 o)++J6 (U1 o))) (seen++[b])))
def gw:Nat->List Nat->List (Nat×Nat)
 |_,[]=>[]
 |n,b::r=>(b,n)::gw (n+1) r
def acp:Nat->Nat->List (Nat×Bool)
 |0,_=>[]
 |n+1,i=>(i,false)::acp n (i+1)
def Lk (ren:List (Nat×Nat)):Nat->Bool
 |0=>true
 |n+1=>(match fI ren n with|some m=>Nat.beq m n|none=>false)&&Lk ren n
def XW (φ:I0):dI->Option dI
 | .code c=>some (.code c)
 | .inBlock i=>some (.inBlock i)
 | .inLoop c=>some (.inLoop c)
 | .inScope c=>some (.inScope c)
 | .inRegion aN l=>some (.inRegion aN l)
 | .fQ _=>none
 | .inRangeFunc l=>(match φ.rn l with|some c=>some (.inRangeFunc c)|none=>none)
 | .endRangeFunc l=>(match φ.rn l with|some c=>some (.endRangeFunc c)|none=>none)
 | .beginRound=>some .beginRound
def F4 (φ:I0):List dI->Option (List dI)
 | []=>some []
 |i::r=>match XW φ i,F4 φ r with|some i',some r'=>some (i'::r')|_,_=>none
def aa7 (φ:I0):zu->Option zu
 | .fn f c=>some (.fn f (j6 φ c))
 | .yield l=>(match φ.rn l with|some c=>some (.yield c)|none=>none)
 | .builtin b a t c=>some (.builtin b a t c)
 | .collected r=>(match φ.rn r with|some c=>some (.collected c)|none=>none)
def Pa (φ:I0):List tZ->Option (List tZ)
 | []=>some []
 |d::r=>match aa7 φ d.target,Pa φ r with|some t,some r'=>some (⟨t,j6 φ d.args⟩::r')|_,_=>none
def XX (φ:I0):Option Nat->Option (Option Nat)
 |none=>some none
 |some l=>(match φ.rn l with|some c=>some (some c)|none=>none)
def XV (φ:I0)(fr:aZ):Option aZ:=
 match fr with
 | ⟨fn,cx,todo,ds,mode,kind,ro⟩=>
   match mode,F4 φ todo,Pa φ ds,XX φ ro with
   | .run,some todo',some ds',some ro'=>some ⟨fn,j6 φ cx,todo',ds',.run,kind,ro'⟩
   |_,_,_,_=>none
def Pb (φ:I0):List aZ->Option (List aZ)
 | []=>some []
 |f::r=>match XV φ f,Pb φ r with|some f',some r'=>some (f'::r')|_,_=>none
def jY (h:af)(p n:Nat):List (Nat×Nat)->List (Nat×Nat)
 | []=>[]
 | (a,c)::r=>match h.get a with
   |some (.bo _ (.cp f _) _ _ _)=>(f,match Nat.blt f p with|true=>f|false=>n+c)::jY h p n r
   |_=>jY h p n r
def C3 (h:af)(p n:Nat)(ren:List (Nat×Nat)):I0:=⟨fI ren,fI (jY h p n ren)⟩
def BJ (tG:List Nat):Nat->List BV->List BV
 |_,[]=>[]
 |i,v::r=>(match QF tG i with|true=>v|false=> .kC)::BJ tG (i+1) r
def xQ:List (Nat×TypeId)->List BV->af->List BV×af
 | [],cx,h=>(cx,h)
 | (i,e)::r,cx,h=>
   match cx.getD i .kC with
   | .bJ=>xQ r (cx.set i (.aV h.next 0 true)) (h.new (.an e [] true))
   |_=>xQ r cx h
def LQ (p:Nat)(tG:List Nat)(tW:List (Nat×TypeId))(s:av):Option av:=
 match s with
 | ⟨⟨fn,cx,todo,ds,mode,kind,ro⟩,cs,h⟩=>
   match xQ tW (BJ tG 0 cx) h with
   | (env1,h1)=>
     match yj h1 300 (acp p 0++(nmF ⟨fn,env1,todo,ds,mode,kind,ro⟩++ad7 cs)) []with
     |some seen=>
      (match xL 0 (gw 0 seen).length [] [] (gw 0 seen)&&Lk (gw 0 seen) p&&Nat.ble p (gw 0 seen).length,XV (C3 h1 p (gw 0 seen).length (gw 0 seen)) ⟨fn,env1,todo,ds,mode,kind,ro⟩,Pb (C3 h1 p (gw 0 seen).length (gw 0 seen)) cs,Dj (C3 h1 p (gw 0 seen).length (gw 0 seen)) h1 (gw 0 seen)with
      |true,some fr',some cs',some L=>some ⟨fr',cs',hL L⟩
      |_,_,_,_=>none)
     |none=>none
def Hh:Nat->Code->Nat
 |0,_=>0
 |f+1,c=>
  match c with
  | .seq a b=>Nat.succ (Nat.add (Hh f a) (Hh f b))
  | .cond _ a b=>Nat.succ (Nat.add (Hh f a) (Hh f b))
  | .block _ b=>Nat.succ (Hh f b)
  | .loop b=>Nat.succ (Hh f b)
  | .scope b=>Nat.succ (Hh f b)
  | .region _ aN _=>Nat.succ aN.size
  |_=>1
def SI:List dI->Nat
 | []=>0
 | .code c::r=>Nat.succ (Nat.add (Hh 200 c) (SI r))
 |_::r=>Nat.succ (SI r)
structure Ev where
 fn:FuncId
 depth:Nat
 todo:Nat
 tG:List Nat
 tW:List (Nat×TypeId)
def VJ (p:Nat):List Ev->av->Option av
 | [],_=>none
 |c::r,s=>
  match Nat.beq c.fn s.fr.fn&&(Nat.beq c.depth s.cs.length&&Nat.beq c.todo (Nat.add (SI s.fr.todo) (Nat.mul 4096 s.fr.todo.length)))with
  |true=>(match LQ p c.tG c.tW s with|some s1=>LQ p c.tG [] s1|none=>none)
  |false=>VJ p r s
section
variable {P:Program} {g g':Gh} {h h':af} {w:World} {φ:I0} {lb ub lb' ub':Nat}
def bT.sub (hs:yD P g g' w φ):∀{bs bs':List dI} {is:List Item},bT g bs is->F4 φ bs=some bs'->bT g' bs' is:=by
 intro bs
 induction bs with
 |nil=>intro bs' is h e;simp only[F4,ae3]at e;subst e;exact h
 |cons b bs ih=>
  intro bs' is h e
  simp only[bT]at h
  obtain⟨i,ir,rfl,h1,h2⟩:=h
  simp only[F4]at e
  split at e
  ·rename_i i' r' hi hr
   cases e
   simp only[bT]
   refine⟨i,ir,rfl,?_,ih h2 hr⟩
   cases b<;>simp only[XW,ae3,reduceCtorEq]at hi
   case inRangeFunc l=>
    split at hi
    ·rename_i c hc;cases hi;simp only[eZ]at h1 ⊢;obtain⟨aA,hm,rfl⟩:=h1;exact⟨aA,hs.rn _ _ _ hc hm,rfl⟩
    ·cases hi
   case endRangeFunc l=>
    split at hi
    ·rename_i c hc;cases hi;simp only[eZ]at h1 ⊢;obtain⟨aA,hm,rfl⟩:=h1;exact⟨aA,hs.rn _ _ _ hc hm,rfl⟩
    ·cases hi
   all_goals (subst hi;exact h1)
  ·cases e
def iv.sub (hs:yD P g g' w φ):∀{bs bs':List tZ} {ds:List Deferred},iv P g w bs ds->Pa φ bs=some bs'->iv P g' w bs' ds:=by
 intro bs
 induction bs with
 |nil=>intro bs' ds h e;simp only[Pa,ae3]at e;subst e;exact h
 |cons b bs ih=>
  intro bs' ds h e
  simp only[iv]at h
  obtain⟨d,dr,rfl,h1,h2⟩:=h
  simp only[Pa]at e
  split at e
  ·rename_i t r' ht hr
   cases e
   simp only[iv]
   refine⟨d,dr,rfl,⟨?_,ak.sub hs _ _ h1.2⟩,ih h2 hr⟩
   have h3:=h1.1
   dsimp only
   cases htg:b.target<;>rw[htg]at ht h3<;>simp only[aa7,ae3]at ht
   case fn f c=>subst ht;simp only[ux]at h3 ⊢;obtain⟨c',h4,h5⟩:=h3;exact⟨c',h4,ak.sub hs _ _ h5⟩
   case yield l=>
    split at ht
    ·rename_i c hc;cases ht;simp only[ux]at h3 ⊢;obtain⟨aA,hm,h4⟩:=h3;exact⟨aA,hs.rn _ _ _ hc hm,h4⟩
    ·cases ht
   case collected l=>
    split at ht
    ·rename_i c hc;cases ht;simp only[ux]at h3 ⊢;obtain⟨aA,hm,h4⟩:=h3;exact⟨aA,hs.rn _ _ _ hc hm,h4⟩
    ·cases ht
   all_goals (subst ht;exact h3)
  ·cases e
def mo.sub (hs:yD P g g' w φ){top top':Bool}{b b':aZ}{f:Frame}(hf:mo P g h w lb ub top b f)(e:XV φ b=some b'):mo P g' h' w lb' ub' top' b' f:=by
 obtain⟨fn,cx,todo,ds,mode,kind,ro⟩:=b
 simp only[XV]at e
 split at e
 ·rename_i todo' ds' ro' ht hd hro
  cases e
  have hrun:=hf.run rfl
  unfold cQ at hrun
  dsimp only at hrun
  refine⟨hf.fn,hf.kind,hf.jZ,iv.sub hs hf.defers hd,hf.mode,?_,fun _=>?_,fun hne=>absurd rfl hne⟩
  ·have:=hf.round
   cases ro with
   |none=>simp only[XX,ae3]at hro;subst hro;exact this
   |some l=>
    simp only[XX]at hro
    split at hro
    ·rename_i c hc;cases hro;simp only[kI]at this ⊢;obtain⟨aA,hm,h1⟩:=this;exact⟨aA,hs.rn _ _ _ hc hm,h1⟩
    ·cases hro
  ·unfold cQ
   dsimp only
   have hno:∀d k,todo'≠ .fQ d::k:=by
    rintro d k rfl
    cases todo with
    |nil=>simp[F4]at ht
    |cons i r=>
     simp only[F4]at ht
     split at ht
     ·rename_i i' r' hi hr
      simp only[ae3,ahd]at ht
      obtain⟨rfl,rfl⟩:=ht
      cases i<;>simp only[XW,ae3,reduceCtorEq]at hi
      all_goals (split at hi<;>cases hi)
     ·cases ht
   have hno2:∀d k,todo≠ .fQ d::k:=by
    rintro d k rfl
    simp[F4,XW]at ht
   split at hrun
   ·rename_i d k;exact absurd rfl (hno2 d k)
   ·have hfin:=And.intro (ak.sub hs _ _ hrun.1) (bT.sub hs hrun.2 ht)
    cases todo' with
    |nil=>exact hfin
    |cons i' r'=>cases i'<;>first|exact hfin|exact absurd rfl (hno _ _)
 ·cases e
def ly.sub (hs:yD P g g' w φ){c0:List Frame}:∀{bs bs':List aZ} {lb:Nat} {cs:List Frame},ly P g h w (rG.of c0) lb bs cs->Pb φ bs=some bs'->ly P g' h' w (rG.of c0) 0 bs' cs:=by
 intro bs
 induction bs with
 |nil=>intro bs' lb cs hc e;simp only[Pb,ae3]at e;subst e;exact hc
 |cons b bs ih=>
  intro bs' lb cs hc e
  simp only[ly]at hc
  obtain⟨c,cr,lb1,rfl,h1,h2,h3⟩:=hc
  simp only[Pb]at e
  split at e
  ·rename_i b' r' hb hr
   cases e
   simp only[ly]
   exact⟨c,cr,0,rfl,afa _,h2.sub hs hb,ih h3 hr⟩
  ·cases e
def GK {tG:List Nat}:∀{i:Nat} {cx:List BV} {vs:List Value},ak P g w cx vs->ak P g w (BJ tG i cx) vs:=by
 intro i cx
 induction cx generalizing i with
 |nil=>intro vs h;exact h
 |cons v r ih=>
  intro vs h
  simp only[ak]at h
  obtain⟨u,ur,rfl,h1,h2⟩:=h
  simp only[BJ]
  refine ak.cons ?_ (ih h2)
  split
  ·exact h1
  ·simp[ai]
def UN:∀{tW:List (Nat×TypeId)} {cx:List BV} {h:af} {vs:List Value},aR P g h w->ak P g w cx vs->aR P g (xQ tW cx h).2 w/\gN g h w g (xQ tW cx h).2 w/\ak P g w (xQ tW cx h).1 vs:=by
 intro tW
 induction tW with
 |nil=>intro cx h vs hr hv;exact⟨hr,gN.refl _ _ _,hv⟩
 |cons p r ih=>
  obtain⟨i,e⟩:=p
  intro cx h vs hr hv
  simp only[xQ]
  split
  ·rename_i hn
   obtain⟨k1,k2⟩:=hr.Kp (.an e [] true)
   have hv2:ak P g w (cx.set i (.aV h.next 0 true)) vs:=by
    refine ak.qU (by simpa using hv.length) fun j b v hb hvj=>?_
    rw[agt]at hb
    split at hb
    ·rename_i hij
     subst hij
     split at hb
     ·rename_i hlt
      cases hb
      have hold:cx[i]?=some .bJ:=by
       rw[List.getD,aeY hlt]at hn
       rw[aeY hlt];exact afg some hn
      obtain⟨v2,h1,h2⟩:=hv.get hold
      rw[hvj]at h1;cases h1
      simp only[ai]at h2 ⊢
      exact .inl ⟨⟨trivial,trivial⟩,.inl h2⟩
     ·cases hb
    ·obtain⟨v2,h1,h2⟩:=hv.get hb
     rw[hvj]at h1;cases h1;exact h2
   obtain⟨m1,m2,m3⟩:=ih k1 hv2
   exact⟨m1,k2.trans m2,m3⟩
  ·exact ih hr hv
def UM:∀{tW:List (Nat×TypeId)} {cx:List BV} {h:af} (b:Nat),b<h.next->(xQ tW cx h).2.get b=h.get b:=by
 intro tW
 induction tW with
 |nil=>intro cx h b _;rfl
 |cons p r ih=>
  obtain⟨i,e⟩:=p
  intro cx h b hb
  simp only[xQ]
  split
  ·rw[ih b (by simp;omega),af.dR,aeX (by omega)]
  ·exact ih b hb
def X2 {tW:List (Nat×TypeId)}{cx:List BV}(hl:lb<=h.next):rJ lb g h g (xQ tW cx h).2:=fun b hb hm _=>⟨hm,UM b (by omega)⟩
def aC.frame {f:FuncId}{rs:List TypeId}{G:sS}{tG:List Nat}{tW:List (Nat×TypeId)}{fn:FuncId}{cx:List BV}{todo:List dI}{ds:List tZ}{mode:RD}{kind:CallKind}{ro:Option Nat}{cs:List aZ}{h:af}
 (hm:mode= .run)(hno:∀d k,todo≠ .fQ d::k)(he:aC P f rs G ⟨⟨fn,(xQ tW (BJ tG 0 cx) h).1,todo,ds,mode,kind,ro⟩,cs,(xQ tW (BJ tG 0 cx) h).2⟩):aC P f rs G ⟨⟨fn,cx,todo,ds,mode,kind,ro⟩,cs,h⟩:=by
 refine aC.zg (fun c0 g w lb fr cs1 hs=>?_) he
 obtain⟨hr,h2,h3,h4⟩:=hs
 have hrun:=h3.run hm
 unfold cQ at hrun
 dsimp only at hrun
 split at hrun
 ·rename_i d k;exact absurd rfl (hno d k)
 ·obtain⟨k1,k2,k3⟩:=UN (tW:=tW) hr (GK (tG:=tG) (i:=0) hrun.1)
  have hph:rJ lb g h g (xQ tW (BJ tG 0 cx) h).2:=X2 h2
  refine⟨g,w,lb,fr,cs1,Steps.refl _ _,⟨k1,afw h2 k2.next,?_,h4.mono k2.mono hph⟩,k2⟩
  refine⟨h3.fn,h3.kind,h3.jZ,h3.defers,h3.mode,h3.round,fun _=>?_,fun hne=>absurd hm hne⟩
  unfold cQ
  dsimp only
  cases todo with
  |nil=>exact⟨k3,hrun.2⟩
  |cons i' r'=>cases i'<;>first|exact⟨k3,hrun.2⟩|exact absurd rfl (hno _ _)
def jk (g:Gh)(ren:List (Nat×Nat))(p:Nat)(fams:List (Nat×Nat)):Gh:=
 {m:=fun c=>match Ae ren c with|some a=>g.m a|none=>none,fz:=g.fz,
  s:=fun f' k=>match Nat.blt f' p with|true=>g.s f' k|false=>(match Ae fams f' with|some f=>g.s f k|none=>none)}
def r8 {p n f f':Nat}:∀{ren:List (Nat×Nat)},(f,f')∈jY h p n ren->∃a c o,(a,c)∈ren/\h.get a=some o/\o.yp=some f/\f'=(if f<p then f else n+c):=by
 intro ren
 induction ren with
 |nil=>intro e;cases e
 |cons q r ih=>
  obtain⟨a,c⟩:=q
  intro e
  simp only[jY]at e
  split at e
  ·rename_i kt f1 el l st ck hb
   rcases ae5.1 e with e|e
   ·cases e
    refine⟨a,c,_,afJ,hb,rfl,?_⟩
    by_cases hf:f<p
    ·rw[aeZ hf,show Nat.blt f p=true by simpa [agS]using hf]
    ·rw[aeX hf]
     cases hh:Nat.blt f p with
     |true=>exact absurd (by simpa [agS]using hh) hf
     |false=>rfl
   ·obtain⟨a',c',o,h1,h2⟩:=ih e;exact⟨a',c',o,afn _ h1,h2⟩
  ·obtain⟨a',c',o,h1,h2⟩:=ih e;exact⟨a',c',o,afn _ h1,h2⟩
def kT {o o':ax}(e:pz φ o=some o'){f':Nat}(hf:o'.yp=some f'):∃f,o.yp=some f/\φ.fm f=some f'/\∀k,o'.wA f' k=o.wA f k:=by
 cases o<;>simp only[pz,ae3]at e
 case bo kt vk l st ck=>
  cases vk with
  |data et=>simp only[pz,ae3]at e;subst e;cases hf
  |Ho=>simp only[pz,ae3]at e;subst e;cases hf
  |cp f et=>
   simp only[pz]at e
   split at e
   ·rename_i f1 hf1
    cases e;cases hf
    exact⟨f,rfl,hf1,fun k=>by simp[ax.wA]⟩
   ·cases e
 case jS=>split at e<;>(cases e;try cases hf)
 case loop=>split at e<;>(cases e;try cases hf)
 case deferred d=>
  cases d with
  |none=>simp only[pz,ae3]at e;subst e;cases hf
  |some d=>cases d<;>simp only[pz,ae3,reduceCtorEq]at e;subst e;cases hf
 all_goals first
  | (subst e;cases hf;done)
  | (cases e;done)
def F5 {o o':ax}(e:pz φ o=some o'):o.gH=some o/\o'.gH=some o':=by
 cases o<;>simp only[pz,ae3]at e
 case bo kt vk l st ck=>
  cases vk with
  |data et=>simp only[pz,ae3]at e;subst e;exact⟨rfl,rfl⟩
  |Ho=>simp only[pz,ae3]at e;subst e;exact⟨rfl,rfl⟩
  |cp f et=>
   simp only[pz]at e
   split at e
   ·cases e;exact⟨rfl,rfl⟩
   ·cases e
 case jS=>split at e<;>(cases e;try exact⟨rfl,rfl⟩)
 case loop=>split at e<;>(cases e;try exact⟨rfl,rfl⟩)
 case deferred d=>
  cases d with
  |none=>simp only[pz,ae3]at e;subst e;exact⟨rfl,rfl⟩
  |some d=>cases d<;>simp only[pz,ae3,reduceCtorEq]at e;subst e;exact⟨rfl,rfl⟩
 all_goals first
  | (subst e;exact⟨rfl,rfl⟩)
  | (cases e;done)
def U8.nm:U8->Nat
 | .aA b=>b
 | .el b _ _=>b
def QW {ren:List (Nat×Nat)}:∀{p:Nat},Lk ren p=true->∀i,i<p->(i,i)∈ren:=by
 intro p
 induction p with
 |zero=>intro _ i hi;omega
 |succ p ih=>
  intro e i hi
  simp only[Lk,aeV]at e
  by_cases h:i=p
  ·subst h
   have h1:=e.1
   split at h1
   ·rename_i m hm
    have:=ae8 h1
    subst this
    exact ji hm
   ·cases h1
  ·exact ih e.2 i (by omega)
def wz {ren fams:List (Nat×Nat)}{p:Nat}(hok:xL 0 ren.length [] [] ren=true){a c:Nat}(h:(a,c)∈ren):(jk g ren p fams).m c=g.m a:=by
 obtain⟨_,_,r3⟩:=wO hok
 show (match Ae ren c with|some a=>g.m a|none=>none)=g.m a
 rw[ZA r3 h]
def Gz (hr:aR P g h w){ren:List (Nat×Nat)}{p n:Nat}(hok:xL 0 ren.length [] [] ren=true)(hpn:(p=0/\n=0)\/(p<=ren.length/\n=ren.length)){f1 f2 f':Nat}(h1:(f1,f')∈jY h p n ren)(h2:(f2,f')∈jY h p n ren):f1=f2:=by
 obtain⟨_,_,r3⟩:=wO hok
 obtain⟨a1,c1,o1,m1,g1,k1,e1⟩:=r8 h1
 obtain⟨a2,c2,o2,m2,g2,k2,e2⟩:=r8 h2
 by_cases hf1:f1<p
 ·rw[aeZ hf1]at e1
  by_cases hf2:f2<p
  ·rw[aeZ hf2]at e2;omega
  ·rw[aeX hf2]at e2;rcases hpn with ⟨_,_⟩| ⟨_,_⟩<;>omega
 ·rw[aeX hf1]at e1
  by_cases hf2:f2<p
  ·rw[aeZ hf2]at e2;rcases hpn with ⟨_,_⟩| ⟨_,_⟩<;>omega
  ·rw[aeX hf2]at e2
   have:c1=c2:=by omega
   subst this
   have:=MR r3 m1 m2
   subst this
   rw[g1]at g2;cases g2
   rw[k1]at k2;cases k2;rfl
def K6 (hr:aR P g h w){ren:List (Nat×Nat)}{p n:Nat}(hok:xL 0 ren.length [] [] ren=true){f f1 f2:Nat}(h1:(f,f1)∈jY h p n ren)(h2:(f,f2)∈jY h p n ren):f1=f2:=by
 obtain⟨_,_,r3⟩:=wO hok
 obtain⟨a1,c1,o1,m1,g1,k1,e1⟩:=r8 h1
 obtain⟨a2,c2,o2,m2,g2,k2,e2⟩:=r8 h2
 have:=hr.fu _ _ _ _ _ g1 g2 k1 k2
 subst this
 have:=FY r3 m1 m2
 subst this
 rw[e1,e2]
def Nm (hr:aR P g h w){ren:List (Nat×Nat)}{p n:Nat}(hok:xL 0 ren.length [] [] ren=true)(hpn:(p=0/\n=0)\/(p<=ren.length/\n=ren.length)){f f':Nat}(hf:(f,f')∈jY h p n ren)(k:D):(jk g ren p (jY h p n ren)).s f' k=g.s f k:=by
 show (match Nat.blt f' p with|true=>g.s f' k|false=>(match Ae (jY h p n ren) f' with|some f=>g.s f k|none=>none))=g.s f k
 split
 ·rename_i hb
  have hb:f'<p:=by simpa [agS]using hb
  obtain⟨a,c,o,_,_,_,e⟩:=r8 hf
  by_cases hfp:f<p
  ·rw[aeZ hfp]at e;rw[e]
  ·rw[aeX hfp]at e;rcases hpn with ⟨_,_⟩| ⟨_,_⟩<;>omega
 ·cases e:Ae (jY h p n ren) f' with
  |none=>exact absurd rfl (GG e _ hf)
  |some f1=>rw[Gz hr hok hpn (kQ e) hf]
def Cz (hr:aR P g h w){ren:List (Nat×Nat)}{L:List (Nat×ax)}{p n:Nat}(hok:xL 0 ren.length [] [] ren=true)(hpn:(p=0/\n=0)\/(p<=ren.length/\n=ren.length))(hob:Dj (C3 h p n ren) h ren=some L):
 yD P g (jk g ren p (jY h p n ren)) w (C3 h p n ren)/\aR P (jk g ren p (jY h p n ren)) (hL L) w/\(∀c,nX (jk g ren p (jY h p n ren)) (hL L) c->∃l o au,h.at l=some o/\g.at l=some (c,au)/\∃i,(l.nm,i)∈ren)/\L.length=ren.length/\DV L=ren.map (·.2):=by
 obtain⟨r1,_,r3⟩:=wO hok
 obtain⟨o1,o2⟩:=JJ hob
 have hlen:L.length=ren.length:=by
  have:=afg List.length o1
  rw[JG]at this
  simpa using this
 generalize hfams:jY h p n ren=fams at*
 have fmem:∀{f f'},(f,f')∈fams->∃a c o,(a,c)∈ren/\h.get a=some o/\o.yp=some f/\f'=(if f<p then f else n+c):=fun {f f'} hm=>by rw[<-hfams]at hm;exact r8 hm
 have finj:∀{f1 f2 f'},(f1,f')∈fams->(f2,f')∈fams->f1=f2:=fun {f1 f2 f'} h1 h2=>by rw[<-hfams]at h1 h2;exact Gz hr hok hpn h1 h2
 have fs:∀{f f'} (k:D),(f,f')∈fams->(jk g ren p fams).s f' k=g.s f k:=fun {f f'} k hm=>by rw[<-hfams]at hm ⊢;exact Nm hr hok hpn hm k
 have fass:∀{f f'},(C3 h p n ren).fm f=some f'->(f,f')∈fams:=fun {f f'} hm=>by rw[<-hfams];exact ji hm
 have AE:∀{f f'},(f,f')∈fams->f'<2*L.length:=fun {f f'} hm=>by
  obtain⟨a,c,o,h1,_,_,h2⟩:=fmem hm
  have:=(r1 _ h1).2.2.1
  rw[hlen]
  dsimp only at this
  by_cases hf:f<p
  ·rw[aeZ hf]at h2;rcases hpn with ⟨_,_⟩| ⟨_,_⟩<;>omega
  ·rw[aeX hf]at h2;rcases hpn with ⟨_,_⟩| ⟨_,_⟩<;>omega
 have hs:yD P g (jk g ren p fams) w (C3 h p n ren):=⟨fun b c x hb hm=>by rw[wz hok (ji hb)];exact hm,fun _ hc=>hc,fun f f' k x hf hx=>by rw[fs k (fass hf)];exact hx⟩
 have hgm:∀c x,(jk g ren p fams).m c=some x->∃a,(a,c)∈ren/\g.m a=some x:=by
  intro c x hc
  change (match Ae ren c with|some a=>g.m a|none=>none)=some x at hc
  split at hc
  ·rename_i a ha;exact⟨a,kQ ha,hc⟩
  ·cases hc
 have hgs:∀f' k x,(jk g ren p fams).s f' k=some x->(f'<p/\g.s f' k=some x)\/∃f,(f,f')∈fams/\g.s f k=some x:=by
  intro f' k x hc
  change (match Nat.blt f' p with|true=>g.s f' k|false=>(match Ae fams f' with|some f=>g.s f k|none=>none))=some x at hc
  split at hc
  ·rename_i hb;exact .inl ⟨by simpa [agS]using hb,hc⟩
  ·split at hc
   ·rename_i f hf;exact .inr ⟨f,kQ hf,hc⟩
   ·cases hc
 have hget:∀c o,(hL L).get c=some o->∃b ob,(b,c)∈ren/\h.get b=some ob/\pz (C3 h p n ren) ob=some o:=by
  intro c o hc
  rcases Wx L .leaf hc with hc|hc
  ·obtain⟨b,ob,j1,j2,j3⟩:=o2 c o hc;exact⟨b,ob,j1,j2,j3⟩
  ·rw[Tr.oh]at hc;cases hc
 have hat:∀l o,(hL L).at l=some o->∃l1 ob,(l1.nm,l.nm)∈ren/\h.at l1=some ob/\(jk g ren p fams).at l=g.at l1/\(∀au co,cL P g w ob au co->cL P (jk g ren p fams) w o au co)/\
  ((∃a c,l1= .aA a/\l= .aA c)\/∃a c f f' k,l1= .el a f k/\l= .el c f' k/\(f,f')∈fams):=by
  intro l o hl
  cases l with
  |aA c=>
   obtain⟨h1,h2⟩:=af.wa hl
   obtain⟨a,ob,j1,j2,j3⟩:=hget _ _ h1
   exact⟨.aA a,ob,j1,af.fJ j2 (F5 j3).1,wz hok j1,fun au co hor=>hor.sub hs j3,.inl ⟨a,c,rfl,rfl⟩⟩
  |el c f' k=>
   obtain⟨y,h1,h2⟩:=af.I5 hl
   obtain⟨a,ob,j1,j2,j3⟩:=hget _ _ h1
   obtain⟨f,k1,k2,k3⟩:=kT j3 (ax.mN h2)
   rw[k3]at h2
   have hfm:=fass k2
   refine⟨.el a f k,o,j1,af.Az j2 h2,fs k hfm,fun au co hor=>?_,.inr ⟨a,c,f,f',k,rfl,rfl,hfm⟩⟩
   have:∃el d,o= .an el [d] false:=by
    cases ob<;>try (cases h2;done)
    case bo kt vk l st ck=>
     cases vk with
     |data et=>cases h2
     |Ho=>cases h2
     |cp f1 et=>
      simp only[ax.wA]at h2
      split at h2
      ·cases e:D.eu l k with
       |none=>rw[e]at h2;cases h2
       |some d=>rw[e]at h2;cases h2;exact⟨_,_,rfl⟩
      ·cases h2
   obtain⟨el,d,rfl⟩:=this
   exact(hor.sub (o':= .an el [d] true) hs rfl:_)
 have hnm:HU (jk g ren p fams) (hL L):=by
  refine⟨?_,?_,?_,?_,?_,?_,?_⟩
  ·intro c o hc;obtain⟨b,ob,j1,_⟩:=hget _ _ hc;have:=(r1 _ j1).2.2.1;show c<2*L.length;rw[hlen];dsimp only at this;omega
  ·intro c x hc;obtain⟨a,j1,_⟩:=hgm _ _ hc;have:=(r1 _ j1).2.2.1;show c<2*L.length;rw[hlen];dsimp only at this;omega
  ·intro f' k x hx
   show f'<2*L.length
   rcases hgs _ _ _ hx with ⟨h1,_⟩| ⟨f,h1,_⟩
   ·rw[hlen];rcases hpn with ⟨_,_⟩| ⟨_,_⟩<;>omega
   ·exact AE h1
  ·intro c o f' hc hf
   obtain⟨b,ob,j1,j2,j3⟩:=hget _ _ hc
   obtain⟨f,k1,k2,_⟩:=kT j3 hf
   exact AE (fass k2)
  ·intro c c' o o' f' hc hc' hf hf'
   obtain⟨b,ob,j1,j2,j3⟩:=hget _ _ hc
   obtain⟨b',ob',j1',j2',j3'⟩:=hget _ _ hc'
   obtain⟨f,k1,k2,_⟩:=kT j3 hf
   obtain⟨f1,k1',k2',_⟩:=kT j3' hf'
   have:=finj (fass k2) (fass k2')
   subst this
   have:=hr.fu _ _ _ _ _ j2 j2' k1 k1'
   subst this
   exact FY r3 j1 j1'
  ·intro c o f' k x hc hf hx
   obtain⟨b,ob,j1,j2,j3⟩:=hget _ _ hc
   obtain⟨f,k1,k2,k3⟩:=kT j3 hf
   rw[fs k (fass k2)]at hx
   obtain⟨⟨o1,h1⟩,y,h2⟩:=hr.sk _ _ _ _ _ j2 k1 hx
   exact⟨⟨o1,by rw[k3];exact h1⟩,y,by rw[wz hok j1];exact h2⟩
  ·intro c b' f k hc
   obtain⟨b,ob,j1,j2,j3⟩:=hget _ _ hc
   exact absurd rfl (ax.zf (F5 j3).2)
 refine⟨hs,hnm.Ln ?_ ?_ ?_ hr.lF,?_,hlen,o1⟩
 ·intro l aA au hl
  cases l with
  |aA c=>obtain⟨a,_,j2⟩:=hgm _ _ hl;exact hr.U0 _ _ _ j2
  |el c f' k=>
   rcases hgs _ _ _ hl with ⟨_,h1⟩| ⟨f,_,h1⟩
   ·exact hr.mR (.el c f' k) _ _ h1
   ·exact hr.mR (.el c f k) _ _ h1
 ·intro l l' aA au base' o o' hc hc' m1 m2
  obtain⟨l1,ob,j1,j2,j3,_,j5⟩:=hat _ _ hc
  obtain⟨l1',ob',j1',j2',j3',_,j5'⟩:=hat _ _ hc'
  rw[j3]at m1;rw[j3']at m2
  have:=hr.mS _ _ _ _ _ _ _ j2 j2' m1 m2
  subst this
  have hnm:=FY r3 j1 j1'
  rcases j5 with ⟨a,c,rfl,rfl⟩| ⟨a,c,f,f',k,rfl,rfl,hf⟩
  ·rcases j5' with ⟨a',c',e1,rfl⟩| ⟨a',c',f1,f1',k',e1,rfl,hf'⟩
   ·change c=c' at hnm;rw[hnm]
   ·cases e1
  ·rcases j5' with ⟨a',c',e1,rfl⟩| ⟨a',c',f1,f1',k',e1,rfl,hf'⟩
   ·cases e1
   ·cases e1
    change c=c' at hnm
    have:f'=f1':=by rw[<-hfams]at hf hf';exact K6 hr hok hf hf'
    rw[hnm,this]
 ·intro l o aA au hc m1
  obtain⟨l1,ob,j1,j2,j3,j4,_⟩:=hat _ _ hc
  rw[j3]at m1
  obtain⟨n1,o',n2,n3⟩:=hr.pZ _ _ _ _ j2 m1
  exact⟨n1,o',n2,j4 _ _ n3⟩
 ·rintro c ⟨l,o,au,hb,hm⟩
  obtain⟨l1,ob,j1,j2,j3,_,_⟩:=hat _ _ hb
  rw[j3]at hm
  exact⟨l1,ob,au,j2,hm,_,j1⟩
def I8 (hr:aR P g h w){ren fams:List (Nat×Nat)}{p q:Nat}(hq:q<=p)(hok:xL 0 ren.length [] [] ren=true)(hpin:Lk ren p=true):UT q g (jk g ren p fams):=
 ⟨fun i hi x hx=>by rw[wz hok (QW hpin i (by omega))];exact hx,fun i hi k x hx=>by
   show (match Nat.blt i p with|true=>g.s i k|false=>_)=some x
   rw[show Nat.blt i p=true by simp[agS];omega];exact hx⟩
def KX {f:FuncId}{rs:List TypeId}{G:sS}{p:Nat}(hp:G.p<=p){tG:List Nat}{tW:List (Nat×TypeId)}{s s':av}(e:LQ p tG tW s=some s')(he:aC P f rs G s'):aC P f rs G s:=by
 obtain⟨⟨fn,cx,todo,ds,mode,kind,ro⟩,cs,h⟩:=s
 unfold LQ at e
 dsimp only at e
 generalize hve:xQ tW (BJ tG 0 cx) h=eh at e
 obtain⟨env1,h1⟩:=eh
 dsimp only at e
 split at e
 ·rename_i seen hseen
  generalize hren:gw 0 seen=ren at e
  split at e
  ·rename_i fr' cs' L hok hfr hcs hob
   cases e
   simp only[aeV]at hok
   obtain⟨⟨hok,hpin⟩,hple⟩:=hok
   have hple:=agX hple
   have hmode:mode= .run/\∀d k,todo≠ .fQ d::k:=by
    unfold XV at hfr
    dsimp only at hfr
    split at hfr
    ·rename_i t' d' r' ht _ _
     exact⟨rfl,fun d k hk=>by subst hk;simp[F4,XW]at ht⟩
    ·cases hfr
   refine aC.frame (tG:=tG) (tW:=tW) hmode.1 hmode.2 ?_
   rw[hve]
   dsimp only
   intro c0 g w lb fr cs1 hs
   obtain⟨hr,h2,h3,h4⟩:=hs
   dsimp only at hr h2 h3 h4
   obtain⟨q1,q2,q3,q4,_⟩:=Cz hr hok (.inr ⟨hple,rfl⟩) hob
   obtain⟨w',fr2,v',g',h',m1,m2,m3,m4,m5,m6⟩:=he c0 _ w 0 fr cs1 ⟨q2,agr _,h3.sub q1 hfr,ly.sub q1 h4 hcs⟩
   have hown:∀c,nX (jk g ren p (jY h1 p ren.length ren)) (hL L) c->nX g h1 c:=fun c hc=>by obtain⟨a,o,au,j1,j2,_⟩:=q3 c hc;exact⟨a,o,au,j1,j2⟩
   have hpn:=I8 (fams:=jY h1 p ren.length ren) hr hp hok hpin
   refine⟨w',fr2,v',g',h',m1,m2,m3,⟨m4.size,fun c hc ho=>m4.AV c hc fun h=>ho (hown c h),m4.fz,fun c hc hf=>(m4.PA c hc hf).imp id (hown c),m4.lF,fun c hc ho=>hown c (m4.gH c hc ho),m4.ms,m4.os⟩,⟨fun i hi x hx=>m5.m i hi x (hpn.m i hi x hx),fun i hi k x hx=>m5.s i hi k x (hpn.s i hi k x hx)⟩,m6⟩
  ·cases e
 ·cases e
def ac5 (P:Program)(p:Nat)(cut:av->Option av):Prop:=
 ∀(f:FuncId) (rs:List TypeId) (G:sS) (s s':av),G.p<=p->cut s=some s'->aC P f rs G s'->aC P f rs G s
def R4 (P:Program)(p:Nat):∀(l:List Ev),ac5 P p (VJ p l):=by
 intro l
 induction l with
 |nil=>intro f rs G s s' _ e;cases e
 |cons c r ih=>
  intro f rs G s s' hp e he
  simp only[VJ]at e
  split at e
  ·split at e
   ·rename_i s1 h1
    exact KX hp h1 (KX hp e he)
   ·cases e
  ·exact ih f rs G s s' hp e he
def PV (p:Nat)(h:af)(v:BV):Option (BV×List (Nat×ax)):=
 match yj h 300 (acp p 0++Hu v) []with
 |some seen=>
  (match xL 0 (gw 0 seen).length [] [] (gw 0 seen)&&Lk (gw 0 seen) p&&Nat.ble p (gw 0 seen).length,Dj (C3 h p (gw 0 seen).length (gw 0 seen)) h (gw 0 seen)with
  |true,some L=>some (p5 (C3 h p (gw 0 seen).length (gw 0 seen)) v,L)
  |_,_=>none)
 |none=>none
mutual
def ai.GD:∀(b:BV) (v:Value),ai P g w b v->∀x,(x,false)∈Hu b->g.m x≠none
 | .aG b off,v,h,x,hx=>by simp only[Hu,afj,afQ]at hx;simp only[ai]at h;obtain⟨_,_,hm,_⟩:=h;rw[hx.1,hm];simp
 | .vF cs,v,h,x,hx=>by simp only[Hu]at hx;simp only[ai]at h;obtain⟨_,_,_,_,vs,hv,_⟩:=h;exact ak.GD cs vs hv x hx
 | .aV b n vt,v,h,x,hx=>by
   simp only[Hu,afj,afQ]at hx
   simp only[ai]at h
   rcases h with ⟨⟨h1,_⟩,_⟩| ⟨_,_,_,hm,_⟩
   ·rw[<-hx.2]at h1;cases h1
   ·rw[hx.1,hm];simp
 | .vd b e i off,v,h,x,hx=>by simp only[Hu,afj,afQ]at hx;simp only[ai]at h;obtain⟨_,_,hm,_⟩:=h;rw[hx.1,hm];simp
 | .pt b f k off,v,h,x,hx=>by simp only[Hu,afj,afQ]at hx;simp only[ai]at h;obtain⟨_,_,_,_,y,hy⟩:=h;rw[hx.1,hy];simp
 | .PE b n,v,h,x,hx=>by simp only[Hu,afj,afQ]at hx;simp only[ai]at h;obtain⟨_,_,hm,_⟩:=h;rw[hx.1,hm];simp
 | .DW,_,_,x,hx=>by simp[Hu]at hx
 | .Mm,_,_,x,hx=>by simp[Hu]at hx
 | .map b,v,h,x,hx=>by simp only[Hu,afj,afQ]at hx;simp only[ai]at h;obtain⟨_,hm,_⟩:=h;rw[hx.1,hm];simp
 | .func fn a c,v,h,x,hx=>by
   simp only[Hu,afp]at hx;simp only[ai]at h;obtain⟨_,_,_,ha,hc⟩:=h
   rcases hx with hx|hx
   ·exact ak.GD a _ ha x hx
   ·exact ak.GD c _ hc x hx
 | .yield l,v,h,x,hx=>by simp only[Hu,afj,afQ]at hx;simp only[ai]at h;obtain⟨_,hm,_⟩:=h;rw[hx.1,hm];simp
 | .agg cs,v,h,x,hx=>by simp only[Hu]at hx;simp only[ai]at h;obtain⟨vs,_,hv⟩:=h;exact ak.GD cs _ hv x hx
 | .tuple cs,v,h,x,hx=>by simp only[Hu]at hx;simp only[ai]at h;obtain⟨vs,_,hv⟩:=h;exact ak.GD cs _ hv x hx
 | .kC,_,_,x,hx=>by simp[Hu]at hx
 | .bool _,_,_,x,hx=>by simp[Hu]at hx
 | .int _ _,_,_,x,hx=>by simp[Hu]at hx
 | .bj _,_,_,x,hx=>by simp[Hu]at hx
 | .gT,_,_,x,hx=>by simp[Hu]at hx
 | .bJ,_,_,x,hx=>by simp[Hu]at hx
 | .ku,_,_,x,hx=>by simp[Hu]at hx
 | .bC _ _,_,_,x,hx=>by simp[Hu]at hx
 | .DO _ _,_,_,x,hx=>by simp[Hu]at hx
 | .Kq,_,_,x,hx=>by simp[Hu]at hx
def ak.GD:∀(bs:List BV) (vs:List Value),ak P g w bs vs->∀x,(x,false)∈Ak bs->g.m x≠none
 | [],_,_,x,hx=>by simp[Ak]at hx
 |b::bs,vs,h,x,hx=>by
  simp only[Ak,afp]at hx
  simp only[ak]at h
  obtain⟨v,vr,rfl,h1,h2⟩:=h
  rcases hx with hx|hx
  ·exact ai.GD b v h1 x hx
  ·exact ak.GD bs vr h2 x hx
end
def cL.GD {o:ax}{au:Nat}{co:Obj}(h:cL P g w o au co):∀x,(x,false)∈U1 o->g.m x≠none:=by
 intro x hx
 cases o with
 |cells cs e s=>simp only[U1]at hx;simp only[cL]at h;obtain⟨_,_,_,_,⟨vs,hv,_⟩,_⟩:=h;exact ak.GD cs vs hv x hx
 |jS m ks st ck seen=>simp only[U1,afj,afQ]at hx;simp only[cL]at h;obtain⟨_,_,hm,_⟩:=h;rw[hx.1,hm];simp
 |loop b=>
  simp only[U1,ae5,afQ]at hx;simp only[cL]at h;obtain⟨_,l,_,_,_,_,ht,_,_,_,hd⟩:=h
  rcases hx with ⟨rfl,_⟩|hx
  ·rw[hd];simp
  ·exact ak.GD _ _ ht x hx
 |_=>simp[U1]at hx
def Th {y:Nat}{b:Bool}:∀{l:List (Nat×Bool)},(y,b)∈BH l++J6 l->(y,b)∈l:=by
 intro l h
 have h1:∀l:List (Nat×Bool),(y,b)∈BH l->(y,b)∈l:=by
  intro l
  induction l with
  |nil=>intro h;exact h
  |cons p r ih=>
   obtain⟨x,c⟩:=p
   intro h
   cases c with
   |true=>exact afn _ (ih h)
   |false=>
    simp only[BH]at h
    rcases ae5.1 h with h|h
    ·rw[h];exact afJ
    ·exact afn _ (ih h)
 have h2:∀l:List (Nat×Bool),(y,b)∈J6 l->(y,b)∈l:=by
  intro l
  induction l with
  |nil=>intro h;exact h
  |cons p r ih=>
   obtain⟨x,c⟩:=p
   intro h
   cases c with
   |false=>exact afn _ (ih h)
   |true=>
    simp only[J6]at h
    rcases ae5.1 h with h|h
    ·rw[h];exact afJ
    ·exact afn _ (ih h)
 rcases afp.1 h with h|h
 ·exact h1 l h
 ·exact h2 l h
def OR (hr:aR P g h w):∀(n:Nat) {todo:List (Nat×Bool)} {seen l:List Nat},yj h n todo seen=some l->(∀x,(x,false)∈todo->g.m x≠none)->∀b∈l,b∈seen\/(g.m b=none->rC (h.get b)=true):=by
 intro n
 induction n with
 |zero=>intro todo seen l e;cases e
 |succ n ih=>
  intro todo seen l e ht b hb
  cases todo with
  |nil=>simp only[yj,ae3]at e;subst e;exact .inl hb
  |cons p r=>
   obtain⟨x,vt⟩:=p
   have htr:∀y,(y,false)∈r->g.m y≠none:=fun y hy=>ht y (afn _ hy)
   simp only[yj]at e
   split at e
   ·exact ih e htr b hb
   ·rename_i o ho
    split at e
    ·cases e
    ·rename_i hvt
     split at e
     ·exact ih e htr b hb
     ·have hgood:g.m x=none->rC (h.get x)=true:=by
       intro hm
       cases vt with
       |false=>exact absurd hm (ht x afJ)
       |true=>rw[ho];simpa using hvt
      have hnext:∀y,(y,false)∈r++(BH (U1 o)++J6 (U1 o))->g.m y≠none:=by
       intro y hy
       rcases afp.1 hy with hy|hy
       ·exact htr y hy
       ·have hy:=Th hy
        cases hm:g.m x with
        |none=>
         have:=hgood hm
         rw[ho]at this
         cases o<;>simp[rC]at this
         simp[U1]at hy
        |some q=>
         obtain⟨aA,au⟩:=q
         cases hoo:o.gH with
         |none=>cases o<;>first| (simp[U1]at hy;done)|cases hoo
         |some o2=>
          have:=ax.Oh hoo
          obtain⟨rfl,hoo⟩:=this
          obtain⟨_,o',_,hor⟩:=hr.U2 _ _ _ _ ho hm hoo
          exact hor.GD y hy
      rcases ih e hnext b hb with h1|h1
      ·rcases afp.1 h1 with h1|h1
       ·exact .inl h1
       ·simp at h1;subst h1;exact .inr hgood
      ·exact .inr h1
def QG {i:Nat}{o:ax}:∀{L:List (Nat×ax)},(i,o)∈L->(L.map (·.1)).Nodup->∀t:Tr ax,Tr.get (Ko L t) i=some o:=by
 intro L
 induction L with
 |nil=>intro h;cases h
 |cons q r ih=>
  obtain⟨j,oj⟩:=q
  intro h hn t
  rw[afP,afD]at hn
  simp only[Ko]
  rcases ae5.1 h with h|h
  ·cases h
   rw[QH r _ fun p hp he=>hn.1 (afy.2 ⟨p,hp,he⟩),Tr.z6 _ _ _ _ _ (by omega),aeZ rfl]
  ·exact ih h hn.2 _
def yF (ren:List (Nat×Nat))(p next i:Nat):Option Nat:=match Nat.blt i p with|true=>Ae ren i|false=>some (next+(i-p))
def Da (fams:List (Nat×Nat))(p next f:Nat):Option Nat:=match Nat.blt f p with|true=>Ae fams f|false=>some (next+(f-p))
def KT (h:af)(ren:List (Nat×Nat))(p:Nat):I0:=⟨yF ren p h.next,Da (jY h 0 0 ren) p h.next⟩
def Xw (ψ:I0):List (Nat×ax)->af->Option af
 | [],h=>some h
 | (i,o)::r,h=>match ψ.rn i,pz ψ o with|some b,some o'=>Xw ψ r (h.put b (some o'))|_,_=>none
def CH:Nat->List (Nat×ax)->Bool
 |_,[]=>true
 |n,(i,_)::r=>Nat.beq n i&&CH (n+1) r
def V9:List (Nat×Bool)->List Nat
 | []=>[]
 | (b,_)::r=>b::V9 r
def La (h:af):Nat->List Nat->List Nat->List Nat
 |0,_,acc=>acc
 |_+1,[],acc=>acc
 |n+1,b::r,acc=>match QF acc b with
  |true=>La h n r acc
  |false=>(match h.get b with
   |some o=>La h n (r++V9 (BH (U1 o))) (acc++[b])
   |none=>La h n r (acc++[b]))
def IE (hs:List Nat):List Nat->Nat
 | []=>0
 |b::r=>match QF hs b with|true=>Nat.succ (IE hs r)|false=>0
def LL (h:af)(ren:List (Nat×Nat))(seen:List Nat)(p:Nat)(L:List (Nat×ax)):Option af:=
 match CH 0 L,Xw (KT h ren p) L (dB h seen)with
 |true,some h1=>some ⟨h1.next+2*L.length,h1.tr⟩
 |_,_=>none
def JF:∀{L:List (Nat×ax)} {n:Nat},CH n L=true->(∀p∈L,n<=p.1/\p.1<n+L.length)/\(L.map (·.1)).Nodup:=by
 intro L
 induction L with
 |nil=>intro n _;exact⟨fun p hp=>(by cases hp),ahq⟩
 |cons q r ih=>
  obtain⟨i,o⟩:=q
  intro n e
  simp only[CH,aeV]at e
  have:=ae8 e.1
  subst this
  obtain⟨h1,h2⟩:=ih e.2
  refine⟨fun p hp=>?_,?_⟩
  ·rcases ae5.1 hp with rfl|hp
   ·simp
   ·have:=h1 p hp;simp only[ae9];omega
  ·rw[afP,afD]
   refine⟨fun hm=>?_,h2⟩
   obtain⟨p,hp,he⟩:=afy.1 hm
   have:=(h1 p hp).1
   dsimp only at he;omega
def Ui {ψ:I0}:∀{L:List (Nat×ax)} {h h1:af},Xw ψ L h=some h1->(L.map (·.1)).Nodup->(∀i j b,ψ.rn i=some b->ψ.rn j=some b->i∈L.map (·.1)->j∈L.map (·.1)->i=j)->
 h1.next=h.next/\(∀i o,(i,o)∈L->∃b o',ψ.rn i=some b/\pz ψ o=some o'/\h1.get b=some o')/\∀b,(∀i,i∈L.map (·.1)->ψ.rn i≠some b)->h1.get b=h.get b:=by
 intro L
 induction L with
 |nil=>intro h h1 e _ _;simp only[Xw,ae3]at e;subst e;exact⟨rfl,fun i o hi=>(by cases hi),fun b _=>rfl⟩
 |cons q r ih=>
  obtain⟨i,o⟩:=q
  intro h h1 e hnd hinj
  simp only[Xw]at e
  split at e
  ·rename_i b o' hb ho
   rw[afP,afD]at hnd
   obtain⟨k1,k2,k3⟩:=ih e hnd.2 fun i j b h1 h2 h3 h4=>hinj i j b h1 h2 (afn _ h3) (afn _ h4)
   refine⟨by simpa using k1,fun j oj hj=>?_,fun b1 hb1=>?_⟩
   ·rcases ae5.1 hj with hj|hj
    ·cases hj
     refine⟨b,o',hb,ho,?_⟩
     have hno:∀j,j∈r.map (·.1)->ψ.rn j≠some b:=fun j2 hj2 he2=>by
      have h5:=hinj j2 _ b he2 hb (afn _ hj2) afJ
      try dsimp only at h5
      rw[h5]at hj2
      exact hnd.1 hj2
     rw[k3 b hno,af.fe,aeZ rfl]
    ·exact k2 j oj hj
   ·rw[k3 b1 fun j hj=>hb1 j (afn _ hj),af.fe,aeX]
    intro he;subst he;exact hb1 i afJ hb
  ·cases e
def WV {b i:Nat}:∀{l:List Nat} {n:Nat},(b,i)∈gw n l->b∈l:=by
 intro l
 induction l with
 |nil=>intro n h;cases h
 |cons x r ih=>
  intro n h
  rcases ae5.1 h with h|h
  ·cases h;exact afJ
  ·exact afn _ (ih h)
def Vs {w':World}(hr:aR P g h w){seen:List Nat}{L L':List (Nat×ax)}{p:Nat}{h2:af}(hgood:∀b∈seen,g.m b=none->rC (h.get b)=true)
 (hok:xL 0 (gw 0 seen).length [] [] (gw 0 seen)=true)(hob:Dj (C3 h 0 0 (gw 0 seen)) h (gw 0 seen)=some L)(hbk:LL h (gw 0 seen) seen p L'=some h2)
 (hx:EH (jk g (gw 0 seen) 0 (jY h 0 0 (gw 0 seen))) (hL L) w g' (hL L') w')(hpin:UT p (jk g (gw 0 seen) 0 (jY h 0 0 (gw 0 seen))) g')(hr':aR P g' (hL L') w'):
 ∃g2,yD P g' g2 w' (KT h (gw 0 seen) p)/\aR P g2 h2 w'/\gN g h w g2 h2 w'/\∀lb,lb<=h.next->rJ lb g h g2 h2:=by
 obtain⟨q1,q2,q3,q4,_⟩:=Cz hr hok (.inl ⟨rfl,rfl⟩) hob
 obtain⟨r1,_,r3⟩:=wO hok
 obtain⟨o1,o2⟩:=JJ hob
 generalize hren:gw 0 seen=ren at*
 unfold LL at hbk
 split at hbk
 case h_2=>cases hbk
 rename_i h1 hnm hput
 cases hbk
 obtain⟨n1,n2⟩:=JF hnm
 have hseen:∀b i,(b,i)∈ren->b∈seen:=fun b i hi=>by rw[<-hren]at hi;exact WV hi
 have hgetS:∀b i,(b,i)∈ren->∃o,h.get b=some o:=fun b i hi=>by
  have:i∈DV L:=by rw[o1];exact afy.2 ⟨(b,i),hi,rfl⟩
  rw[JG]at this
  obtain⟨q,hq,hqi⟩:=afy.1 this
  obtain⟨c,o⟩:=q
  dsimp only at hqi;subst hqi
  obtain⟨b',ob,j1,j2,_⟩:=o2 _ _ hq
  have:=MR r3 hi j1
  subst this;exact⟨ob,j2⟩
 have hlt:∀b i,(b,i)∈ren->b<h.next:=fun b i hi=>by obtain⟨o,ho⟩:=hgetS b i hi;exact hr.HY _ _ ho
 generalize hfams:jY h 0 0 ren=fams at*
 have fmem:∀{f f'},(f,f')∈fams->∃a o,(a,f')∈ren/\h.get a=some o/\o.yp=some f:=fun {f f'} hm=>by
  rw[<-hfams]at hm
  obtain⟨a,c,o,h1,h2,h3,h4⟩:=r8 hm
  rw[aeX (ah7 _),afT]at h4
  subst h4
  exact⟨a,o,h1,h2,h3⟩
 have finj:∀{f1 f2 f'},(f1,f')∈fams->(f2,f')∈fams->f1=f2:=fun {f1 f2 f'} h1 h2=>by rw[<-hfams]at h1 h2;exact Gz hr hok (.inl ⟨rfl,rfl⟩) h1 h2
 have ffun:∀{f f1 f2},(f,f1)∈fams->(f,f2)∈fams->f1=f2:=fun {f f1 f2} h1 h2=>by rw[<-hfams]at h1 h2;exact K6 hr hok h1 h2
 have fs:∀{f f'} (k:D),(f,f')∈fams->(jk g ren 0 fams).s f' k=g.s f k:=fun {f f'} k hm=>by rw[<-hfams]at hm ⊢;exact Nm hr hok (.inl ⟨rfl,rfl⟩) hm k
 have AE:∀{f f'},(f,f')∈fams->f<h.next:=fun {f f'} hm=>by obtain⟨a,o,_,h2,h3⟩:=fmem hm;exact hr.AE _ _ _ h2 h3
 have fseen:∀{f f'} {b:Nat} {o:ax},(f,f')∈fams->h.get b=some o->o.yp=some f->b∈seen:=fun {f f' b o} hm h1 h2=>by
  obtain⟨a,oa,h3,h4,h5⟩:=fmem hm
  rw[hr.fu _ _ _ _ _ h1 h4 h2 h5];exact hseen _ _ h3
 let g2:Gh:={m:=fun x=>if x<h.next then (match fI ren x with|some i=>(if i<p then g'.m i else g.m x)|none=>g.m x)else g'.m (p+(x-h.next)),fz:=g'.fz,s:=fun f k=>if f<h.next then (match fI fams f with|some f'=>(if f'<p then g'.s f' k else g.s f k)|none=>g.s f k)else g'.s (p+(f-h.next)) k}
 have rfun:∀{b i j},(b,i)∈ren->(b,j)∈ren->i=j:=fun h1 h2=>FY r3 h1 h2
 have g2old:∀x,x<h.next->(∀i,(x,i)∈ren->¬i<p)->g2.m x=g.m x:=fun x hx hno=>by
  show (if x<h.next then (match fI ren x with|some i=>(if i<p then g'.m i else g.m x)|none=>g.m x)else _)=_
  rw[aeZ hx]
  cases e:fI ren x with
  |none=>rfl
  |some i=>dsimp only;rw[aeX (hno i (ji e))]
 have g2pin:∀b i,(b,i)∈ren->i<p->g2.m b=g'.m i:=fun b i hm hp=>by
  show (if b<h.next then (match fI ren b with|some i=>(if i<p then g'.m i else g.m b)|none=>g.m b)else _)=_
  rw[aeZ (hlt _ _ hm)]
  cases e:fI ren b with
  |none=>exact absurd rfl (Bg e _ hm)
  |some j=>
   have:=rfun (ji e) hm
   subst this
   dsimp only;rw[aeZ hp]
 have g2mono:∀b x,g.m b=some x->g2.m b=some x:=fun b x hm=>by
  have hb:=hr.lt _ _ hm
  show (if b<h.next then (match fI ren b with|some i=>(if i<p then g'.m i else g.m b)|none=>g.m b)else _)=_
  rw[aeZ hb]
  cases e:fI ren b with
  |none=>exact hm
  |some i=>
   dsimp only
   split
   ·rename_i hp;exact hpin.m i hp x (by rw[wz hok (ji e)];exact hm)
   ·exact hm
 have g2ge:∀k,g2.m (h.next+k)=g'.m (p+k):=fun k=>by
  show (if h.next+k<h.next then _ else g'.m (p+(h.next+k-h.next)))=_
  rw[aeX (by omega),ahh]
 have s2ge:∀f k,g2.s (h.next+f) k=g'.s (p+f) k:=fun f k=>by
  show (if h.next+f<h.next then _ else g'.s (p+(h.next+f-h.next)) k)=_
  rw[aeX (by omega),ahh]
 have s2pin:∀{f f'} (k:D),(f,f')∈fams->f'<p->g2.s f k=g'.s f' k:=fun {f f'} k hm hp=>by
  show (if f<h.next then (match fI fams f with|some f'=>(if f'<p then g'.s f' k else g.s f k)|none=>g.s f k)else _)=_
  rw[aeZ (AE hm)]
  cases e:fI fams f with
  |none=>exact absurd rfl (Bg e _ hm)
  |some f1=>
   have:=ffun (ji e) hm
   subst this
   dsimp only;rw[aeZ hp]
 have s2old:∀f (k:D),f<h.next->(∀f',(f,f')∉fams)->g2.s f k=g.s f k:=fun f k hf hno=>by
  show (if f<h.next then (match fI fams f with|some f'=>(if f'<p then g'.s f' k else g.s f k)|none=>g.s f k)else _)=_
  rw[aeZ hf]
  cases e:fI fams f with
  |none=>rfl
  |some f1=>exact absurd (ji e) (hno f1)
 have s2mono:∀f k x,g.s f k=some x->g2.s f k=some x:=fun f k x hs=>by
  have hf:=hr.Eh _ _ _ hs
  show (if f<h.next then (match fI fams f with|some f'=>(if f'<p then g'.s f' k else g.s f k)|none=>g.s f k)else _)=_
  rw[aeZ hf]
  cases e:fI fams f with
  |none=>exact hs
  |some f1=>
   dsimp only
   split
   ·rename_i hp;exact hpin.s f1 hp k x (by rw[fs k (ji e)];exact hs)
   ·exact hs
 have hrn:∀i b,yF ren p h.next i=some b->(i<p/\Ae ren i=some b)\/(p<=i/\b=h.next+(i-p)):=fun i b hb=>by
  unfold yF at hb
  split at hb
  ·rename_i hlt;exact .inl ⟨by simpa [agS]using hlt,hb⟩
  ·rename_i hlt;cases hb;exact .inr ⟨by
    have:¬(i<p):=fun hc=>by rw[show Nat.blt i p=true by simpa [agS]using hc]at hlt;cases hlt
    omega,rfl⟩
 have hfn:∀f' f,Da fams p h.next f'=some f->(f'<p/\(f,f')∈fams)\/(p<=f'/\f=h.next+(f'-p)):=fun i b hb=>by
  unfold Da at hb
  split at hb
  ·rename_i hlt;exact .inl ⟨by simpa [agS]using hlt,kQ hb⟩
  ·rename_i hlt;cases hb;exact .inr ⟨by
    have:¬(i<p):=fun hc=>by rw[show Nat.blt i p=true by simpa [agS]using hc]at hlt;cases hlt
    omega,rfl⟩
 have hg2:∀i b,yF ren p h.next i=some b->g2.m b=g'.m i:=fun i b hb=>by
  rcases hrn i b hb with ⟨hi,hb⟩| ⟨hi,rfl⟩
  ·exact g2pin b i (kQ hb) hi
  ·rw[g2ge];congr 1;omega
 have hs2:∀f' f (k:D),Da fams p h.next f'=some f->g2.s f k=g'.s f' k:=fun f' f k hb=>by
  rcases hfn f' f hb with ⟨hi,hb⟩| ⟨hi,rfl⟩
  ·exact s2pin k hb hi
  ·rw[s2ge];congr 1;omega
 have hbs:KT h ren p=⟨yF ren p h.next,Da fams p h.next⟩:=by unfold KT;rw[hfams]
 rw[hbs]at hput ⊢
 have hs:yD P g' g2 w' ⟨yF ren p h.next,Da fams p h.next⟩:=⟨fun i b x hb hm=>by rw[hg2 i b hb];exact hm,fun _ hc=>hc,fun f' f k x hf hx=>by rw[hs2 f' f k hf];exact hx⟩
 have hinj:∀i j b,yF ren p h.next i=some b->yF ren p h.next j=some b->i=j:=fun i j b hi hj=>by
  rcases hrn i b hi with ⟨h3,h4⟩| ⟨h3,h4⟩<;>rcases hrn j b hj with ⟨h5,h6⟩| ⟨h5,h6⟩
  ·exact FY r3 (kQ h4) (kQ h6)
  ·have:=hlt _ _ (kQ h4);omega
  ·have:=hlt _ _ (kQ h6);omega
  ·omega
 have finj2:∀f1 f2 f,Da fams p h.next f1=some f->Da fams p h.next f2=some f->f1=f2:=fun i j b hi hj=>by
  rcases hfn i b hi with ⟨h3,h4⟩| ⟨h3,h4⟩<;>rcases hfn j b hj with ⟨h5,h6⟩| ⟨h5,h6⟩
  ·exact ffun h4 h6
  ·have:=AE h4;omega
  ·have:=AE h6;omega
  ·omega
 obtain⟨p1,p2,p3⟩:=Ui hput n2 fun i j b hi hj _ _=>hinj i j b hi hj
 rw[kq]at p1
 have hget:∀b o,h1.get b=some o->(b∉seen/\h.get b=some o)\/∃i oi,(i,oi)∈L'/\yF ren p h.next i=some b/\pz ⟨yF ren p h.next,Da fams p h.next⟩ oi=some o:=fun b o hb=>by
  by_cases hex:∃i,i∈L'.map (·.1)/\yF ren p h.next i=some b
  ·obtain⟨i,hi,hib⟩:=hex
   obtain⟨q,hq,hqi⟩:=afy.1 hi
   obtain⟨i',oi⟩:=q
   dsimp only at hqi;subst hqi
   obtain⟨b',o',k1,k2,k3⟩:=p2 _ _ hq
   dsimp only at k1
   rw[hib]at k1;cases k1
   rw[hb]at k3;cases k3
   exact .inr ⟨i',oi,hq,hib,k2⟩
  ·rw[p3 b fun i hi he=>hex ⟨i,hi,he⟩,yQ]at hb
   split at hb
   ·cases hb
   ·rename_i hns;exact .inl ⟨hns,hb⟩
 have hLget:∀i oi,(i,oi)∈L'->(hL L').get i=some oi:=fun i oi hi=>by
  show Tr.get (Ko L' .leaf) i=some oi
  exact QG hi n2 .leaf
 have hownL:∀c,nX (jk g ren 0 fams) (hL L) c->∃l o au,h.at l=some o/\g.at l=some (c,au)/\l.nm∈seen:=fun c hc=>by
  obtain⟨a,o,au,j1,j2,i,j3⟩:=q3 c hc
  exact⟨a,o,au,j1,j2,hseen _ _ j3⟩
 have hnot:∀l o aA au,l.nm∉seen->h.at l=some o->g.at l=some (aA,au)->¬nX (jk g ren 0 fams) (hL L) aA:=fun b o aA au hb ho hm hown=>by
  obtain⟨a,oa,base',j1,j2,j3⟩:=hownL aA hown
  exact hb (hr.mS _ _ _ _ _ _ _ ho j1 hm j2▸j3)
 have hmono:eA g w g2 w':=⟨g2mono,fun c hc=>hx.fz c hc,fun c hc=>hx.AV c (hr.lF c hc) (q2.L9 hc),hx.ms,s2mono⟩
 have hat:∀l o,(⟨h1.next+2*L'.length,h1.tr⟩:af).at l=some o->(l.nm∉seen/\h.at l=some o/\g2.at l=g.at l)\/
  ∃l1 oi,(hL L').at l1=some oi/\g2.at l=g'.at l1/\(∀au co,cL P g' w' oi au co->cL P g2 w' o au co)/\
   ((∃i b,l1= .aA i/\l= .aA b/\yF ren p h.next i=some b)\/∃i b f' f k,l1= .el i f' k/\l= .el b f k/\yF ren p h.next i=some b/\Da fams p h.next f'=some f):=by
  intro l o hl
  cases l with
  |aA b=>
   obtain⟨e1,e2⟩:=af.wa hl
   rcases hget b o e1 with ⟨k1,k2⟩| ⟨i,oi,k1,k2,k3⟩
   ·exact .inl ⟨k1,af.fJ k2 e2,g2old _ (hr.HY _ _ k2) fun i hi _=>k1 (hseen _ _ hi)⟩
   ·exact .inr ⟨.aA i,oi,af.fJ (hLget _ _ k1) (F5 k3).1,hg2 _ _ k2,fun au co hor=>hor.sub hs k3,.inl ⟨i,b,rfl,rfl,k2⟩⟩
  |el b f k=>
   obtain⟨y,e1,e2⟩:=af.I5 hl
   rcases hget b y e1 with ⟨k1,k2⟩| ⟨i,oi,k1,k2,k3⟩
   ·have hfam:=ax.mN e2
    refine .inl ⟨k1,af.Az k2 e2,s2old f k (hr.AE _ _ _ k2 hfam) fun f' hm=>k1 (fseen hm k2 hfam)⟩
   ·obtain⟨f',j1,j2,j3⟩:=kT k3 (ax.mN e2)
    rw[j3]at e2
    refine .inr ⟨.el i f' k,o,af.Az (hLget _ _ k1) e2,hs2 f' f k j2,fun au co hor=>?_,.inr ⟨i,b,f',f,k,rfl,rfl,k2,j2⟩⟩
    have:∃el d,o= .an el [d] false:=by
     cases oi<;>try (cases e2;done)
     case bo kt vk l st ck=>
      cases vk with
      |data et=>cases e2
      |Ho=>cases e2
      |cp f1 et=>
       simp only[ax.wA]at e2
       split at e2
       ·cases e:D.eu l k with
        |none=>rw[e]at e2;cases e2
        |some d=>rw[e]at e2;cases e2;exact⟨_,_,rfl⟩
       ·cases e2
    obtain⟨el,d,rfl⟩:=this
    exact(hor.sub (o':= .an el [d] true) hs rfl:_)
 have hnmH:HU g2 ⟨h1.next+2*L'.length,h1.tr⟩:=by
  refine⟨?_,?_,?_,?_,?_,?_,?_⟩
  ·intro b o hb
   show b<h1.next+2*L'.length
   rw[p1]
   rcases hget b o hb with ⟨_,h3⟩| ⟨i,oi,h3,h4,_⟩
   ·have:=hr.HY _ _ h3;omega
   ·have:=(n1 _ h3).2
    rcases hrn i b h4 with ⟨h5,h6⟩| ⟨h5,rfl⟩
    ·have:=hlt _ _ (kQ h6);omega
    ·dsimp only at this;omega
  ·intro b x hb
   show b<h1.next+2*L'.length
   rw[p1]
   by_cases hbl:b<h.next
   ·omega
   ·have:b=h.next+(b-h.next):=by omega
    rw[this,g2ge]at hb
    have:=hr'.lt _ _ hb
    change p+(b-h.next)<2*L'.length at this
    omega
  ·intro f k x hb
   show f<h1.next+2*L'.length
   rw[p1]
   by_cases hbl:f<h.next
   ·omega
   ·have:f=h.next+(f-h.next):=by omega
    rw[this,s2ge]at hb
    have:=hr'.Eh _ _ _ hb
    change p+(f-h.next)<2*L'.length at this
    omega
  ·intro b o f hb hf
   show f<h1.next+2*L'.length
   rw[p1]
   rcases hget b o hb with ⟨_,h3⟩| ⟨i,oi,h3,h4,h5⟩
   ·have:=hr.AE _ _ _ h3 hf;omega
   ·obtain⟨f',j1,j2,_⟩:=kT h5 hf
    have:=hr'.AE _ _ _ (hLget _ _ h3) j1
    change f'<2*L'.length at this
    rcases hfn f' f j2 with ⟨_,h6⟩| ⟨_,rfl⟩
    ·have:=AE h6;omega
    ·omega
  ·intro b b' o o' f hb hb' hf hf'
   rcases hget b o hb with ⟨s1,s2⟩| ⟨i,oi,s1,s2,s3⟩<;>rcases hget b' o' hb' with ⟨t1,t2⟩| ⟨j,oj,t1,t2,t3⟩
   ·exact hr.fu _ _ _ _ _ s2 t2 hf hf'
   ·exfalso
    obtain⟨f',j1,j2,_⟩:=kT t3 hf'
    rcases hfn f' f j2 with ⟨_,h6⟩| ⟨_,rfl⟩
    ·exact s1 (fseen h6 s2 hf)
    ·have:=hr.AE _ _ _ s2 hf;omega
   ·exfalso
    obtain⟨f',j1,j2,_⟩:=kT s3 hf
    rcases hfn f' f j2 with ⟨_,h6⟩| ⟨_,rfl⟩
    ·exact t1 (fseen h6 t2 hf')
    ·have:=hr.AE _ _ _ t2 hf';omega
   ·obtain⟨f1,j1,j2,_⟩:=kT s3 hf
    obtain⟨f2,j1',j2',_⟩:=kT t3 hf'
    have:=finj2 _ _ _ j2 j2'
    subst this
    have:=hr'.fu _ _ _ _ _ (hLget _ _ s1) (hLget _ _ t1) j1 j1'
    subst this
    rw[s2]at t2;cases t2;rfl
  ·intro b o f k x hb hf hx'
   rcases hget b o hb with ⟨s1,s2⟩| ⟨i,oi,s1,s2,s3⟩
   ·rw[s2old f k (hr.AE _ _ _ s2 hf) fun f' hm=>s1 (fseen hm s2 hf)]at hx'
    obtain⟨k1,y,k2⟩:=hr.sk _ _ _ _ _ s2 hf hx'
    exact⟨k1,y,g2mono _ _ k2⟩
   ·obtain⟨f1,j1,j2,j3⟩:=kT s3 hf
    rw[hs2 _ _ k j2]at hx'
    obtain⟨⟨o1,k1⟩,y,k2⟩:=hr'.sk _ _ _ _ _ (hLget _ _ s1) j1 hx'
    exact⟨⟨o1,by rw[j3];exact k1⟩,y,by rw[hg2 _ _ s2];exact k2⟩
  ·intro b b' f k hb
   rcases hget b _ hb with ⟨s1,s2⟩| ⟨i,oi,s1,s2,s3⟩
   ·obtain⟨⟨x,k1,k2⟩,y,k3⟩:=hr.al _ _ _ _ s2
    exact⟨⟨x,hmono.mm _ _ k1,s2mono _ _ _ k2⟩,y,hmono.mm _ _ k3⟩
   ·exact absurd rfl (ax.zf (F5 s3).2)
 have himg:∀l aA au,g2.at l=some (aA,au)->aA<w'.heap.size:=by
  intro l aA au hl
  cases l with
  |aA b=>
   change g2.m b=_ at hl
   by_cases hbl:b<h.next
   ·by_cases hex:∃i,(b,i)∈ren/\i<p
    ·obtain⟨i,h3,h4⟩:=hex
     rw[g2pin _ _ h3 h4]at hl
     exact hr'.U0 _ _ _ hl
    ·rw[g2old _ hbl fun i h3 h4=>hex ⟨i,h3,h4⟩]at hl;exact afk (hr.U0 _ _ _ hl) hx.size
   ·have:b=h.next+(b-h.next):=by omega
    rw[this,g2ge]at hl
    exact hr'.U0 _ _ _ hl
  |el b f k=>
   change g2.s f k=_ at hl
   by_cases hbl:f<h.next
   ·by_cases hex:∃f',(f,f')∈fams/\f'<p
    ·obtain⟨f',h3,h4⟩:=hex
     rw[s2pin k h3 h4]at hl
     exact hr'.mR (.el b f' k) _ _ hl
    ·have:g2.s f k=g.s f k:=by
      show (if f<h.next then (match fI fams f with|some f'=>(if f'<p then g'.s f' k else g.s f k)|none=>g.s f k)else _)=_
      rw[aeZ hbl]
      cases e:fI fams f with
      |none=>rfl
      |some f1=>dsimp only;rw[aeX fun h=>hex ⟨f1,ji e,h⟩]
     rw[this]at hl
     exact afk (hr.mR (.el b f k) _ _ hl) hx.size
   ·have:f=h.next+(f-h.next):=by omega
    rw[this,s2ge]at hl
    exact hr'.mR (.el b _ k) _ _ hl
 have hH:aR P g2 ⟨h1.next+2*L'.length,h1.tr⟩ w':=by
  refine hnmH.Ln himg ?_ ?_ hx.lF
  ·intro l l' aA au base' o o' hb hb' m1 m2
   rcases hat l o hb with ⟨s1,s2,s3⟩| ⟨i,oi,s1,s2,_,s4⟩<;>rcases hat l' o' hb' with ⟨t1,t2,t3⟩| ⟨j,oj,t1,t2,_,t4⟩
   ·rw[s3]at m1;rw[t3]at m2
    exact hr.mS _ _ _ _ _ _ _ s2 t2 m1 m2
   ·exfalso
    rw[s3]at m1
    rw[t2]at m2
    exact hnot _ _ _ _ s1 s2 m1 (hx.gH aA (hr.mR _ _ _ m1) ⟨j,oj,base',t1,m2⟩)
   ·exfalso
    rw[t3]at m2
    rw[s2]at m1
    exact hnot _ _ _ _ t1 t2 m2 (hx.gH aA (hr.mR _ _ _ m2) ⟨i,oi,au,s1,m1⟩)
   ·rw[s2]at m1;rw[t2]at m2
    have:=hr'.mS _ _ _ _ _ _ _ s1 t1 m1 m2
    subst this
    rcases s4 with ⟨i1,b1,e1,rfl,e3⟩| ⟨i1,b1,f1,f2,k,e1,rfl,e3,e4⟩
    ·rcases t4 with ⟨i2,b2,d1,rfl,d3⟩| ⟨i2,b2,f3,f4,k2,d1,rfl,d3,d4⟩
     ·rw[e1]at d1;cases d1;rw[e3]at d3;cases d3;rfl
     ·rw[e1]at d1;cases d1
    ·rcases t4 with ⟨i2,b2,d1,rfl,d3⟩| ⟨i2,b2,f3,f4,k2,d1,rfl,d3,d4⟩
     ·rw[e1]at d1;cases d1
     ·rw[e1]at d1;cases d1;rw[e3]at d3;cases d3;rw[e4]at d4;cases d4;rfl
  ·intro l o aA au hb m1
   rcases hat l o hb with ⟨s1,s2,s3⟩| ⟨i,oi,s1,s2,s3,_⟩
   ·rw[s3]at m1
    obtain⟨u1,o',u2,u3⟩:=hr.pZ _ _ _ _ s2 m1
    have hno:=hnot _ _ _ _ s1 s2 m1
    have hbl:=hr.mR _ _ _ m1
    refine⟨fun hf=>?_,o',(hx.AV aA hbl hno).trans u2,u3.mono hmono⟩
    rcases hx.PA aA hbl hf with hf|hf
    ·exact u1 hf
    ·exact hno hf
   ·rw[s2]at m1
    obtain⟨u1,o',u2,u3⟩:=hr'.pZ _ _ _ _ s1 m1
    exact⟨u1,o',u2,s3 _ _ u3⟩
 refine⟨g2,hs,hH,⟨hmono,hx.size,fun c hc ho=>hx.AV c hc fun h=>ho ?_,fun c hc ho=>?_,fun c hc hf=>?_,?_,hx.os⟩,fun lb hlb b hb hm hv=>⟨?_,?_⟩⟩
 ·obtain⟨a,o,au,j1,j2,_⟩:=hownL c h;exact⟨a,o,au,j1,j2⟩
 ·obtain⟨l,o,au,hb,hm⟩:=ho
  rcases hat l o hb with ⟨s1,s2,s3⟩| ⟨i,oi,s1,s2,_,_⟩
  ·rw[s3]at hm;exact⟨l,o,au,s2,hm⟩
  ·rw[s2]at hm
   obtain⟨a,o,au,j1,j2,_⟩:=hownL c (hx.gH c hc ⟨i,oi,au,s1,hm⟩)
   exact⟨a,o,au,j1,j2⟩
 ·rcases hx.PA c hc hf with h3|h3
  ·exact .inl h3
  ·obtain⟨a,o,au,j1,j2,_⟩:=hownL c h3;exact .inr ⟨a,o,au,j1,j2⟩
 ·show h.next<=h1.next+2*L'.length
  rw[p1];omega
 ·have hns:b∉seen:=fun hbs=>by have:=hgood b hbs hm;rw[this]at hv;cases hv
  rw[g2old _ (by omega) fun i hi _=>hns (hseen _ _ hi)];exact hm
 ·show h1.get b=h.get b
  have hns:b∉seen:=fun hbs=>by have:=hgood b hbs hm;rw[this]at hv;cases hv
  rw[p3 b fun i _ he=>?_,yQ,aeX hns]
  rcases hrn i b he with ⟨_,h6⟩| ⟨_,h6⟩
  ·exact hns (hseen _ _ (kQ h6))
  ·omega
def Dh (P:Program)(h:af):List (Option TypeId)->List BV->T (List BV×List Nat)
 |_,[]=> .ret ([],[])
 | [],v::vs=> .ret (v::vs,[])
 |none::ts,v::vs=>(Dh P h ts vs).bind fun y=> .ret (v::y.1,y.2)
 |some t::ts,v::vs=>(Qq P h t v).bind fun x=>(Dh P h ts vs).bind fun y=> .ret (ch P t x.1::y.1,x.2++y.2)
def GB (hr:aR P g h w):∀{ts:List (Option TypeId)} {vs:List BV} {x:List BV×List Nat},T.dm x (Dh P h ts vs)->
 (∀b∈x.2,∃o,h.get b=some o/\o.gH=some o)/\∀vs',ak P g w vs vs'->ak P {g with fz:=wW g x.2} w x.1 vs'/\Kg g h x.2:=by
 have up:∀(bs:List Nat),eA g w {g with fz:=wW g bs} w:=fun bs=>⟨fun _ _ e=>e,fun _ e=> .inl e,fun _ _=>rfl,fun _ _ e=>e,fun _ _ _ e=>e⟩
 intro ts
 induction ts with
 |nil=>
  intro vs x e
  cases vs with
  |nil=>rw[<-T.aS e];exact⟨fun b hb=>by simp at hb,fun vs' hv=>⟨ak.mono (up []) _ _ hv,Kg.nil⟩⟩
  |cons v vs=>rw[<-T.aS e];exact⟨fun b hb=>by simp at hb,fun vs' hv=>⟨ak.mono (up []) _ _ hv,Kg.nil⟩⟩
 |cons t ts ih=>
  intro vs x e
  cases vs with
  |nil=>
   have e:T.dm x (.ret ([],[])):=by cases t<;>exact e
   rw[<-T.aS e];exact⟨fun b hb=>by simp at hb,fun vs' hv=>⟨ak.mono (up []) _ _ hv,Kg.nil⟩⟩
  |cons v vs=>
   cases t with
   |none=>
    simp only[Dh]at e
    obtain⟨x2,e2,e⟩:=T.bx e
    rw[<-T.aS e]
    obtain⟨m1,m2⟩:=ih e2
    refine⟨m1,fun vs' hv=>?_⟩
    simp only[ak]at hv
    obtain⟨u,ur,rfl,h1,h2⟩:=hv
    exact⟨ak.cons (ai.mono (up _) _ _ h1) (m2 ur h2).1,(m2 ur h2).2⟩
   |some t=>
    simp only[Dh]at e
    obtain⟨x1,e1,e⟩:=T.bx e
    obtain⟨x2,e2,e⟩:=T.bx e
    rw[<-T.aS e]
    obtain⟨k1,k2⟩:=BD hr e1
    obtain⟨m1,m2⟩:=ih e2
    refine⟨fun b hb=>?_,fun vs' hv=>?_⟩
    ·rcases afp.1 hb with hb|hb
     ·exact k1 b hb
     ·exact m1 b hb
    ·simp only[ak]at hv
     obtain⟨u,ur,rfl,h1,h2⟩:=hv
     refine⟨ak.cons ?_ ?_,(k2 u h1).2.append (m2 ur h2).2⟩
     ·exact ai.mono (g:=⟨fun _=>none,wW g x1.2,fun _ _=>none⟩) (w:=w) ⟨fun b x h=>(by cases h),fun c=>BE (fun b hb=>agE _ hb) c,fun _ _=>rfl,fun _ _ h=>h,fun _ _ _ h=>(by first|exact h|cases h)⟩ _ _ (k2 u h1).1
     ·exact ak.mono (g:={g with fz:=wW g x2.2}) (g':={g with fz:=wW g (x1.2++x2.2)}) (w:=w) ⟨fun b x h=>h,fun c=>BE (fun b hb=>agC _ hb) c,fun _ _=>rfl,fun _ _ h=>h,fun _ _ _ h=>h⟩ _ _ (m2 ur h2).1
def aC.adb (hmix:P.follows .mixedOrders=true){f k:FuncId}{frs:List TypeId}{G:sS}{as:List BV}{fr:aZ}{cs:List aZ}{h:af}{s:av}{as0:List BV}{h0:af}{Tg:List (Option TypeId)}{z:List BV×List Nat}{seen:List Nat}{L:List (Nat×ax)}{p:Nat}{R:D->T (BV×List (Nat×ax))}{Q':D->Prop}
 (hs:xU P (dj P s) (.call k as0 fr cs h0))(hz:T.dm z (Dh P h0 Tg as0))(fv:z.1=as)(hh:dB h0 z.2=h)(hrc:yj h 300 (Ak as) []=some seen)(hok:xL 0 (gw 0 seen).length [] [] (gw 0 seen)=true)(hob:Dj (C3 h 0 0 (gw 0 seen)) h (gw 0 seen)=some L)
 (hp:pj P k (j6 (C3 h 0 0 (gw 0 seen)) as) L p R Q')
 (hk:∀d,Q' d->∃x h2 r,T.dm x (R d)/\LL h (gw 0 seen) seen p x.2=some h2/\T.dm r (qF P fr (p5 (KT h (gw 0 seen) p) x.1) h2)/\aC P f frs G ⟨r.1,cs,r.2⟩):aC P f frs G s:=by
 obtain⟨c,hc,hst⟩:=hs
 refine aC.step hmix hst ?_
 intro c0 g00 w lb f1 cs1 hsr
 obtain⟨hr00,h2,h3,h4⟩:=hsr
 obtain⟨as',ha0,rfl⟩:=Jo hc h3
 simp only[ly]at h4
 obtain⟨m0,mr,lb2,rfl,hl,hf00,hcr0⟩:=h4
 obtain⟨j1,j2⟩:=GB hr00 hz
 obtain⟨hr,y2⟩:=hr00.freeze j1
 have ha:=(j2 _ ha0).1
 have hp2:∀lb,rJ lb g00 h0 {g00 with fz:=wW g00 z.2} (dB h0 z.2):=fun lb=>Nw (j2 _ ha0).2 lb
 have hf0:=hf00.mono (h':=dB h0 z.2) y2.mono (hp2 _)
 have hcr:=hcr0.mono (h':=dB h0 z.2) y2.mono (hp2 _)
 have hdn:(dB h0 z.2).next=h0.next:=kq h0 z.2
 dsimp only at h2
 rw[<-hdn]at h2
 rw[fv]at ha
 rw[hh]at hr y2 hf0 hcr h2
 clear hr00 ha0 hf00 hcr0
 generalize hg0:({g00 with fz:=wW g00 z.2}:Gh)=g0 at*
 obtain⟨q1,q2,q3,q4,_⟩:=Cz hr hok (.inl ⟨rfl,rfl⟩) hob
 obtain⟨ed,w2,fr2,⟨v',g',d,x1,rfl,hx1,hx,hpin,hr',hv',hQ⟩,hco,_,hlv⟩:=hp _ w as' q2 (ak.sub q1 _ _ ha) (m0::mr)
 obtain⟨x2,h9,r,hx2,hbk,hfin,hend⟩:=hk d hQ
 have:=T.Qr hx1 hx2
 subst this
 have hfin:=pT hfin
 have hgood:∀b∈seen,g0.m b=none->rC (h.get b)=true:=fun b hb=>by
  rcases OR hr 300 hrc (fun x hx=>ak.GD as _ ha x hx) b hb with h5|h5
  ·cases h5
  ·exact h5
 obtain⟨g2,z1,z2,z3,z4⟩:=Vs hr hgood hok hob hbk hx hpin hr'
 have hv:=ai.sub z1 _ _ hv'
 have hfz:=hf0.mono (h':=h9) z3.mono (z4 lb h2)
 have hcz:=hcr.mono (h':=h9) z3.mono (z4 lb2 (afw hl h2))
 have hn:=z3.next
 obtain⟨r1,r2,r3,r4,r5⟩:=Ap z2 hfz (afw (afw hl h2) hn) (afw h2 hn) hv hfin
 have hlb:lb2<=h9.next:=afw (afw hl h2) hn
 obtain⟨w',fr',v2,g3,h3',n1,n2,n3,n4,n5,n6⟩:=hend c0 g2 w2 lb2 _ mr ⟨r1,afw hlb r5,r4,hcz.mono r2.mono (r3.lt hlb)⟩
 exact⟨w',fr',v2,g3,h3',((show Steps P _ _ from hco).trans (Steps.one (step_leave_returned hlv))).trans n1,n2,n3,.DX (y2.trans (z3.trans r2)) n4,.Fx (y2.trans (z3.trans r2)).mono n5,n6⟩
end
end
end
section
noncomputable section
section
variable {P:Program} {g:Gh} {h:af} {w:World}
def aR.seen (hr:aR P g h w){b:Nat}{o o':ax}(hb:h.get b=some o)(ho:∀au co,cL P g w o au co->cL P g w o' au co)
 (hf:o.yp=none:=by rfl)(hf':o'.yp=none:=by rfl)(hoo:o.gH=some o:=by rfl)(hoo':o'.gH=some o':=by rfl):
 aR P g (h.put b (some o')) w/\gN g h w g (h.put b (some o')) w:=by
 have hat:∀l o1,(h.put b (some o')).at l=some o1->(l= .aA b/\o1=o')\/(l≠ .aA b/\h.at l=some o1):=fun l o1 e=>by
  by_cases e1:l= .aA b
  ·subst e1;rw[af.Bi hoo']at e;cases e;exact .inl ⟨rfl,rfl⟩
  ·rw[af.PL hb hf hf' e1]at e;exact .inr ⟨e1,e⟩
 have hbat:=af.fJ hb hoo
 have hold:∀l o1,(h.put b (some o')).at l=some o1->∃o2,h.at l=some o2:=fun l o1 e=>by
  rcases hat l o1 e with ⟨rfl,_⟩| ⟨_,h1⟩
  ·exact⟨o,hbat⟩
  ·exact⟨o1,h1⟩
 refine⟨(hr.nm.put hb hf' hoo').Ln hr.mR ?_ ?_ hr.lF,⟨eA.refl g w,afa _,fun _ _ _=>rfl,?_,fun _ _ h=> .inl h,afa _,rfl,rfl,rfl⟩⟩
 ·intro l1 l2 blk1 base1 base2 o1 o2 h1 h2 m1 m2
  obtain⟨_,g1⟩:=hold _ _ h1;obtain⟨_,g2⟩:=hold _ _ h2
  exact hr.mS _ _ _ _ _ _ _ g1 g2 m1 m2
 ·intro l o1 blk1 base1 h1 m1
  rcases hat l o1 h1 with ⟨rfl,rfl⟩| ⟨_,h1⟩
  ·obtain⟨n1,o2,ho2,hr2⟩:=hr.pZ _ _ _ _ hbat m1
   exact⟨n1,o2,ho2,ho _ _ hr2⟩
  ·exact hr.pZ _ _ _ _ h1 m1
 ·rintro c _ ⟨l,o1,base1,hl,hm1⟩
  obtain⟨o2,h2⟩:=hold _ _ hl
  exact⟨l,o2,base1,h2,hm1⟩
abbrev EI:=List (TypeId×Nat×TypeId)
def M3 (h:af)(b:Nat)(r:TypeId×Nat×TypeId):af:=
 match h.get b with
 |some (.cells cs t s)=>(match Nat.beq r.1 t,cs.getD r.2.1 .kC with
  |true,.bJ=>(h.new (.an r.2.2 [] true)).put b (some (.cells (cs.set r.2.1 (.aV h.next 0 true)) t s))
  |_,_=>h)
 |_=>h
def Ga (b:Nat):EI->af->af
 | [],h=>h
 |r::rs,h=>Ga b rs (M3 h b r)
def M1 (rs:EI):Nat->af->af
 |0,h=>h
 |n+1,h=>Ga n rs (M1 rs n h)
def KL (rs:EI)(s:av):av:=
 match rs with
 | []=>s
 |_=>
  match s with
  | ⟨⟨fn,cx,todo,ds,mode,kind,ro⟩,[],h⟩=>
    (match mode,todo with
    | .run,.fQ _::_=>s
    |_,_=>⟨⟨fn,cx,todo,ds,mode,kind,ro⟩,[],M1 rs h.next h⟩)
  |_=>s
def Rx (hr:aR P g h w)(b:Nat)(r:TypeId×Nat×TypeId):aR P g (M3 h b r) w/\gN g h w g (M3 h b r) w:=by
 unfold M3
 split
 ·rename_i cs t s hb
  split
  ·rename_i ht hn
   obtain⟨k1,k2⟩:=hr.Kp (.an r.2.2 [] true)
   have hbn:b≠h.next:=fun e=>agV _ (e▸hr.HY b _ hb)
   have hb1:(h.new (.an r.2.2 [] true)).get b=some (.cells cs t s):=by rw[af.dR,aeX hbn];exact hb
   obtain⟨k3,k4⟩:=k1.seen hb1 (o':= .cells (cs.set r.2.1 (.aV h.next 0 true)) t s) (fun au co hc=>by
    simp only[cL]at hc ⊢
    obtain⟨c,lo,hi,rfl,⟨vs,hv,hat⟩,hh⟩:=hc
    refine⟨c,lo,hi,rfl,⟨vs,?_,hat⟩,hh⟩
    refine ak.qU (by simpa using hv.length) fun j bv v hbj hvj=>?_
    rw[agt]at hbj
    split at hbj
    ·rename_i hij
     subst hij
     split at hbj
     ·rename_i hlt
      cases hbj
      have hold:cs[r.2.1]?=some .bJ:=by
       rw[List.getD,aeY hlt]at hn
       rw[aeY hlt];exact afg some hn
      obtain⟨v2,h1,h2⟩:=hv.get hold
      rw[hvj]at h1;cases h1
      simp only[ai]at h2 ⊢
      exact .inl ⟨⟨trivial,trivial⟩,.inl h2⟩
     ·cases hbj
    ·obtain⟨v2,h1,h2⟩:=hv.get hbj
     rw[hvj]at h1;cases h1;exact h2)
   exact⟨k3,k2.trans k4⟩
  ·exact⟨hr,gN.refl _ _ _⟩
 ·exact⟨hr,gN.refl _ _ _⟩
def M4 (b:Nat):∀(rs:EI) {h:af},aR P g h w->aR P g (Ga b rs h) w/\gN g h w g (Ga b rs h) w:=by
 intro rs
 induction rs with
 |nil=>intro h hr;exact⟨hr,gN.refl _ _ _⟩
 |cons r rs ih=>
  intro h hr
  obtain⟨k1,k2⟩:=Rx hr b r
  obtain⟨k3,k4⟩:=ih k1
  exact⟨k3,k2.trans k4⟩
def Rw (hr:aR P g h w)(rs:EI):∀n,aR P g (M1 rs n h) w/\gN g h w g (M1 rs n h) w:=by
 intro n
 induction n with
 |zero=>exact⟨hr,gN.refl _ _ _⟩
 |succ n ih=>
  obtain⟨k3,k4⟩:=M4 n rs ih.1
  exact⟨k3,ih.2.trans k4⟩
def aC.wid {f:FuncId}{rs:List TypeId}{G:sS}(rules:EI){s:av}(he:aC P f rs G (KL rules s)):aC P f rs G s:=by
 unfold KL at he
 split at he
 ·exact he
 ·split at he
  ·rename_i fn cx todo ds mode kind ro h
   split at he
   ·exact he
   ·rename_i hno
    refine aC.zg (fun c0 g w lb fr cs1 hs=>?_) he
    obtain⟨hr,h2,h3,h4⟩:=hs
    obtain⟨k1,k2⟩:=Rw hr rules h.next
    refine⟨g,w,lb,fr,cs1,Steps.refl _ _,⟨k1,afw h2 k2.next,⟨h3.fn,h3.kind,h3.jZ,h3.defers,h3.mode,h3.round,fun hm=>?_,h3.cx⟩,h4⟩,k2⟩
    have hrun:=h3.run hm
    unfold cQ at hrun ⊢
    dsimp only at hrun hm ⊢
    cases todo with
    |nil=>exact hrun
    |cons i' r'=>
     cases i'<;>first|exact hrun| (subst hm;exact absurd rfl (hno _ _ rfl))
  ·exact he
def aR.aei (hr:aR P g h w){bs:List Nat}(hbs:∀b∈bs,∃o,h.get b=some o/\o.gH=some o){b:Nat}{o o':ax}(hb:h.get b=some o)(hnb:b∉bs)(ho:∀au co,cL P g w o au co->cL P {g with fz:=wW g bs} w o' au co)
 (hf:o.yp=none:=by rfl)(hf':o'.yp=none:=by rfl)(hoo:o.gH=some o:=by rfl)(hoo':o'.gH=some o':=by rfl):
 aR P {g with fz:=wW g bs} ((dB h bs).put b (some o')) w/\gN g h w {g with fz:=wW g bs} ((dB h bs).put b (some o')) w:=by
 obtain⟨y1,y2⟩:=hr.freeze hbs
 have hb1:(dB h bs).get b=some o:=by rw[yQ,aeX hnb];exact hb
 have hat:∀l o1,((dB h bs).put b (some o')).at l=some o1->(l= .aA b/\o1=o')\/(l≠ .aA b/\(dB h bs).at l=some o1):=fun l o1 e=>by
  by_cases e1:l= .aA b
  ·subst e1;rw[af.Bi hoo']at e;cases e;exact .inl ⟨rfl,rfl⟩
  ·rw[af.PL hb1 hf hf' e1]at e;exact .inr ⟨e1,e⟩
 have hbat:=af.fJ hb1 hoo
 have hbat0:=af.fJ hb hoo
 have hold:∀l o1,((dB h bs).put b (some o')).at l=some o1->∃o2,(dB h bs).at l=some o2:=fun l o1 e=>by
  rcases hat l o1 e with ⟨rfl,_⟩| ⟨_,h1⟩
  ·exact⟨o,hbat⟩
  ·exact⟨o1,h1⟩
 refine⟨(y1.nm.put hb1 hf' hoo').Ln y1.mR ?_ ?_ y1.lF,y2.trans ⟨eA.refl _ w,afa _,fun _ _ _=>rfl,?_,fun _ _ h=> .inl h,afa _,rfl,rfl,rfl⟩⟩
 ·intro l1 l2 blk1 base1 base2 o1 o2 h1 h2 m1 m2
  obtain⟨_,g1⟩:=hold _ _ h1;obtain⟨_,g2⟩:=hold _ _ h2
  exact y1.mS _ _ _ _ _ _ _ g1 g2 m1 m2
 ·intro l o1 blk1 base1 h1 m1
  rcases hat l o1 h1 with ⟨rfl,rfl⟩| ⟨_,h1⟩
  ·obtain⟨n1,o2,ho2,_⟩:=y1.pZ _ _ _ _ hbat m1
   obtain⟨_,o3,ho3,hr3⟩:=hr.pZ _ _ _ _ hbat0 m1
   rw[ho2]at ho3;cases ho3
   exact⟨n1,o2,ho2,ho _ _ hr3⟩
  ·exact y1.pZ _ _ _ _ h1 m1
 ·rintro c _ ⟨l,o1,base1,hl,hm1⟩
  obtain⟨o2,h2⟩:=hold _ _ hl
  exact⟨l,o2,base1,h2,hm1⟩
def BV.Sa:BV->Bool
 | .aV _ _ _=>true
 | .bJ=>true
 |_=>false
def BV.adJ:BV->Bool
 | .bC _ _=>true
 |_=>false
def Qo (P:Program)(h:af)(b:Nat)(r:TypeId×Nat×TypeId):T af:=
 match h.get b with
 |some (.cells cs t s)=>
  (match Nat.beq r.1 t,BV.Sa (cs.getD r.2.1 .kC)with
  |true,true=>(Qq P h r.2.2 (cs.getD r.2.1 .kC)).bind fun x=>
    (match x.2.all (fun y=>!Nat.beq y b),BV.adJ (ch P r.2.2 x.1)with
    |true,true=> .ret ((dB h x.2).put b (some (.cells (cs.set r.2.1 (ch P r.2.2 x.1)) t s)))
    |_,_=> .ret h)
  |_,_=> .ret h)
 |_=> .ret h
def Jr (P:Program)(b:Nat):EI->af->T af
 | [],h=> .ret h
 |r::rs,h=>(Qo P h b r).bind fun h'=>Jr P b rs h'
def Qm (P:Program)(rs:EI):Nat->af->T af
 |0,h=> .ret h
 |n+1,h=>(Qm P rs n h).bind fun h'=>Jr P n rs h'
def V8 (P:Program)(rs:EI)(s:av):T av:=
 match rs with
 | []=> .ret s
 |_=>
  match s with
  | ⟨⟨fn,cx,todo,ds,mode,kind,ro⟩,[],h⟩=>
    (match mode,todo with
    | .run,.fQ _::_=> .ret s
    | .run,.code _::_=>(Qm P rs h.next h).bind fun h'=> .ret ⟨⟨fn,cx,todo,ds,mode,kind,ro⟩,[],h'⟩
    |_,_=> .ret s)
  |_=> .ret s
def Eu (P:Program)(g:Gh)(h:af)(w:World)(h':af):Prop:=∃fz':Nat->Prop,aR P {g with fz:=fz'} h' w/\gN g h w {g with fz:=fz'} h' w
def Eu.refl (hr:aR P g h w):Eu P g h w h:=⟨g.fz,hr,gN.refl _ _ _⟩
def Eu.trans {h1 h2:af}(a:Eu P g h w h1)(b:∀g',aR P g' h1 w->Eu P g' h1 w h2):Eu P g h w h2:=by
 obtain⟨f1,a1,a2⟩:=a
 obtain⟨f2,b1,b2⟩:=b _ a1
 exact⟨f2,b1,a2.trans b2⟩
def Qp {h':af}(hr:aR P g h w){b:Nat}{r:TypeId×Nat×TypeId}(e:T.dm h' (Qo P h b r)):Eu P g h w h':=by
 unfold Qo at e
 split at e
 ·rename_i cs t s hb
  split at e
  ·rename_i ht hc
   obtain⟨x,e1,e⟩:=T.bx e
   obtain⟨k1,k2⟩:=BD hr e1
   split at e
   ·rename_i hall hone
    rw[<-T.aS e]
    have hnb:b∉x.2:=fun hm=>by have:=afK.1 hall b hm;simp at this
    obtain⟨z1,z2⟩:=hr.aei k1 hb hnb (o':= .cells (cs.set r.2.1 (ch P r.2.2 x.1)) t s) (fun au co hco=>by
     simp only[cL]at hco ⊢
     obtain⟨c0,lo,hi,rfl,⟨vs,hv,hat⟩,hh⟩:=hco
     refine⟨c0,lo,hi,rfl,⟨vs,?_,hat⟩,hh⟩
     have hmono:eA g w {g with fz:=wW g x.2} w:=⟨fun _ _ e=>e,fun _ e=> .inl e,fun _ _=>rfl,fun _ _ e=>e,fun _ _ _ e=>e⟩
     refine ak.qU (by simpa using hv.length) fun j bv v hbj hvj=>?_
     rw[agt]at hbj
     split at hbj
     ·rename_i hij
      subst hij
      split at hbj
      ·rename_i hlt
       cases hbj
       have hold:cs[r.2.1]?=some (cs.getD r.2.1 .kC):=by
        rw[List.getD,aeY hlt];rfl
       obtain⟨v2,h1,h2⟩:=hv.get hold
       rw[hvj]at h1;cases h1
       exact ai.mono (g:=⟨fun _=>none,wW g x.2,fun _ _=>none⟩) (g':={g with fz:=wW g x.2}) (w:=w) ⟨fun b x h=>(by cases h),fun c h=>h,fun _ _=>rfl,fun _ _ h=>h,fun _ _ _ h=>(by first|exact h|cases h)⟩ _ _ (k2 v h2).1
      ·cases hbj
     ·obtain⟨v2,h1,h2⟩:=hv.get hbj
      rw[hvj]at h1;cases h1;exact ai.mono hmono _ _ h2)
    exact⟨_,z1,z2⟩
   ·rw[<-T.aS e];exact .refl hr
  ·rw[<-T.aS e];exact .refl hr
 ·rw[<-T.aS e];exact .refl hr
def L7 {b:Nat}:∀(rs:EI) {g:Gh} {h h':af},aR P g h w->T.dm h' (Jr P b rs h)->Eu P g h w h':=by
 intro rs
 induction rs with
 |nil=>intro g h h' hr e;rw[<-T.aS e];exact .refl hr
 |cons r rs ih=>
  intro g h h' hr e
  obtain⟨h1,e1,e⟩:=T.bx e
  exact(Qp hr e1).trans fun g' hr'=>ih hr' e
def Qn {rs:EI}:∀(n:Nat) {g:Gh} {h h':af},aR P g h w->T.dm h' (Qm P rs n h)->Eu P g h w h':=by
 intro n
 induction n with
 |zero=>intro g h h' hr e;rw[<-T.aS e];exact .refl hr
 |succ n ih=>
  intro g h h' hr e
  obtain⟨h1,e1,e⟩:=T.bx e
  exact(ih hr e1).trans fun g' hr'=>L7 rs hr' e
def aC.aeA {f:FuncId}{rs:List TypeId}{G:sS}(rules:EI){s s':av}(hs':T.dm s' (V8 P rules s))(he:aC P f rs G s'):aC P f rs G s:=by
 unfold V8 at hs'
 split at hs'
 ·rw[T.aS hs'];exact he
 ·split at hs'
  ·rename_i fn cx todo ds mode kind ro h
   split at hs'
   ·rw[T.aS hs'];exact he
   ·rename_i c r
    obtain⟨h',e1,e2⟩:=T.bx hs'
    have e2:=T.aS e2
    subst e2
    refine aC.zg (fun c0 g w lb fr cs1 hs=>?_) he
    obtain⟨hr,h2,h3,h4⟩:=hs
    obtain⟨fz',k1,k2⟩:=Qn h.next hr e1
    refine⟨_,w,lb,fr,cs1,Steps.refl _ _,⟨k1,afw h2 k2.next,⟨h3.fn,h3.kind,h3.jZ,h3.defers.mono k2.mono,h3.mode.mono k2.mono,h3.round.mono k2.mono,fun hm=>?_,fun e=>ak.mono k2.mono _ _ (h3.cx e)⟩,h4⟩,k2⟩
    have hrun:=h3.run hm
    unfold cQ at hrun ⊢
    dsimp only at hrun ⊢
    exact⟨ak.mono k2.mono _ _ hrun.1,hrun.2.mono k2.mono⟩
   ·rw[T.aS hs'];exact he
  ·rw[T.aS hs'];exact he
def j7 (h:af):List (Option TypeId)->List BV->af×List BV
 |_,[]=>(h,[])
 |some e::ts,.bJ::vs=>
  (match j7 (h.new (.an e [] true)) ts vs with| (h',vs')=>(h',.aV h.next 0 true::vs'))
 |some e::ts,.DO _ []::vs=>
  (match j7 (h.new (.an e [] true)) ts vs with| (h',vs')=>(h',.aV h.next 0 true::vs'))
 |_::ts,v::vs=>(match j7 h ts vs with| (h',vs')=>(h',v::vs'))
 | [],v::vs=>(h,v::vs)
def Io (ws:List (Option TypeId))(h:af)(v:BV):af×BV:=
 match ws with
 | []=>(h,v)
 |_=>
  match v with
  | .tuple vs=>((j7 h ws vs).1,.tuple (j7 h ws vs).2)
  |v=>((j7 h ws [v]).1,(match (j7 h ws [v]).2 with| [u]=>u|_=>v))
def Lx:∀(ws:List (Option TypeId)) (vs:List BV) {h:af},aR P g h w->(aR P g (j7 h ws vs).1 w/\gN g h w g (j7 h ws vs).1 w)/\∀vs',ak P g w vs vs'->ak P g w (j7 h ws vs).2 vs':=by
 intro ws
 induction ws with
 |nil=>
  intro vs h hr
  cases vs with
  |nil=>exact⟨⟨hr,gN.refl _ _ _⟩,fun _ h=>h⟩
  |cons v vs=>
   have:j7 h [] (v::vs)=(h,v::vs):=by cases v<;>first|rfl| (rename_i l;cases l<;>rfl)
   rw[this];exact⟨⟨hr,gN.refl _ _ _⟩,fun _ h=>h⟩
 |cons t ts ih=>
  intro vs h hr
  cases vs with
  |nil=>cases t<;>exact⟨⟨hr,gN.refl _ _ _⟩,fun _ h=>h⟩
  |cons v vs=>
   have plain:(aR P g (j7 h ts vs).1 w/\gN g h w g (j7 h ts vs).1 w)/\∀vs',ak P g w (v::vs) vs'->ak P g w (v::(j7 h ts vs).2) vs':=by
    obtain⟨k1,k2⟩:=ih vs hr
    refine⟨k1,fun vs' hv=>?_⟩
    simp only[ak]at hv
    obtain⟨u,ur,rfl,h1,h2⟩:=hv
    exact ak.cons h1 (k2 _ h2)
   cases t with
   |none=>
    have:j7 h (none::ts) (v::vs)=((j7 h ts vs).1,v::(j7 h ts vs).2):=by cases v<;>first|rfl| (rename_i l;cases l<;>rfl)
    rw[this];exact plain
   |some e=>
    have seen:(∀v',ai P g w v v'->v'= .slice none 0 0\/∃a,v'= .slice (some a) 0 0)->(aR P g (j7 (h.new (.an e [] true)) ts vs).1 w/\gN g h w g (j7 (h.new (.an e [] true)) ts vs).1 w)/\∀vs',ak P g w (v::vs) vs'->ak P g w (.aV h.next 0 true::(j7 (h.new (.an e [] true)) ts vs).2) vs':=fun hz=>by
     obtain⟨k1,k2⟩:=hr.Kp (.an e [] true)
     obtain⟨m1,m2⟩:=ih vs k1
     refine⟨⟨m1.1,k2.trans m1.2⟩,fun vs' hv=>?_⟩
     simp only[ak]at hv
     obtain⟨u,ur,rfl,h1,h2⟩:=hv
     refine ak.cons ?_ (m2 _ h2)
     simp only[ai]
     exact .inl ⟨⟨trivial,trivial⟩,hz _ h1⟩
    by_cases hv:v= .bJ
    ·subst hv
     exact seen fun v' h1=>by simp only[ai]at h1;exact .inl h1
    ·by_cases hc:∃e',v= .DO e' []
     ·obtain⟨e',rfl⟩:=hc
      refine seen fun v' h1=>?_
      simp only[ai]at h1
      rcases h1 with h1| ⟨aA,off,h1,_⟩
      ·exact h1.2
      ·exact .inr ⟨_,h1⟩
     ·have:j7 h (some e::ts) (v::vs)=((j7 h ts vs).1,v::(j7 h ts vs).2):=by
       cases v<;>first|exact absurd rfl hv|rfl|skip
       rename_i e' l
       cases l with
       |nil=>exact absurd ⟨e',rfl⟩ hc
       |cons _ _=>rfl
      rw[this];exact plain
def X6 (ws:List (Option TypeId))(v:BV)(hr:aR P g h w):(aR P g (Io ws h v).1 w/\gN g h w g (Io ws h v).1 w)/\∀v',ai P g w v v'->ai P g w (Io ws h v).2 v':=by
 have one:∀v:BV,(aR P g (j7 h ws [v]).1 w/\gN g h w g (j7 h ws [v]).1 w)/\∀v',ai P g w v v'->ai P g w (match (j7 h ws [v]).2 with| [u]=>u|_=>v) v':=fun v=>by
  obtain⟨k1,k2⟩:=Lx ws [v] hr
  refine⟨k1,fun v' hv=>?_⟩
  have:=k2 [v'] (ak.cons hv ak.nil)
  split
  ·rename_i u hu
   rw[hu]at this
   obtain⟨x,hx,h1⟩:=this.one
   cases hx;exact h1
  ·exact hv
 unfold Io
 split
 ·exact⟨⟨hr,gN.refl _ _ _⟩,fun _ h=>h⟩
 ·split
  ·rename_i vs
   obtain⟨k1,k2⟩:=Lx ws vs hr
   refine⟨k1,fun v' hv=>?_⟩
   simp only[ai]at hv ⊢
   obtain⟨us,rfl,hv⟩:=hv
   exact⟨us,rfl,k2 _ hv⟩
  ·exact one v
def Zr (P:Program)(h:af)(fz:List (Option TypeId))(v:BV):T (BV×List Nat):=
 match fz with
 | []=> .ret (v,[])
 |fz=>(match v with
  | .tuple vs=>(Dh P h fz vs).bind fun x=> .ret (.tuple x.1,x.2)
  |v=>(Dh P h fz [v]).bind fun x=>(match x.1 with| [u]=> .ret (u,x.2)|_=> .bq))
def V6 (hr:aR P g h w){fz:List (Option TypeId)}{v:BV}{x:BV×List Nat}(e:T.dm x (Zr P h fz v)):
 (∀b∈x.2,∃o,h.get b=some o/\o.gH=some o)/\∀v',ai P g w v v'->ai P {g with fz:=wW g x.2} w x.1 v':=by
 have up:∀(bs:List Nat),eA g w {g with fz:=wW g bs} w:=fun bs=>⟨fun _ _ e=>e,fun _ e=> .inl e,fun _ _=>rfl,fun _ _ e=>e,fun _ _ _ e=>e⟩
 have one:∀{v:BV} {x:BV×List Nat},T.dm x ((Dh P h fz [v]).bind fun x=>(match x.1 with| [u]=>(.ret (u,x.2):T (BV×List Nat))|_=> .bq))->(∀b∈x.2,∃o,h.get b=some o/\o.gH=some o)/\∀v',ai P g w v v'->ai P {g with fz:=wW g x.2} w x.1 v':=fun {v x} e=>by
  obtain⟨y,e1,e⟩:=T.bx e
  obtain⟨k1,k2⟩:=GB hr e1
  split at e
  ·rename_i u hu
   rw[<-T.aS e]
   refine⟨k1,fun v' hv=>?_⟩
   have:=(k2 [v'] (ak.cons hv (by simp[ak]))).1
   rw[hu]at this
   obtain⟨v2,h1,h2⟩:=this.one
   cases h1
   exact h2
  ·exact(T.aH e).elim
 unfold Zr at e
 split at e
 ·rw[<-T.aS e];exact⟨fun b hb=>by simp at hb,fun v' hv=>ai.mono (up []) _ _ hv⟩
 ·split at e
  ·obtain⟨y,e1,e⟩:=T.bx e
   rw[<-T.aS e]
   obtain⟨k1,k2⟩:=GB hr e1
   refine⟨k1,fun v' hv=>?_⟩
   simp only[ai]at hv ⊢
   obtain⟨vs,rfl,hv⟩:=hv
   exact⟨vs,rfl,(k2 _ hv).1⟩
  ·exact one e
def aC.Zh {f:FuncId}{rs:List TypeId}{p:Nat}{R:D->T (BV×List (Nat×ax))}{Q:D->Prop}{s:av}(ws fz:List (Option TypeId))(hend:s.ended=true){v:BV}(hv:VS P f s=some v){z:BV×List Nat}(hz:T.dm z (Zr P s.h fz v)){x:BV×List (Nat×ax)}(hc:PV p (Io ws (dB s.h z.2) z.1).1 (Io ws (dB s.h z.2) z.1).2=some x){d:D}(hR:T.dm x (R d))(hq:Q d):aC P f rs (.bu p R Q) s:=by
 intro c0 g0 w lb fr cs hs
 obtain⟨rfl,hf,v',hlv,hvr0⟩:=K4 hend hv hs
 obtain⟨j1,j2⟩:=V6 hs.1 hz
 obtain⟨hr0,y2⟩:=hs.1.freeze j1
 have hvr:=j2 _ hvr0
 generalize hg:({g0 with fz:=wW g0 z.2}:Gh)=g at*
 have hpg:UT p g0 g:=by subst hg;exact⟨fun _ _ _ h=>h,fun _ _ _ _ h=>h⟩
 obtain⟨⟨r1,r2⟩,r3⟩:=X6 ws z.1 hr0
 unfold PV at hc
 split at hc
 ·rename_i seen hseen
  generalize hren:gw 0 seen=ren at hc
  split at hc
  ·rename_i L hok hob
   cases hc
   simp only[aeV]at hok
   obtain⟨⟨hok,hpin⟩,hple⟩:=hok
   have hple:=agX hple
   obtain⟨q1,q2,q3,q4,_⟩:=Cz r1 hok (.inr ⟨hple,rfl⟩) hob
   have hown:∀c,nX (jk g ren p (jY (Io ws (dB s.h z.2) z.1).1 p ren.length ren)) (hL L) c->nX g (Io ws (dB s.h z.2) z.1).1 c:=fun c hc=>by obtain⟨a,o,au,j1,j2,_⟩:=q3 c hc;exact⟨a,o,au,j1,j2⟩
   refine⟨w,fr,v',jk g ren p (jY (Io ws (dB s.h z.2) z.1).1 p ren.length ren),hL L,Steps.refl _ _,hf,hlv,.DX (y2.trans r2) ⟨afa _,fun _ _ _=>rfl,fun _ h=>h,fun _ _ h=> .inl h,r1.lF,fun c _ ho=>hown c ho,fun _ _ h=>h,rfl,rfl,rfl⟩,?_,d,_,hR,rfl,q2,ai.sub q1 _ _ (r3 _ hvr),hq⟩
   have:=I8 (fams:=jY (Io ws (dB s.h z.2) z.1).1 p ren.length ren) r1 (afa p) hok hpin
   exact⟨fun i hi x hx=>this.1 i hi x (hpg.1 i hi x hx),fun i hi k x hx=>this.2 i hi k x (hpg.2 i hi k x hx)⟩
  ·cases hc
 ·cases hc
def Jq (P:Program)(l:List (Nat×TypeId))(s:av):T av:=
 match l with
 | []=> .ret s
 | (j,t)::r=>
   (match s with
   | ⟨⟨fn,cx,todo,ds,mode,kind,ro⟩,[],h⟩=>
     (match mode,todo,BV.Sa (cx.getD j .kC)with
     | .run,.fQ _::_,_=>Jq P r s
     | .run,.code _::_,true=>(Qq P h t (cx.getD j .kC)).bind fun x=>Jq P r ⟨⟨fn,cx.set j (ch P t x.1),todo,ds,mode,kind,ro⟩,[],dB h x.2⟩
     |_,_,_=>Jq P r s)
   |_=> .ret s)
def aC.adE {f:FuncId}{rs:List TypeId}{G:sS}:∀(l:List (Nat×TypeId)) {s s':av},T.dm s' (Jq P l s)->aC P f rs G s'->aC P f rs G s:=by
 intro l
 induction l with
 |nil=>intro s s' hs' he;rw[T.aS hs'];exact he
 |cons q r ih=>
  obtain⟨j,t⟩:=q
  intro s s' hs' he
  unfold Jq at hs'
  split at hs'
  ·rename_i fn cx todo ds mode kind ro h
   split at hs'
   ·exact ih hs' he
   ·rename_i c rr hfz
    obtain⟨x,e1,e2⟩:=T.bx hs'
    refine aC.zg (fun c0 g w lb fr cs1 hs=>?_) (ih e2 he)
    obtain⟨hr,h2,h3,h4⟩:=hs
    obtain⟨j1,j2⟩:=BD hr e1
    obtain⟨k1,k2⟩:=hr.freeze j1
    have hrun:=h3.run rfl
    have hne:∀d k,(dI.code c::rr)≠ .fQ d::k:=by intro d k hh;cases hh
    unfold cQ at hrun
    dsimp only at hrun
    have hd:(dB h x.2).next=h.next:=kq h x.2
    refine⟨_,w,lb,fr,cs1,Steps.refl _ _,⟨k1,by dsimp only;rw[hd];exact h2,⟨h3.fn,h3.kind,h3.jZ,h3.defers.mono k2.mono,h3.mode.mono k2.mono,h3.round.mono k2.mono,fun hm=>?_,fun hm=>absurd rfl hm⟩,h4⟩,k2⟩
    unfold cQ
    dsimp only
    refine⟨ak.qU (by simpa using hrun.1.length) fun i b' v' hb' hv'=>?_,hrun.2.mono k2.mono⟩
    rw[agt]at hb'
    split at hb'
    ·rename_i hij
     subst hij
     split at hb'
     ·rename_i hlt
      cases hb'
      have hold:cx[j]?=some (cx.getD j .kC):=by rw[List.getD,aeY hlt];rfl
      obtain⟨v2,q1,q2⟩:=hrun.1.get hold
      rw[hv']at q1;cases q1
      exact ai.mono (g:=⟨fun _=>none,wW g x.2,fun _ _=>none⟩) (g':={g with fz:=wW g x.2}) (w:=w) (w':=w) ⟨fun b x h=>(by cases h),fun c h=>h,fun _ _=>rfl,fun _ _ h=>h,fun _ _ _ h=>(by first|exact h|cases h)⟩ _ _ (j2 _ q2).1
     ·cases hb'
    ·obtain⟨v2,q1,q2⟩:=hrun.1.get hb'
     rw[hv']at q1;cases q1;exact ai.mono k2.mono _ _ q2
   ·exact ih hs' he
  ·rw[T.aS hs'];exact he
def WC:List (FuncId×List Nat)->FuncId->Option (List Nat)
 | [],_=>none
 | (g,l)::r,f=>match Nat.beq g f with|true=>some l|false=>WC r f
def ad2 (m:List (FuncId×List Nat))(b:aZ):aZ:=
 match b with
 | ⟨fn,cx,.inRangeFunc l::k,ds,.run,kind,ro⟩=>(match WC m fn with|some tG=>⟨fn,BJ tG 0 cx,.inRangeFunc l::k,ds,.run,kind,ro⟩|none=>⟨fn,cx,.inRangeFunc l::k,ds,.run,kind,ro⟩)
 |b=>b
def Sl (m:List (FuncId×List Nat)):List aZ->List aZ
 | []=>[]
 |b::r=>ad2 m b::Sl m r
def SA:List aZ->Bool
 | []=>true
 | ⟨_,_,.inRangeFunc _::_,_,.run,_,_⟩::r=>SA r
 |_=>false
def ZM (m:List (FuncId×List Nat))(n:Nat)(h:af):af:=
 match h.get n with
 |some (.loop r)=>(match WC m r.fn with|some tG=>h.put n (some (.loop {r with tmps:=BJ tG 0 r.tmps}))|none=>h)
 |_=>h
def ZL (m:List (FuncId×List Nat)):Nat->af->af
 |0,h=>h
 |n+1,h=>ZM m n (ZL m n h)
def acg (m:List (FuncId×List Nat))(s:av):av:=
 match m with
 | []=>s
 |m=>
  (match s with
  | ⟨⟨fn,cx,.code c::k,ds,.run,kind,ro⟩,cs,h⟩=>(match SA cs with|true=>⟨⟨fn,cx,.code c::k,ds,.run,kind,ro⟩,Sl m cs,ZL m h.next h⟩|false=>s)
  |s=>s)
def WB (m:List (FuncId×List Nat))(n:Nat)(hr:aR P g h w):aR P g (ZM m n h) w/\gN g h w g (ZM m n h) w:=by
 unfold ZM
 split
 ·rename_i r hb
  split
  ·rename_i tG hl
   exact hr.seen hb (o':= .loop {r with tmps:=BJ tG 0 r.tmps}) fun au co hc=>by
    simp only[cL]at hc ⊢
    obtain⟨h0,l,h1,a1,a2,a3,a4,a5⟩:=hc
    exact⟨h0,l,h1,a1,a2,a3,GK a4,a5⟩
  ·exact⟨hr,gN.refl _ _ _⟩
 ·exact⟨hr,gN.refl _ _ _⟩
def WA (m:List (FuncId×List Nat))(hr:aR P g h w):∀n,aR P g (ZL m n h) w/\gN g h w g (ZL m n h) w:=by
 intro n
 induction n with
 |zero=>exact⟨hr,gN.refl _ _ _⟩
 |succ n ih=>
  obtain⟨k3,k4⟩:=WB m n ih.1
  exact⟨k3,ih.2.trans k4⟩
def ly.msk {c0:List Frame}{h':af}(m:List (FuncId×List Nat)):∀{bs:List aZ} {lb:Nat} {cs:List Frame},SA bs=true->ly P g h w (rG.of c0) lb bs cs->ly P g h' w (rG.of c0) lb (Sl m bs) cs:=by
 intro bs
 induction bs with
 |nil=>intro lb cs _ hc;exact hc
 |cons b bs ih=>
  intro lb cs hrg hc
  simp only[ly]at hc
  obtain⟨c,cr,lb1,rfl,h1,h2,h3⟩:=hc
  unfold SA at hrg
  split at hrg
  ·rename_i hh;cases hh
  ·rename_i fn cx l k ds kind ro r hh
   cases hh
   have hrun:=h2.run rfl
   unfold cQ at hrun
   dsimp only at hrun
   have key:∀env',ak P g w env' c.tmps.toList->mo P g h' w lb1 lb false ⟨fn,env',.inRangeFunc l::k,ds,.run,kind,ro⟩ c:=fun env' hv=>
    ⟨h2.fn,h2.kind,h2.jZ,h2.defers,h2.mode,h2.round,fun _=>by unfold cQ;exact⟨hv,hrun.2⟩,fun hm=>absurd rfl hm⟩
   simp only[Sl,ly]
   refine⟨c,cr,lb1,rfl,h1,?_,ih hrg h3⟩
   unfold ad2
   dsimp only
   split
   ·exact key _ (GK hrun.1)
   ·exact key _ hrun.1
  ·cases hrg
def aC.msk {f:FuncId}{rs:List TypeId}{G:sS}(m:List (FuncId×List Nat)){s:av}(he:aC P f rs G (acg m s)):aC P f rs G s:=by
 unfold acg at he
 split at he
 ·exact he
 ·split at he
  ·rename_i fn cx c k ds kind ro cs h
   split at he
   ·rename_i hrg
    refine aC.zg (fun c0 g w lb fr cs1 hs=>?_) he
    obtain⟨hr,h2,h3,h4⟩:=hs
    obtain⟨k1,k2⟩:=WA m hr h.next
    refine⟨g,w,lb,fr,cs1,Steps.refl _ _,⟨k1,afw h2 k2.next,⟨h3.fn,h3.kind,h3.jZ,h3.defers,h3.mode,h3.round,fun hm=>?_,fun hm=>absurd rfl hm⟩,ly.msk m hrg h4⟩,k2⟩
    have hrun:=h3.run rfl
    unfold cQ at hrun ⊢
    exact hrun
   ·exact he
  ·exact he
end
end
end
section
noncomputable section
inductive RT where
 |bE (s:av)
 |zi (s:av)
 |ret (d:D)
 |aL (v:BV) (L:List (Nat×ax))
 |bq
 |ite (c:Bool) (t e:RT)
 |pick (ks seen:List D) (e:RT) (k:D->RT)
 |Gc (t e:RT)
 |same (u v:BV) (t:RT)
 |N8 (c b:Bool) (t:RT)
 |call (f:FuncId) (ds:List D) (k:D->RT)
 |aq (f:FuncId) (ags:List BV) (L:List (Nat×ax)) (p:Nat) (k:D->RT)
def T.rt {α:Type}:T α->(α->RT)->RT
 | .ret a,k=>k a
 | .bq,_=> .bq
 | .ite c t e,k=> .ite c (T.rt t k) (T.rt e k)
 | .same u v t,k=> .same u v (T.rt t k)
abbrev ac7:=List (FuncId×List TypeId×List TypeId)
def HG:ac7->FuncId->Option (List TypeId×List TypeId)
 | [],_=>none
 | (g,ts,rs)::r,f=>match Nat.beq g f with|true=>some (ts,rs)|false=>HG r f
abbrev RH:=List BV->List (Nat×ax)->D->T (BV×List (Nat×ax))
abbrev aaI:=List (FuncId×RH)
def D8:aaI->FuncId->Option RH
 | [],_=>none
 | (g,R)::r,f=>match Nat.beq g f with|true=>some R|false=>D8 r f
def aa4 {α:Type}:Option α->Bool
 |some _=>true
 |none=>false
def JC (s:av):Option av:=
 match s with
 | ⟨⟨fn,cx,todo,ds,mode,kind,ro⟩,cs,h⟩=>
   match mode,todo with
   | .run,.inLoop body::k=>some ⟨⟨fn,cx,.code body:: .inLoop body::k,ds,.run,kind,ro⟩,cs,h⟩
   | .run,.code (.loop body)::k=>some ⟨⟨fn,cx,.code body:: .inLoop body::k,ds,.run,kind,ro⟩,cs,h⟩
   |_,_=>none
structure cw where
 f:FuncId
 rs:List TypeId
 bu:Option Nat:=none
 cK:ac7:=[]
 bD:aaI:=[]
 bK:List Ev:=[]
 C5:EI:=[]
 HZ:List (FuncId×List (Option TypeId)):=[]
 Tg:EI:=[]
 Ee:List (Option TypeId):=[]
 fzr:List (Option TypeId):=[]
 fze:List (Nat×TypeId):=[]
 msk:List (FuncId×List Nat):=[]
 fzl:List (Nat×Nat×TypeId):=[]
 S5:List Ev:=[]
 pns:List (FuncId×Nat):=[]
def aaf:List (FuncId×Nat)->FuncId->Nat->Nat
 | [],_,n=>n
 | (g,m)::r,f,n=>match Nat.beq g f with|true=>m|false=>aaf r f n
def aa0:List (FuncId×List (Option TypeId))->FuncId->List (Option TypeId)
 | [],_=>[]
 | (g,R)::r,f=>match Nat.beq g f with|true=>R|false=>aa0 r f
def Zv:List (Nat×Nat×TypeId)->av->List (Nat×TypeId)
 | [],_=>[]
 | (m,x)::r,s=>match Nat.beq m (Nat.add (SI s.fr.todo) (Nat.mul 4096 s.fr.todo.length))with|true=>x::Zv r s|false=>Zv r s
def cw.p (C:cw):Nat:=match C.bu with|some p=>p|none=>0
def adv (p:Nat)(l:List Ev)(s:av):Option av:=
 match l with
 | []=>none
 |l=>(match s.fr.todo with| .code _::_=>VJ p l s|_=>none)
def goH (P:Program)(C:cw)(K:av->RT)(R:RH)(g:FuncId)(ags:List BV)(fr:aZ)(cs:List aZ)(h:af):RT:=
 (match yj h 300 (Ak ags) []with
   |some seen=>(match xL 0 (gw 0 seen).length [] [] (gw 0 seen),Dj (C3 h 0 0 (gw 0 seen)) h (gw 0 seen)with
    |true,some L=> .aq g (j6 (C3 h 0 0 (gw 0 seen)) ags) L (aaf C.pns g (IE (La h 100 (V9 (BH (Ak ags))) []) seen)) fun d=>
      (R (j6 (C3 h 0 0 (gw 0 seen)) ags) L d).rt fun x=>
      (match LL h (gw 0 seen) seen (aaf C.pns g (IE (La h 100 (V9 (BH (Ak ags))) []) seen)) x.2 with
      |some h2=>(qF P fr (p5 (KT h (gw 0 seen) (aaf C.pns g (IE (La h 100 (V9 (BH (Ak ags))) []) seen))) x.1) h2).rt fun r=>K ⟨r.1,cs,r.2⟩
      |none=> .bq)
    |_,_=> .bq)
   |none=> .bq)
def ab9 (P:Program)(C:cw)(K:av->RT):Nx->RT
 | .pick ks seen s0 k=> .pick ks seen (K s0) fun d=>K (k d)
 | .Gc s1 s2=> .Gc (K s1) (K s2)
 | .st s=>
   (match (KL C.C5 s).ended with
   |true=>(match VS P C.f (KL C.C5 s)with
    |some v=>(match C.bu with
     |none=>(Zs P (KL C.C5 s).h C.rs v).rt fun x=> .ret x.1
     |some p=>(Zr P (KL C.C5 s).h C.fzr v).rt fun z=>(match PV p (Io C.Ee (dB (KL C.C5 s).h z.2) z.1).1 (Io C.Ee (dB (KL C.C5 s).h z.2) z.1).2 with|some x=> .aL x.1 x.2|none=> .bq))
    |none=> .bq)
   |false=>(match JC s with
    |some s1=>(Jq P (C.fze++Zv C.fzl s1) (acg C.msk (KL C.C5 s1))).rt fun s3=>(match VJ C.p C.bK s3 with|some s2=> .bE s2|none=>K s1)
    |none=>(V8 P C.Tg (KL C.C5 s)).rt fun s5=>(Jq P C.fze s5).rt fun s4=>(match adv C.p C.S5 s4 with
     |some s2=> .bE s2
     |none=>K s4)))
 | .call g ags fr cs h=>
   (match HG C.cK g with
   |some (ts,rs)=>(Hp P h ts ags).rt fun x=>
     (match rs.all (CM P)with
     |true=> .call g x.1 fun d=>(qF P fr (FZ P rs d) h).rt fun r=>K ⟨r.1,cs,r.2⟩
     |false=> .call g x.1 fun d=>(qF P fr (FZ P rs d) (dB h x.2)).rt fun r=>K ⟨r.1,cs,r.2⟩)
   |none=>(match D8 C.bD g with
    |some R=>(Dh P h (aa0 C.HZ g) ags).rt fun z=>goH P C K R g z.1 fr cs (dB h z.2)
    |none=> .bq))
def runT (P:Program)(C:cw):Nat->av->RT
 |0,s=> .zi s
 |n+1,s=>(XU P (fun g=>aa4 (HG C.cK g)||aa4 (D8 C.bD g)) s).rt (ab9 P C (runT P C n))
def rk (P:Program)(C:cw)(G:sS):RT->Prop
 | .bE s=>aC P C.f C.rs G s
 | .zi s=>aC P C.f C.rs G s
 | .ret d=>(match G with| .kE Q=>Q d| .bu _ _ _=>False)
 | .aL v L=>(match G with| .kE _=>False| .bu p R Q=>C.bu=some p/\∃d,T.dm (v,L) (R d)/\Q d)
 | .bq=>False
 | .ite c t e=>(c=true->rk P C G t)/\(c=false->rk P C G e)
 | .pick ks seen e k=>((∀d,d∈ks->d∈seen)->rk P C G e)/\∀d,d∈ks->d∉seen->rk P C G (k d)
 | .Gc t e=>rk P C G t/\rk P C G e
 | .same u v t=>u=v/\rk P C G t
 | .N8 c b t=>c=b/\rk P C G t
 | .call g ds k=>∃ts rs Q',HG C.cK g=some (ts,rs)/\iq P g ts ds rs Q'/\∀d,Q' d->rk P C G (k d)
 | .aq g ags L p k=>∃R Q',D8 C.bD g=some R/\pj P g ags L p (R ags L) Q'/\∀d,Q' d->rk P C G (k d)
section
variable {P:Program} {C:cw} {G:sS}
def RT.AG {α:Type}{k:α->RT}:∀{t:T α},rk P C G (T.rt t k)->∃a,T.dm a t/\rk P C G (k a):=by
 intro t
 induction t with
 |ret a=>intro h;exact⟨a,.ret,h⟩
 |bq=>intro h;exact h.elim
 |ite c t e iht ihe=>
  intro h
  cases c with
  |true=>obtain⟨a,h1,h2⟩:=iht (h.1 rfl);exact⟨a,.tt rfl h1,h2⟩
  |false=>obtain⟨a,h1,h2⟩:=ihe (h.2 rfl);exact⟨a,.ff rfl h1,h2⟩
 |same u v t ih=>
  intro h
  obtain⟨a,h1,h2⟩:=ih h.2
  exact⟨a,.same h.1 h1,h2⟩
def Di {s s1:av}(e:JC s=some s1):dj P s=some s1:=by
 obtain⟨⟨fn,cx,todo,ds,mode,kind,ro⟩,cs,h⟩:=s
 unfold JC at e
 dsimp only at e
 split at e
 ·cases e;rfl
 ·cases e;rfl
 ·cases e
def aas (hmix:P.follows .mixedOrders=true)(hp:G.p<=C.p):∀(n:Nat) {s:av},rk P C G (runT P C n s)->aC P C.f C.rs G s:=by
 intro n
 induction n with
 |zero=>intro s h;exact h
 |succ n ih=>
  intro s h
  obtain⟨nx,h1,h2⟩:=RT.AG h
  rcases UH h1 with hg| ⟨ks,seen,s0,k,rfl,hpk⟩| ⟨s1,s2,rfl,hal⟩
  case inr.inl=>exact aC.pick hpk (fun h=>ih (h2.1 h)) (fun d h3 h4=>ih (h2.2 d h3 h4))
  case inr.inr=>exact aC.Gc hal (ih h2.1) (ih h2.2)
  cases nx with
  |pick ks seen s0 k=>exact hg.elim
  |Gc s1 s2=>exact hg.elim
  |st s1=>
   refine aC.step hmix hg ?_
   unfold ab9 at h2
   dsimp only at h2
   split at h2
   ·rename_i hend
    refine aC.wid C.C5 ?_
    split at h2
    ·rename_i v hv
     split at h2
     ·obtain⟨x,hx,hq⟩:=RT.AG h2
      cases G with
      |kE Q=>exact aC.ended hend hv hx hq
      |bu p R Q=>exact hq.elim
     ·rename_i p hpe
      obtain⟨z,hz,h2⟩:=RT.AG h2
      split at h2
      ·rename_i x hx
       cases G with
       |kE Q=>exact h2.elim
       |bu p' R Q=>
        obtain⟨h3,d,h4,h5⟩:=h2
        rw[hpe]at h3;cases h3
        exact aC.Zh C.Ee C.fzr hend hv hz hx h4 h5
      ·exact h2.elim
    ·exact h2.elim
   ·split at h2
    ·rename_i s2 hl
     obtain⟨s5,h6,h2⟩:=RT.AG h2
     split at h2
     ·rename_i s3 hc
      exact aC.step hmix (Di hl) (aC.wid C.C5 (aC.msk C.msk (aC.adE (C.fze++Zv C.fzl _) h6 (R4 P C.p C.bK _ _ _ _ _ hp hc h2))))
     ·exact aC.step hmix (Di hl) (ih h2)
    ·obtain⟨s5,h6,h2⟩:=RT.AG h2
     obtain⟨s4,h4,h5⟩:=RT.AG h2
     refine aC.wid C.C5 (aC.aeA C.Tg h6 (aC.adE C.fze h4 ?_))
     split at h5
     ·rename_i s3 hc
      unfold adv at hc
      split at hc
      ·cases hc
      ·split at hc
       ·exact R4 P C.p _ _ _ _ _ _ hp hc h5
       ·cases hc
     ·exact ih h5
  |call g ags fr cs h0=>
   unfold ab9 at h2
   dsimp only at h2
   split at h2
   ·rename_i ts rs hsig
    obtain⟨x,hx,h3⟩:=RT.AG h2
    split at h3
    ·rename_i hsc
     obtain⟨ts',rs',Q',k1,k2,k3⟩:=h3
     rw[hsig]at k1;cases k1
     exact aC.call hmix hg hx k2 true (fun _=>hsc) fun d hd=>by
      obtain⟨r,hr,h5⟩:=RT.AG (k3 d hd)
      exact⟨r,hr,ih h5⟩
    ·obtain⟨ts',rs',Q',k1,k2,k3⟩:=h3
     rw[hsig]at k1;cases k1
     exact aC.call hmix hg hx k2 false (fun hc=>by cases hc) fun d hd=>by
      obtain⟨r,hr,h5⟩:=RT.AG (k3 d hd)
      exact⟨r,hr,ih h5⟩
   ·split at h2
    ·rename_i R hsig
     obtain⟨z,hz,h2⟩:=RT.AG h2
     unfold goH at h2
     split at h2
     ·rename_i seen hseen
      split at h2
      ·rename_i L hok hob
       obtain⟨R',Q',k1,k2,k3⟩:=h2
       rw[hsig]at k1;cases k1
       exact aC.adb hmix hg hz rfl rfl hseen hok hob k2 fun d hd=>by
        obtain⟨x,hx,h6⟩:=RT.AG (k3 d hd)
        split at h6
        ·rename_i hb hbk
         obtain⟨r,hr,h5⟩:=RT.AG h6
         exact⟨x,hb,r,hx,hbk,hr,ih h5⟩
        ·exact h6.elim
      ·exact h2.elim
     ·exact h2.elim
    ·exact h2.elim
end
section
variable {P:Program} {C:cw} {G:sS}
end
section
variable {P:Program} {C:cw} {G:sS}
def RT.okI {c:Bool}{t e:RT}(h1:c=true->rk P C G t)(h2:c=false->rk P C G e):rk P C G (.ite c t e):=⟨h1,h2⟩
def RT.okM {c b:Bool}{t:RT}(h:c=b)(k:rk P C G t):rk P C G (.N8 c b t):=⟨h,k⟩
end
def aaV:Nat->List (Nat×BV)->List BV
 |0,_=>[]
 |n+1,l=>aaV n l++[match l.find? (fun p=>Nat.beq p.1 n)with|some p=>p.2|none=> .kC]
def Hi:Nat->Nat->Code->List dI->List dI
 |0,_,_,k=>k
 |f+1,n,c,k=>
  match Nat.ble n 1 with
  |true=> .code c::k
  |false=>
   match c with
   | .seq a b=>(match Nat.beq (Nat.mod n 2) 0 with|true=>Hi f (Nat.div n 2) a (.code b::k)|false=>Hi f (Nat.div n 2) b k)
   | .cond _ a b=>(match Nat.beq (Nat.mod n 2) 0 with|true=>Hi f (Nat.div n 2) a k|false=>Hi f (Nat.div n 2) b k)
   | .block id b=>Hi f (Nat.div n 2) b (.inBlock id::k)
   | .loop b=>Hi f (Nat.div n 2) b (.inLoop b::k)
   | .scope b=>Hi f (Nat.div n 2) b (.inScope b::k)
   |c=> .code c::k
def ada (P:Program)(f:FuncId):Code:=match P.funcs[f]? with|some fn=>(match fn.body with|some c=>c|none=> .skip)|none=> .skip
def adF (P:Program)(f:FuncId)(path:Nat)(cx:List (Nat×BV))(L:List (Nat×ax)):av:=
 match P.funcs[f]? with
 |some fn=>⟨⟨f,aaV fn.ntmps cx,Hi 200 path (ada P f) [],[],.run,.normal,none⟩,[],hL L⟩
 |none=>⟨default,[],hL L⟩
end
end
end Go.PB
end
