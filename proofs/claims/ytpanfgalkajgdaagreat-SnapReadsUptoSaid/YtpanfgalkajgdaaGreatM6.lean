import Derived.Defers
import Derived.Test.YtpanfgalkajgdaaGreatM5
set_option linter.all false
noncomputable section
namespace Go.PB
open Go
section
noncomputable section
structure OM where
 rn:Nat->Option Nat
 fm:Nat->Option Nat
mutual
def vC (φ:OM):BV->BV
 | .qd=> .qd
 | .bool b=> .bool b
 | .int k n=> .int k n
 | .ax s=> .ax s
 | .gF=> .gF
 | .ie b off=>(match φ.rn b with|some c=> .ie c off|none=> .qd)
 | .ze cs=> .ze (oq φ cs)
 | .cS=> .cS
 | .nE=> .nE
 | .bx e l=> .bx e l
 | .IL e l=> .IL e l
 | .hY b n _=>(match φ.rn b with|some c=> .hY c n true|none=> .qd)
 | .yJ b e i off=>(match φ.rn b with|some c=> .yJ c e i off|none=> .qd)
 | .sW b f k off=>(match φ.rn b,φ.fm f with|some c,some f'=> .sW c f' k off|_,_=> .qd)
 | .Ri=> .Ri
 | .map b=>(match φ.rn b with|some c=> .map c|none=> .qd)
 | .Z0 b n=>(match φ.rn b with|some c=> .Z0 c n|none=> .qd)
 | .IZ=> .IZ
 | .TY=> .TY
 | .nX t n=> .nX t n
 | .func fn a c=> .func fn (oq φ a) (oq φ c)
 | .agg cs=> .agg (oq φ cs)
 | .tuple vs=> .tuple (oq φ vs)
def oq (φ:OM):List BV->List BV
 | []=>[]
 |v::vs=>vC φ v::oq φ vs
end
def As (φ:OM):aE->Option aE
 | .cells cs e s=>some (.cells (oq φ cs) e s)
 | .bY e l _=>some (.bY e l true)
 | .cd kt (.data e) l st c=>some (.cd kt (.data e) l st c)
 | .cd kt .Oq l st c=>some (.cd kt .Oq l st c)
 | .cd kt (.dD f e) l st c=>(match φ.fm f with|some f'=>some (.cd kt (.dD f' e) l st c)|none=>none)
 | .nb m ks st ck seen=>(match φ.rn m with|some c=>some (.nb c ks st ck seen)|none=>none)
 | .tQ _ _ _=>none
section
variable {P:Program} {g g':Gh} {w:World} {φ:OM}
structure Cg (P:Program)(g g':Gh)(w:World)(φ:OM):Prop where
 rn:∀b c x,φ.rn b=some c->g.m b=some x->g'.m c=some x
 fz:∀c,g.fz c->g'.fz c
 fm:∀f f' k x,φ.fm f=some f'->g.s f k=some x->g'.s f' k=some x
mutual
def aw.sub (hs:Cg P g g' w φ):∀(b:BV) (v:Value),aw P g w b v->aw P g' w (vC φ b) v
 | .qd,_,_=>by simp[vC,aw]
 | .bool _,_,h=>by simpa [vC,aw]using h
 | .int _ _,_,h=>by simpa [vC,aw]using h
 | .ax _,_,h=>by simpa [vC,aw]using h
 | .gF,_,h=>by simpa [vC,aw]using h
 | .ie b off,v,h=>by
   simp only[vC]
   cases hb:φ.rn b with
   |none=>simp[aw]
   |some c=>simp only[aw]at h ⊢;obtain⟨aS,aD,A,rfl⟩:=h;exact⟨aS,aD,hs.rn _ _ _ hb A,rfl⟩
 | .ze cs,v,h=>by simp only[vC,aw]at h ⊢;obtain⟨aS,off,rfl,hf,vs,J,hc⟩:=h;exact⟨aS,off,rfl,hs.fz _ hf,vs,ay.sub hs cs vs J,hc⟩
 | .cS,_,h=>by simpa [vC,aw]using h
 | .nE,_,h=>by simpa [vC,aw]using h
 | .bx e l,v,h=>by
   simp only[vC,aw]at h ⊢;rcases h with h| ⟨aS,off,c,h1,h2,I⟩
   ·exact .inl h
   exact .inr ⟨aS,off,c,h1,h2,I.mono hs.fz fun _ _=>rfl⟩
 | .IL e l,v,h=>by
   simp only[vC,aw]at h ⊢;rcases h with h| ⟨aS,off,h1,I⟩
   ·exact .inl h
   exact .inr ⟨aS,off,h1,I.mono hs.fz fun _ _=>rfl⟩
 | .hY b n vt,v,h=>by
   simp only[vC]
   cases hb:φ.rn b with
   |none=>simp[aw]
   |some c=>
    simp only[aw]at h ⊢;rcases h with ⟨⟨_,h0⟩,h⟩| ⟨aS,aD,k,A,h1,h2,I⟩
    ·exact .inl ⟨⟨trivial,h0⟩,h⟩
    exact .inr ⟨aS,aD,k,hs.rn _ _ _ hb A,h1,h2,I⟩
 | .yJ b e i off,v,h=>by
   simp only[vC]
   cases hb:φ.rn b with
   |none=>simp[aw]
   |some c=>simp only[aw]at h ⊢;obtain⟨aS,aD,A,rfl⟩:=h;exact⟨aS,aD,hs.rn _ _ _ hb A,rfl⟩
 | .sW b f k off,v,h=>by
   simp only[vC]
   cases hb:φ.rn b with
   |none=>simp[aw]
   |some c=>
    cases hf:φ.fm f with
    |none=>simp[aw]
    |some f'=>simp only[aw]at h ⊢;obtain⟨aS,aD,A,rfl,y,V⟩:=h;exact⟨aS,aD,hs.fm _ _ _ _ hf A,rfl,y,hs.rn _ _ _ hb V⟩
 | .Ri,_,h=>by simpa [vC,aw]using h
 | .map b,v,h=>by
   simp only[aw]at h;obtain⟨aS,A,rfl⟩:=h;simp only[vC]
   cases hb:φ.rn b with
   |none=>simp[aw]
   |some c=>simp only[aw];exact⟨aS,hs.rn _ _ _ hb A,rfl⟩
 | .Z0 b n,v,h=>by
   simp only[vC]
   cases hb:φ.rn b with
   |none=>simp[aw]
   |some c=>simp only[aw]at h ⊢;obtain⟨aS,aD,A,rfl⟩:=h;exact⟨aS,aD,hs.rn _ _ _ hb A,rfl⟩
 | .IZ,_,h=>by simpa [vC,aw]using h
 | .TY,_,h=>by simpa [vC,aw]using h
 | .nX _ _,_,h=>by simp[aw]at h
 | .func fn a c,v,h=>by simp only[vC,aw]at h ⊢;obtain⟨U,O,rfl,Y,hc⟩:=h;exact⟨U,O,rfl,ay.sub hs a _ Y,ay.sub hs c _ hc⟩
 | .agg cs,v,h=>by simp only[vC,aw]at h ⊢;obtain⟨vs,rfl,J⟩:=h;exact⟨vs,rfl,ay.sub hs cs _ J⟩
 | .tuple cs,v,h=>by simp only[vC,aw]at h ⊢;obtain⟨vs,rfl,J⟩:=h;exact⟨vs,rfl,ay.sub hs cs _ J⟩
def ay.sub (hs:Cg P g g' w φ):∀(bs:List BV) (vs:List Value),ay P g w bs vs->ay P g' w (oq φ bs) vs
 | [],_,h=>by simpa [oq,ay]using h
 |b::bs,vs,h=>by simp only[oq,ay]at h ⊢;obtain⟨v,A,rfl,I,J⟩:=h;exact⟨v,A,rfl,aw.sub hs b v I,ay.sub hs bs A J⟩
end
def La (φ:OM):∀(a b:List BV),oq φ (a++b)=oq φ a++oq φ b
 | [],b=>rfl
 |x::a,b=>by simp only[anM,oq,La φ a b]
def Is (φ:OM){S:TypeId->D->List BV}(hS:∀t d,oq φ (S t d)=S t d):∀(fs:List Field) (i:Nat) (d:D),oq φ (ji S fs i d)=ji S fs i d
 | [],_,_=>rfl
 |f::r,i,d=>by simp only[ji,La,hS,Is φ hS r (i+1) d]
def Lb (φ:OM):∀(n:Nat) (t:TypeId) (d:D),oq φ (fq P n t d)=fq P n t d:=by
 intro n
 induction n with
 |zero=>intro t d;rfl
 |succ n I=>
  intro t d;simp only[fq]
  cases J:P.underlying t with
  |none=>rfl
  |some A=>cases A<;>first|rfl|exact Is φ I _ _ _
def XA (φ:OM)(t:TypeId)(d:D):vC φ (de P t d)=de P t d:=by
 unfold de
 split
 ·simp only[vC,aH,Lb]
 have h:=Lb (P:=P) φ 8 t d
 change oq φ (aH P t d)=aH P t d at h
 split
 ·rename_i v A
  rw[A]at h;simp only[oq,aoS,amS]at h;exact h
 rfl
def aw.Xz (hs:Cg P g g' w φ){t:TypeId}{d:D}{v:Value}(h:aw P g w (de P t d) v):aw P g' w (de P t d) v:=by
 have:=aw.sub hs _ _ h
 rwa [XA]at this
def BE.sub (hs:Cg P g g' w φ){kt:TypeId}{vk A:VK}{l:List (D×D)}{st:List Nat}{c:Nat}{es:List MapEntry}(h:BE P g w kt vk l st c es)(I:∀k d v,E1 P g w vk k d v->E1 P g' w A k d v):BE P g' w kt A l st c es:=
 ⟨h.len,h.sl,fun i p e h1 h2=>aw.Xz hs (h.key i p e h1 h2),h.born,fun i p e h1 h2=>I _ _ _ (h.val i p e h1 h2),h.IG,h.nd,h.snd,h.Ny⟩
def fO.sub (hs:Cg P g g' w φ){o o':aE}{aD:Nat}{co:Obj}(h:fO P g w o aD co)(e:As φ o=some o'):fO P g' w o' aD co:=by
 cases o with
 |cells cs el s=>simp only[As,amD]at e;subst e;simp only[fO]at h ⊢;obtain⟨c,lo,hi,rfl,⟨vs,A,hc⟩,I⟩:=h;exact⟨c,lo,hi,rfl,⟨vs,ay.sub hs _ _ A,hc⟩,I⟩
 |bY el l vt=>simp only[As,amD]at e;subst e;simp only[fO]at h ⊢;obtain⟨c,lo,hi,rfl,I,vs,A,hc⟩:=h;exact⟨c,lo,hi,rfl,I,vs,A.mono hs.fz fun _ _=>rfl,hc⟩
 |cd kt vk l st clock=>
  simp only[fO]at h;obtain⟨rfl,es,rfl,he⟩:=h
  cases vk with
  |data J=>simp only[As,amD]at e;subst e;simp only[fO];exact⟨trivial,es,rfl,he.sub hs fun k d v A=>by unfold E1 at A ⊢;exact aw.Xz hs A⟩
  |Oq=>simp only[As,amD]at e;subst e;simp only[fO];exact⟨trivial,es,rfl,he.sub hs fun k d v A=>A⟩
  |dD f J=>
   simp only[As]at e
   split at e
   ·rename_i f' hf
    cases e
    simp only[fO]
    exact⟨trivial,es,rfl,he.sub hs fun k d v A=>by
     unfold E1 at A ⊢;obtain⟨x,h1,h2⟩:=A
     exact⟨x,hs.fm _ _ _ _ hf h1,h2⟩⟩
   cases e
 |nb m ks st ck seen=>
  simp only[As]at e
  split at e
  ·rename_i c hc
   cases e
   simp only[fO]at h ⊢;obtain⟨rfl,aS,O,h1,rfl⟩:=h;exact⟨rfl,aS,hs.rn _ _ _ hc O,h1,rfl⟩
  cases e
 |tQ b f k=>simp only[fO]at h
end
def iV:List (Nat×Nat)->Nat->Option Nat
 | [],_=>none
 | (a,b)::r,x=>match Nat.beq a x with|true=>some b|false=>iV r x
def DR:List (Nat×Nat)->Nat->Option Nat
 | [],_=>none
 | (a,b)::r,x=>match Nat.beq b x with|true=>some a|false=>DR r x
def YR:List Nat->Nat->Bool
 | [],_=>false
 |x::r,n=>match Nat.beq x n with|true=>true|false=>YR r n
def HA (φ:OM)(h:ai):List (Nat×Nat)->Option (List (Nat×aE))
 | []=>some []
 | (a,b)::r=>match h.get a with
   |some o=>(match As φ o with|some o'=>(match HA φ h r with|some l=>some ((b,o')::l)|none=>none)|none=>none)
   |none=>none
def By (A top:Nat)(PU:List Nat):List (Nat×Nat)->List (Nat×Nat)->Bool
 |_,[]=>true
 |seen,(a,b)::r=>Nat.ble A a&&Nat.ble A b&&Nat.blt b top&&!(YR PU a)&&(iV seen a).isNone&&(DR seen b).isNone&&By A top PU ((a,b)::seen) r
def IY:List (Nat×aE)->List Nat
 | []=>[]
 | (a,_)::r=>a::IY r
def P6:∀(l:List (Nat×aE)),IY l=l.map (·.1):=by
 intro l
 induction l with
 |nil=>rfl
 |cons p r A=>obtain⟨a,b⟩:=p;simp[IY,A]
section
variable {P:Program} {g g':Gh} {w:World} {φ:OM}
def mi {a b:Nat}:∀{l:List (Nat×Nat)},iV l a=some b->(a,b)∈l:=by
 intro l
 induction l with
 |nil=>intro e;simp[iV]at e
 |cons p r A=>
  obtain⟨x,y⟩:=p;intro e;simp only[iV]at e
  split at e
  ·rename_i h;cases e;rw[amC h];exact anl
  exact am4 _ (A e)
def oh {a b:Nat}:∀{l:List (Nat×Nat)},DR l b=some a->(a,b)∈l:=by
 intro l
 induction l with
 |nil=>intro e;simp[DR]at e
 |cons p r A=>
  obtain⟨x,y⟩:=p;intro e;simp only[DR]at e
  split at e
  ·rename_i h;cases e;rw[amC h];exact anl
  exact am4 _ (A e)
def E5 {a:Nat}:∀{l:List (Nat×Nat)},iV l a=none->∀q∈l,q.1≠a:=by
 intro l
 induction l with
 |nil=>intro _ q hq;cases hq
 |cons p r I=>
  obtain⟨x,y⟩:=p;intro e q hq;simp only[iV]at e
  split at e
  ·cases e
  rename_i h
  rcases amz.1 hq with rfl|hq
  ·intro A;dsimp only at A;subst A;rw[aqc]at h;cases h
  exact I e q hq
def LZ {b:Nat}:∀{l:List (Nat×Nat)},DR l b=none->∀q∈l,q.2≠b:=by
 intro l
 induction l with
 |nil=>intro _ q hq;cases hq
 |cons p r I=>
  obtain⟨x,y⟩:=p;intro e q hq;simp only[DR]at e
  split at e
  ·cases e
  rename_i h
  rcases amz.1 hq with rfl|hq
  ·intro A;dsimp only at A;subst A;rw[aqc]at h;cases h
  exact I e q hq
def An {I top:Nat}{PU:List Nat}:∀{l seen:List (Nat×Nat)},By I top PU seen l=true->
 (∀p∈l,I<=p.1/\I<=p.2/\p.2<top/\YR PU p.1=false)/\(∀p∈l,∀q∈seen,q.1≠p.1/\q.2≠p.2)/\l.Pairwise fun p q=>p.1≠q.1/\p.2≠q.2:=by
 intro l
 induction l with
 |nil=>intro seen _;exact⟨by simp,by simp,List.Pairwise.nil⟩
 |cons p r Z=>
  obtain⟨a,b⟩:=p;intro seen e;simp only[By,amo,aps,amJ]at e;obtain⟨⟨⟨⟨⟨⟨h1,h2⟩,U⟩,h4⟩,h5⟩,Y⟩,h7⟩:=e;obtain⟨V,J,O⟩:=Z h7;refine⟨fun p hp=>?_,fun p hp q A=>?_,List.Pairwise.cons (fun q A=>?_) O⟩
  ·rcases amz.1 hp with rfl|hp
   ·exact⟨aok h1,aok h2,by simpa [aos]using U,h4⟩
   exact V p hp
  ·rcases amz.1 hp with rfl|hp
   ·exact⟨E5 h5 q A,LZ Y q A⟩
   exact J p hp q (am4 _ A)
  have:=J q A (a,b) anl;exact this
def KZ {l:List (Nat×Nat)}(h:l.Pairwise fun p q=>p.1≠q.1/\p.2≠q.2){a b c:Nat}(h1:(a,b)∈l)(h2:(a,c)∈l):b=c:=by
 induction l with
 |nil=>cases h1
 |cons p r A=>
  rw[an9]at h;rcases amz.1 h1 with h1|h1<;>rcases amz.1 h2 with h2|h2
  ·rw[<-h1]at h2;cases h2;rfl
  ·have:=h.1 _ h2;rw[<-h1]at this;exact absurd rfl this.1
  ·have:=h.1 _ h1;rw[<-h2]at this;exact absurd rfl this.1
  exact A h.2 h1 h2
def UI {l:List (Nat×Nat)}(h:l.Pairwise fun p q=>p.1≠q.1/\p.2≠q.2){a b c:Nat}(h1:(a,c)∈l)(h2:(b,c)∈l):a=b:=by
 induction l with
 |nil=>cases h1
 |cons p r A=>
  rw[an9]at h;rcases amz.1 h1 with h1|h1<;>rcases amz.1 h2 with h2|h2
  ·rw[<-h1]at h2;cases h2;rfl
  ·have:=h.1 _ h2;rw[<-h1]at this;exact absurd rfl this.2
  ·have:=h.1 _ h1;rw[<-h2]at this;exact absurd rfl this.2
  exact A h.2 h1 h2
def ahw {l:List (Nat×Nat)}(h:l.Pairwise fun p q=>p.1≠q.1/\p.2≠q.2){a b:Nat}(h1:(a,b)∈l):DR l b=some a:=by
 cases e:DR l b with
 |none=>exact absurd rfl (LZ e _ h1)
 |some c=>rw[UI h h1 (oh e)]
def P9 {h:ai}:∀{ps:List (Nat×Nat)} {L:List (Nat×aE)},HA φ h ps=some L->
 IY L=ps.map (·.2)/\∀c o',(c,o')∈L->∃b o,(b,c)∈ps/\h.get b=some o/\As φ o=some o':=by
 intro ps
 induction ps with
 |nil=>intro L e;simp[HA]at e;subst e;exact⟨rfl,by simp⟩
 |cons p r Y=>
  obtain⟨a,b⟩:=p;intro L e;simp only[HA]at e
  split at e
  ·rename_i o ho
   split at e
   ·rename_i o1 A
    split at e
    ·rename_i l hl
     cases e
     obtain⟨U,J⟩:=Y hl;refine⟨by simp[IY,U],fun c o' hc=>?_⟩;rcases amz.1 hc with hc|hc
     ·cases hc;exact⟨a,o,anl,ho,A⟩
     obtain⟨b',V,I,Z,O⟩:=J c o' hc;exact⟨b',V,am4 _ I,Z,O⟩
    cases e
   cases e
  cases e
def afg {c:Nat}{o:aE}:∀(l:List (Nat×aE)) (t:Tr aE),Tr.get (Rh l t) c=some o->(c,o)∈l\/Tr.get t c=some o:=by
 intro l
 induction l with
 |nil=>intro t h;exact .inr h
 |cons p r I=>
  obtain⟨a,x⟩:=p;intro t h;simp only[Rh]at h;rcases I _ h with h1|h1
  ·exact .inl (am4 _ h1)
  rw[Tr.DL _ _ _ _ _ (by omega)]at h1
  split at h1
  ·rename_i A;subst A;cases h1;exact .inl anl
  exact .inr h1
def YT {c:Nat}:∀(l:List (Nat×aE)) (t:Tr aE),(∀p∈l,p.1≠c)->Tr.get (Rh l t) c=Tr.get t c:=by
 intro l
 induction l with
 |nil=>intro t _;rfl
 |cons p r A=>obtain⟨a,x⟩:=p;intro t h;simp only[Rh];rw[A _ fun p hp=>h p (am4 _ hp),Tr.DL _ _ _ _ _ (by omega),amt fun e=>h (a,x) anl e.symm]
end
end
end
section
noncomputable section
mutual
def Nc:BV->List (Nat×Bool)
 | .ie b _=>[(b,false)]
 | .ze cs=>EK cs
 | .hY b _ vt=>[(b,vt)]
 | .yJ b _ _ _=>[(b,false)]
 | .sW b _ _ _=>[(b,false)]
 | .map b=>[(b,false)]
 | .Z0 b _=>[(b,false)]
 | .func _ a c=>EK a++EK c
 | .agg cs=>EK cs
 | .tuple cs=>EK cs
 |_=>[]
def EK:List BV->List (Nat×Bool)
 | []=>[]
 |v::vs=>Nc v++EK vs
end
def nmO:aE->List (Nat×Bool)
 | .cells cs _ _=>EK cs
 | .nb m _ _ _ _=>[(m,false)]
 |_=>[]
def nmD (d:Ay):List (Nat×Bool):=
 (match d.target with
 | .fn _ c=>EK c
 |_=>[])++EK d.args
def alp:List Ay->List (Nat×Bool)
 | []=>[]
 |d::r=>nmD d++alp r
def nmF (fr:bE):List (Nat×Bool):=EK fr.dw++alp fr.defers
def alq:List bE->List (Nat×Bool)
 | []=>[]
 |f::r=>nmF f++alq r
def FA:List (Nat×Bool)->List (Nat×Bool)
 | []=>[]
 | (b,true)::r=>FA r
 | (b,false)::r=>(b,false)::FA r
def QK:List (Nat×Bool)->List (Nat×Bool)
 | []=>[]
 | (b,true)::r=>(b,true)::QK r
 | (b,false)::r=>QK r
def BZ (h:ai):Nat->List (Nat×Bool)->List Nat->Option (List Nat)
 |0,_,_=>none
 |_+1,[],seen=>some seen
 |n+1,(b,vt)::r,seen=>
  match h.get b with
  |none=>BZ h n r seen
  |some o=>(match vt&&!(vU (some o))with
   |true=>none
   |false=>(match YR seen b with
    |true=>BZ h n r seen
    |false=>BZ h n (r++(FA (nmO o)++QK (nmO o))) (seen++[b])))
def jy:Nat->List Nat->List (Nat×Nat)
 |_,[]=>[]
 |n,b::r=>(b,n)::jy (n+1) r
def ajZ:Nat->Nat->List (Nat×Bool)
 |0,_=>[]
 |n+1,i=>(i,false)::ajZ n (i+1)
def SJ (A:List (Nat×Nat)):Nat->Bool
 |0=>true
 |n+1=>(match iV A n with|some m=>Nat.beq m n|none=>false)&&SJ A n
def agI (_:OM):ig->Option ig
 | .js _=>none
 |i=>some i
def K7 (φ:OM):List ig->Option (List ig)
 | []=>some []
 |i::r=>match agI φ i,K7 φ r with|some A,some I=>some (A::I)|_,_=>none
def ajb (φ:OM):Db->Option Db
 | .fn f c=>some (.fn f (oq φ c))
 | .builtin b a t c=>some (.builtin b a t c)
def Xx (φ:OM):List Ay->Option (List Ay)
 | []=>some []
 |d::r=>match ajb φ d.target,Xx φ r with|some t,some A=>some (⟨t,oq φ d.args⟩::A)|_,_=>none
def aja (φ:OM):Option Nat->Option (Option Nat)
 |none=>some none
 |some _=>none
def agH (φ:OM)(fr:bE):Option bE:=
 match fr with
 | ⟨fn,dw,todo,ds,mode,kind,ro⟩=>
   match mode,K7 φ todo,Xx φ ds,aja φ ro with
   | .run,some A,some J,some I=>some ⟨fn,oq φ dw,A,J,.run,kind,I⟩
   |_,_,_,_=>none
def Xy (φ:OM):List bE->Option (List bE)
 | []=>some []
 |f::r=>match agH φ f,Xy φ r with|some f',some A=>some (f'::A)|_,_=>none
def mB (h:ai)(p n:Nat):List (Nat×Nat)->List (Nat×Nat)
 | []=>[]
 | (a,c)::r=>match h.get a with
   |some (.cd _ (.dD f _) _ _ _)=>(f,match Nat.blt f p with|true=>f|false=>n+c)::mB h p n r
   |_=>mB h p n r
def He (h:ai)(p n:Nat)(A:List (Nat×Nat)):OM:=⟨iV A,iV (mB h p n A)⟩
def Na (CK:List Nat):Nat->List BV->List BV
 |_,[]=>[]
 |i,v::r=>(match YR CK i with|true=>v|false=> .qd)::Na CK (i+1) r
def BC:List (Nat×TypeId)->List BV->ai->List BV×ai
 | [],dw,h=>(dw,h)
 | (i,e)::r,dw,h=>
   match dw.getD i .qd with
   | .cS=>BC r (dw.set i (.hY h.next 0 true)) (h.new (.bY e [] true))
   |_=>BC r dw h
def Tz (p:Nat)(CK:List Nat)(xV:List (Nat×TypeId))(s:av):Option av:=
 match s with
 | ⟨⟨fn,dw,todo,ds,mode,kind,ro⟩,cs,h⟩=>
   match BC xV (Na CK 0 dw) h with
   | (A,h1)=>
     match BZ h1 300 (ajZ p 0++(nmF ⟨fn,A,todo,ds,mode,kind,ro⟩++alq cs)) []with
     |some seen=>
      (match By 0 (jy 0 seen).length [] [] (jy 0 seen)&&SJ (jy 0 seen) p&&Nat.ble p (jy 0 seen).length,agH (He h1 p (jy 0 seen).length (jy 0 seen)) ⟨fn,A,todo,ds,mode,kind,ro⟩,Xy (He h1 p (jy 0 seen).length (jy 0 seen)) cs,HA (He h1 p (jy 0 seen).length (jy 0 seen)) h1 (jy 0 seen)with
      |true,some J,some I,some L=>some ⟨J,I,hL L⟩
      |_,_,_,_=>none)
     |none=>none
def M0:Nat->Code->Nat
 |0,_=>0
 |f+1,c=>
  match c with
  | .seq a b=>Nat.succ (Nat.add (M0 f a) (M0 f b))
  | .cond _ a b=>Nat.succ (Nat.add (M0 f a) (M0 f b))
  | .block _ b=>Nat.succ (M0 f b)
  | .loop b=>Nat.succ (M0 f b)
  | .scope b=>Nat.succ (M0 f b)
  | .region _ aZ _=>Nat.succ aZ.size
  |_=>1
def abu:List ig->Nat
 | []=>0
 | .code c::r=>Nat.succ (Nat.add (M0 200 c) (abu r))
 |_::r=>Nat.succ (abu r)
structure Jo where
 fn:FuncId
 depth:Nat
 todo:Nat
 CK:List Nat
 xV:List (Nat×TypeId)
def aet (p:Nat):List Jo->av->Option av
 | [],_=>none
 |c::r,s=>
  match Nat.beq c.fn s.fr.fn&&(Nat.beq c.depth s.cs.length&&Nat.beq c.todo (Nat.add (abu s.fr.todo) (Nat.mul 4096 s.fr.todo.length)))with
  |true=>(match Tz p c.CK c.xV s with|some s1=>Tz p c.CK [] s1|none=>none)
  |false=>aet p r s
section
variable {P:Program} {g g':Gh} {h h':ai} {w:World} {φ:OM} {lb ub lb' ub':Nat}
def cM.sub (hs:Cg P g g' w φ):∀{bs A:List ig} {I:List Item},cM g bs I->K7 φ bs=some A->cM g' A I:=by
 intro bs
 induction bs with
 |nil=>intro A I h e;simp only[K7,amD]at e;subst e;exact h
 |cons b bs U=>
  intro A I h e;simp only[cM]at h;obtain⟨i,O,rfl,h1,h2⟩:=h;simp only[K7]at e
  split at e
  ·rename_i Y V hi J
   cases e
   simp only[cM];refine⟨i,O,rfl,?_,U h2 J⟩
   cases b<;>simp only[agI,amD,reduceCtorEq]at hi
   all_goals (subst hi;exact h1)
  cases e
def mL.sub (hs:Cg P g g' w φ):∀{bs A:List Ay} {ds:List Deferred},mL P g w bs ds->Xx φ bs=some A->mL P g' w A ds:=by
 intro bs
 induction bs with
 |nil=>intro A ds h e;simp only[Xx,amD]at e;subst e;exact h
 |cons b bs ih=>
  intro A ds h e;simp only[mL]at h;obtain⟨d,Z,rfl,h1,h2⟩:=h;simp only[Xx]at e
  split at e
  ·rename_i t r' ht Y
   cases e
   simp only[mL];refine⟨d,Z,rfl,⟨?_,ay.sub hs _ _ h1.2⟩,ih h2 Y⟩;have I:=h1.1;dsimp only
   cases J:b.target<;>rw[J]at ht I<;>simp only[ajb,amD]at ht
   case fn f c=>subst ht;simp only[Ef]at I ⊢;obtain⟨O,U,V⟩:=I;exact⟨O,U,ay.sub hs _ _ V⟩
   all_goals (subst ht;exact I)
  cases e
def oR.sub (hs:Cg P g g' w φ){top O:Bool}{b b':bE}{f:Frame}(hf:oR P g h w lb ub top b f)(e:agH φ b=some b'):oR P g' h' w lb' ub' O b' f:=by
 obtain⟨fn,dw,todo,ds,mode,kind,ro⟩:=b;simp only[agH]at e
 split at e
 ·rename_i A a6 a7 ht hd J
  cases e
  have hrun:=hf.run rfl;unfold gK at hrun;dsimp only at hrun;refine⟨hf.fn,hf.kind,hf.tz,mL.sub hs hf.defers hd,hf.mode,?_,fun _=>?_,fun V=>absurd rfl V⟩
  ·have:=hf.round
   cases ro with
   |none=>simp only[aja,amD]at J;subst J;exact this
   |some l=>cases J
  unfold gK;dsimp only;have hno:∀d k,A≠ .js d::k:=by
   rintro d k rfl
   cases todo with
   |nil=>simp[K7]at ht
   |cons i r=>
    simp only[K7]at ht
    split at ht
    ·rename_i Y Z hi hr
     simp only[amD,aoS]at ht;obtain⟨rfl,rfl⟩:=ht
     cases i<;>simp only[agI,amD,reduceCtorEq]at hi
     all_goals (split at hi<;>cases hi)
    cases ht
  have U:∀d k,todo≠ .js d::k:=by rintro d k rfl;simp[K7,agI]at ht
  split at hrun
  ·rename_i d k;exact absurd rfl (U d k)
  have I:=And.intro (ay.sub hs _ _ hrun.1) (cM.sub hs hrun.2 ht)
  cases A with
  |nil=>exact I
  |cons Y Z=>cases Y<;>first|exact I|exact absurd rfl (hno _ _)
 cases e
def pA.sub (hs:Cg P g g' w φ){I:List Frame}:∀{bs A:List bE} {lb:Nat} {cs:List Frame},pA P g h w (sN.of I) lb bs cs->Xy φ bs=some A->pA P g' h' w (sN.of I) 0 A cs:=by
 intro bs
 induction bs with
 |nil=>intro A lb cs hc e;simp only[Xy,amD]at e;subst e;exact hc
 |cons b bs V=>
  intro A lb cs hc e;simp only[pA]at hc;obtain⟨c,Y,J,rfl,h1,h2,U⟩:=hc;simp only[Xy]at e
  split at e
  ·rename_i b' Z hb O
   cases e
   simp only[pA];exact⟨c,Y,0,rfl,amG _,h2.sub hs hb,V U O⟩
  cases e
def acu {CK:List Nat}:∀{i:Nat} {dw:List BV} {vs:List Value},ay P g w dw vs->ay P g w (Na CK i dw) vs:=by
 intro i dw
 induction dw generalizing i with
 |nil=>intro vs h;exact h
 |cons v r A=>
  intro vs h;simp only[ay]at h;obtain⟨u,I,rfl,h1,h2⟩:=h;simp only[Na];refine ay.cons ?_ (A h2)
  split
  ·exact h1
  simp[aw]
def adK:∀{xV:List (Nat×TypeId)} {dw:List BV} {h:ai} {vs:List Value},bq P g h w->ay P g w dw vs->bq P g (BC xV dw h).2 w/\mO g h w g (BC xV dw h).2 w/\ay P g w (BC xV dw h).1 vs:=by
 intro xV
 induction xV with
 |nil=>intro dw h vs U A;exact⟨U,mO.refl _ _ _,A⟩
 |cons p r ih=>
  obtain⟨i,e⟩:=p;intro dw h vs U A;simp only[BC]
  split
  ·rename_i Z
   obtain⟨k1,k2⟩:=U.V9 (.bY e [] true);have Y:ay P g w (dw.set i (.hY h.next 0 true)) vs:=by
    refine ay.vi (by simpa using A.length) fun j b v hb J=>?_;rw[aon]at hb
    split at hb
    ·rename_i V
     subst V
     split at hb
     ·rename_i I
      cases hb
      have O:dw[i]?=some .cS:=(by rw[List.getD,amr I]at Z;rw[amr I];exact amZ some Z);obtain⟨v2,h1,h2⟩:=A.get O;rw[J]at h1;cases h1;simp only[aw]at h2 ⊢;exact .inl ⟨⟨trivial,trivial⟩,.inl h2⟩
     cases hb
    obtain⟨v2,h1,h2⟩:=A.get hb;rw[J]at h1;cases h1;exact h2
   obtain⟨m1,m2,m3⟩:=ih k1 Y;exact⟨m1,k2.trans m2,m3⟩
  exact ih U A
def adJ:∀{xV:List (Nat×TypeId)} {dw:List BV} {h:ai} (b:Nat),b<h.next->(BC xV dw h).2.get b=h.get b:=by
 intro xV
 induction xV with
 |nil=>intro dw h b _;rfl
 |cons p r A=>
  obtain⟨i,e⟩:=p;intro dw h b hb;simp only[BC]
  split
  ·rw[A b (by simp;omega),ai.gY,ifN]
  exact A b hb
def agK {xV:List (Nat×TypeId)}{dw:List BV}(hl:lb<=h.next):vX lb g h g (BC xV dw h).2:=fun b hb A _=>⟨A,adJ b (by omega)⟩
def aC.frame {f:FuncId}{rs:List TypeId}{G:vJ}{CK:List Nat}{xV:List (Nat×TypeId)}{fn:FuncId}{dw:List BV}{todo:List ig}{ds:List Ay}{mode:aam}{kind:CallKind}{ro:Option Nat}{cs:List bE}{h:ai}
 (Y:mode= .run)(hno:∀d k,todo≠ .js d::k)(he:aC P f rs G ⟨⟨fn,(BC xV (Na CK 0 dw) h).1,todo,ds,mode,kind,ro⟩,cs,(BC xV (Na CK 0 dw) h).2⟩):aC P f rs G ⟨⟨fn,dw,todo,ds,mode,kind,ro⟩,cs,h⟩:=by
 refine aC.Kk (fun c0 g w lb fr O hs=>?_) he;obtain⟨hr,h2,A,h4⟩:=hs;have hrun:=A.run Y;unfold gK at hrun;dsimp only at hrun
 split at hrun
 ·rename_i d k;exact absurd rfl (hno d k)
 obtain⟨Z,U,V⟩:=adK (xV:=xV) hr (acu (CK:=CK) (i:=0) hrun.1);have J:vX lb g h g (BC xV (Na CK 0 dw) h).2:=agK h2;refine⟨g,w,lb,fr,O,Steps.refl _ _,⟨Z,am8 h2 U.next,?_,h4.mono U.mono J⟩,U⟩;refine⟨A.fn,A.kind,A.tz,A.defers,A.mode,A.round,fun _=>?_,fun I=>absurd Y I⟩;unfold gK;dsimp only
 cases todo with
 |nil=>exact⟨V,hrun.2⟩
 |cons i' r'=>cases i'<;>first|exact⟨V,hrun.2⟩|exact absurd rfl (hno _ _)
def ke (g:Gh)(A:List (Nat×Nat))(p:Nat)(fams:List (Nat×Nat)):Gh:=
 {m:=fun c=>match DR A c with|some a=>g.m a|none=>none,fz:=g.fz,
  s:=fun f' k=>match Nat.blt f' p with|true=>g.s f' k|false=>(match DR fams f' with|some f=>g.s f k|none=>none)}
def wx {p n f f':Nat}:∀{A:List (Nat×Nat)},(f,f')∈mB h p n A->∃a c o,(a,c)∈A/\h.get a=some o/\o.CF=some f/\f'=(if f<p then f else n+c):=by
 intro A
 induction A with
 |nil=>intro e;cases e
 |cons q r O=>
  obtain⟨a,c⟩:=q;intro e;simp only[mB]at e
  split at e
  ·rename_i kt f1 el l st ck hb
   rcases amz.1 e with e|e
   ·cases e
    refine⟨a,c,_,anl,hb,rfl,?_⟩
    by_cases hf:f<p
    ·rw[amu hf,show Nat.blt f p=true by simpa [aos]using hf]
    rw[amt hf]
    cases U:Nat.blt f p with
    |true=>exact absurd (by simpa [aos]using U) hf
    |false=>rfl
   obtain⟨J,I,o,h1,h2⟩:=O e;exact⟨J,I,o,am4 _ h1,h2⟩
  obtain⟨J,I,o,h1,h2⟩:=O e;exact⟨J,I,o,am4 _ h1,h2⟩
def oo {o o':aE}(e:As φ o=some o'){f':Nat}(hf:o'.CF=some f'):∃f,o.CF=some f/\φ.fm f=some f'/\∀k,o'.BM f' k=o.BM f k:=by
 cases o<;>simp only[As,amD]at e
 case cd kt vk l st ck=>
  cases vk with
  |data I=>simp only[As,amD]at e;subst e;cases hf
  |Oq=>simp only[As,amD]at e;subst e;cases hf
  |dD f I=>
   simp only[As]at e
   split at e
   ·rename_i f1 A
    cases e;cases hf
    exact⟨f,rfl,A,fun k=>by simp[aE.BM]⟩
   cases e
 case nb=>split at e<;>(cases e;try cases hf)
 all_goals first
  | (subst e;cases hf;done)
  | (cases e;done)
def K9 {o o':aE}(e:As φ o=some o'):o.nf=some o/\o'.nf=some o':=by
 cases o<;>simp only[As,amD]at e
 case cd kt vk l st ck=>
  cases vk with
  |data A=>simp only[As,amD]at e;subst e;exact⟨rfl,rfl⟩
  |Oq=>simp only[As,amD]at e;subst e;exact⟨rfl,rfl⟩
  |dD f A=>
   simp only[As]at e
   split at e
   ·cases e;exact⟨rfl,rfl⟩
   cases e
 case nb=>split at e<;>(cases e;try exact⟨rfl,rfl⟩)
 all_goals first
  | (subst e;exact⟨rfl,rfl⟩)
  | (cases e;done)
def Loc.nm:Loc->Nat
 | .aS b=>b
 | .el b _ _=>b
def ZB {A:List (Nat×Nat)}:∀{p:Nat},SJ A p=true->∀i,i<p->(i,i)∈A:=by
 intro p
 induction p with
 |zero=>intro _ i hi;omega
 |succ p J=>
  intro e i hi;simp only[SJ,amo]at e
  by_cases h:i=p
  ·subst h;have h1:=e.1
   split at h1
   ·rename_i m I
    have:=amC h1;subst this;exact mi I
   cases h1
  exact J e.2 i (by omega)
def zY {A fams:List (Nat×Nat)}{p:Nat}(I:By 0 A.length [] [] A=true){a c:Nat}(h:(a,c)∈A):(ke g A p fams).m c=g.m a:=by
 obtain⟨_,_,J⟩:=An I;show (match DR A c with|some a=>g.m a|none=>none)=g.m a;rw[ahw J h]
def LV (hr:bq P g h w){A:List (Nat×Nat)}{p n:Nat}(V:By 0 A.length [] [] A=true)(J:(p=0/\n=0)\/(p<=A.length/\n=A.length)){f1 f2 f':Nat}(h1:(f1,f')∈mB h p n A)(h2:(f2,f')∈mB h p n A):f1=f2:=by
 obtain⟨_,_,r3⟩:=An V;obtain⟨a1,c1,o1,m1,g1,k1,e1⟩:=wx h1;obtain⟨a2,c2,o2,m2,Y,Z,U⟩:=wx h2
 by_cases O:f1<p
 ·rw[amu O]at e1
  by_cases I:f2<p
  ·rw[amu I]at U;omega
  rw[amt I]at U;rcases J with ⟨_,_⟩| ⟨_,_⟩<;>omega
 rw[amt O]at e1
 by_cases I:f2<p
 ·rw[amu I]at U;rcases J with ⟨_,_⟩| ⟨_,_⟩<;>omega
 rw[amt I]at U;have:c1=c2:=by omega
 subst this;have:=UI r3 m1 m2;subst this;rw[g1]at Y;cases Y;rw[k1]at Z;cases Z;rfl
def Ss (Y:bq P g h w){A:List (Nat×Nat)}{p n:Nat}(I:By 0 A.length [] [] A=true){f f1 f2:Nat}(h1:(f,f1)∈mB h p n A)(h2:(f,f2)∈mB h p n A):f1=f2:=by
 obtain⟨_,_,O⟩:=An I;obtain⟨a1,c1,o1,Z,U,J,e1⟩:=wx h1;obtain⟨a2,c2,o2,V,g2,k2,e2⟩:=wx h2;have:=Y.fu _ _ _ _ _ U g2 J k2;subst this;have:=KZ O Z V;subst this;rw[e1,e2]
def Vs (U:bq P g h w){A:List (Nat×Nat)}{p n:Nat}(O:By 0 A.length [] [] A=true)(I:(p=0/\n=0)\/(p<=A.length/\n=A.length)){f f':Nat}(hf:(f,f')∈mB h p n A)(k:D):(ke g A p (mB h p n A)).s f' k=g.s f k:=by
 show (match Nat.blt f' p with|true=>g.s f' k|false=>(match DR (mB h p n A) f' with|some f=>g.s f k|none=>none))=g.s f k
 split
 ·rename_i hb
  have hb:f'<p:=by simpa [aos]using hb
  obtain⟨a,c,o,_,_,_,e⟩:=wx hf
  by_cases J:f<p
  ·rw[amu J]at e;rw[e]
  rw[amt J]at e;rcases I with ⟨_,_⟩| ⟨_,_⟩<;>omega
 cases e:DR (mB h p n A) f' with
 |none=>exact absurd rfl (LZ e _ hf)
 |some f1=>rw[LV U O I (oh e) hf]
def Cw (hr:bq P g h w){A:List (Nat×Nat)}{L:List (Nat×aE)}{p n:Nat}(a7:By 0 A.length [] [] A=true)(b1:(p=0/\n=0)\/(p<=A.length/\n=A.length))(e3:HA (He h p n A) h A=some L):
 Cg P g (ke g A p (mB h p n A)) w (He h p n A)/\bq P (ke g A p (mB h p n A)) (hL L) w/\(∀c,ru (ke g A p (mB h p n A)) (hL L) c->∃l o aD,h.at l=some o/\g.at l=some (c,aD)/\∃i,(l.nm,i)∈A)/\L.length=A.length/\IY L=A.map (·.2):=by
 obtain⟨r1,_,r3⟩:=An a7;obtain⟨o1,o2⟩:=P9 e3;have a6:L.length=A.length:=by have:=amZ List.length o1;rw[P6]at this;simpa using this
 generalize J:mB h p n A=fams at*;have d6:∀{f f'},(f,f')∈fams->∃a c o,(a,c)∈A/\h.get a=some o/\o.CF=some f/\f'=(if f<p then f else n+c):=fun {f f'} hm=>by rw[<-J]at hm;exact wx hm
 have d4:∀{f1 f2 f'},(f1,f')∈fams->(f2,f')∈fams->f1=f2:=fun {f1 f2 f'} h1 h2=>by rw[<-J]at h1 h2;exact LV hr a7 b1 h1 h2
 have fs:∀{f f'} (k:D),(f,f')∈fams->(ke g A p fams).s f' k=g.s f k:=fun {f f'} k hm=>by rw[<-J]at hm ⊢;exact Vs hr a7 b1 hm k
 have Y:∀{f f'},(He h p n A).fm f=some f'->(f,f')∈fams:=fun {f f'} hm=>by rw[<-J];exact mi hm
 have Hv:∀{f f'},(f,f')∈fams->f'<2*L.length:=fun {f f'} hm=>by
  obtain⟨a,c,o,h1,_,_,h2⟩:=d6 hm;have:=(r1 _ h1).2.2.1;rw[a6];dsimp only at this
  by_cases hf:f<p
  ·rw[amu hf]at h2;rcases b1 with ⟨_,_⟩| ⟨_,_⟩<;>omega
  rw[amt hf]at h2;rcases b1 with ⟨_,_⟩| ⟨_,_⟩<;>omega
 have hs:Cg P g (ke g A p fams) w (He h p n A):=⟨fun b c x hb hm=>by rw[zY a7 (mi hb)];exact hm,fun _ hc=>hc,fun f f' k x hf hx=>by rw[fs k (Y hf)];exact hx⟩;have d9:∀c x,(ke g A p fams).m c=some x->∃a,(a,c)∈A/\g.m a=some x:=by
  intro c x hc
  change (match DR A c with|some a=>g.m a|none=>none)=some x at hc
  split at hc
  ·rename_i a ha;exact⟨a,oh ha,hc⟩
  cases hc
 have d8:∀f' k x,(ke g A p fams).s f' k=some x->(f'<p/\g.s f' k=some x)\/∃f,(f,f')∈fams/\g.s f k=some x:=by
  intro f' k x hc
  change (match Nat.blt f' p with|true=>g.s f' k|false=>(match DR fams f' with|some f=>g.s f k|none=>none))=some x at hc
  split at hc
  ·rename_i hb;exact .inl ⟨by simpa [aos]using hb,hc⟩
  split at hc
  ·rename_i f hf;exact .inr ⟨f,oh hf,hc⟩
  cases hc
 have I:∀c o,(hL L).get c=some o->∃b V,(b,c)∈A/\h.get b=some V/\As (He h p n A) V=some o:=by
  intro c o hc;rcases afg L .leaf hc with hc|hc
  ·obtain⟨b,V,O,Z,U⟩:=o2 c o hc;exact⟨b,V,O,Z,U⟩
  rw[Tr.rM]at hc;cases hc
 have hat:∀l o,(hL L).at l=some o->∃l1 V,(l1.nm,l.nm)∈A/\h.at l1=some V/\(ke g A p fams).at l=g.at l1/\(∀aD co,fO P g w V aD co->fO P (ke g A p fams) w o aD co)/\
  ((∃a c,l1= .aS a/\l= .aS c)\/∃a c f f' k,l1= .el a f k/\l= .el c f' k/\(f,f')∈fams):=by
  intro l o hl
  cases l with
  |aS c=>obtain⟨h1,h2⟩:=ai.CP hl;obtain⟨a,V,O,Z,U⟩:=I _ _ h1;exact⟨.aS a,V,O,ai.jH Z (K9 U).1,zY a7 O,fun aD co d1=>d1.sub hs U,.inl ⟨a,c,rfl,rfl⟩⟩
  |el c f' k=>
   obtain⟨y,h1,h2⟩:=ai.RU hl;obtain⟨a,V,O,Z,U⟩:=I _ _ h1;obtain⟨f,k1,k2,k3⟩:=oo U (aE.wv h2);rw[k3]at h2;have d3:=Y k2;refine⟨.el a f k,o,O,ai.Hs Z h2,fs k d3,fun aD co d1=>?_,.inr ⟨a,c,f,f',k,rfl,rfl,d3⟩⟩;have:∃el d,o= .bY el [d] false:=by
    cases V<;>try (cases h2;done)
    case cd kt vk l st ck=>
     cases vk with
     |data et=>cases h2
     |Oq=>cases h2
     |dD f1 et=>
      simp only[aE.BM]at h2
      split at h2
      ·cases e:D.ia l k with
       |none=>rw[e]at h2;cases h2
       |some d=>rw[e]at h2;cases h2;exact⟨_,_,rfl⟩
      cases h2
   obtain⟨el,d,rfl⟩:=this;exact(d1.sub (o':= .bY el [d] true) hs rfl:_)
 have a8:Ob (ke g A p fams) (hL L):=by
  refine⟨?_,?_,?_,?_,?_,?_,?_⟩
  ·intro c o hc;obtain⟨b,V,O,_⟩:=I _ _ hc;have:=(r1 _ O).2.2.1;show c<2*L.length;rw[a6];dsimp only at this;omega
  ·intro c x hc;obtain⟨a,O,_⟩:=d9 _ _ hc;have:=(r1 _ O).2.2.1;show c<2*L.length;rw[a6];dsimp only at this;omega
  ·intro f' k x hx;show f'<2*L.length;rcases d8 _ _ _ hx with ⟨h1,_⟩| ⟨f,h1,_⟩
   ·rw[a6];rcases b1 with ⟨_,_⟩| ⟨_,_⟩<;>omega
   exact Hv h1
  ·intro c o f' hc hf;obtain⟨b,V,O,Z,U⟩:=I _ _ hc;obtain⟨f,k1,k2,_⟩:=oo U hf;exact Hv (Y k2)
  ·intro c c' o o' f' hc d0 hf hf';obtain⟨b,V,O,Z,U⟩:=I _ _ hc;obtain⟨b',e0,b6,d2,b4⟩:=I _ _ d0;obtain⟨f,k1,k2,_⟩:=oo U hf;obtain⟨f1,e4,e2,_⟩:=oo b4 hf';have:=d4 (Y k2) (Y e2);subst this;have:=hr.fu _ _ _ _ _ Z d2 k1 e4;subst this;exact KZ r3 O b6
  ·intro c o f' k x hc hf hx;obtain⟨b,V,O,Z,U⟩:=I _ _ hc;obtain⟨f,k1,k2,k3⟩:=oo U hf;rw[fs k (Y k2)]at hx;obtain⟨⟨o1,h1⟩,y,h2⟩:=hr.sk _ _ _ _ _ Z k1 hx;exact⟨⟨o1,by rw[k3];exact h1⟩,y,by rw[zY a7 O];exact h2⟩
  intro c b' f k hc;obtain⟨b,V,O,Z,U⟩:=I _ _ hc;exact absurd rfl (aE.CO (K9 U).2)
 refine⟨hs,a8.UH ?_ ?_ ?_ hr.oU,?_,a6,o1⟩
 ·intro l aS aD hl
  cases l with
  |aS c=>obtain⟨a,_,Z⟩:=d9 _ _ hl;exact hr.img _ _ _ Z
  |el c f' k=>
   rcases d8 _ _ _ hl with ⟨_,h1⟩| ⟨f,_,h1⟩
   ·exact hr.rV (.el c f' k) _ _ h1
   exact hr.rV (.el c f k) _ _ h1
 ·intro l l' aS aD base' o o' hc d0 m1 m2;obtain⟨l1,V,O,Z,U,_,j5⟩:=hat _ _ hc;obtain⟨e5,e0,b6,d2,b4,_,d5⟩:=hat _ _ d0;rw[U]at m1;rw[b4]at m2;have:=hr.rW _ _ _ _ _ _ _ Z d2 m1 m2;subst this;have a8:=KZ r3 O b6;rcases j5 with ⟨a,c,rfl,rfl⟩| ⟨a,c,f,f',k,rfl,rfl,hf⟩
  ·rcases d5 with ⟨a',c',e1,rfl⟩| ⟨a',c',f1,d7,k',e1,rfl,hf'⟩
   ·change c=c' at a8;rw[a8]
   cases e1
  rcases d5 with ⟨a',c',e1,rfl⟩| ⟨a',c',f1,d7,k',e1,rfl,hf'⟩
  ·cases e1
  cases e1
  change c=c' at a8
  have:f'=d7:=by rw[<-J]at hf hf';exact Ss hr a7 hf hf'
  rw[a8,this]
 ·intro l o aS aD hc m1;obtain⟨l1,V,O,Z,U,j4,_⟩:=hat _ _ hc;rw[U]at m1;obtain⟨n1,o',n2,n3⟩:=hr.vL _ _ _ _ Z m1;exact⟨n1,o',n2,j4 _ _ n3⟩
 rintro c ⟨l,o,aD,hb,hm⟩;obtain⟨l1,V,O,Z,U,_,_⟩:=hat _ _ hb;rw[U]at hm;exact⟨l1,V,aD,Z,hm,_,O⟩
def IJ (V:bq P g h w){A fams:List (Nat×Nat)}{p q:Nat}(U:q<=p)(J:By 0 A.length [] [] A=true)(I:SJ A p=true):Pin q g (ke g A p fams):=
 ⟨fun i hi x O=>by rw[zY J (ZB I i (by omega))];exact O,fun i hi k x O=>by
   show (match Nat.blt i p with|true=>g.s i k|false=>_)=some x
   rw[show Nat.blt i p=true by simp[aos];omega];exact O⟩
def Sj {f:FuncId}{rs:List TypeId}{G:vJ}{p:Nat}(hp:G.p<=p){CK:List Nat}{xV:List (Nat×TypeId)}{s s':av}(e:Tz p CK xV s=some s')(he:aC P f rs G s'):aC P f rs G s:=by
 obtain⟨⟨fn,dw,todo,ds,mode,kind,ro⟩,cs,h⟩:=s;unfold Tz at e;dsimp only at e;generalize a7:BC xV (Na CK 0 dw) h=eh at e;obtain⟨d2,h1⟩:=eh;dsimp only at e
 split at e
 ·rename_i seen d0
  generalize d1:jy 0 seen=V at e
  split at e
  ·rename_i d4 d3 L A O b4 b1
   cases e
   simp only[amo]at A;obtain⟨⟨A,Z⟩,I⟩:=A;have I:=aok I;have U:mode= .run/\∀d k,todo≠ .js d::k:=by
    unfold agH at O;dsimp only at O
    split at O
    ·rename_i t' d' r' ht _ _
     exact⟨rfl,fun d k hk=>by subst hk;simp[K7,agI]at ht⟩
    cases O
   refine aC.frame (CK:=CK) (xV:=xV) U.1 U.2 ?_;rw[a7];dsimp only;intro c0 g w lb fr b6 hs;obtain⟨hr,h2,h3,h4⟩:=hs;dsimp only at hr h2 h3 h4;obtain⟨q1,q2,q3,q4,_⟩:=Cw hr A (.inr ⟨I,rfl⟩) b1;obtain⟨w',a8,v',g',h',m1,m2,m3,Y,m5,m6⟩:=he c0 _ w 0 fr b6 ⟨q2,anX _,h3.sub q1 O,pA.sub q1 h4 b4⟩;have J:∀c,ru (ke g V p (mB h1 p V.length V)) (hL L) c->ru g h1 c:=fun c hc=>by obtain⟨a,o,aD,j1,j2,_⟩:=q3 c hc;exact⟨a,o,aD,j1,j2⟩
   have a6:=IJ (fams:=mB h1 p V.length V) hr hp A Z;refine⟨w',a8,v',g',h',m1,m2,m3,⟨Y.size,fun c hc ho=>Y.FB c hc fun h=>ho (J c h),Y.fz,fun c hc hf=>(Y.YC c hc hf).imp id (J c),Y.oU,fun c hc ho=>J c (Y.nf c hc ho),Y.ms,Y.os⟩,⟨fun i hi x hx=>m5.m i hi x (a6.m i hi x hx),fun i hi k x hx=>m5.s i hi k x (a6.s i hi k x hx)⟩,m6⟩
  cases e
 cases e
def akt (P:Program)(p:Nat)(cut:av->Option av):Prop:=
 ∀(f:FuncId) (rs:List TypeId) (G:vJ) (s s':av),G.p<=p->cut s=some s'->aC P f rs G s'->aC P f rs G s
def aaN (P:Program)(p:Nat):∀(l:List Jo),akt P p (aet p l):=by
 intro l
 induction l with
 |nil=>intro f rs G s s' _ e;cases e
 |cons c r A=>
  intro f rs G s s' hp e he;simp only[aet]at e
  split at e
  ·split at e
   ·rename_i s1 h1
    exact Sj hp h1 (Sj hp e he)
   cases e
  exact A f rs G s s' hp e he
def II (p:Nat)(h:ai)(v:BV):Option (BV×List (Nat×aE)):=
 match BZ h 300 (ajZ p 0++Nc v) []with
 |some seen=>
  (match By 0 (jy 0 seen).length [] [] (jy 0 seen)&&SJ (jy 0 seen) p&&Nat.ble p (jy 0 seen).length,HA (He h p (jy 0 seen).length (jy 0 seen)) h (jy 0 seen)with
  |true,some L=>some (vC (He h p (jy 0 seen).length (jy 0 seen)) v,L)
  |_,_=>none)
 |none=>none
mutual
def aw.NQ:∀(b:BV) (v:Value),aw P g w b v->∀x,(x,false)∈Nc b->g.m x≠none
 | .ie b off,v,h,x,hx=>by simp only[Nc,amQ,anC]at hx;simp only[aw]at h;obtain⟨_,_,A,_⟩:=h;rw[hx.1,A];simp
 | .ze cs,v,h,x,hx=>by simp only[Nc]at hx;simp only[aw]at h;obtain⟨_,_,_,_,vs,I,_⟩:=h;exact ay.NQ cs vs I x hx
 | .hY b n vt,v,h,x,hx=>by
   simp only[Nc,amQ,anC]at hx;simp only[aw]at h;rcases h with ⟨⟨h1,_⟩,_⟩| ⟨_,_,_,A,_⟩
   ·rw[<-hx.2]at h1;cases h1
   rw[hx.1,A];simp
 | .yJ b e i off,v,h,x,hx=>by simp only[Nc,amQ,anC]at hx;simp only[aw]at h;obtain⟨_,_,A,_⟩:=h;rw[hx.1,A];simp
 | .sW b f k off,v,h,x,hx=>by simp only[Nc,amQ,anC]at hx;simp only[aw]at h;obtain⟨_,_,_,_,y,J⟩:=h;rw[hx.1,J];simp
 | .Z0 b n,v,h,x,hx=>by simp only[Nc,amQ,anC]at hx;simp only[aw]at h;obtain⟨_,_,A,_⟩:=h;rw[hx.1,A];simp
 | .IZ,_,_,x,hx=>by simp[Nc]at hx
 | .TY,_,_,x,hx=>by simp[Nc]at hx
 | .nX _ _,_,_,x,hx=>by simp[Nc]at hx
 | .map b,v,h,x,hx=>by simp only[Nc,amQ,anC]at hx;simp only[aw]at h;obtain⟨_,A,_⟩:=h;rw[hx.1,A];simp
 | .func fn a c,v,h,x,hx=>by
   simp only[Nc,amO]at hx;simp only[aw]at h;obtain⟨_,_,_,O,hc⟩:=h;rcases hx with hx|hx
   ·exact ay.NQ a _ O x hx
   exact ay.NQ c _ hc x hx
 | .agg cs,v,h,x,hx=>by simp only[Nc]at hx;simp only[aw]at h;obtain⟨vs,_,I⟩:=h;exact ay.NQ cs _ I x hx
 | .tuple cs,v,h,x,hx=>by simp only[Nc]at hx;simp only[aw]at h;obtain⟨vs,_,I⟩:=h;exact ay.NQ cs _ I x hx
 | .qd,_,_,x,hx=>by simp[Nc]at hx
 | .bool _,_,_,x,hx=>by simp[Nc]at hx
 | .int _ _,_,_,x,hx=>by simp[Nc]at hx
 | .ax _,_,_,x,hx=>by simp[Nc]at hx
 | .gF,_,_,x,hx=>by simp[Nc]at hx
 | .cS,_,_,x,hx=>by simp[Nc]at hx
 | .nE,_,_,x,hx=>by simp[Nc]at hx
 | .bx _ _,_,_,x,hx=>by simp[Nc]at hx
 | .IL _ _,_,_,x,hx=>by simp[Nc]at hx
 | .Ri,_,_,x,hx=>by simp[Nc]at hx
def ay.NQ:∀(bs:List BV) (vs:List Value),ay P g w bs vs->∀x,(x,false)∈EK bs->g.m x≠none
 | [],_,_,x,hx=>by simp[EK]at hx
 |b::bs,vs,h,x,hx=>by
  simp only[EK,amO]at hx;simp only[ay]at h;obtain⟨v,A,rfl,h1,h2⟩:=h;rcases hx with hx|hx
  ·exact aw.NQ b v h1 x hx
  exact ay.NQ bs A h2 x hx
end
def fO.NQ {o:aE}{aD:Nat}{co:Obj}(h:fO P g w o aD co):∀x,(x,false)∈nmO o->g.m x≠none:=by
 intro x A
 cases o with
 |cells cs e s=>simp only[nmO]at A;simp only[fO]at h;obtain⟨_,_,_,_,⟨vs,J,_⟩,_⟩:=h;exact ay.NQ cs vs J x A
 |nb m ks st ck seen=>simp only[nmO,amQ,anC]at A;simp only[fO]at h;obtain⟨_,_,I,_⟩:=h;rw[A.1,I];simp
 |_=>simp[nmO]at A
def ab8 {y:Nat}{b:Bool}:∀{l:List (Nat×Bool)},(y,b)∈FA l++QK l->(y,b)∈l:=by
 intro l h;have h1:∀l:List (Nat×Bool),(y,b)∈FA l->(y,b)∈l:=by
  intro l
  induction l with
  |nil=>intro h;exact h
  |cons p r A=>
   obtain⟨x,c⟩:=p;intro h
   cases c with
   |true=>exact am4 _ (A h)
   |false=>
    simp only[FA]at h;rcases amz.1 h with h|h
    ·rw[h];exact anl
    exact am4 _ (A h)
 have h2:∀l:List (Nat×Bool),(y,b)∈QK l->(y,b)∈l:=by
  intro l
  induction l with
  |nil=>intro h;exact h
  |cons p r A=>
   obtain⟨x,c⟩:=p;intro h
   cases c with
   |false=>exact am4 _ (A h)
   |true=>
    simp only[QK]at h;rcases amz.1 h with h|h
    ·rw[h];exact anl
    exact am4 _ (A h)
 rcases amO.1 h with h|h
 ·exact h1 l h
 exact h2 l h
def Xf (hr:bq P g h w):∀(n:Nat) {todo:List (Nat×Bool)} {seen l:List Nat},BZ h n todo seen=some l->(∀x,(x,false)∈todo->g.m x≠none)->∀b∈l,b∈seen\/(g.m b=none->vU (h.get b)=true):=by
 intro n
 induction n with
 |zero=>intro todo seen l e;cases e
 |succ n Z=>
  intro todo seen l e ht b hb
  cases todo with
  |nil=>simp only[BZ,amD]at e;subst e;exact .inl hb
  |cons p r=>
   obtain⟨x,vt⟩:=p;have J:∀y,(y,false)∈r->g.m y≠none:=fun y hy=>ht y (am4 _ hy);simp only[BZ]at e
   split at e
   ·exact Z e J b hb
   rename_i o ho
   split at e
   ·cases e
   rename_i V
   split at e
   ·exact Z e J b hb
   have A:g.m x=none->vU (h.get x)=true:=by
    intro U
    cases vt with
    |false=>exact absurd U (ht x anl)
    |true=>rw[ho];simpa using V
   have O:∀y,(y,false)∈r++(FA (nmO o)++QK (nmO o))->g.m y≠none:=by
    intro y hy;rcases amO.1 hy with hy|hy
    ·exact J y hy
    have hy:=ab8 hy
    cases U:g.m x with
    |none=>
     have:=A U;rw[ho]at this
     cases o<;>simp[vU]at this
     simp[nmO]at hy
    |some q=>
     obtain⟨aS,aD⟩:=q
     cases I:o.nf with
     |none=>cases o<;>first| (simp[nmO]at hy;done)|cases I
     |some o2=>have:=aE.Wi I;obtain⟨rfl,I⟩:=this;obtain⟨_,o',_,Y⟩:=hr.obj _ _ _ _ ho U I;exact Y.NQ y hy
   rcases Z e O b hb with h1|h1
   ·rcases amO.1 h1 with h1|h1
    ·exact .inl h1
    simp at h1;subst h1;exact .inr A
   exact .inr h1
def YS {i:Nat}{o:aE}:∀{L:List (Nat×aE)},(i,o)∈L->(L.map (·.1)).Nodup->∀t:Tr aE,Tr.get (Rh L t) i=some o:=by
 intro L
 induction L with
 |nil=>intro h;cases h
 |cons q r I=>
  obtain⟨j,J⟩:=q;intro h A t;rw[anb,anp]at A;simp only[Rh];rcases amz.1 h with h|h
  ·cases h
   rw[YT r _ fun p hp he=>A.1 (anh.2 ⟨p,hp,he⟩),Tr.DL _ _ _ _ _ (by omega),amu rfl]
  exact I h A.2 _
def Ci (A:List (Nat×Nat))(p next i:Nat):Option Nat:=match Nat.blt i p with|true=>DR A i|false=>some (next+(i-p))
def Hl (fams:List (Nat×Nat))(p next f:Nat):Option Nat:=match Nat.blt f p with|true=>DR fams f|false=>some (next+(f-p))
def RV (h:ai)(A:List (Nat×Nat))(p:Nat):OM:=⟨Ci A p h.next,Hl (mB h 0 0 A) p h.next⟩
def af5 (A:OM):List (Nat×aE)->ai->Option ai
 | [],h=>some h
 | (i,o)::r,h=>match A.rn i,As A o with|some b,some o'=>af5 A r (h.put b (some o'))|_,_=>none
def GV:Nat->List (Nat×aE)->Bool
 |_,[]=>true
 |n,(i,_)::r=>Nat.beq n i&&GV (n+1) r
def aeT:List (Nat×Bool)->List Nat
 | []=>[]
 | (b,_)::r=>b::aeT r
def Sx (h:ai):Nat->List Nat->List Nat->List Nat
 |0,_,A=>A
 |_+1,[],A=>A
 |n+1,b::r,A=>match YR A b with
  |true=>Sx h n r A
  |false=>(match h.get b with
   |some o=>Sx h n (r++aeT (FA (nmO o))) (A++[b])
   |none=>Sx h n r (A++[b]))
def Ou (hs:List Nat):List Nat->Nat
 | []=>0
 |b::r=>match YR hs b with|true=>Nat.succ (Ou hs r)|false=>0
def To (h:ai)(A:List (Nat×Nat))(seen:List Nat)(p:Nat)(L:List (Nat×aE)):Option ai:=
 match GV 0 L,af5 (RV h A p) L (fH h seen)with
 |true,some h1=>some ⟨h1.next+2*L.length,h1.tr⟩
 |_,_=>none
def P5:∀{L:List (Nat×aE)} {n:Nat},GV n L=true->(∀p∈L,n<=p.1/\p.1<n+L.length)/\(L.map (·.1)).Nodup:=by
 intro L
 induction L with
 |nil=>intro n _;exact⟨fun p hp=>(by cases hp),apW⟩
 |cons q r I=>
  obtain⟨i,o⟩:=q;intro n e;simp only[GV,amo]at e;have:=amC e.1;subst this;obtain⟨h1,h2⟩:=I e.2;refine⟨fun p hp=>?_,?_⟩
  ·rcases amz.1 hp with rfl|hp
   ·simp
   have:=h1 p hp;simp only[amB];omega
  rw[anb,anp];refine⟨fun A=>?_,h2⟩;obtain⟨p,hp,he⟩:=anh.1 A;have:=(h1 p hp).1;dsimp only at he;omega
def adi {J:OM}:∀{L:List (Nat×aE)} {h h1:ai},af5 J L h=some h1->(L.map (·.1)).Nodup->(∀i j b,J.rn i=some b->J.rn j=some b->i∈L.map (·.1)->j∈L.map (·.1)->i=j)->
 h1.next=h.next/\(∀i o,(i,o)∈L->∃b o',J.rn i=some b/\As J o=some o'/\h1.get b=some o')/\∀b,(∀i,i∈L.map (·.1)->J.rn i≠some b)->h1.get b=h.get b:=by
 intro L
 induction L with
 |nil=>intro h h1 e _ _;simp only[af5,amD]at e;subst e;exact⟨rfl,fun i o hi=>(by cases hi),fun b _=>rfl⟩
 |cons q r ih=>
  obtain⟨i,o⟩:=q;intro h h1 e I A;simp only[af5]at e
  split at e
  ·rename_i b o' hb ho
   rw[anb,anp]at I;obtain⟨k1,k2,Y⟩:=ih e I.2 fun i j b h1 h2 h3 h4=>A i j b h1 h2 (am4 _ h3) (am4 _ h4);refine⟨by simpa using k1,fun j oj hj=>?_,fun b1 U=>?_⟩
   ·rcases amz.1 hj with hj|hj
    ·cases hj
     refine⟨b,o',hb,ho,?_⟩;have hno:∀j,j∈r.map (·.1)->J.rn j≠some b:=fun j2 O V=>by
      have Z:=A j2 _ b V hb (am4 _ O) anl
      try dsimp only at Z
      rw[Z]at O;exact I.1 O
     rw[Y b hno,ai.iR,amu rfl]
    exact k2 j oj hj
   rw[Y b1 fun j hj=>U j (am4 _ hj),ai.iR,amt];intro he;subst he;exact U i anl hb
  cases e
def afs {b i:Nat}:∀{l:List Nat} {n:Nat},(b,i)∈jy n l->b∈l:=by
 intro l
 induction l with
 |nil=>intro n h;cases h
 |cons x r A=>
  intro n h;rcases amz.1 h with h|h
  ·cases h;exact anl
  exact am4 _ (A h)
def aed {w':World}(O:bq P g h w){seen:List Nat}{L L':List (Nat×aE)}{p:Nat}{h2:ai}(e8:∀b∈seen,g.m b=none->vU (h.get b)=true)
 (d9:By 0 (jy 0 seen).length [] [] (jy 0 seen)=true)(k6:HA (He h 0 0 (jy 0 seen)) h (jy 0 seen)=some L)(g7:To h (jy 0 seen) seen p L'=some h2)
 (hx:Iw (ke g (jy 0 seen) 0 (mB h 0 0 (jy 0 seen))) (hL L) w g' (hL L') w')(g9:Pin p (ke g (jy 0 seen) 0 (mB h 0 0 (jy 0 seen))) g')(a6:bq P g' (hL L') w'):
 ∃V,Cg P g' V w' (RV h (jy 0 seen) p)/\bq P V h2 w'/\mO g h w V h2 w'/\∀lb,lb<=h.next->vX lb g h V h2:=by
 obtain⟨q1,q2,q3,q4,_⟩:=Cw O d9 (.inl ⟨rfl,rfl⟩) k6;obtain⟨r1,_,r3⟩:=An d9;obtain⟨o1,o2⟩:=P9 k6;generalize k7:jy 0 seen=A at*;unfold To at g7
 split at g7
 case h_2=>cases g7
 rename_i h1 m7 h9
 cases g7
 obtain⟨n1,n2⟩:=P5 m7;have a8:∀b i,(b,i)∈A->b∈seen:=fun b i hi=>by rw[<-k7]at hi;exact afs hi
 have j4:∀b i,(b,i)∈A->∃o,h.get b=some o:=fun b i hi=>by
  have:i∈IY L:=by rw[o1];exact anh.2 ⟨(b,i),hi,rfl⟩
  rw[P6]at this;obtain⟨q,hq,g4⟩:=anh.1 this;obtain⟨c,o⟩:=q;dsimp only at g4;subst g4;obtain⟨b',ob,j1,j2,_⟩:=o2 _ _ hq;have:=UI r3 hi j1;subst this;exact⟨ob,j2⟩
 have J:∀b i,(b,i)∈A->b<h.next:=fun b i hi=>by obtain⟨o,ho⟩:=j4 b i hi;exact O.PJ _ _ ho
 generalize a7:mB h 0 0 A=fams at*;have h7:∀{f f'},(f,f')∈fams->∃a o,(a,f')∈A/\h.get a=some o/\o.CF=some f:=fun {f f'} I=>by rw[<-a7]at I;obtain⟨a,c,o,h1,h2,h3,h4⟩:=wx I;rw[amt (apK _),anr]at h4;subst h4;exact⟨a,o,h1,h2,h3⟩
 have o4:∀{f1 f2 f'},(f1,f')∈fams->(f2,f')∈fams->f1=f2:=fun {f1 f2 f'} h1 h2=>by rw[<-a7]at h1 h2;exact LV O d9 (.inl ⟨rfl,rfl⟩) h1 h2
 have h8:∀{f f1 f2},(f,f1)∈fams->(f,f2)∈fams->f1=f2:=fun {f f1 f2} h1 h2=>by rw[<-a7]at h1 h2;exact Ss O d9 h1 h2
 have fs:∀{f f'} (k:D),(f,f')∈fams->(ke g A 0 fams).s f' k=g.s f k:=fun {f f'} k I=>by rw[<-a7]at I ⊢;exact Vs O d9 (.inl ⟨rfl,rfl⟩) I k
 have Hv:∀{f f'},(f,f')∈fams->f<h.next:=fun {f f'} I=>by obtain⟨a,o,_,h2,h3⟩:=h7 I;exact O.Hv _ _ _ h2 h3
 have d0:∀{f f'} {b:Nat} {o:aE},(f,f')∈fams->h.get b=some o->o.CF=some f->b∈seen:=fun {f f' b o} I h1 h2=>by obtain⟨a,oa,h3,h4,h5⟩:=h7 I;rw[O.fu _ _ _ _ _ h1 h4 h2 h5];exact a8 _ _ h3
 let V:Gh:={m:=fun x=>if x<h.next then (match iV A x with|some i=>(if i<p then g'.m i else g.m x)|none=>g.m x)else g'.m (p+(x-h.next)),fz:=g'.fz,s:=fun f k=>if f<h.next then (match iV fams f with|some f'=>(if f'<p then g'.s f' k else g.s f k)|none=>g.s f k)else g'.s (p+(f-h.next)) k}
 have k5:∀{b i j},(b,i)∈A->(b,j)∈A->i=j:=fun h1 h2=>KZ r3 h1 h2;have d6:∀x,x<h.next->(∀i,(x,i)∈A->¬i<p)->V.m x=g.m x:=fun x hx hno=>by
  show (if x<h.next then (match iV A x with|some i=>(if i<p then g'.m i else g.m x)|none=>g.m x)else _)=_;rw[amu hx]
  cases e:iV A x with
  |none=>rfl
  |some i=>dsimp only;rw[amt (hno i (mi e))]
 have f9:∀b i,(b,i)∈A->i<p->V.m b=g'.m i:=fun b i I hp=>by
  show (if b<h.next then (match iV A b with|some i=>(if i<p then g'.m i else g.m b)|none=>g.m b)else _)=_;rw[amu (J _ _ I)]
  cases e:iV A b with
  |none=>exact absurd rfl (E5 e _ I)
  |some j=>have:=k5 (mi e) I;subst this;dsimp only;rw[amu hp]
 have d7:∀b x,g.m b=some x->V.m b=some x:=fun b x I=>by
  have hb:=O.lt _ _ I;show (if b<h.next then (match iV A b with|some i=>(if i<p then g'.m i else g.m b)|none=>g.m b)else _)=_;rw[amu hb]
  cases e:iV A b with
  |none=>exact I
  |some i=>
   dsimp only
   split
   ·rename_i hp;exact g9.m i hp x (by rw[zY d9 (mi e)];exact I)
   exact I
 have g3:∀k,V.m (h.next+k)=g'.m (p+k):=fun k=>by show (if h.next+k<h.next then _ else g'.m (p+(h.next+k-h.next)))=_;rw[ifN,aoU]
 have g5:∀f k,V.s (h.next+f) k=g'.s (p+f) k:=fun f k=>by show (if h.next+f<h.next then _ else g'.s (p+(h.next+f-h.next)) k)=_;rw[ifN,aoU]
 have g1:∀{f f'} (k:D),(f,f')∈fams->f'<p->V.s f k=g'.s f' k:=fun {f f'} k I hp=>by
  show (if f<h.next then (match iV fams f with|some f'=>(if f'<p then g'.s f' k else g.s f k)|none=>g.s f k)else _)=_;rw[amu (Hv I)]
  cases e:iV fams f with
  |none=>exact absurd rfl (E5 e _ I)
  |some f1=>have:=h8 (mi e) I;subst this;dsimp only;rw[amu hp]
 have e9:∀f (k:D),f<h.next->(∀f',(f,f')∉fams)->V.s f k=g.s f k:=fun f k hf hno=>by
  show (if f<h.next then (match iV fams f with|some f'=>(if f'<p then g'.s f' k else g.s f k)|none=>g.s f k)else _)=_;rw[amu hf]
  cases e:iV fams f with
  |none=>rfl
  |some f1=>exact absurd (mi e) (hno f1)
 have d8:∀f k x,g.s f k=some x->V.s f k=some x:=fun f k x hs=>by
  have hf:=O.Ny _ _ _ hs;show (if f<h.next then (match iV fams f with|some f'=>(if f'<p then g'.s f' k else g.s f k)|none=>g.s f k)else _)=_;rw[amu hf]
  cases e:iV fams f with
  |none=>exact hs
  |some f1=>
   dsimp only
   split
   ·rename_i hp;exact g9.s f1 hp k x (by rw[fs k (mi e)];exact hs)
   exact hs
 have e6:∀i b,Ci A p h.next i=some b->(i<p/\DR A i=some b)\/(p<=i/\b=h.next+(i-p)):=fun i b hb=>by
  unfold Ci at hb
  split at hb
  ·rename_i J;exact .inl ⟨by simpa [aos]using J,hb⟩
  rename_i J;cases hb;exact .inr ⟨by
   have:¬(i<p):=fun hc=>by rw[show Nat.blt i p=true by simpa [aos]using hc]at J;cases J
   omega,rfl⟩
 have e0:∀f' f,Hl fams p h.next f'=some f->(f'<p/\(f,f')∈fams)\/(p<=f'/\f=h.next+(f'-p)):=fun i b hb=>by
  unfold Hl at hb
  split at hb
  ·rename_i J;exact .inl ⟨by simpa [aos]using J,oh hb⟩
  rename_i J;cases hb;exact .inr ⟨by
   have:¬(i<p):=fun hc=>by rw[show Nat.blt i p=true by simpa [aos]using hc]at J;cases J
   omega,rfl⟩
 have j5:∀i b,Ci A p h.next i=some b->V.m b=g'.m i:=fun i b hb=>by
  rcases e6 i b hb with ⟨hi,hb⟩| ⟨hi,rfl⟩
  ·exact f9 b i (oh hb) hi
  rw[g3];congr 1;omega
 have i3:∀f' f (k:D),Hl fams p h.next f'=some f->V.s f k=g'.s f' k:=fun f' f k hb=>by
  rcases e0 f' f hb with ⟨hi,hb⟩| ⟨hi,rfl⟩
  ·exact g1 k hb hi
  rw[g5];congr 1;omega
 have e7:RV h A p=⟨Ci A p h.next,Hl fams p h.next⟩:=by unfold RV;rw[a7]
 rw[e7]at h9 ⊢;have hs:Cg P g' V w' ⟨Ci A p h.next,Hl fams p h.next⟩:=⟨fun i b x hb I=>by rw[j5 i b hb];exact I,fun _ hc=>hc,fun f' f k x hf hx=>by rw[i3 f' f k hf];exact hx⟩;have k0:∀i j b,Ci A p h.next i=some b->Ci A p h.next j=some b->i=j:=fun i j b hi hj=>by
  rcases e6 i b hi with ⟨h3,h4⟩| ⟨h3,h4⟩<;>rcases e6 j b hj with ⟨h5,h6⟩| ⟨h5,h6⟩
  ·exact KZ r3 (oh h4) (oh h6)
  ·have:=J _ _ (oh h4);omega
  ·have:=J _ _ (oh h6);omega
  omega
 have i4:∀f1 f2 f,Hl fams p h.next f1=some f->Hl fams p h.next f2=some f->f1=f2:=fun i j b hi hj=>by
  rcases e0 i b hi with ⟨h3,h4⟩| ⟨h3,h4⟩<;>rcases e0 j b hj with ⟨h5,h6⟩| ⟨h5,h6⟩
  ·exact h8 h4 h6
  ·have:=Hv h4;omega
  ·have:=Hv h6;omega
  omega
 obtain⟨p1,p2,p3⟩:=adi h9 n2 fun i j b hi hj _ _=>k0 i j b hi hj;rw[pQ]at p1;have Z:∀b o,h1.get b=some o->(b∉seen/\h.get b=some o)\/∃i Y,(i,Y)∈L'/\Ci A p h.next i=some b/\As ⟨Ci A p h.next,Hl fams p h.next⟩ Y=some o:=fun b o hb=>by
  by_cases d5:∃i,i∈L'.map (·.1)/\Ci A p h.next i=some b
  ·obtain⟨i,hi,k8⟩:=d5;obtain⟨q,hq,g4⟩:=anh.1 hi;obtain⟨i',Y⟩:=q;dsimp only at g4;subst g4;obtain⟨b',o',k1,k2,k3⟩:=p2 _ _ hq;dsimp only at k1;rw[k8]at k1;cases k1;rw[hb]at k3;cases k3;exact .inr ⟨i',Y,hq,k8,k2⟩
  rw[p3 b fun i hi he=>d5 ⟨i,hi,he⟩,CA]at hb
  split at hb
  ·cases hb
  rename_i e5;exact .inl ⟨e5,hb⟩
 have U:∀i Y,(i,Y)∈L'->(hL L').get i=some Y:=fun i Y hi=>by show Tr.get (Rh L' .leaf) i=some Y;exact YS hi n2 .leaf
 have b4:∀c,ru (ke g A 0 fams) (hL L) c->∃l o aD,h.at l=some o/\g.at l=some (c,aD)/\l.nm∈seen:=fun c hc=>by obtain⟨a,o,aD,j1,j2,i,j3⟩:=q3 c hc;exact⟨a,o,aD,j1,j2,a8 _ _ j3⟩
 have g0:∀l o aS aD,l.nm∉seen->h.at l=some o->g.at l=some (aS,aD)->¬ru (ke g A 0 fams) (hL L) aS:=fun b o aS aD hb ho I k9=>by obtain⟨a,oa,base',j1,j2,j3⟩:=b4 aS k9;exact hb (O.rW _ _ _ _ _ _ _ ho j1 I j2▸j3)
 have b6:iL g w V w':=⟨d7,fun c hc=>hx.fz c hc,fun c hc=>hx.FB c (O.oU c hc) (q2.TO hc),hx.ms,d8⟩;have hat:∀l o,(⟨h1.next+2*L'.length,h1.tr⟩:ai).at l=some o->(l.nm∉seen/\h.at l=some o/\V.at l=g.at l)\/
  ∃l1 Y,(hL L').at l1=some Y/\V.at l=g'.at l1/\(∀aD co,fO P g' w' Y aD co->fO P V w' o aD co)/\
   ((∃i b,l1= .aS i/\l= .aS b/\Ci A p h.next i=some b)\/∃i b f' f k,l1= .el i f' k/\l= .el b f k/\Ci A p h.next i=some b/\Hl fams p h.next f'=some f):=by
  intro l o hl
  cases l with
  |aS b=>
   obtain⟨e1,e2⟩:=ai.CP hl;rcases Z b o e1 with ⟨k1,k2⟩| ⟨i,Y,k1,k2,k3⟩
   ·exact .inl ⟨k1,ai.jH k2 e2,d6 _ (O.PJ _ _ k2) fun i hi _=>k1 (a8 _ _ hi)⟩
   exact .inr ⟨.aS i,Y,ai.jH (U _ _ k1) (K9 k3).1,j5 _ _ k2,fun aD co i8=>i8.sub hs k3,.inl ⟨i,b,rfl,rfl,k2⟩⟩
  |el b f k=>
   obtain⟨y,e1,e2⟩:=ai.RU hl;rcases Z b y e1 with ⟨k1,k2⟩| ⟨i,Y,k1,k2,k3⟩
   ·have g8:=aE.wv e2;refine .inl ⟨k1,ai.Hs k2 e2,e9 f k (O.Hv _ _ _ k2 g8) fun f' I=>k1 (d0 I k2 g8)⟩
   obtain⟨f',j1,j2,j3⟩:=oo k3 (aE.wv e2);rw[j3]at e2;refine .inr ⟨.el i f' k,o,ai.Hs (U _ _ k1) e2,i3 f' f k j2,fun aD co i8=>?_,.inr ⟨i,b,f',f,k,rfl,rfl,k2,j2⟩⟩;have:∃el d,o= .bY el [d] false:=by
    cases Y<;>try (cases e2;done)
    case cd kt vk l st ck=>
     cases vk with
     |data et=>cases e2
     |Oq=>cases e2
     |dD f1 et=>
      simp only[aE.BM]at e2
      split at e2
      ·cases e:D.ia l k with
       |none=>rw[e]at e2;cases e2
       |some d=>rw[e]at e2;cases e2;exact⟨_,_,rfl⟩
      cases e2
   obtain⟨el,d,rfl⟩:=this;exact(i8.sub (o':= .bY el [d] true) hs rfl:_)
 have m4:Ob V ⟨h1.next+2*L'.length,h1.tr⟩:=by
  refine⟨?_,?_,?_,?_,?_,?_,?_⟩
  ·intro b o hb;show b<h1.next+2*L'.length;rw[p1];rcases Z b o hb with ⟨_,h3⟩| ⟨i,Y,h3,h4,_⟩
   ·have:=O.PJ _ _ h3;omega
   have:=(n1 _ h3).2;rcases e6 i b h4 with ⟨h5,h6⟩| ⟨h5,rfl⟩
   ·have:=J _ _ (oh h6);omega
   dsimp only at this;omega
  ·intro b x hb;show b<h1.next+2*L'.length;rw[p1]
   by_cases d2:b<h.next
   ·omega
   have:b=h.next+(b-h.next):=(by omega);rw[this,g3]at hb;have:=a6.lt _ _ hb
   change p+(b-h.next)<2*L'.length at this
   omega
  ·intro f k x hb;show f<h1.next+2*L'.length;rw[p1]
   by_cases d2:f<h.next
   ·omega
   have:f=h.next+(f-h.next):=(by omega);rw[this,g5]at hb;have:=a6.Ny _ _ _ hb
   change p+(f-h.next)<2*L'.length at this
   omega
  ·intro b o f hb hf;show f<h1.next+2*L'.length;rw[p1];rcases Z b o hb with ⟨_,h3⟩| ⟨i,Y,h3,h4,h5⟩
   ·have:=O.Hv _ _ _ h3 hf;omega
   obtain⟨f',j1,j2,_⟩:=oo h5 hf;have:=a6.Hv _ _ _ (U _ _ h3) j1
   change f'<2*L'.length at this
   rcases e0 f' f j2 with ⟨_,h6⟩| ⟨_,rfl⟩
   ·have:=Hv h6;omega
   omega
  ·intro b b' o o' f hb j0 hf hf';rcases Z b o hb with ⟨s1,s2⟩| ⟨i,Y,s1,s2,s3⟩<;>rcases Z b' o' j0 with ⟨t1,t2⟩| ⟨j,oj,t1,t2,t3⟩
   ·exact O.fu _ _ _ _ _ s2 t2 hf hf'
   ·exfalso;obtain⟨f',j1,j2,_⟩:=oo t3 hf';rcases e0 f' f j2 with ⟨_,h6⟩| ⟨_,rfl⟩
    ·exact s1 (d0 h6 s2 hf)
    have:=O.Hv _ _ _ s2 hf;omega
   ·exfalso;obtain⟨f',j1,j2,_⟩:=oo s3 hf;rcases e0 f' f j2 with ⟨_,h6⟩| ⟨_,rfl⟩
    ·exact t1 (d0 h6 t2 hf')
    have:=O.Hv _ _ _ t2 hf';omega
   obtain⟨f1,j1,j2,_⟩:=oo s3 hf;obtain⟨f2,m8,o3,_⟩:=oo t3 hf';have:=i4 _ _ _ j2 o3;subst this;have:=a6.fu _ _ _ _ _ (U _ _ s1) (U _ _ t1) j1 m8;subst this;rw[s2]at t2;cases t2;rfl
  ·intro b o f k x hb hf g6;rcases Z b o hb with ⟨s1,s2⟩| ⟨i,Y,s1,s2,s3⟩
   ·rw[e9 f k (O.Hv _ _ _ s2 hf) fun f' I=>s1 (d0 I s2 hf)]at g6;obtain⟨k1,y,k2⟩:=O.sk _ _ _ _ _ s2 hf g6;exact⟨k1,y,d7 _ _ k2⟩
   obtain⟨f1,j1,j2,j3⟩:=oo s3 hf;rw[i3 _ _ k j2]at g6;obtain⟨⟨o1,k1⟩,y,k2⟩:=a6.sk _ _ _ _ _ (U _ _ s1) j1 g6;exact⟨⟨o1,by rw[j3];exact k1⟩,y,by rw[j5 _ _ s2];exact k2⟩
  intro b b' f k hb;rcases Z b _ hb with ⟨s1,s2⟩| ⟨i,Y,s1,s2,s3⟩
  ·obtain⟨⟨x,k1,k2⟩,y,k3⟩:=O.al _ _ _ _ s2;exact⟨⟨x,b6.mm _ _ k1,d8 _ _ _ k2⟩,y,b6.mm _ _ k3⟩
  exact absurd rfl (aE.CO (K9 s3).2)
 have k4:∀l aS aD,V.at l=some (aS,aD)->aS<w'.heap.size:=by
  intro l aS aD hl
  cases l with
  |aS b=>
   change V.m b=_ at hl
   by_cases d2:b<h.next
   ·by_cases d5:∃i,(b,i)∈A/\i<p
    ·obtain⟨i,h3,h4⟩:=d5;rw[f9 _ _ h3 h4]at hl;exact a6.img _ _ _ hl
    rw[d6 _ d2 fun i h3 h4=>d5 ⟨i,h3,h4⟩]at hl;exact amX (O.img _ _ _ hl) hx.size
   have:b=h.next+(b-h.next):=(by omega);rw[this,g3]at hl;exact a6.img _ _ _ hl
  |el b f k=>
   change V.s f k=_ at hl
   by_cases d2:f<h.next
   ·by_cases d5:∃f',(f,f')∈fams/\f'<p
    ·obtain⟨f',h3,h4⟩:=d5;rw[g1 k h3 h4]at hl;exact a6.rV (.el b f' k) _ _ hl
    have:V.s f k=g.s f k:=by
     show (if f<h.next then (match iV fams f with|some f'=>(if f'<p then g'.s f' k else g.s f k)|none=>g.s f k)else _)=_;rw[amu d2]
     cases e:iV fams f with
     |none=>rfl
     |some f1=>dsimp only;rw[amt fun h=>d5 ⟨f1,mi e,h⟩]
    rw[this]at hl;exact amX (O.rV (.el b f k) _ _ hl) hx.size
   have:f=h.next+(f-h.next):=(by omega);rw[this,g5]at hl;exact a6.rV (.el b _ k) _ _ hl
 have hH:bq P V ⟨h1.next+2*L'.length,h1.tr⟩ w':=by
  refine m4.UH k4 ?_ ?_ hx.oU
  ·intro l l' aS aD base' o o' hb j0 m1 m2;rcases hat l o hb with ⟨s1,s2,s3⟩| ⟨i,Y,s1,s2,_,s4⟩<;>rcases hat l' o' j0 with ⟨t1,t2,t3⟩| ⟨j,oj,t1,t2,_,t4⟩
   ·rw[s3]at m1;rw[t3]at m2;exact O.rW _ _ _ _ _ _ _ s2 t2 m1 m2
   ·exfalso;rw[s3]at m1;rw[t2]at m2;exact g0 _ _ _ _ s1 s2 m1 (hx.nf aS (O.rV _ _ _ m1) ⟨j,oj,base',t1,m2⟩)
   ·exfalso;rw[t3]at m2;rw[s2]at m1;exact g0 _ _ _ _ t1 t2 m2 (hx.nf aS (O.rV _ _ _ m2) ⟨i,Y,aD,s1,m1⟩)
   rw[s2]at m1;rw[t2]at m2;have:=a6.rW _ _ _ _ _ _ _ s1 t1 m1 m2;subst this;rcases s4 with ⟨i1,b1,e1,rfl,e3⟩| ⟨i1,b1,f1,f2,k,e1,rfl,e3,e4⟩
   ·rcases t4 with ⟨i2,b2,d1,rfl,d3⟩| ⟨i2,b2,f3,f4,k2,d1,rfl,d3,d4⟩
    ·rw[e1]at d1;cases d1;rw[e3]at d3;cases d3;rfl
    rw[e1]at d1;cases d1
   rcases t4 with ⟨i2,b2,d1,rfl,d3⟩| ⟨i2,b2,f3,f4,k2,d1,rfl,d3,d4⟩
   ·rw[e1]at d1;cases d1
   rw[e1]at d1;cases d1;rw[e3]at d3;cases d3;rw[e4]at d4;cases d4;rfl
  intro l o aS aD hb m1;rcases hat l o hb with ⟨s1,s2,s3⟩| ⟨i,Y,s1,s2,s3,_⟩
  ·rw[s3]at m1;obtain⟨u1,o',u2,u3⟩:=O.vL _ _ _ _ s2 m1;have hno:=g0 _ _ _ _ s1 s2 m1;have d2:=O.rV _ _ _ m1;refine⟨fun hf=>?_,o',(hx.FB aS d2 hno).trans u2,u3.mono b6⟩;rcases hx.YC aS d2 hf with hf|hf
   ·exact u1 hf
   exact hno hf
  rw[s2]at m1;obtain⟨u1,o',u2,u3⟩:=a6.vL _ _ _ _ s1 m1;exact⟨u1,o',u2,s3 _ _ u3⟩
 refine⟨V,hs,hH,⟨b6,hx.size,fun c hc ho=>hx.FB c hc fun h=>ho ?_,fun c hc ho=>?_,fun c hc hf=>?_,?_,hx.os⟩,fun lb o5 b hb I hv=>⟨?_,?_⟩⟩
 ·obtain⟨a,o,aD,j1,j2,_⟩:=b4 c h;exact⟨a,o,aD,j1,j2⟩
 ·obtain⟨l,o,aD,hb,I⟩:=ho;rcases hat l o hb with ⟨s1,s2,s3⟩| ⟨i,Y,s1,s2,_,_⟩
  ·rw[s3]at I;exact⟨l,o,aD,s2,I⟩
  rw[s2]at I;obtain⟨a,o,aD,j1,j2,_⟩:=b4 c (hx.nf c hc ⟨i,Y,aD,s1,I⟩);exact⟨a,o,aD,j1,j2⟩
 ·rcases hx.YC c hc hf with h3|h3
  ·exact .inl h3
  obtain⟨a,o,aD,j1,j2,_⟩:=b4 c h3;exact .inr ⟨a,o,aD,j1,j2⟩
 ·show h.next<=h1.next+2*L'.length;rw[p1];omega
 ·have e5:b∉seen:=fun e7=>by have:=e8 b e7 I;rw[this]at hv;cases hv
  rw[d6 _ (by omega) fun i hi _=>e5 (a8 _ _ hi)];exact I
 show h1.get b=h.get b;have e5:b∉seen:=fun e7=>by have:=e8 b e7 I;rw[this]at hv;cases hv
 rw[p3 b fun i _ he=>?_,CA,amt e5];rcases e6 i b he with ⟨_,h6⟩| ⟨_,h6⟩
 ·exact e5 (a8 _ _ (oh h6))
 omega
def Hy (P:Program)(h:ai):List (Option TypeId)->List BV->T (List BV×List Nat)
 |_,[]=> .ret ([],[])
 | [],v::vs=> .ret (v::vs,[])
 |none::A,v::vs=>(Hy P h A vs).bind fun y=> .ret (v::y.1,y.2)
 |some t::A,v::vs=>(ab7 P h t v).bind fun x=>(Hy P h A vs).bind fun y=> .ret (de P t x.1::y.1,x.2++y.2)
def LX (hr:bq P g h w):∀{U:List (Option TypeId)} {vs:List BV} {x:List BV×List Nat},T.dV x (Hy P h U vs)->
 (∀b∈x.2,∃o,h.get b=some o/\o.nf=some o)/\∀A,ay P g w vs A->ay P {g with fz:=BS g x.2} w x.1 A/\Q2 g h x.2:=by
 have up:∀(bs:List Nat),iL g w {g with fz:=BS g bs} w:=fun bs=>⟨fun _ _ e=>e,fun _ e=> .inl e,fun _ _=>rfl,fun _ _ e=>e,fun _ _ _ e=>e⟩;intro U
 induction U with
 |nil=>
  intro vs x e
  cases vs with
  |nil=>rw[<-T.bD e];exact⟨fun b hb=>by simp at hb,fun A I=>⟨ay.mono (up []) _ _ I,Q2.nil⟩⟩
  |cons v vs=>rw[<-T.bD e];exact⟨fun b hb=>by simp at hb,fun A I=>⟨ay.mono (up []) _ _ I,Q2.nil⟩⟩
 |cons t U ih=>
  intro vs x e
  cases vs with
  |nil=>have e:T.dV x (.ret ([],[])):=(by cases t<;>exact e);rw[<-T.bD e];exact⟨fun b hb=>by simp at hb,fun A I=>⟨ay.mono (up []) _ _ I,Q2.nil⟩⟩
  |cons v vs=>
   cases t with
   |none=>simp only[Hy]at e;obtain⟨Y,Z,e⟩:=T.ca e;rw[<-T.bD e];obtain⟨V,O⟩:=ih Z;refine⟨V,fun A I=>?_⟩;simp only[ay]at I;obtain⟨u,J,rfl,h1,h2⟩:=I;exact⟨ay.cons (aw.mono (up _) _ _ h1) (O J h2).1,(O J h2).2⟩
   |some t=>
    simp only[Hy]at e;obtain⟨x1,e1,e⟩:=T.ca e;obtain⟨Y,Z,e⟩:=T.ca e;rw[<-T.bD e];obtain⟨k1,k2⟩:=J5 hr e1;obtain⟨V,O⟩:=ih Z;refine⟨fun b hb=>?_,fun A I=>?_⟩
    ·rcases amO.1 hb with hb|hb
     ·exact k1 b hb
     exact V b hb
    simp only[ay]at I;obtain⟨u,J,rfl,h1,h2⟩:=I;refine⟨ay.cons ?_ ?_,(k2 u h1).2.append (O J h2).2⟩
    ·exact aw.mono (g:=⟨fun _=>none,BS g x1.2,fun _ _=>none⟩) (w:=w) ⟨fun b x h=>(by cases h),fun c=>Fy (fun b hb=>aoo _ hb) c,fun _ _=>rfl,fun _ _ h=>h,fun _ _ _ h=>(by first|exact h|cases h)⟩ _ _ (k2 u h1).1
    exact ay.mono (g:={g with fz:=BS g Y.2}) (g':={g with fz:=BS g (x1.2++Y.2)}) (w:=w) ⟨fun b x h=>h,fun c=>Fy (fun b hb=>aoi _ hb) c,fun _ _=>rfl,fun _ _ h=>h,fun _ _ _ h=>h⟩ _ _ (O J h2).1
def RW (P:Program)(b:bE):Bool:=b.defers.isEmpty&&(P.funcs[b.fn]?).isSome
def X7:bE->List bE->FuncId
 |b,[]=>b.fn
 |_,c::cs=>X7 c cs
def aee (P:Program)(f:FuncId)(fr:bE)(cs:List bE):Bool:=RW P fr&&cs.all (RW P)&&Nat.beq (X7 fr cs) f
def IX {fr:bE}{f1:Frame}{chain:List PanicEntry}(hb:RW P fr=true)(hf:fr.fn=f1.fn)(hd:mL P g w fr.defers f1.defers)(A:r7 P g w fr.mode f1.mode){w':World}:(f1.raise chain).leaving P w' (.panicked chain)/\(f1.raise chain).fn=fr.fn:=by
 simp only[RW,amo,ao8]at hb;obtain⟨h1,h2⟩:=hb;rw[h1]at hd;simp only[mL]at hd;obtain⟨fn,I⟩:=amR.1 h2;rw[hf]at I;have J:f1.raise chain={f1 with mode:= .panicking chain}:=by
  unfold Frame.raise
  cases hb:fr.mode<;>rw[hb]at A<;>simp only[r7]at A<;>rw[A]
 rw[J];exact⟨⟨rfl,hd,fn,I⟩,hf.symm⟩
def unwind {f:FuncId}{V:List Frame}{chain:List PanicEntry}{w':World}:∀(cs:List bE) (fr:bE) (f1:Frame) (J:List Frame) (lb:Nat),cs.all (RW P)=true->X7 fr cs=f->(f1.raise chain).leaving P w' (.panicked chain)->(f1.raise chain).fn=fr.fn->
 pA P g h w (sN.of V) lb cs J->∃A,Steps P (lone (f1.raise chain) J w') (lone A V w')/\A.fn=f/\A.leaving P w' (.panicked chain)
 | [],fr,f1,J,lb,_,hb,hl,I,hc=>by simp only[pA,sN.of]at hc;subst hc;exact⟨_,Steps.refl _ _,by rw[I];exact hb,hl⟩
 |c::cs,fr,f1,J,lb,O,hb,hl,I,hc=>by simp only[pA]at hc;obtain⟨m,U,lb',rfl,_,hf,hc⟩:=hc;simp only[ap4,amo]at O;obtain⟨l1,l2⟩:=IX (w':=w') (chain:=chain) O.1 hf.fn hf.defers hf.mode;obtain⟨A,Y,Z,k3⟩:=unwind cs c m U lb' O.2 hb l1 l2 hc;exact⟨A,(Steps.one (step_leave_panicked hl)).trans Y,Z,k3⟩
def agW (P:Program)(rs:List TypeId)(G:vJ)(h:ai)(x:BV):Prop:=
 ∀(g:Gh) (w:World) (A:Ending),bq P g h w->Ls P g w x A->∃(g':Gh) (h':ai),Iw g h w g' h' w/\Pin G.p g g'/\G.E P rs g' h' w A
def agW.afu {rs:List TypeId}{p:Nat}{R:D->T (BV×List (Nat×aE))}{Q:D->Prop}{h:ai}{v:BV}{x:BV×List (Nat×aE)}(hv:v.Sz=true)(hc:II p h v=some x){d:D}(hR:T.dV x (R d))(hq:Q d):agW P rs (.bK p R Q) h v:=by
 intro g w ed Y he;unfold II at hc
 split at hc
 ·rename_i seen Z
  generalize a6:jy 0 seen=A at hc
  split at hc
  ·rename_i L I V
   cases hc
   simp only[amo]at I;obtain⟨⟨I,U⟩,J⟩:=I;have J:=aok J;obtain⟨q1,q2,q3,q4,_⟩:=Cw Y I (.inr ⟨J,rfl⟩) V;have O:∀c,ru (ke g A p (mB h p A.length A)) (hL L) c->ru g h c:=fun c hc=>by obtain⟨a,o,aD,j1,j2,_⟩:=q3 c hc;exact⟨a,o,aD,j1,j2⟩
   refine⟨ke g A p (mB h p A.length A),hL L,⟨amG _,fun _ _ _=>rfl,fun _ h=>h,fun _ _ h=> .inl h,Y.oU,fun c _ ho=>O c ho,fun _ _ h=>h,rfl,rfl,rfl⟩,IJ Y (amG _) I U,d,_,hR,rfl,q2,?_,hq⟩
   cases v<;>first
    | (cases hv;done)
    |exact he
  cases hc
 cases hc
def ahA (P:Program):bE->List bE->Option bE
 |b,[]=>some b
 |b,c::cs=>match RW P b with|true=>ahA P c cs|false=>none
def TT (b:bE):List BV:=match b.todo with| .js d::_=>rL d.aZ [] 0 b.dw|_=>b.dw
def aiv (P:Program)(f:FuncId)(n:Int)(h:ai)(fr:bE)(cs:List bE):Option (FuncId×TypeId×av):=
 match ahA P fr cs with
 |some ⟨fn,dw,todo,[⟨.fn (.func k) [.ie b off],[]⟩],.run,kind,none⟩=>(match TP P k,Nat.beq fn f,h.get b with
  |true,true,some (.cells c1 e _)=>(match Nat.blt off c1.length,B2 P h e (.ie b off) (.int .i64 n)with
   |true,some h'=>some (k,e,⟨⟨fn,TT ⟨fn,dw,todo,[],.run,kind,none⟩,[],[],.returning,kind,none⟩,[],h'⟩)
   |_,_=>none)
  |_,_,_=>none)
 |_=>none
def U7 (P:Program)(k:FuncId)(t:TypeId)(n:Int)(e:TypeId):Prop:=
 ∀(q:Addr) (w w':World),(w.cell? q).isSome=true->(Instr.storeAt e (.pointer (some q)) (.int .i64 n)).run P w= .ok () w'->
  CallsD P k #[.pointer (some q)] (.panicking [{v:= .iface t (.agg #[.int .i64 n]),recovered:=false}]) w fun J I A=>(∃v,J= .returned v)/\I= .panicking [{v:= .iface t (.agg #[.int .i64 n]),recovered:=true}]/\EG w' A
def ae6 {O:List Frame}{chain:List PanicEntry}{fb:bE}:∀(cs:List bE) (fr:bE) (f1:Frame) (A:List Frame) (lb ub:Nat),ahA P fr cs=some fb->oR P g h w lb ub false fr f1->pA P g h w (sN.of O) lb cs A->
 ∃(fb':Frame) (lb' ub':Nat),oR P g h w lb' ub' false fb fb'/\Steps P (lone (f1.raise chain) A w) (lone (fb'.raise chain) O w)
 | [],fr,f1,A,lb,ub,hl,hf,hc=>by
   simp only[pA,sN.of]at hc;subst hc
   cases hl
   exact⟨f1,lb,ub,hf,Steps.refl _ _⟩
 |c::cs,fr,f1,A,lb,ub,hl,hf,hc=>by
  simp only[pA]at hc;obtain⟨m,J,lb',rfl,_,I,hc⟩:=hc;simp only[ahA]at hl
  split at hl
  ·rename_i hb
   obtain⟨l1,-⟩:=IX (w':=w) (chain:=chain) hb hf.fn hf.defers hf.mode;obtain⟨fb',Y,V,U,Z⟩:=ae6 cs c m J lb' lb hl I hc;exact⟨fb',Y,V,U,(Steps.one (step_leave_panicked l1)).trans Z⟩
  cases hl
def VS {lb ub:Nat}{fb:bE}{fb':Frame}(hf:oR P g h w lb ub false fb fb')(V:fb.mode= .run):ay P g w (TT fb) fb'.tmps.toList:=by
 have I:=hf.run V;unfold gK at I;unfold TT
 split at I
 ·rename_i d k A
  obtain⟨he,rest,k',-,-,hp,-,⟨ph,hd⟩,-⟩:=I;rw[A];dsimp only;rw[he];refine ay.vi (by rw[sn];simpa using hd.size) fun i b v hb Y=>?_;have J:i<d.cN.length:=by have:=(amw.1 hb).1;rw[sn]at this;exact this
  have h2:=J2 (aZ:=d.aZ) (aN:=[]) d.cN 0 i _ (amr J);rw[hb]at h2;have O:=hd.Ir i v (by simpa using Y);unfold iM at O;rw[anr]at h2
  cases hw:gz d.aZ i with
  |some j=>rw[hw]at h2;cases h2;simp[aw]
  |none=>
   rw[hw]at h2 O
   cases h2
   simpa [anR,amr J]using O
 rename_i U
 cases A:fb.todo with
 |nil=>exact I.1
 |cons x k=>
  cases x<;>first
   |exact I.1
   |exact absurd A (U _ _)
def aj3 {V:List Frame}{f k:FuncId}{t e:TypeId}{n:Int}{fr:bE}{cs:List bE}{s':av}{f1:Frame}{mr:List Frame}{lb ub:Nat}(hr:bq P g h w)(hs:aiv P f n h fr cs=some (k,e,s'))(hk:U7 P k t n e)(hf:oR P g h w lb ub false fr f1)(hc:pA P g h w (sN.of V) lb cs mr):
 ∃(w':World) (lb':Nat) (d8:Frame),Steps P (lone (f1.raise [{v:= .iface t (.agg #[.int .i64 n]),recovered:=false}]) mr w) (lone d8 V w')/\Q4 P (sN.of V) g w' lb' s' d8 V/\mO g h w g s'.h w':=by
 unfold aiv at hs
 split at hs
 ·rename_i fn dw todo k' b off kind a8
  split at hs
  ·rename_i g8 e1 s1 U g6 d6
   split at hs
   ·rename_i h' d5 e9
    cases hs
    obtain⟨fb',l3,l4,hb,A⟩:=ae6 (chain:=[{v:= .iface t (.agg #[.int .i64 n]),recovered:=false}]) cs fr f1 mr lb ub a8 hf hc;have d0:=hb.defers;simp only[mL]at d0;obtain⟨d',dr,e6,⟨ht,ha⟩,rfl⟩:=d0;simp only[Ef]at ht;obtain⟨c',d3,d2⟩:=ht;obtain⟨a',e0,I⟩:=d2.one;have a6:d'.args.toList=[]:=ha;have a6:d'.args=#[]:=(by cases d';simpa using a6);have g0:c'=#[a']:=(by cases c';simpa using e0);obtain⟨w',g1,g2,g3,-⟩:=SU hr I (show aw P g w (.int .i64 n) (.int .i64 n)by simp[aw]) e9;have d7:(invoke d'.target d'.args).run P w= .ok (.enter k #[a']) w:=(by rw[d3,a6,g0];obtain⟨x,hx,d9⟩:=K3 (f:=k) (args:=[.ie b off]) (args':=#[a']) (n:= .enter k [.ie b off]) hr (by simpa [ay]using I) (by unfold Cv;rw[U];rfl);obtain⟨v,e8,d1⟩:=d9.one;simp only[aw]at d1 I;obtain⟨b1,b2,b3,rfl⟩:=d1;obtain⟨b4,b5,b6,rfl⟩:=I;rw[b3]at b6;cases b6;have e7:x=#[.pointer (some ⟨b1,b2+off,none⟩)]:=(by cases x;simpa using e8);subst e7;simpa [invoke]using hx);obtain⟨b1,b2,b3,e4⟩:∃aS aD,g.m b=some (aS,aD)/\a'= .pointer (some ⟨aS,aD+off,none⟩):=(by simpa only[aw]using I);subst e4;have Z:(w.cell? ⟨b1,b2+off,none⟩).isSome=true:=(by obtain⟨_,o',hw,c,lo,hi,rfl,⟨vs,e5,hx⟩,-⟩:=hr.obj b _ b1 b2 d6 b3;have d4:off<vs.length:=(by rw[e5.length];exact aos.mp d5);have:=hx off _ (amr d4);simp[World.cell?,hw,this]);have hm:fb'.mode= .run:=hb.mode;have J:fb'.raise [{v:= .iface t (.agg #[.int .i64 n]),recovered:=false}]={fb' with mode:= .panicking [{v:= .iface t (.agg #[.int .i64 n]),recovered:=false}]}:=(by unfold Frame.raise;rw[hm]);rw[J]at A;have a7:=step_defer (P:=P) (fr:={fb' with mode:= .panicking [{v:= .iface t (.agg #[.int .i64 n]),recovered:=false}]}) (cs:=V) (w:=w) (d:=d') (ds:=[]) (by simp) e6 d3 d7;obtain⟨ed,u',w2,g7,⟨⟨v,rfl⟩,rfl,O⟩,e2,e3,f9⟩:=hk _ w w' Z g1 {{fb' with mode:= .panicking [{v:= .iface t (.agg #[.int .i64 n]),recovered:=false}]}with defers:=[]} V rfl;have Y:=step_going_returned (c:={{{fb' with mode:= .panicking [{v:= .iface t (.agg #[.int .i64 n]),recovered:=false}]}with defers:=[]}with mode:= .panicking [{v:= .iface t (.agg #[.int .i64 n]),recovered:=true}]}) (cs:=V) e3 f9;obtain⟨g4,g5⟩:=g2.acn O;refine⟨w2,0,_,A.trans ((Steps.one a7).trans (Steps.trans e2 (Steps.one Y))),⟨g4,anX _,⟨hb.fn,hb.kind,hb.tz,rfl,rfl,hb.round.mono (g3.trans g5).mono,fun h=>(by cases h),fun _=>?_⟩,rfl⟩,g3.trans g5⟩;exact ay.mono (g3.trans g5).mono _ _ (VS (fb:=⟨fn,dw,todo,[],.run,kind,none⟩) (fb':={fb' with defers:=[]}) ⟨hb.fn,hb.kind,hb.tz,rfl,hb.mode,hb.round,hb.run,hb.dw⟩ rfl)
   cases hs
  cases hs
 cases hs
def aC.akD (e1:P.follows .mixedOrders=true){f k:FuncId}{a7:List TypeId}{G:vJ}{as:List BV}{fr:bE}{cs:List bE}{h:ai}{s:av}{d7:List BV}{h0:ai}{Ot:List (Option TypeId)}{z:List BV×List Nat}{seen:List Nat}{L:List (Nat×aE)}{p:Nat}{R:D->T (BV×List (Nat×aE))}{Q':D->Prop}
 (hs:B9 P (fX P s) (.call k d7 fr cs h0))(hz:T.dV z (Hy P h0 Ot d7))(i7:z.1=as)(hh:fH h0 z.2=h)(g8:BZ h 300 (EK as) []=some seen)(d8:By 0 (jy 0 seen).length [] [] (jy 0 seen)=true)(e0:HA (He h 0 0 (jy 0 seen)) h (jy 0 seen)=some L)
 (hp:xm P k (oq (He h 0 0 (jy 0 seen)) as) L p R Q')
 (hk:∀d,Q' d->∃x h2,T.dV x (R d)/\To h (jy 0 seen) seen p x.2=some h2/\((x.1.Sz=false/\∃r,T.dV r (uo P fr (vC (RV h (jy 0 seen) p) x.1) h2)/\aC P f a7 G ⟨r.1,cs,r.2⟩)\/(x.1.Sz=true/\aee P f fr cs=true/\agW P a7 G h2 x.1)\/∃t n k e s',x.1= .nX t n/\aiv P f n h2 fr cs=some (k,e,s')/\U7 P k t n e/\aC P f a7 G s')):aC P f a7 G s:=by
 obtain⟨c,hc,g1⟩:=hs;refine aC.step e1 g1 ?_;intro c0 Z w lb f1 j3 g4;obtain⟨J,h2,h3,h4⟩:=g4;obtain⟨g7,d5,rfl⟩:=PQ hc h3;simp only[pA]at h4;obtain⟨m0,mr,Y,rfl,hl,b6,b4⟩:=h4;obtain⟨j1,j2⟩:=LX J hz;obtain⟨hr,y2⟩:=J.freeze j1;have ha:=(j2 _ d5).1;have e3:∀lb,vX lb Z h0 {Z with fz:=BS Z z.2} (fH h0 z.2):=fun lb=>Vy (j2 _ d5).2 lb;have I:=b6.mono (h':=fH h0 z.2) y2.mono (e3 _);have a8:=b4.mono (h':=fH h0 z.2) y2.mono (e3 _);have e9:(fH h0 z.2).next=h0.next:=pQ h0 z.2;dsimp only at h2;rw[<-e9]at h2;rw[i7]at ha;rw[hh]at hr y2 I a8 h2;clear J d5 b6 b4;generalize i8:({Z with fz:=BS Z z.2}:Gh)=g0 at*;obtain⟨q1,q2,q3,q4,_⟩:=Cw hr d8 (.inl ⟨rfl,rfl⟩) e0;obtain⟨ed,w2,j0,⟨g',d,x1,i2,hx,e2,e7,hE,hQ⟩,d1,_,d6⟩:=hp _ w g7 q2 (ay.sub q1 _ _ ha) (m0::mr);obtain⟨x2,h9,e5,i4,e8⟩:=hk d hQ;have:=T.YD i2 e5;subst this;have d0:∀b∈seen,g0.m b=none->vU (h.get b)=true:=fun b hb=>by
  rcases Xf hr 300 g8 (fun x hx=>ay.NQ as _ ha x hx) b hb with h5|h5
  ·cases h5
  exact h5
 obtain⟨g2,z1,z2,z3,z4⟩:=aed hr d0 d8 e0 i4 hx e2 e7;rcases e8 with ⟨e6,r,U,O⟩| ⟨A,d9,h6⟩| ⟨t,n,kk,ee,s',A,i1,f9,O⟩
 rotate_left
 ·have g5:Ls P g2 w2 x1.1 ed:=by
   cases d2:x1.1<;>rw[d2]at A hE<;>first
    | (cases A;done)
    |exact hE
  obtain⟨g3,V,n4,n5,n6⟩:=h6 g2 w2 ed z2 g5;obtain⟨chain,rfl⟩:∃chain,ed= .panicked chain:=by
   cases d2:x1.1<;>rw[d2]at A hE<;>first
    | (cases A;done)
    |exact⟨_,hE⟩
  simp only[aee,amo]at d9;obtain⟨⟨b1,b2⟩,b3⟩:=d9;obtain⟨l1,l2⟩:=IX (w':=w2) (chain:=chain) b1 I.fn I.defers I.mode;obtain⟨a6,i3,h7,g9⟩:=unwind cs fr m0 mr Y b2 (amC b3) l1 l2 a8;exact⟨w2,a6,.panicked chain,g3,V,((show Steps P _ _ from d1).trans (Steps.one (step_leave_panicked d6))).trans i3,h7,g9,.DW (y2.trans z3) n4,.DX (y2.trans z3).mono n5,n6⟩
 ·rw[A]at hE;have hE:ed= .panicked [{v:= .iface t (.agg #[.int .i64 n]),recovered:=false}]:=hE;subst hE;have d4:=I.mono (h':=h9) z3.mono (z4 lb h2);have d3:=a8.mono (h':=h9) z3.mono (z4 Y (am8 hl h2));obtain⟨w',lb',a6,a1,a2,a3⟩:=aj3 z2 i1 f9 d4 d3;obtain⟨w3,g6,v3,g3,V,n1,n2,n3,n4,n5,n6⟩:=O c0 g2 w' lb' a6 c0 a2;exact⟨w3,g6,v3,g3,V,((show Steps P _ _ from d1).trans (Steps.one (step_leave_panicked d6))).trans (a1.trans n1),n2,n3,.DW (y2.trans (z3.trans a3)) n4,.DX (y2.trans (z3.trans a3)).mono n5,n6⟩
 obtain⟨v',rfl,h8⟩:=hE.get e6;have U:=tw U;have hv:=aw.sub z1 _ _ h8;have d4:=I.mono (h':=h9) z3.mono (z4 lb h2);have d3:=a8.mono (h':=h9) z3.mono (z4 Y (am8 hl h2));have hn:=z3.next;obtain⟨r1,r2,r3,r4,r5⟩:=D6 z2 d4 (am8 (am8 hl h2) hn) (am8 h2 hn) hv U;have e4:Y<=h9.next:=am8 (am8 hl h2) hn;obtain⟨w',a6,v2,g3,V,n1,n2,n3,n4,n5,n6⟩:=O c0 g2 w2 Y _ mr ⟨r1,am8 e4 r5,r4,d3.mono r2.mono (r3.lt e4)⟩;exact⟨w',a6,v2,g3,V,((show Steps P _ _ from d1).trans (Steps.one (step_leave_returned d6))).trans n1,n2,n3,.DW (y2.trans (z3.trans r2)) n4,.DX (y2.trans (z3.trans r2)).mono n5,n6⟩
end
end
end
end Go.PB
end
