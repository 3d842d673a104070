import Derived.ChangeArms
import Derived.DataReads
import Derived.OpenShut
import Derived.WideShapes
import Derived.Deep.Slices
import Derived.Test.YtpanfgalkajgdaaGreatM6
set_option linter.all false
noncomputable section
namespace Go.PB
open Go
section
noncomputable section
section
variable {P:Program} {g:Gh} {h:ai} {w:World}
def bq.seen (V:bq P g h w){b:Nat}{o o':aE}(hb:h.get b=some o)(ho:∀aD co,fO P g w o aD co->fO P g w o' aD co)
 (hf:o.CF=none:=by rfl)(hf':o'.CF=none:=by rfl)(b4:o.nf=some o:=by rfl)(J:o'.nf=some o':=by rfl):
 bq P g (h.put b (some o')) w/\mO g h w g (h.put b (some o')) w:=by
 have hat:∀l o1,(h.put b (some o')).at l=some o1->(l= .aS b/\o1=o')\/(l≠ .aS b/\h.at l=some o1):=fun l o1 e=>by
  by_cases e1:l= .aS b
  ·subst e1;rw[ai.E7 J]at e;cases e;exact .inl ⟨rfl,rfl⟩
  rw[ai.X6 hb hf hf' e1]at e;exact .inr ⟨e1,e⟩
 have O:=ai.jH hb b4;have I:∀l o1,(h.put b (some o')).at l=some o1->∃U,h.at l=some U:=fun l o1 e=>by
  rcases hat l o1 e with ⟨rfl,_⟩| ⟨_,h1⟩
  ·exact⟨o,O⟩
  exact⟨o1,h1⟩
 refine⟨(V.nm.put hb hf' J).UH V.rV ?_ ?_ V.oU,⟨iL.refl g w,amG _,fun _ _ _=>rfl,?_,fun _ _ h=> .inl h,amG _,rfl,rfl,rfl⟩⟩
 ·intro l1 l2 Y A a7 o1 U h1 h2 Z m2;obtain⟨_,g1⟩:=I _ _ h1;obtain⟨_,g2⟩:=I _ _ h2;exact V.rW _ _ _ _ _ _ _ g1 g2 Z m2
 ·intro l o1 Y A h1 Z;rcases hat l o1 h1 with ⟨rfl,rfl⟩| ⟨_,h1⟩
  ·obtain⟨n1,U,b1,a6⟩:=V.vL _ _ _ _ O Z;exact⟨n1,U,b1,ho _ _ a6⟩
  exact V.vL _ _ _ _ h1 Z
 rintro c _ ⟨l,o1,A,hl,a8⟩;obtain⟨U,h2⟩:=I _ _ hl;exact⟨l,U,A,h2,a8⟩
abbrev Jw:=List (TypeId×Nat×TypeId)
def UY (h:ai)(b:Nat)(r:TypeId×Nat×TypeId):ai:=
 match h.get b with
 |some (.cells cs t s)=>(match Nat.beq r.1 t,cs.getD r.2.1 .qd with
  |true,.cS=>(h.new (.bY r.2.2 [] true)).put b (some (.cells (cs.set r.2.1 (.hY h.next 0 true)) t s))
  |_,_=>h)
 |_=>h
def Lh (b:Nat):Jw->ai->ai
 | [],h=>h
 |r::rs,h=>Lh b rs (UY h b r)
def UX (rs:Jw):Nat->ai->ai
 |0,h=>h
 |n+1,h=>Lh n rs (UX rs n h)
def RO (rs:Jw)(s:av):av:=
 match rs with
 | []=>s
 |_=>
  match s with
  | ⟨⟨fn,dw,todo,ds,mode,kind,ro⟩,[],h⟩=>
    (match mode,todo with
    | .run,.js _::_=>s
    |_,_=>⟨⟨fn,dw,todo,ds,mode,kind,ro⟩,[],UX rs h.next h⟩)
  |_=>s
def aai (U:bq P g h w)(b:Nat)(r:TypeId×Nat×TypeId):bq P g (UY h b r) w/\mO g h w g (UY h b r) w:=by
 unfold UY
 split
 ·rename_i cs t s hb
  split
  ·rename_i ht hn
   obtain⟨k1,k2⟩:=U.V9 (.bY r.2.2 [] true);have Z:b≠h.next:=fun e=>aoE _ (e▸U.PJ b _ hb);have a6:(h.new (.bY r.2.2 [] true)).get b=some (.cells cs t s):=by rw[ai.gY,amt Z];exact hb
   obtain⟨k3,k4⟩:=k1.seen a6 (o':= .cells (cs.set r.2.1 (.hY h.next 0 true)) t s) (fun aD co hc=>by
    simp only[fO]at hc ⊢;obtain⟨c,lo,hi,rfl,⟨vs,Y,hat⟩,hh⟩:=hc;refine⟨c,lo,hi,rfl,⟨vs,?_,hat⟩,hh⟩;refine ay.vi (by simpa using Y.length) fun j bv v A O=>?_;rw[aon]at A
    split at A
    ·rename_i V
     subst V
     split at A
     ·rename_i I
      cases A
      have J:cs[r.2.1]?=some .cS:=(by rw[List.getD,amr I]at hn;rw[amr I];exact amZ some hn);obtain⟨v2,h1,h2⟩:=Y.get J;rw[O]at h1;cases h1;simp only[aw]at h2 ⊢;exact .inl ⟨⟨trivial,trivial⟩,.inl h2⟩
     cases A
    obtain⟨v2,h1,h2⟩:=Y.get A
    rw[O]at h1;cases h1;exact h2)
   exact⟨k3,k2.trans k4⟩
  exact⟨U,mO.refl _ _ _⟩
 exact⟨U,mO.refl _ _ _⟩
def UZ (b:Nat):∀(rs:Jw) {h:ai},bq P g h w->bq P g (Lh b rs h) w/\mO g h w g (Lh b rs h) w:=by
 intro rs
 induction rs with
 |nil=>intro h A;exact⟨A,mO.refl _ _ _⟩
 |cons r rs U=>intro h A;obtain⟨I,J⟩:=aai A b r;obtain⟨O,V⟩:=U I;exact⟨O,J.trans V⟩
def aah (O:bq P g h w)(rs:Jw):∀n,bq P g (UX rs n h) w/\mO g h w g (UX rs n h) w:=by
 intro n
 induction n with
 |zero=>exact⟨O,mO.refl _ _ _⟩
 |succ n A=>obtain⟨J,I⟩:=UZ n rs A.1;exact⟨J,A.2.trans I⟩
def aC.wid {f:FuncId}{rs:List TypeId}{G:vJ}(A:Jw){s:av}(he:aC P f rs G (RO A s)):aC P f rs G s:=by
 unfold RO at he
 split at he
 ·exact he
 split at he
 ·rename_i fn dw todo ds mode kind ro h
  split at he
  ·exact he
  rename_i hno
  refine aC.Kk (fun c0 g w lb fr J hs=>?_) he;obtain⟨Y,h2,I,Z⟩:=hs;obtain⟨V,U⟩:=aah Y A h.next;refine⟨g,w,lb,fr,J,Steps.refl _ _,⟨V,am8 h2 U.next,⟨I.fn,I.kind,I.tz,I.defers,I.mode,I.round,fun O=>?_,I.dw⟩,Z⟩,U⟩;have hrun:=I.run O;unfold gK at hrun ⊢;dsimp only at hrun O ⊢
  cases todo with
  |nil=>exact hrun
  |cons i' r'=>cases i'<;>first|exact hrun| (subst O;exact absurd rfl (hno _ _ rfl))
 exact he
def bq.alD (hr:bq P g h w){bs:List Nat}(b4:∀b∈bs,∃o,h.get b=some o/\o.nf=some o){b:Nat}{o o':aE}(hb:h.get b=some o)(d2:b∉bs)(ho:∀aD co,fO P g w o aD co->fO P {g with fz:=BS g bs} w o' aD co)
 (hf:o.CF=none:=by rfl)(hf':o'.CF=none:=by rfl)(b1:o.nf=some o:=by rfl)(J:o'.nf=some o':=by rfl):
 bq P {g with fz:=BS g bs} ((fH h bs).put b (some o')) w/\mO g h w {g with fz:=BS g bs} ((fH h bs).put b (some o')) w:=by
 obtain⟨Y,y2⟩:=hr.freeze b4;have U:(fH h bs).get b=some o:=by rw[CA,amt d2];exact hb
 have hat:∀l o1,((fH h bs).put b (some o')).at l=some o1->(l= .aS b/\o1=o')\/(l≠ .aS b/\(fH h bs).at l=some o1):=fun l o1 e=>by
  by_cases e1:l= .aS b
  ·subst e1;rw[ai.E7 J]at e;cases e;exact .inl ⟨rfl,rfl⟩
  rw[ai.X6 U hf hf' e1]at e;exact .inr ⟨e1,e⟩
 have O:=ai.jH U b1;have V:=ai.jH hb b1;have I:∀l o1,((fH h bs).put b (some o')).at l=some o1->∃Z,(fH h bs).at l=some Z:=fun l o1 e=>by
  rcases hat l o1 e with ⟨rfl,_⟩| ⟨_,h1⟩
  ·exact⟨o,O⟩
  exact⟨o1,h1⟩
 refine⟨(Y.nm.put U hf' J).UH Y.rV ?_ ?_ Y.oU,y2.trans ⟨iL.refl _ w,amG _,fun _ _ _=>rfl,?_,fun _ _ h=> .inl h,amG _,rfl,rfl,rfl⟩⟩
 ·intro l1 l2 a6 A b6 o1 Z h1 h2 m1 m2;obtain⟨_,g1⟩:=I _ _ h1;obtain⟨_,g2⟩:=I _ _ h2;exact Y.rW _ _ _ _ _ _ _ g1 g2 m1 m2
 ·intro l o1 a6 A h1 m1;rcases hat l o1 h1 with ⟨rfl,rfl⟩| ⟨_,h1⟩
  ·obtain⟨n1,Z,a8,_⟩:=Y.vL _ _ _ _ O m1;obtain⟨_,o3,a7,d1⟩:=hr.vL _ _ _ _ V m1;rw[a8]at a7;cases a7;exact⟨n1,Z,a8,ho _ _ d1⟩
  exact Y.vL _ _ _ _ h1 m1
 rintro c _ ⟨l,o1,A,hl,d0⟩;obtain⟨Z,h2⟩:=I _ _ hl;exact⟨l,Z,A,h2,d0⟩
def BV.aho:BV->Bool
 | .hY _ _ _=>true
 | .cS=>true
 |_=>false
def BV.ak2:BV->Bool
 | .bx _ _=>true
 |_=>false
def YA (P:Program)(h:ai)(b:Nat)(r:TypeId×Nat×TypeId):T ai:=
 match h.get b with
 |some (.cells cs t s)=>
  (match Nat.beq r.1 t,BV.aho (cs.getD r.2.1 .qd)with
  |true,true=>(ab7 P h r.2.2 (cs.getD r.2.1 .qd)).bind fun x=>
    (match x.2.all (fun y=>!Nat.beq y b),BV.ak2 (de P r.2.2 x.1)with
    |true,true=> .ret ((fH h x.2).put b (some (.cells (cs.set r.2.1 (de P r.2.2 x.1)) t s)))
    |_,_=> .ret h)
  |_,_=> .ret h)
 |_=> .ret h
def PV (P:Program)(b:Nat):Jw->ai->T ai
 | [],h=> .ret h
 |r::rs,h=>(YA P h b r).bind fun h'=>PV P b rs h'
def Yy (P:Program)(rs:Jw):Nat->ai->T ai
 |0,h=> .ret h
 |n+1,h=>(Yy P rs n h).bind fun h'=>PV P n rs h'
def aeS (P:Program)(rs:Jw)(s:av):T av:=
 match rs with
 | []=> .ret s
 |_=>
  match s with
  | ⟨⟨fn,dw,todo,ds,mode,kind,ro⟩,[],h⟩=>
    (match mode,todo with
    | .run,.js _::_=> .ret s
    | .run,.code _::_=>(Yy P rs h.next h).bind fun h'=> .ret ⟨⟨fn,dw,todo,ds,mode,kind,ro⟩,[],h'⟩
    |_,_=> .ret s)
  |_=> .ret s
def Jn (P:Program)(g:Gh)(h:ai)(w:World)(h':ai):Prop:=∃fz':Nat->Prop,bq P {g with fz:=fz'} h' w/\mO g h w {g with fz:=fz'} h' w
def Jn.refl (A:bq P g h w):Jn P g h w h:=⟨g.fz,A,mO.refl _ _ _⟩
def Jn.trans {h1 h2:ai}(a:Jn P g h w h1)(b:∀g',bq P g' h1 w->Jn P g' h1 w h2):Jn P g h w h2:=by
 obtain⟨f1,I,J⟩:=a;obtain⟨f2,A,O⟩:=b _ I;exact⟨f2,A,J.trans O⟩
def YB {h':ai}(U:bq P g h w){b:Nat}{r:TypeId×Nat×TypeId}(e:T.dV h' (YA P h b r)):Jn P g h w h':=by
 unfold YA at e
 split at e
 ·rename_i cs t s hb
  split at e
  ·rename_i ht hc
   obtain⟨x,e1,e⟩:=T.ca e;obtain⟨k1,k2⟩:=J5 U e1
   split at e
   ·rename_i V a8
    rw[<-T.bD e];have a7:b∉x.2:=fun hm=>by have:=ang.1 V b hm;simp at this
    obtain⟨z1,z2⟩:=U.alD k1 hb a7 (o':= .cells (cs.set r.2.1 (de P r.2.2 x.1)) t s) (fun aD co J=>by
     simp only[fO]at J ⊢;obtain⟨c0,lo,hi,rfl,⟨vs,hv,hat⟩,hh⟩:=J;refine⟨c0,lo,hi,rfl,⟨vs,?_,hat⟩,hh⟩;have I:iL g w {g with fz:=BS g x.2} w:=⟨fun _ _ e=>e,fun _ e=> .inl e,fun _ _=>rfl,fun _ _ e=>e,fun _ _ _ e=>e⟩;refine ay.vi (by simpa using hv.length) fun j bv v A Y=>?_;rw[aon]at A
     split at A
     ·rename_i a6
      subst a6
      split at A
      ·rename_i Z
       cases A
       have O:cs[r.2.1]?=some (cs.getD r.2.1 .qd):=(by rw[List.getD,amr Z];rfl);obtain⟨v2,h1,h2⟩:=hv.get O;rw[Y]at h1;cases h1;exact aw.mono (g:=⟨fun _=>none,BS g x.2,fun _ _=>none⟩) (g':={g with fz:=BS g x.2}) (w:=w) ⟨fun b x h=>(by cases h),fun c h=>h,fun _ _=>rfl,fun _ _ h=>h,fun _ _ _ h=>(by first|exact h|cases h)⟩ _ _ (k2 v h2).1
      cases A
     obtain⟨v2,h1,h2⟩:=hv.get A
     rw[Y]at h1;cases h1;exact aw.mono I _ _ h2)
    exact⟨_,z1,z2⟩
   rw[<-T.bD e];exact .refl U
  rw[<-T.bD e];exact .refl U
 rw[<-T.bD e];exact .refl U
def TM {b:Nat}:∀(rs:Jw) {g:Gh} {h h':ai},bq P g h w->T.dV h' (PV P b rs h)->Jn P g h w h':=by
 intro rs
 induction rs with
 |nil=>intro g h h' I e;rw[<-T.bD e];exact .refl I
 |cons r rs O=>intro g h h' I e;obtain⟨h1,J,e⟩:=T.ca e;exact(YB I J).trans fun g' A=>O A e
def Yz {rs:Jw}:∀(n:Nat) {g:Gh} {h h':ai},bq P g h w->T.dV h' (Yy P rs n h)->Jn P g h w h':=by
 intro n
 induction n with
 |zero=>intro g h h' I e;rw[<-T.bD e];exact .refl I
 |succ n O=>intro g h h' I e;obtain⟨h1,J,e⟩:=T.ca e;exact(O I J).trans fun g' A=>TM rs A e
def aC.alW {f:FuncId}{rs:List TypeId}{G:vJ}(O:Jw){s s':av}(A:T.dV s' (aeS P O s))(he:aC P f rs G s'):aC P f rs G s:=by
 unfold aeS at A
 split at A
 ·rw[T.bD A];exact he
 split at A
 ·rename_i fn dw todo ds mode kind ro h
  split at A
  ·rw[T.bD A];exact he
  ·rename_i c r
   obtain⟨h',e1,U⟩:=T.ca A;have U:=T.bD U;subst U;refine aC.Kk (fun c0 g w lb fr V hs=>?_) he;obtain⟨hr,h2,I,Z⟩:=hs;obtain⟨fz',Y,J⟩:=Yz h.next hr e1;refine⟨_,w,lb,fr,V,Steps.refl _ _,⟨Y,am8 h2 J.next,⟨I.fn,I.kind,I.tz,I.defers.mono J.mono,I.mode.mono J.mono,I.round.mono J.mono,fun hm=>?_,fun e=>ay.mono J.mono _ _ (I.dw e)⟩,Z⟩,J⟩;have hrun:=I.run hm;unfold gK at hrun ⊢;dsimp only at hrun ⊢;exact⟨ay.mono J.mono _ _ hrun.1,hrun.2.mono J.mono⟩
  rw[T.bD A];exact he
 rw[T.bD A];exact he
def nq (h:ai):List (Option TypeId)->List BV->ai×List BV
 |_,[]=>(h,[])
 |some e::I,.cS::vs=>(match nq (h.new (.bY e [] true)) I vs with| (h',A)=>(h',.hY h.next 0 true::A))
 |some e::I,.IL _ []::vs=>(match nq (h.new (.bY e [] true)) I vs with| (h',A)=>(h',.hY h.next 0 true::A))
 |_::I,v::vs=>(match nq h I vs with| (h',A)=>(h',v::A))
 | [],v::vs=>(h,v::vs)
def Lg (A:List (Option TypeId))(h:ai)(v:BV):ai×BV:=
 match A with
 | []=>(h,v)
 |_=>
  match v with
  | .tuple vs=>((nq h A vs).1,.tuple (nq h A vs).2)
  |v=>((nq h A [v]).1,(match (nq h A [v]).2 with| [u]=>u|_=>v))
def S9:∀(V:List (Option TypeId)) (vs:List BV) {h:ai},bq P g h w->(bq P g (nq h V vs).1 w/\mO g h w g (nq h V vs).1 w)/\∀A,ay P g w vs A->ay P g w (nq h V vs).2 A:=by
 intro V
 induction V with
 |nil=>
  intro vs h O
  cases vs with
  |nil=>exact⟨⟨O,mO.refl _ _ _⟩,fun _ h=>h⟩
  |cons v vs=>have:nq h [] (v::vs)=(h,v::vs):=(by cases v<;>first|rfl| (rename_i l;cases l<;>rfl));rw[this];exact⟨⟨O,mO.refl _ _ _⟩,fun _ h=>h⟩
 |cons t I ih=>
  intro vs h O
  cases vs with
  |nil=>cases t<;>exact⟨⟨O,mO.refl _ _ _⟩,fun _ h=>h⟩
  |cons v vs=>
   have plain:(bq P g (nq h I vs).1 w/\mO g h w g (nq h I vs).1 w)/\∀A,ay P g w (v::vs) A->ay P g w (v::(nq h I vs).2) A:=by obtain⟨Z,k2⟩:=ih vs O;refine⟨Z,fun A J=>?_⟩;simp only[ay]at J;obtain⟨u,ur,rfl,h1,h2⟩:=J;exact ay.cons h1 (k2 _ h2)
   cases t with
   |none=>have:nq h (none::I) (v::vs)=((nq h I vs).1,v::(nq h I vs).2):=(by cases v<;>first|rfl| (rename_i l;cases l<;>rfl));rw[this];exact plain
   |some e=>
    have seen:(∀U,aw P g w v U->U= .slice none 0 0\/∃a,U= .slice (some a) 0 0)->(bq P g (nq (h.new (.bY e [] true)) I vs).1 w/\mO g h w g (nq (h.new (.bY e [] true)) I vs).1 w)/\∀A,ay P g w (v::vs) A->ay P g w (.hY h.next 0 true::(nq (h.new (.bY e [] true)) I vs).2) A:=fun hz=>by obtain⟨Z,k2⟩:=O.V9 (.bY e [] true);obtain⟨m1,m2⟩:=ih vs Z;refine⟨⟨m1.1,k2.trans m1.2⟩,fun A J=>?_⟩;simp only[ay]at J;obtain⟨u,ur,rfl,h1,h2⟩:=J;refine ay.cons ?_ (m2 _ h2);simp only[aw];exact .inl ⟨⟨trivial,trivial⟩,hz _ h1⟩
    by_cases J:v= .cS
    ·subst J;exact seen fun U h1=>by simp only[aw]at h1;exact .inl h1
    by_cases hc:∃Y,v= .IL Y []
    ·obtain⟨Y,rfl⟩:=hc;refine seen fun U h1=>?_;simp only[aw]at h1;rcases h1 with h1| ⟨aS,off,h1,_⟩
     ·exact h1.2
     exact .inr ⟨_,h1⟩
    have:nq h (some e::I) (v::vs)=((nq h I vs).1,v::(nq h I vs).2):=by
     cases v<;>first|exact absurd rfl J|rfl|skip
     rename_i Y l
     cases l with
     |nil=>exact absurd ⟨Y,rfl⟩ hc
     |cons _ _=>rfl
    rw[this];exact plain
def agQ (I:List (Option TypeId))(v:BV)(V:bq P g h w):(bq P g (Lg I h v).1 w/\mO g h w g (Lg I h v).1 w)/\∀A,aw P g w v A->aw P g w (Lg I h v).2 A:=by
 have one:∀v:BV,(bq P g (nq h I [v]).1 w/\mO g h w g (nq h I [v]).1 w)/\∀A,aw P g w v A->aw P g w (match (nq h I [v]).2 with| [u]=>u|_=>v) A:=fun v=>by
  obtain⟨O,U⟩:=S9 I [v] V;refine⟨O,fun A J=>?_⟩;have:=U [A] (ay.cons J ay.nil)
  split
  ·rename_i u Z
   rw[Z]at this;obtain⟨x,hx,h1⟩:=this.one
   cases hx;exact h1
  exact J
 unfold Lg
 split
 ·exact⟨⟨V,mO.refl _ _ _⟩,fun _ h=>h⟩
 split
 ·rename_i vs
  obtain⟨O,U⟩:=S9 I vs V;refine⟨O,fun A J=>?_⟩;simp only[aw]at J ⊢;obtain⟨Y,rfl,J⟩:=J;exact⟨Y,rfl,U _ J⟩
 exact one v
def aeP (P:Program)(h:ai)(fz:List (Option TypeId))(v:BV):T (BV×List Nat):=
 match fz with
 | []=> .ret (v,[])
 |fz=>(match v with
  | .tuple vs=>(Hy P h fz vs).bind fun x=> .ret (.tuple x.1,x.2)
  |v=>(Hy P h fz [v]).bind fun x=>(match x.1 with| [u]=> .ret (u,x.2)|_=> .bT))
def aeQ (V:bq P g h w){fz:List (Option TypeId)}{v:BV}{x:BV×List Nat}(e:T.dV x (aeP P h fz v)):
 (∀b∈x.2,∃o,h.get b=some o/\o.nf=some o)/\∀A,aw P g w v A->aw P {g with fz:=BS g x.2} w x.1 A:=by
 have up:∀(bs:List Nat),iL g w {g with fz:=BS g bs} w:=fun bs=>⟨fun _ _ e=>e,fun _ e=> .inl e,fun _ _=>rfl,fun _ _ e=>e,fun _ _ _ e=>e⟩;have one:∀{v:BV} {x:BV×List Nat},T.dV x ((Hy P h fz [v]).bind fun x=>(match x.1 with| [u]=>(.ret (u,x.2):T (BV×List Nat))|_=> .bT))->(∀b∈x.2,∃o,h.get b=some o/\o.nf=some o)/\∀A,aw P g w v A->aw P {g with fz:=BS g x.2} w x.1 A:=fun {v x} e=>by
  obtain⟨y,U,e⟩:=T.ca e;obtain⟨J,O⟩:=LX V U
  split at e
  ·rename_i u Y
   rw[<-T.bD e];refine⟨J,fun A I=>?_⟩;have:=(O [A] (ay.cons I (by simp[ay]))).1;rw[Y]at this;obtain⟨Z,h1,h2⟩:=this.one
   cases h1
   exact h2
  exact(T.aP e).elim
 unfold aeP at e
 split at e
 ·rw[<-T.bD e];exact⟨fun b hb=>by simp at hb,fun A I=>aw.mono (up []) _ _ I⟩
 split at e
 ·obtain⟨y,U,e⟩:=T.ca e;rw[<-T.bD e];obtain⟨J,O⟩:=LX V U;refine⟨J,fun A I=>?_⟩;simp only[aw]at I ⊢;obtain⟨vs,rfl,I⟩:=I;exact⟨vs,rfl,(O _ I).1⟩
 exact one e
def aC.aaU {f:FuncId}{rs:List TypeId}{p:Nat}{R:D->T (BV×List (Nat×aE))}{Q:D->Prop}{s:av}(O fz:List (Option TypeId))(V:s.ended=true){v:BV}(hv:ab2 P f s=some v){z:BV×List Nat}(hz:T.dV z (aeP P s.h fz v)){x:BV×List (Nat×aE)}(hc:II p (Lg O (fH s.h z.2) z.1).1 (Lg O (fH s.h z.2) z.1).2=some x){d:D}(hR:T.dV x (R d))(hq:Q d):aC P f rs (.bK p R Q) s:=by
 intro c0 g0 w lb fr cs hs;obtain⟨rfl,hf,v',b6,a6⟩:=Sq V hv hs;obtain⟨j1,j2⟩:=aeQ hs.1 hz;obtain⟨b1,y2⟩:=hs.1.freeze j1;have a8:=j2 _ a6;generalize hg:({g0 with fz:=BS g0 z.2}:Gh)=g at*;have Y:Pin p g0 g:=by subst hg;exact⟨fun _ _ _ h=>h,fun _ _ _ _ h=>h⟩
 obtain⟨⟨r1,r2⟩,r3⟩:=agQ O z.1 b1;unfold II at hc
 split at hc
 ·rename_i seen b4
  generalize d0:jy 0 seen=A at hc
  split at hc
  ·rename_i L I a7
   cases hc
   simp only[amo]at I;obtain⟨⟨I,Z⟩,J⟩:=I;have J:=aok J;obtain⟨q1,q2,q3,q4,_⟩:=Cw r1 I (.inr ⟨J,rfl⟩) a7;have U:∀c,ru (ke g A p (mB (Lg O (fH s.h z.2) z.1).1 p A.length A)) (hL L) c->ru g (Lg O (fH s.h z.2) z.1).1 c:=fun c hc=>by obtain⟨a,o,aD,j1,j2,_⟩:=q3 c hc;exact⟨a,o,aD,j1,j2⟩
   refine⟨w,fr,.returned v',ke g A p (mB (Lg O (fH s.h z.2) z.1).1 p A.length A),hL L,Steps.refl _ _,hf,b6,.DW (y2.trans r2) ⟨amG _,fun _ _ _=>rfl,fun _ h=>h,fun _ _ h=> .inl h,r1.oU,fun c _ ho=>U c ho,fun _ _ h=>h,rfl,rfl,rfl⟩,?_,d,_,hR,rfl,q2,.ret (aw.sub q1 _ _ (r3 _ a8)),hq⟩;have:=IJ (fams:=mB (Lg O (fH s.h z.2) z.1).1 p A.length A) r1 (amG p) I Z;exact⟨fun i hi x hx=>this.1 i hi x (Y.1 i hi x hx),fun i hi k x hx=>this.2 i hi k x (Y.2 i hi k x hx)⟩
  cases hc
 cases hc
end
end
end
section
noncomputable section
inductive RT where
 |bz (s:av)
 |CT (s:av)
 |ret (d:D)
 |aT (v:BV) (L:List (Nat×aE))
 |bT
 |ite (c:Bool) (t e:RT)
 |pick (ks seen:List D) (e:RT) (k:D->RT)
 |Lk (t e:RT)
 |same (u v:BV) (t:RT)
 |V7 (c b:Bool) (t:RT)
 |call (f:FuncId) (ds:List D) (k:D->RT)
 |au (f:FuncId) (ags:List BV) (L:List (Nat×aE)) (p:Nat) (k:D->RT)
 |KY (k:FuncId) (t:TypeId) (n:Int) (e:TypeId) (r:RT)
def T.rt {α:Type}:T α->(α->RT)->RT
 | .ret a,k=>k a
 | .bT,_=> .bT
 | .ite c t e,k=> .ite c (T.rt t k) (T.rt e k)
 | .same u v t,k=> .same u v (T.rt t k)
abbrev akw:=List (FuncId×List TypeId×List TypeId)
def EF:akw->FuncId->Option (List TypeId×List TypeId)
 | [],_=>none
 | (g,A,rs)::r,f=>match Nat.beq g f with|true=>some (A,rs)|false=>EF r f
abbrev RH:=List BV->List (Nat×aE)->D->T (BV×List (Nat×aE))
abbrev aiO:=List (FuncId×RH)
def rp:aiO->FuncId->Option RH
 | [],_=>none
 | (g,R)::r,f=>match Nat.beq g f with|true=>some R|false=>rp r f
def ai9 {α:Type}:Option α->Bool
 |some _=>true
 |none=>false
def P1 (s:av):Option av:=
 match s with
 | ⟨⟨fn,dw,todo,ds,mode,kind,ro⟩,cs,h⟩=>
   match mode,todo with
   | .run,.inLoop body::k=>some ⟨⟨fn,dw,.code body:: .inLoop body::k,ds,.run,kind,ro⟩,cs,h⟩
   | .run,.code (.loop body)::k=>some ⟨⟨fn,dw,.code body:: .inLoop body::k,ds,.run,kind,ro⟩,cs,h⟩
   |_,_=>none
structure cK where
 f:FuncId:=0
 rs:List TypeId:=[]
 bK:Option Nat:=none
 cj:akw:=[]
 bJ:aiO:=[]
 bB:List Jo:=[]
 yd:Jw:=[]
 PU:List (FuncId×List (Option TypeId)):=[]
 Ot:Jw:=[]
 Eb:List (Option TypeId):=[]
 fzr:List (Option TypeId):=[]
 fzq:List (Nat×TypeId×Nat×TypeId):=[]
 abU:List Jo:=[]
 pns:List (FuncId×Nat):=[]
def aib:List (FuncId×Nat)->FuncId->Nat->Nat
 | [],_,n=>n
 | (g,m)::r,f,n=>match Nat.beq g f with|true=>m|false=>aib r f n
def ai1:List (FuncId×List (Option TypeId))->FuncId->List (Option TypeId)
 | [],_=>[]
 | (g,R)::r,f=>match Nat.beq g f with|true=>R|false=>ai1 r f
def ahq {α:Type}:List (Nat×α)->av->List α
 | [],_=>[]
 | (m,x)::r,s=>match Nat.beq m (Nat.add (abu s.fr.todo) (Nat.mul 4096 s.fr.todo.length))with|true=>x::ahq r s|false=>ahq r s
def cK.p (C:cK):Nat:=match C.bK with|some p=>p|none=>0
def akH (p:Nat)(l:List Jo)(s:av):Option av:=
 match l with
 | []=>none
 |l=>(match s.fr.todo with| .code _::_=>aet p l s|_=>none)
def aeE (P:Program)(C:cK)(p:Nat)(s:av):RT:=
 match s.ended,ab2 P C.f s with
 |true,some v=>(aeP P s.h C.fzr v).rt fun z=>(match II p (Lg C.Eb (fH s.h z.2) z.1).1 (Lg C.Eb (fH s.h z.2) z.1).2 with|some x=> .aT x.1 x.2|none=> .bT)
 |_,_=> .bT
def goH (P:Program)(C:cK)(K:av->RT)(R:RH)(g:FuncId)(ags:List BV)(fr:bE)(cs:List bE)(h:ai):RT:=
 (match BZ h 300 (EK ags) []with
   |some seen=>(match By 0 (jy 0 seen).length [] [] (jy 0 seen),HA (He h 0 0 (jy 0 seen)) h (jy 0 seen)with
    |true,some L=> .au g (oq (He h 0 0 (jy 0 seen)) ags) L (aib C.pns g (Ou (Sx h 100 (aeT (FA (EK ags))) []) seen)) fun d=>
      (R (oq (He h 0 0 (jy 0 seen)) ags) L d).rt fun x=>
      (match To h (jy 0 seen) seen (aib C.pns g (Ou (Sx h 100 (aeT (FA (EK ags))) []) seen)) x.2 with
      |some h2=>(match x.1.Sz with
       |true=>(match aee P C.f fr cs,C.bK with
        |true,some p=>(match II p h2 x.1 with|some y=> .aT y.1 y.2|none=> .bT)
        |false,some p=>(match x.1 with
         | .nX t n=>(match aiv P C.f n h2 fr cs with|some (k,e,s')=> .KY k t n e (aeE P C p s')|none=> .bT)
         |_=> .bT)
        |_,_=> .bT)
       |false=>(uo P fr (vC (RV h (jy 0 seen) (aib C.pns g (Ou (Sx h 100 (aeT (FA (EK ags))) []) seen))) x.1) h2).rt fun r=>K ⟨r.1,cs,r.2⟩)
      |none=> .bT)
    |_,_=> .bT)
   |none=> .bT)
def ajL (P:Program)(C:cK)(K:av->RT):Nx->RT
 | .pick ks seen s0 k=> .pick ks seen (K s0) fun d=>K (k d)
 | .Lk s1 s2=> .Lk (K s1) (K s2)
 | .st s=>
   (match (RO C.yd s).ended with
   |true=>(match ab2 P C.f (RO C.yd s)with
    |some v=>(match C.bK with
     |none=>(ahm P (RO C.yd s).h C.rs v).rt fun x=> .ret x.1
     |some p=>(aeP P (RO C.yd s).h C.fzr v).rt fun z=>(match II p (Lg C.Eb (fH (RO C.yd s).h z.2) z.1).1 (Lg C.Eb (fH (RO C.yd s).h z.2) z.1).2 with|some x=> .aT x.1 x.2|none=> .bT))
    |none=> .bT)
   |false=>(match P1 s with
    |some s1=>(match aet C.p C.bB (RO C.yd s1)with|some s2=> .bz s2|none=>K s1)
    |none=>(aeS P (C.Ot++ahq C.fzq s) (RO C.yd s)).rt fun A=>(match akH C.p C.abU A with
     |some s2=> .bz s2
     |none=>K A)))
 | .call g ags fr cs h=>
   (match EF C.cj g with
   |some (I,rs)=>(M7 P h I ags).rt fun x=>
     (match rs.all (GZ P)with
     |true=> .call g x.1 fun d=>(uo P fr (K0 P rs d) h).rt fun r=>K ⟨r.1,cs,r.2⟩
     |false=> .call g x.1 fun d=>(uo P fr (K0 P rs d) (fH h x.2)).rt fun r=>K ⟨r.1,cs,r.2⟩)
   |none=>(match rp C.bJ g with
    |some R=>(Hy P h (ai1 C.PU g) ags).rt fun z=>goH P C K R g z.1 fr cs (fH h z.2)
    |none=> .bT))
def runT (P:Program)(C:cK):Nat->av->RT
 |0,s=> .CT s
 |n+1,s=>(agG P (fun g=>ai9 (EF C.cj g)||ai9 (rp C.bJ g)) s).rt (ajL P C (runT P C n))
def rk (P:Program)(C:cK)(G:vJ):RT->Prop
 | .bz s=>aC P C.f C.rs G s
 | .CT s=>aC P C.f C.rs G s
 | .ret d=>(match G with| .cY Q=>Q d| .bK _ _ _=>False)
 | .aT v L=>(match G with| .cY _=>False| .bK p R Q=>C.bK=some p/\∃d,T.dV (v,L) (R d)/\Q d)
 | .bT=>False
 | .ite c t e=>(c=true->rk P C G t)/\(c=false->rk P C G e)
 | .pick ks seen e k=>((∀d,d∈ks->d∈seen)->rk P C G e)/\∀d,d∈ks->d∉seen->rk P C G (k d)
 | .Lk t e=>rk P C G t/\rk P C G e
 | .same u v t=>u=v/\rk P C G t
 | .V7 c b t=>c=b/\rk P C G t
 | .call g ds k=>∃I rs A,EF C.cj g=some (I,rs)/\dZ P g I ds rs A/\∀d,A d->rk P C G (k d)
 | .au g ags L p k=>∃R A,rp C.bJ g=some R/\xm P g ags L p (R ags L) A/\∀d,A d->rk P C G (k d)
 | .KY k t n e r=>U7 P k t n e/\rk P C G r
section
variable {P:Program} {C:cK} {G:vJ}
def RT.FJ {α:Type}{k:α->RT}:∀{t:T α},rk P C G (T.rt t k)->∃a,T.dV a t/\rk P C G (k a):=by
 intro t
 induction t with
 |ret a=>intro h;exact⟨a,.ret,h⟩
 |bT=>intro h;exact h.elim
 |ite c t e I A=>
  intro h
  cases c with
  |true=>obtain⟨a,h1,h2⟩:=I (h.1 rfl);exact⟨a,.tt rfl h1,h2⟩
  |false=>obtain⟨a,h1,h2⟩:=A (h.2 rfl);exact⟨a,.ff rfl h1,h2⟩
 |same u v t J=>intro h;obtain⟨a,h1,h2⟩:=J h.2;exact⟨a,.same h.1 h1,h2⟩
def Hz {s s1:av}(e:P1 s=some s1):fX P s=some s1:=by
 obtain⟨⟨fn,dw,todo,ds,mode,kind,ro⟩,cs,h⟩:=s;unfold P1 at e;dsimp only at e
 split at e
 ·cases e;rfl
 ·cases e;rfl
 cases e
def aeF {p:Nat}{s:av}(I:C.bK=some p)(h:rk P C G (aeE P C p s)):aC P C.f C.rs G s:=by
 unfold aeE at h
 split at h
 ·rename_i v A U
  obtain⟨z,Z,h2⟩:=RT.FJ h
  split at h2
  ·rename_i x O
   cases G with
   |cY Q=>exact h2.elim
   |bK p' R Q=>obtain⟨J,d,V,Y⟩:=h2;rw[I]at J;cases J;exact aC.aaU C.Eb C.fzr A U Z O V Y
  exact h2.elim
 exact h.elim
def aiy (A:P.follows .mixedOrders=true)(hp:G.p<=C.p):∀(n:Nat) {s:av},rk P C G (runT P C n s)->aC P C.f C.rs G s:=by
 intro n
 induction n with
 |zero=>intro s h;exact h
 |succ n V=>
  intro s h;obtain⟨nx,h1,h2⟩:=RT.FJ h;rcases adE h1 with hg| ⟨ks,seen,s0,k,rfl,d4⟩| ⟨s1,s2,rfl,d0⟩
  case inr.inl=>exact aC.pick d4 (fun h=>V (h2.1 h)) (fun d h3 h4=>V (h2.2 d h3 h4))
  case inr.inr=>exact aC.Lk d0 (V h2.1) (V h2.2)
  cases nx with
  |pick ks seen s0 k=>exact hg.elim
  |Lk s1 s2=>exact hg.elim
  |st s1=>
   refine aC.step A hg ?_;unfold ajL at h2;dsimp only at h2
   split at h2
   ·rename_i Z
    refine aC.wid C.yd ?_
    split at h2
    ·rename_i v hv
     split at h2
     ·obtain⟨x,hx,hq⟩:=RT.FJ h2
      cases G with
      |cY Q=>exact aC.ended Z hv hx hq
      |bK p R Q=>exact hq.elim
     rename_i p O
     obtain⟨z,hz,h2⟩:=RT.FJ h2
     split at h2
     ·rename_i x hx
      cases G with
      |cY Q=>exact h2.elim
      |bK p' R Q=>obtain⟨h3,d,h4,U⟩:=h2;rw[O]at h3;cases h3;exact aC.aaU C.Eb C.fzr Z hv hz hx h4 U
     exact h2.elim
    exact h2.elim
   split at h2
   ·rename_i s2 hl
    split at h2
    ·rename_i s3 hc
     exact aC.step A (Hz hl) (aC.wid C.yd (aaN P C.p C.bB _ _ _ _ _ hp hc h2))
    exact aC.step A (Hz hl) (V h2)
   obtain⟨s5,I,U⟩:=RT.FJ h2;refine aC.wid C.yd (aC.alW (C.Ot++ahq C.fzq _) I ?_)
   split at U
   ·rename_i s3 hc
    unfold akH at hc
    split at hc
    ·cases hc
    split at hc
    ·exact aaN P C.p _ _ _ _ _ _ hp hc U
    cases hc
   exact V U
  |call g ags fr cs h0=>
   unfold ajL at h2;dsimp only at h2
   split at h2
   ·rename_i ts rs J
    obtain⟨x,hx,h3⟩:=RT.FJ h2
    split at h3
    ·rename_i b6
     obtain⟨a8,b1,Q',k1,k2,k3⟩:=h3;rw[J]at k1;cases k1;exact aC.call A hg hx k2 true (fun _=>b6) fun d hd=>by obtain⟨r,hr,U⟩:=RT.FJ (k3 d hd);exact⟨r,hr,V U⟩
    obtain⟨a8,b1,Q',k1,k2,k3⟩:=h3;rw[J]at k1;cases k1;exact aC.call A hg hx k2 false (fun hc=>by cases hc) fun d hd=>by obtain⟨r,hr,U⟩:=RT.FJ (k3 d hd);exact⟨r,hr,V U⟩
   split at h2
   ·rename_i R J
    obtain⟨z,hz,h2⟩:=RT.FJ h2;unfold goH at h2
    split at h2
    ·rename_i seen a6
     split at h2
     ·rename_i L b4 d2
      obtain⟨R',Q',k1,k2,k3⟩:=h2;rw[J]at k1;cases k1;exact aC.akD A hg hz rfl rfl a6 b4 d2 k2 fun d hd=>by
       obtain⟨x,hx,I⟩:=RT.FJ (k3 d hd)
       split at I
       ·rename_i hb d5
        refine⟨x,hb,hx,d5,?_⟩
        split at I
        ·rename_i Y
         split at I
         ·rename_i p a7 O
          split at I
          ·rename_i y hc
           cases G with
           |cY Q=>exact I.elim
           |bK p' R Q=>obtain⟨h7,d',h8,h9⟩:=I;rw[O]at h7;cases h7;exact .inr (.inl ⟨Y,a7,agW.afu Y hc h8 h9⟩)
          exact I.elim
         ·rename_i p a7 O
          split at I
          ·rename_i t n d3
           split at I
           ·rename_i k e s' d1
            exact .inr (.inr ⟨t,n,k,e,s',d3,d1,I.1,aeF O I.2⟩)
           exact I.elim
          exact I.elim
         exact I.elim
        rename_i Y
        obtain⟨r,hr,U⟩:=RT.FJ I;exact .inl ⟨Y,r,hr,V U⟩
       exact I.elim
     exact h2.elim
    exact h2.elim
   exact h2.elim
end
section
variable {P:Program} {C:cK} {G:vJ}
end
section
variable {P:Program} {C:cK} {G:vJ}
def RT.okI {c:Bool}{t e:RT}(h1:c=true->rk P C G t)(h2:c=false->rk P C G e):rk P C G (.ite c t e):=⟨h1,h2⟩
def RT.okM {c b:Bool}{t:RT}(h:c=b)(k:rk P C G t):rk P C G (.V7 c b t):=⟨h,k⟩
end
def aiX:Nat->List (Nat×BV)->List BV
 |0,_=>[]
 |n+1,l=>aiX n l++[match l.find? (fun p=>Nat.beq p.1 n)with|some p=>p.2|none=> .qd]
def M1:Nat->Nat->Code->List ig->List ig
 |0,_,_,k=>k
 |f+1,n,c,k=>
  match Nat.ble n 1 with
  |true=> .code c::k
  |false=>
   match c with
   | .seq a b=>(match Nat.beq (Nat.mod n 2) 0 with|true=>M1 f (Nat.div n 2) a (.code b::k)|false=>M1 f (Nat.div n 2) b k)
   | .cond _ a b=>(match Nat.beq (Nat.mod n 2) 0 with|true=>M1 f (Nat.div n 2) a k|false=>M1 f (Nat.div n 2) b k)
   | .block id b=>M1 f (Nat.div n 2) b (.inBlock id::k)
   | .loop b=>M1 f (Nat.div n 2) b (.inLoop b::k)
   | .scope b=>M1 f (Nat.div n 2) b (.inScope b::k)
   |c=> .code c::k
def akB (P:Program)(f:FuncId):Code:=match P.funcs[f]? with|some fn=>(match fn.body with|some c=>c|none=> .skip)|none=> .skip
def ai2 (P:Program)(f:FuncId)(A:Nat)(dw:List (Nat×BV))(L:List (Nat×aE)):av:=
 match P.funcs[f]? with
 |some fn=>⟨⟨f,aiX fn.ntmps dw,M1 200 A (akB P f) [],[],.run,.normal,none⟩,[],hL L⟩
 |none=>⟨default,[],hL L⟩
end
end
section
section
variable {P:Program} {w:World}
def Tn {fz:Nat->Prop}{t:TypeId}{d:D}{v:Value}(hd:cZ P t=true)(A:jw P t=some false)(h:qk P fz w t d [v]):aw P ⟨fun _=>none,fz,fun _ _=>none⟩ w (de P t d) v:=by
 have:=qk.shape (g:=⟨fun _=>none,fz,fun _ _=>none⟩) hd h;simp only[de,A]
 split
 ·rename_i y I;rw[I]at this;obtain⟨u,J,h1⟩:=this.one;cases J;exact h1
 simp only[aw]
end
end
section
def alz (S:TypeId->D->D):List Field->Nat->D->List D
 | [],_,_=>[]
 |f::r,i,d=>S f.type (d.af i)::alz S r (i+1) d
def reF (P:Program):Nat->TypeId->D->D
 |0,_,_=> .z 0
 |n+1,t,d=>
  match P.underlying t with
  |some (.int _)=> .z d.int
  |some .bool=> .b d.bool
  |some .string=> .s d.ax
  |some (.slice _)=> .r d.ae
  |some (.struct fs)=> .r (alz (reF P n) fs.toList 0 d)
  |_=> .z 0
def dE (P:Program)(t:TypeId)(d:D):D:=reF P 8 t d
inductive Can (P:Program):TypeId->D->Prop where
 |int {t:TypeId} {k:IntKind} {n:Int} (h:P.underlying t=some (.int k)) (h1:k.min<=n) (h2:n<=k.max):Can P t (.z n)
 |bool {t:TypeId} {b:Bool} (h:P.underlying t=some .bool):Can P t (.b b)
 |ax {t:TypeId} {s:List UInt8} (h:P.underlying t=some .string) (hs:s.length<=maxLen):Can P t (.s s)
 |slice {t e:TypeId} {l:List D} (h:P.underlying t=some (.slice e)) (hl:l.length<=maxLen) (hi:∀x,x∈l->Can P e x):Can P t (.r l)
 |struct {t:TypeId} {fs:Array Field} {l:List D} (h:P.underlying t=some (.struct fs)) (hl:l.length=fs.size) (hi:∀i f,fs.toList[i]?=some f->Can P f.type (D.at l i)):Can P t (.r l)
section
variable {P:Program}
def Can.Z7 {t:TypeId}{fs:Array Field}{d:D}(A:P.underlying t=some (.struct fs))(h:Can P t d):d= .r d.ae/\d.ae.length=fs.size/\∀i f,fs.toList[i]?=some f->Can P f.type (d.af i):=by
 cases h with
 |int h h1 h2=>rw[A]at h;cases h
 |bool h=>rw[A]at h;cases h
 |ax h hs=>rw[A]at h;cases h
 |slice h hl hi=>rw[A]at h;cases h
 |struct h hl hi=>rw[A]at h;cases h;exact⟨rfl,hl,hi⟩
def Can.af {t u:TypeId}{fs:Array Field}{d:D}{i:Nat}{f:Field}(A:P.underlying t=some (.struct fs))(hf:fs.toList[i]?=some f)(ht:f.type=u)(h:Can P t d):Can P u (d.af i):=by
 subst ht;exact(h.Z7 A).2.2 i f hf
end
@[simp] def D.bu (n:Int):D.int (.z n)=n:=by cases n<;>rfl
@[simp] def D.bV (n:Bool):D.bool (.b n)=n:=by cases n<;>rfl
@[simp] def D.dS (n:List UInt8):D.ax (.s n)=n:=by cases n<;>rfl
@[simp] def D.aK (n:List D):D.ae (.r n)=n:=by cases n<;>rfl
inductive vK where
 |all
 |iy (l r:vK)
 |NH (i:Nat) (neg:Bool) (o:vK)
 |no (i:Nat) (neg:Bool) (o:vK)
 |lit (o:vK)
 |sm (o:vK)
def vK.ls (o:vK):Nat->vK
 |0=>o
 |n+1=> .lit (vK.ls o n)
def vK.ys (o:vK)(i:Nat):Nat->vK
 |0=>o
 |n+1=> .NH i false (vK.ys o i n)
def vK.ns (o:vK)(i:Nat):Nat->vK
 |0=>o
 |n+1=> .no i false (vK.ns o i n)
def PZ (A:List (Bool×Bool))(i:Nat)(neg:Bool):Bool×Bool:=
 match neg with
 |false=>A.getD i (true,true)
 |true=>(!(A.getD i (true,true)).1,!(A.getD i (true,true)).2)
def RT.pr:vK->RT->RT
 | .iy a b,.ite c t e=> .ite c (RT.pr a t) (RT.pr b e)
 | .NH _ _ o,.ite _ t _=>RT.pr o t
 | .no _ _ o,.ite _ _ e=>RT.pr o e
 | .lit o,.ite c t e=>(match c with|true=>RT.pr o t|false=>RT.pr o e)
 | .iy a b,.pick ks seen e k=> .pick ks seen (RT.pr a e) fun d=>RT.pr b (k d)
 | .iy a b,.Lk t e=> .Lk (RT.pr a t) (RT.pr b e)
 | .sm o,.same u v t=>RT.pr o t
 |o,.same u v t=> .same u v (RT.pr o t)
 |o,.call f ds k=> .call f ds fun d=>RT.pr o (k d)
 |o,.au f ags L p k=> .au f ags L p fun d=>RT.pr o (k d)
 |_,t=>t
def RT.EP:vK->RT->RT
 | .iy a b,.ite c t e=> .ite c (RT.EP a t) (RT.EP b e)
 | .NH _ _ o,.ite c t _=> .V7 c true (RT.EP o t)
 | .no _ _ o,.ite c _ e=> .V7 c false (RT.EP o e)
 | .lit o,.ite c t e=>(match c with|true=>RT.EP o t|false=>RT.EP o e)
 | .iy a b,.pick ks seen e k=> .pick ks seen (RT.EP a e) fun d=>RT.EP b (k d)
 | .iy a b,.Lk t e=> .Lk (RT.EP a t) (RT.EP b e)
 | .sm o,.same u v t=> .same u v (RT.EP o t)
 |o,.same u v t=> .same u v (RT.EP o t)
 |o,.call f ds k=> .call f ds fun d=>RT.EP o (k d)
 |o,.au f ags L p k=> .au f ags L p fun d=>RT.EP o (k d)
 |_,t=>t
def RT.EO:vK->List (Bool×Bool)->RT->RT
 | .iy a b,A,.ite c t e=> .ite c (RT.EO a ((c,true)::A) t) (RT.EO b ((c,false)::A) e)
 | .NH i neg o,A,.ite _ t _=> .V7 (PZ A i neg).1 (PZ A i neg).2 (RT.EO o A t)
 | .no i neg o,A,.ite _ _ e=> .V7 (PZ A i neg).1 (PZ A i neg).2 (RT.EO o A e)
 | .lit o,A,.ite c t e=>(match c with|true=>RT.EO o A t|false=>RT.EO o A e)
 | .iy a b,A,.pick ks seen e k=> .pick ks seen (RT.EO a A e) fun d=>RT.EO b A (k d)
 | .iy a b,A,.Lk t e=> .Lk (RT.EO a A t) (RT.EO b A e)
 | .sm o,A,.same u _ t=> .same u u (RT.EO o A t)
 |o,A,.same u v t=> .same u v (RT.EO o A t)
 |o,A,.call f ds k=> .call f ds fun d=>RT.EO o A (k d)
 |o,A,.au f ags L p k=> .au f ags L p fun d=>RT.EO o A (k d)
 |_,_,t=>t
section
variable {P:Program} {C:cK} {G:vJ}
def VR {A:List (Bool×Bool)}(I:∀p∈A,p.1=p.2)(i:Nat)(neg:Bool):(PZ A i neg).1=(PZ A i neg).2:=by
 have h:(A.getD i (true,true)).1=(A.getD i (true,true)).2:=by
  simp only[List.getD]
  cases hi:A[i]? with
  |none=>rfl
  |some p=>exact I p (amn hi)
 cases neg with
 |false=>exact h
 |true=>simp only[PZ,h]
def RT.alx:∀(t:RT) (o:vK) (A:List (Bool×Bool)),(∀p∈A,p.1=p.2)->RT.EP o t=RT.EO o A t->rk P C G (RT.pr o t)->rk P C G t:=by
 intro t
 induction t with
 |ite c t e U O=>
  intro o A J I h
  cases o with
  |all=>simpa only[RT.pr]using h
  |sm o=>simpa only[RT.pr]using h
  |iy a b=>simp only[RT.pr,RT.EP,RT.EO,rk,RT.ite.injEq,am1]at h I ⊢;exact⟨fun hc=>U _ _ (fun p hp=>by rcases amz.1 hp with rfl|hp;exact hc;exact J p hp) I.1 (h.1 hc),fun hc=>O _ _ (fun p hp=>by rcases amz.1 hp with rfl|hp;exact hc;exact J p hp) I.2 (h.2 hc)⟩
  |NH i neg o=>simp only[RT.pr,RT.EP,RT.EO,rk,RT.V7.injEq]at h I ⊢;have Y:=VR J i neg;rw[<-I.1,<-I.2.1]at Y;exact⟨fun _=>U _ _ J I.2.2 h,fun hc=>by rw[Y]at hc;cases hc⟩
  |no i neg o=>simp only[RT.pr,RT.EP,RT.EO,rk,RT.V7.injEq]at h I ⊢;have Y:=VR J i neg;rw[<-I.1,<-I.2.1]at Y;exact⟨fun hc=>(by rw[Y]at hc;cases hc),fun _=>O _ _ J I.2.2 h⟩
  |lit o=>
   cases c with
   |true=>simp only[RT.pr,RT.EP,RT.EO]at h I;exact RT.okI (fun _=>U _ _ J I h) (fun hc=>by cases hc)
   |false=>simp only[RT.pr,RT.EP,RT.EO]at h I;exact RT.okI (fun hc=>by cases hc) (fun _=>O _ _ J I h)
 |pick ks seen e k O a6=>
  intro o A J I h
  cases o with
  |iy a b=>simp only[RT.pr,RT.EP,RT.EO,rk,RT.pick.injEq,am1]at h I ⊢;exact⟨fun hc=>O _ _ J I.1 (h.1 hc),fun d Z h4=>a6 d _ _ J (aqj I.2 d) (h.2 d Z h4)⟩
  |_=>simpa only[RT.pr]using h
 |Lk t e U O=>
  intro o A J I h
  cases o with
  |iy a b=>simp only[RT.pr,RT.EP,RT.EO,rk,RT.Lk.injEq]at h I ⊢;exact⟨U _ _ J I.1 h.1,O _ _ J I.2 h.2⟩
  |_=>simpa only[RT.pr]using h
 |same u v t V=>
  intro o A J I h
  by_cases ho:∃o',o= .sm o'
  ·obtain⟨o',rfl⟩:=ho;simp only[RT.pr,RT.EP,RT.EO,RT.same.injEq,am1]at h I;simp only[rk];exact⟨I.1.symm,V _ _ J I.2 h⟩
  have h:rk P C G (.same u v (RT.pr o t)):=by cases o<;>first|exact absurd ⟨_,rfl⟩ ho|simpa only[RT.pr]using h
  have I:RT.same u v (RT.EP o t)= .same u v (RT.EO o A t):=by cases o<;>first|exact absurd ⟨_,rfl⟩ ho|simpa only[RT.EP,RT.EO]using I
  simp only[RT.same.injEq,am1]at I;simp only[rk]at h ⊢;exact⟨h.1,V _ _ J I h.2⟩
 |call f ds k V=>
  intro o A J I h;have h:rk P C G (.call f ds fun d=>RT.pr o (k d)):=by cases o<;>simpa only[RT.pr]using h
  have I:(RT.call f ds fun d=>RT.EP o (k d))= .call f ds fun d=>RT.EO o A (k d):=by cases o<;>simpa only[RT.EP,RT.EO]using I
  simp only[RT.call.injEq,am1]at I;simp only[rk]at h ⊢;obtain⟨ts,rs,Q',h1,h2,Z⟩:=h;exact⟨ts,rs,Q',h1,h2,fun d hd=>V d _ _ J (aqj I d) (Z d hd)⟩
 |au f ags L p k V=>
  intro o A J I h;have h:rk P C G (.au f ags L p fun d=>RT.pr o (k d)):=by cases o<;>simpa only[RT.pr]using h
  have I:(RT.au f ags L p fun d=>RT.EP o (k d))= .au f ags L p fun d=>RT.EO o A (k d):=by cases o<;>simpa only[RT.EP,RT.EO]using I
  simp only[RT.au.injEq,am1]at I;simp only[rk]at h ⊢;obtain⟨R,Q',h1,h2,Z⟩:=h;exact⟨R,Q',h1,h2,fun d hd=>V d _ _ J (aqj I d) (Z d hd)⟩
 |_=>intro o A J I h;cases o<;>simpa only[RT.pr]using h
def aC.om (A:P.follows .mixedOrders=true)(hp:G.p<=C.p)(n:Nat){s:av}(o:vK){t:RT}(I:RT.EP o (runT P C n s)=RT.EO o [] (runT P C n s))(e:RT.pr o (runT P C n s)=t)(h:rk P C G t):aC P C.f C.rs G s:=
 aiy A hp n (RT.alx _ o [] (fun p hp=>by cases hp) I (by rw[e];exact h))
def dZ.om (A:P.follows .mixedOrders=true){Q:D->Prop}(n:Nat){I:List TypeId}{ds:List D}(o:vK){t:RT}(O:(fj P C.f (AB P I ds) .normal).isSome=true)
 (U:RT.EP o (runT P C n ⟨(fj P C.f (AB P I ds) .normal).getD default,[],hS⟩)=RT.EO o [] (runT P C n ⟨(fj P C.f (AB P I ds) .normal).getD default,[],hS⟩))
 (e:RT.pr o (runT P C n ⟨(fj P C.f (AB P I ds) .normal).getD default,[],hS⟩)=t)(h:rk P C (.cY Q) t):dZ P C.f I ds C.rs Q:=by
 obtain⟨fr,J⟩:=amR.1 O;rw[J]at e U;exact dZ.y9 J (aC.om A (anX _) n o U e h)
def xm.om (A:P.follows .mixedOrders=true){Q:D->Prop}(n:Nat){p:Nat}{ags:List BV}{L:List (Nat×aE)}{R:D->T (BV×List (Nat×aE))}(o:vK){t:RT}(hp:C.bK=some p)(J:(fj P C.f ags .normal).isSome=true)
 (O:RT.EP o (runT P C n ⟨(fj P C.f ags .normal).getD default,[],hL L⟩)=RT.EO o [] (runT P C n ⟨(fj P C.f ags .normal).getD default,[],hL L⟩))
 (e:RT.pr o (runT P C n ⟨(fj P C.f ags .normal).getD default,[],hL L⟩)=t)(h:rk P C (.bK p R Q) t):xm P C.f ags L p R Q:=by
 obtain⟨fr,I⟩:=amR.1 J;rw[I]at e O;exact xm.y9 I (aC.om A (by simp[vJ.p,cK.p,hp]) n o O e h)
end
def oS (d:D):List (D×D):=d.ae.map fun e=>(e.af 0,e.af 1)
def pC (d:D):List Nat:=d.ae.map fun e=>e.int.toNat
def pB (d:D):Nat:=d.int.toNat
def VB (m:List (D×D)):D:= .r (m.map fun p=> .r [p.1,p.2])
def VC (m:List Nat):D:= .r (m.map fun p:Nat=> .z (p:Int))
@[simp] def xr (m:List (D×D)):oS (VB m)=m:=by
 unfold oS VB;simp only[D.ae,apF]
 conv=>rhs;rw[<-aqf m]
 apply aoO;intro p _;rfl
@[simp] def JQ (m:List Nat):pC (VC m)=m:=by
 unfold pC VC;simp only[D.ae,apF]
 conv=>rhs;rw[<-aqf m]
 apply aoO;intro p _;simp[D.int]
@[simp] def JP (n:Nat):pB (.z n)=n:=by simp[pB,D.int]
end
end Go.PB
end
