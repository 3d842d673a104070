import Derived.Laws.Strings
import Derived.Test.YtpanfgalkajgdaaGreatM1
set_option linter.all false
noncomputable section
namespace Go.PB
open Go
section
section
variable {P:Program} {g:Gh} {h:ai} {w:World}
def we {x:Option BV}{A:Option Value}{r:Option Nat}(J:(x=none/\A=none)\/∃b v,x=some b/\A=some v/\aw P g w b v)(e:mS x=some r):
 (x=none/\A=none/\r=none)\/∃k i,A=some (.int k i)/\0<=i/\r=some i.toNat:=by
 rcases J with ⟨rfl,rfl⟩| ⟨b,v,rfl,rfl,I⟩
 ·simp[mS]at e;exact .inl ⟨rfl,rfl,e.symm⟩
 right
 cases b with
 |int k i=>
  simp only[aw]at I;subst I;simp only[mS]at e
  split at e
  ·cases e
  cases e;exact⟨k,i,rfl,by omega,rfl⟩
 |_=>simp[mS]at e
def AF (P:Program)(g:Gh)(w:World)(x:Option BV)(A:Option Value):Prop:=(x=none/\A=none)\/∃b v,x=some b/\A=some v/\aw P g w b v
def vA {k:IntKind}{i:Int}{y:Nat}{code:BoundsCode}(h0:0<=i)(h1:i.toNat<=y):(Instr.sliceBound (.int k i) y code).run P w= .ok i.toNat w:=by
 simp only[Instr.sliceBound,Sem.run_bind,AI,Result.andThen_ok];rw[amu ⟨h0,by omega⟩];rfl
def D5 {lo:Option BV}{A:Option Value}{l:Option Nat}(J:AF P g w lo A)(el:mS lo=some l)(I mm:Nat)(code:BoundsCode)(U:l.getD 0<=I):
 ((match (generalizing:=false) A with
   |some v=>do
    let l<-Instr.sliceBound v I code
    pure (l,I,mm)
   |none=>do
    let l<-pure 0
    pure (l,I,mm)):Sem (Nat×Nat×Nat)).run P w= .ok (l.getD 0,I,mm) w:=by
 rcases we J el with ⟨_,rfl,rfl⟩| ⟨k,i,rfl,O,rfl⟩
 ·rfl
 simp only[Sem.run_bind];rw[vA O U];rfl
def EE {isS:Bool}{len cap:Nat}{lo hi mx:Option BV}{O U mx':Option Value}{l h' m:Option Nat}(A:AF P g w lo O)(J:AF P g w hi U)(Z:AF P g w mx mx')
 (el:mS lo=some l)(eh:mS hi=some h')(em:mS mx=some m)(c1:m.getD cap<=cap)(c2:h'.getD len<=m.getD cap)(V:l.getD 0<=h'.getD len)(c4:m.isNone||h'.isSome):
 (Instr.sliceBounds isS len cap O U mx').run P w= .ok (l.getD 0,h'.getD len,m.getD cap) w:=by
 rcases we Z em with ⟨_,rfl,rfl⟩| ⟨k,i,rfl,Y,rfl⟩
 ·rcases we J eh with ⟨_,rfl,rfl⟩| ⟨k2,i2,rfl,I,rfl⟩
  ·simp only[Instr.sliceBounds,Sem.run_bind,Sem.run_pure,Result.andThen_ok,ao9]at*;exact D5 A el _ _ _ V
  simp only[Instr.sliceBounds,Sem.run_bind,Sem.run_pure,Result.andThen_ok,ao9,anI]at*;rw[vA I c2];simp only[Result.andThen_ok];exact D5 A el _ _ _ V
 rcases we J eh with ⟨_,rfl,rfl⟩| ⟨k2,i2,rfl,I,rfl⟩
 ·simp at c4
 simp only[Instr.sliceBounds,Sem.run_bind,Sem.run_pure,Result.andThen_ok,anI]at*;rw[vA Y c1];simp only[Result.andThen_ok];rw[vA I c2];simp only[Result.andThen_ok];exact D5 A el _ _ _ V
def sK {t el:TypeId}{size:Nat}{a:Option Addr}{len c:Nat}{lo hi mx:Option BV}{A I mx':Option Value}{l h' m:Option Nat}(hu:P.underlying t=some (.slice el))(hs:kF P el=some size)
 (O:AF P g w lo A)(J:AF P g w hi I)(U:AF P g w mx mx')
 (V:mS lo=some l)(eh:mS hi=some h')(Z:mS mx=some m)(c1:m.getD c<=c)(Y:h'.getD len<=m.getD c)(c3:l.getD 0<=h'.getD len)(c4:m.isNone||h'.isSome):
 (Instr.sliceAt t (.slice a len c) A I mx').run P w= .ok (.slice (if m.getD c=l.getD 0 then a else a.map (·.add (l.getD 0*size))) (h'.getD len-l.getD 0) (m.getD c-l.getD 0)) w:=by
 have hb:=EE (P:=P) (g:=g) (w:=w) (isS:=true) O J U V eh Z c1 Y c3 c4;simp only[Instr.sliceAt,Sem.run_bind,aO hu,Result.andThen_ok,Instr.slice,hb,mZ hs,Sem.run_pure]
def aaM (l:List D)(lo hi:Nat):pK l lo hi=(l.take hi).drop lo:=by
 unfold pK
 split
 ·rename_i e;rw[amC e];simp
 rfl
def acr (m:Option Nat)(e:TypeId)(l:List D):BV:=match m with|none=> .bx e l|some _=> .IL e l
def G0 {t el:TypeId}{xs:List D}{x':Value}{lo hi mx:Option BV}{V U mx':Option Value}{l hh m:Option Nat}(hu:P.underlying t=some (.slice el))(hd:cZ P el=true)
 (hx:aw P g w (.bx el xs) x')(b4:AF P g w lo V)(b1:AF P g w hi U)(a8:AF P g w mx mx')
 (e1:mS lo=some l)(e2:mS hi=some hh)(e3:mS mx=some m)(c1:∀q,m=some q->q=hh.getD xs.length)(c2:hh.getD xs.length<=xs.length)(c3:l.getD 0<=hh.getD xs.length)(c4:m.isNone||hh.isSome):
 ∃v',(Instr.sliceAt t x' V U mx').run P w= .ok v' w/\aw P g w (acr m el (pK xs (l.getD 0) (hh.getD xs.length))) v':=by
 have hs:=(gL hd).2.1;have I:(pK xs (l.getD 0) (hh.getD xs.length)).length=hh.getD xs.length-l.getD 0:=by rw[aaM];simp;omega
 simp only[aw]at hx;have key:∀(a:Option Addr) (c:Nat),x'= .slice a xs.length c->xs.length<=c->
  (Instr.sliceAt t x' V U mx').run P w= .ok (.slice (if m.getD c=l.getD 0 then a else a.map (·.add (l.getD 0*P.cellsOf el))) (hh.getD xs.length-l.getD 0) (m.getD c-l.getD 0)) w:=by
  intro a c a6 hc;subst a6
  exact sK hu hs b4 b1 a8 e1 e2 e3 (by cases m with
   |none=>simp
   |some q=>have:=c1 q rfl;simp;omega) (by cases m with
   |none=>simp;omega
   |some q=>have:=c1 q rfl;simp;omega) c3 c4
 have A:∀(a:Option Addr) (q:Nat),hh.getD xs.length-l.getD 0=0->(m=none->a=none->q=0)->(∀r,m=some r->q=0)->
  aw P g w (acr m el (pK xs (l.getD 0) (hh.getD xs.length))) (.slice a 0 q):=by
  intro a q hz a7 b6;have Y:pK xs (l.getD 0) (hh.getD xs.length)=[]:=am3.1 (by rw[I];exact hz);rw[Y]
  cases m with
  |none=>
   simp only[acr,aw]
   cases a with
   |none=>rw[a7 rfl rfl];exact .inl ⟨trivial,.inl rfl⟩
   |some a=>exact .inl ⟨trivial,.inr ⟨a,q,rfl⟩⟩
  |some r=>
   simp only[acr,aw];rw[b6 r rfl]
   cases a with
   |none=>exact .inl ⟨trivial,.inl rfl⟩
   |some a=>exact .inl ⟨trivial,.inr ⟨a,rfl⟩⟩
 rcases hx with ⟨rfl,rfl| ⟨a,c,rfl⟩⟩| ⟨aS,off,c,rfl,hc,hf,vs,hv,hat⟩
 ·refine⟨_,key none 0 rfl (amG _),?_⟩;simp only[amM]at c2 c3 ⊢;have h0:hh.getD 0-l.getD 0=0:=by omega
  have hn:=A (if m.getD 0=l.getD 0 then none else (none:Option Addr).map (·.add (l.getD 0*P.cellsOf el))) (m.getD 0-l.getD 0) h0 (fun J _=>by subst J;simp) (fun r J=>by have:=c1 r J;subst J;simp at this ⊢;omega);rw[h0];simpa using hn
 ·refine⟨_,key (some a) c rfl (anX _),?_⟩;simp only[amM]at c2 c3 ⊢;have h0:hh.getD 0-l.getD 0=0:=by omega
  have hn:=A (if m.getD c=l.getD 0 then some a else (some a).map (·.add (l.getD 0*P.cellsOf el))) (m.getD c-l.getD 0) h0 (fun J Z=>by split at Z<;>simp at Z) (fun r J=>by have:=c1 r J;subst J;simp at this ⊢;omega);rw[h0];simpa using hn
 refine⟨_,key (some ⟨aS,off,none⟩) c rfl hc,?_⟩
 by_cases h0:hh.getD xs.length-l.getD 0=0
 ·rw[h0];exact A (if m.getD c=l.getD 0 then some ⟨aS,off,none⟩else (some ⟨aS,off,none⟩:Option Addr).map (·.add (l.getD 0*P.cellsOf el))) (m.getD c-l.getD 0) h0 (fun J Z=>by split at Z<;>simp at Z) (fun r J=>by have:=c1 r J;subst J;simp at this ⊢;omega)
 have O:MJ P g.fz w el (pK xs (l.getD 0) (hh.getD xs.length)) aS (off+l.getD 0*P.cellsOf el):=by rw[aaM];exact⟨hf,_,(hv.take _).drop _,hat.take.drop⟩
 cases m with
 |none=>simp only[acr,aw,ao9];refine .inr ⟨aS,off+l.getD 0*P.cellsOf el,c-l.getD 0,?_,by rw[I];omega,O⟩;rw[I,ifN];simp[nW]
 |some q=>have hq:=c1 q rfl;simp only[acr,aw,anI];refine .inr ⟨aS,off+l.getD 0*P.cellsOf el,?_,O⟩;rw[I,ifN,hq];simp[nW]
def aw.TC {el:TypeId}{xs:List D}{A:Value}(I:aw P g w (.IL el xs) A):aw P g w (.bx el xs) A:=by
 simp only[aw]at I ⊢;rcases I with ⟨h0,h1| ⟨a,h1⟩⟩| ⟨aS,off,h1,h2⟩
 ·exact .inl ⟨h0,.inl h1⟩
 ·exact .inl ⟨h0,.inr ⟨a,0,h1⟩⟩
 exact .inr ⟨aS,off,_,h1,amG _,h2⟩
def ady {t:TypeId}{x v:BV}{x':Value}{lo hi mx:Option BV}{a7 a6 mx':Option Value}(hr:bq P g h w)(Y:aw P g w x x')(U:AF P g w lo a7)(V:AF P g w hi a6)(O:AF P g w mx mx')
 (e:sliceB P t x lo hi mx=some v):∃v',(Instr.sliceAt t x' a7 a6 mx').run P w= .ok v' w/\aw P g w v v':=by
 unfold sliceB at e
 split at e
 ·rename_i l hh m el eh em
  dsimp only at e
  split at e
  ·
   rename_i s Z
   simp only[aw]at Y;subst Y
   split at e
   ·rename_i hc
    simp only[amo,aml]at hc;obtain⟨⟨hm,h1⟩,h2⟩:=hc
    cases e
    refine⟨.string ⟨((s.take (hh.getD s.length)).drop (l.getD 0)).toArray⟩,?_,by simp[aw]⟩;have d4:mx'=none:=by
     rcases we O em with ⟨_,r,_⟩| ⟨k,i,_,_,r⟩
     ·exact r
     subst r;simp at hm
    subst d4;have e1:(ByteArray.mk s.toArray).size=s.length:=(by simp[ByteArray.size]);have hb:=EE (P:=P) (g:=g) (w:=w) (isS:=false) (len:=s.length) (cap:=s.length) U V (mx:=none) (mx':=none) (.inl ⟨rfl,rfl⟩) el eh (m:=none) rfl (by simp) (by simpa using h2) h1 (by simp);simp only[Instr.sliceAt,Sem.run_bind,aO Z,Result.andThen_ok,Instr.slice,aqa,amp,ann,e1,hb,Sem.run_pure];congr 2;apply aoR;simp[ByteArray.data_extract,apr,<-apU]
   cases e
  ·
   rename_i d2 Z
   simp only[aw]at Y;subst Y
   split at e
   ·rename_i hc
    simp only[amo,aml]at hc;obtain⟨⟨⟨h1,h2⟩,h3⟩,h4⟩:=hc
    cases e
    refine⟨.slice none 0 0,?_,by simp[aw]⟩
    cases hs:kF P d2 with
    |none=>simp[hs]at h4
    |some size=>
     have:=sK (P:=P) (g:=g) (w:=w) (a:=none) (len:=0) (c:=0) Z hs U V O el eh em (by omega) (by omega) (by omega) (by
      cases m with
      |none=>rfl
      |some m=>rcases we O em with ⟨_,_,r⟩|_
               ·cases r
               cases hh with
               |none=>simp[hs]at h4
               |some _=>rfl)
     rw[this,h1,h2,h3];rfl
   cases e
  ·
   rename_i a8 e' l' Z
   split at e
   ·rename_i hc
    simp only[amo]at hc;obtain⟨he,hd⟩:=hc;have he:=amC he;subst he
    split at e
    ·split at e
     ·rename_i hc
      simp only[amo,aml]at hc
      cases e
      exact G0 Z hd Y U V O el eh em (fun q hq=>by cases hq) hc.2 hc.1 (by simp)
     cases e
    rename_i q
    split at e
    ·rename_i hc
     simp only[amo,aml]at hc;obtain⟨⟨⟨A,I⟩,J⟩,b6⟩:=hc;have A:=amC A
     cases e
     exact G0 Z hd Y U V O el eh em (fun q' hq=>by cases hq;exact A) b6 J (by simp[I])
    cases e
   cases e
  ·
   rename_i a8 b n vt Z
   split at e
   ·rename_i hc
    simp only[amo,ap8]at hc;obtain⟨⟨⟨hd,A⟩,I⟩,J⟩:=hc;have A:=amC A
    cases e
    have hs:=(gL hd).2.1;have b4:hh=some 0:=by cases hh with|none=>simp at I|some q=>simp at I;rw[I]
    have b1:m=some 0:=by cases m with|none=>simp at J|some q=>simp at J;rw[J]
    subst b4 b1;have key:∀(a:Option Addr) (len c:Nat),(Instr.sliceAt t (.slice a len c) a7 a6 mx').run P w= .ok (.slice a 0 0) w:=by intro a len c;have:=sK (P:=P) (g:=g) (w:=w) (a:=a) (len:=len) (c:=c) Z hs U V O el eh em (by simp) (by simp) (by rw[A];simp) (by simp);rw[this,A];simp
    simp only[aw]at Y ⊢;rcases Y with ⟨_,rfl| ⟨a,rfl⟩⟩| ⟨aS,aD,c,_,rfl,_⟩
    ·exact⟨_,key _ _ _,.inl ⟨trivial,.inl rfl⟩⟩
    ·exact⟨_,key _ _ _,.inl ⟨trivial,.inr ⟨_,rfl⟩⟩⟩
    exact⟨_,key _ _ _,.inl ⟨trivial,.inr ⟨_,rfl⟩⟩⟩
   split at e
   ·rename_i hc
    simp only[amo,ap8]at hc;obtain⟨⟨⟨⟨hd,A⟩,d1,d3⟩,I⟩,J⟩:=hc;have A:=amC A
    cases e
    have hs:=(gL hd).2.1;have b4:hh=some n:=by cases hh with|none=>simp at d1|some q=>simp at I;rw[I]
    have b1:m=some n:=by cases m with|none=>simp at d3|some q=>simp at J;rw[J]
    subst b4 b1;have key:∀(a:Option Addr) (c:Nat),n<=c->(n=0->(Instr.sliceAt t (.slice a n c) a7 a6 mx').run P w= .ok (.slice a 0 0) w)/\(n≠0->∃b',b'=a.map (fun x=>x.add (l.getD 0*(kF P a8).getD 0))/\(Instr.sliceAt t (.slice a n c) a7 a6 mx').run P w= .ok (.slice b' n n) w):=by intro a c d0;have:=sK (P:=P) (g:=g) (w:=w) (a:=a) (len:=n) (c:=c) Z hs U V O el eh em (by simpa using d0) (by simp) (by rw[A];simp) (by simp);rw[this,A];refine⟨fun h0=>by simp[h0],fun h0=>⟨_,rfl,by simp[h0,hs]⟩⟩
    simp only[aw]at Y ⊢;rcases Y with ⟨⟨hv,h0⟩,rfl| ⟨a,rfl⟩⟩| ⟨aS,aD,c,hm,rfl,hc,e1,n1,q1,q2⟩
    ·subst h0;exact⟨_,(key _ 0 (amG _)).1 rfl,.inl ⟨⟨hv,rfl⟩,.inl rfl⟩⟩
    ·subst h0;exact⟨_,(key _ 0 (amG _)).1 rfl,.inl ⟨⟨hv,rfl⟩,.inr ⟨_,rfl⟩⟩⟩
    by_cases h0:n=0
    ·subst h0;refine⟨_,(key _ c hc).1 rfl,.inr ⟨aS,aD,0,hm,rfl,amG _,e1,n1,q1,by omega⟩⟩
    obtain⟨b',rfl,k1⟩:=(key (some ⟨aS,aD,none⟩) c hc).2 h0;refine⟨_,k1,.inr ⟨aS,aD,n,hm,by simp[A,nW],amG _,e1,n1,q1,?_⟩⟩;have:=anF (P.cellsOf e1) hc;omega
   cases e
  ·
   rename_i a8 e' l' Z
   split at e
   ·rename_i hc
    simp only[amo]at hc;obtain⟨he,hd⟩:=hc;have he:=amC he;subst he;have Y:=Y.TC
    split at e
    ·split at e
     ·rename_i hc
      simp only[amo,aml]at hc
      cases e
      exact G0 Z hd Y U V O el eh em (fun q hq=>by cases hq) hc.2 hc.1 (by simp)
     cases e
    rename_i q
    split at e
    ·rename_i hc
     simp only[amo,aml]at hc;obtain⟨⟨⟨A,I⟩,J⟩,b6⟩:=hc;have A:=amC A
     cases e
     exact G0 Z hd Y U V O el eh em (fun q' hq=>by cases hq;exact A) b6 J (by simp[I])
    cases e
   cases e
  cases e
 cases e
end
end
section
section
variable {P:Program} {g:Gh} {h:ai} {w:World}
def RY (a b:List UInt8):(ByteArray.mk a.toArray==ByteArray.mk b.toArray)=(a==b):=by
 rw[amW];constructor
 ·intro h;have:(a.toArray==b.toArray)=true:=h;simpa using this
 intro h;have:a=b:=by simpa using h
 subst this;show (a.toArray==a.toArray)=true;simp
def ZV {E:TypeId->BV->BV->Option Bool}{E':TypeId->Value->Value->Sem Bool}
 (hE:∀t x y x' y' r,aw P g w x x'->aw P g w y y'->E t x y=some r->(E' t x' y').run P w= .ok r w):
 ∀(fs:List Field) (xs ys:List BV) (I A:Array Value) (r:Bool),ay P g w xs I.toList->ay P g w ys A.toList->tZ P E fs xs ys=some r->
 (forIn fs ((none,()):Option Bool×Unit) (fun f __s=>
   if f.name≠ "_" then do
    let __do_lift<-part f.type I f.offset
    let __do_lift_1<-part f.type A f.offset
    let __do_lift<-E' f.type __do_lift __do_lift_1
    if (!__do_lift)=true then pure (ForInStep.done (some false,()))else pure (ForInStep.yield (none,()))
   else pure (ForInStep.yield (none,()))):Sem (Option Bool×Unit)).run P w= .ok ((if r then none else some false),()) w:=by
 intro fs
 induction fs with
 |nil=>intro xs ys I A r _ _ e;simp[tZ]at e;subst e;simp
 |cons f fs ih=>
  intro xs ys I A r Z Y e;simp only[tZ]at e;simp only[apI,Sem.run_bind]
  by_cases U:f.name≠ "_"
  ·rw[amu U]at e;rw[amu U]
   split at e
   ·rename_i a b ha hb
    obtain⟨a',V,J⟩:=K4 Z ha;obtain⟨b',a6,O⟩:=K4 Y hb;simp only[Sem.run_bind,V,a6,Result.andThen_ok]
    split at e
    ·rename_i he
     rw[hE _ _ _ _ _ _ J O he];simp only[Result.andThen_ok,anY,amp,ann,Sem.run_pure];exact ih xs ys I A r Z Y e
    ·rename_i he
     rw[hE _ _ _ _ _ _ J O he]
     cases e
     simp
    cases e
   cases e
  rw[amt U]at e;rw[amt U];simp only[Sem.run_pure,Result.andThen_ok];exact ih xs ys I A r Z Y e
def Kf {x:BV}{I:Value}{b:Bool}(A:aw P g w x I)(e:afr x=some b):∃a:Option Addr,I= .pointer a/\a.isNone=b:=by
 unfold afr at e
 split at e<;>cases e<;>simp only[aw]at A
 ·exact⟨_,A,rfl⟩
 ·obtain⟨_,_,_,rfl⟩:=A;exact⟨_,rfl,rfl⟩
 ·obtain⟨_,_,rfl,_⟩:=A;exact⟨_,rfl,rfl⟩
 obtain⟨_,_,_,rfl,_⟩:=A;exact⟨_,rfl,rfl⟩
def Kg {x:BV}{I:Value}{b:Bool}(A:aw P g w x I)(e:TX x=some b):∃(a:Option Addr) (l c:Nat),I= .slice a l c/\a.isNone=b:=by
 unfold TX at e
 split at e<;>cases e<;>simp only[aw]at A
 ·exact⟨_,_,_,A,rfl⟩
 ·obtain⟨_,_,rfl⟩:=A;exact⟨_,_,_,rfl,rfl⟩
 ·rcases A with ⟨h0,_⟩| ⟨_,_,_,rfl,_⟩
  ·cases h0
  exact⟨_,_,_,rfl,rfl⟩
 rcases A with ⟨⟨_,h0⟩,_⟩| ⟨_,_,_,_,rfl,_⟩
 ·cases h0
 exact⟨_,_,_,rfl,rfl⟩
def Ke {x:BV}{I:Value}{b:Bool}(A:aw P g w x I)(e:afq x=some b):∃a:Option Nat,I= .map a/\a.isNone=b:=by
 unfold afq at e
 split at e<;>cases e<;>simp only[aw]at A
 ·exact⟨_,A,rfl⟩
 obtain⟨_,_,rfl⟩:=A;exact⟨_,rfl,rfl⟩
def DV {a b:Option Bool}{r:Bool}(e:Kd a b=some r):(a=some true/\b=some r)\/(b=some true/\a=some r):=by
 revert e
 unfold Kd
 split
 ·intro e;exact .inl ⟨rfl,e⟩
 ·intro e;exact .inr ⟨rfl,e⟩
 intro e;cases e
def agv (hr:bq P g h w):∀(d:Nat) (t:TypeId) (x y:BV) (x' y':Value) (r:Bool),aw P g w x x'->aw P g w y y'->Jg P d t x y=some r->
 ∀D,d<=D->(Op.equalIn D t x' y').run P w= .ok r w:=by
 intro d
 induction d with
 |zero=>intro t x y x' y' r _ _ e;simp[Jg]at e
 |succ d ih=>
  intro t x y x' y' r I A e D hD;obtain⟨D,rfl⟩:∃D',D=D'+1:=⟨D-1,by omega⟩;have a8:d<=D:=by omega
  unfold Jg at e
  split at e
  ·rename_i a b J
   simp only[aw]at I A;subst I A
   cases e
   refine(Sem.run_bind P w (underlying t) _).trans ?_;rw[aO J,Result.andThen_ok];rfl
  ·rename_i k a k' b J
   simp only[aw]at I A;subst I A
   split at e
   ·rename_i hk;subst hk
    cases e
    refine(Sem.run_bind P w (underlying t) _).trans ?_;rw[aO J,Result.andThen_ok];show Sem.run P (if k=k then pure (a==b)else _) w=_;rw[amu rfl];rfl
   cases e
  ·rename_i a b J
   simp only[aw]at I A;subst I A
   cases e
   refine(Sem.run_bind P w (underlying t) _).trans ?_;rw[aO J,Result.andThen_ok,<-RY];rfl
  ·rename_i el J
   rcases DV e with ⟨V,Y⟩| ⟨V,Y⟩
   ·obtain⟨a,rfl,U⟩:=Kf I V;obtain⟨c,rfl,O⟩:=Kf A Y
    cases a<;>simp only[Option.isNone]at U<;>cases U
    refine(Sem.run_bind P w (underlying t) _).trans ?_;rw[aO J,Result.andThen_ok]
    cases c<;>cases O<;>rfl
   obtain⟨a,rfl,U⟩:=Kf I Y;obtain⟨c,rfl,O⟩:=Kf A V
   cases c<;>simp only[Option.isNone]at O<;>cases O
   refine(Sem.run_bind P w (underlying t) _).trans ?_;rw[aO J,Result.andThen_ok]
   cases a<;>cases U<;>rfl
  ·rename_i _ J
   simp only[aw]at I A;subst I;subst A;cases e;refine(Sem.run_bind P w (underlying t) _).trans ?_;rw[aO J,Result.andThen_ok];rfl
  ·rename_i el J
   rcases DV e with ⟨V,Y⟩| ⟨V,Y⟩
   ·obtain⟨a,_,_,rfl,U⟩:=Kg I V;obtain⟨c,_,_,rfl,O⟩:=Kg A Y
    cases a<;>simp only[Option.isNone]at U<;>cases U
    refine(Sem.run_bind P w (underlying t) _).trans ?_;rw[aO J,Result.andThen_ok]
    cases c<;>cases O<;>rfl
   obtain⟨a,_,_,rfl,U⟩:=Kg I Y;obtain⟨c,_,_,rfl,O⟩:=Kg A V
   cases c<;>simp only[Option.isNone]at O<;>cases O
   refine(Sem.run_bind P w (underlying t) _).trans ?_;rw[aO J,Result.andThen_ok]
   cases a<;>cases U<;>rfl
  ·rename_i kt el J
   rcases DV e with ⟨V,Y⟩| ⟨V,Y⟩
   ·obtain⟨a,rfl,U⟩:=Ke I V;obtain⟨c,rfl,O⟩:=Ke A Y
    cases a<;>simp only[Option.isNone]at U<;>cases U
    refine(Sem.run_bind P w (underlying t) _).trans ?_;rw[aO J,Result.andThen_ok]
    cases c<;>cases O<;>rfl
   obtain⟨a,rfl,U⟩:=Ke I Y;obtain⟨c,rfl,O⟩:=Ke A V
   cases c<;>simp only[Option.isNone]at O<;>cases O
   refine(Sem.run_bind P w (underlying t) _).trans ?_;rw[aO J,Result.andThen_ok]
   cases a<;>cases U<;>rfl
  ·rename_i gX xs ys J
   simp only[aw]at I A;obtain⟨a6,rfl,I⟩:=I;obtain⟨a7,rfl,A⟩:=A
   split at e
   ·cases e
   rename_i Z
   have Z:P.stoodInHeld t=false:=(by simpa using Z);have:=ZV (P:=P) (g:=g) (w:=w) (E:=Jg P d) (E':=Op.equalIn D) (fun t x y x' y' r I A e=>ih t x y x' y' r I A e D a8) gX.toList xs ys a6 a7 r I A e;refine(Sem.run_bind P w (underlying t) _).trans ?_;rw[aO J,Result.andThen_ok];refine(Sem.run_bind P w program _).trans ?_;rw[run_program,Result.andThen_ok,Z];rw[<-api];refine(Sem.run_bind P w _ _).trans ?_;rw[this]
   cases r<;>rfl
  cases e
end
end
section
section
variable {P:Program} {g:Gh} {h:ai} {w:World}
def Tq (a:List UInt8):(ByteArray.mk a.toArray).toList=a:=by
 rw[ByteArray.toList_eq]
def Tp (a b:List UInt8):ByteArray.mk a.toArray++ByteArray.mk b.toArray=ByteArray.mk (a++b).toArray:=by
 apply aoR;simp
def NC:Value->Nat
 | .int .. =>1| .float .. =>2| .complex .. =>3| .string .. =>4|_=>0
def aaD:BV->Nat
 | .int .. =>1| .ax .. =>4|_=>0
def aw.kind {b:BV}{v:Value}(A:aw P g w b v)(I:b.xU=true):aaD b=NC v:=by
 cases b<;>simp only[aw]at A<;>first
  | (simp[BV.xU]at I;done)
  | (subst A;rfl)
  | (rcases A with ⟨_,rfl| ⟨_,_,rfl⟩⟩| ⟨_,_,_,rfl,_⟩<;>rfl)
  | (rcases A with ⟨_,rfl| ⟨_,rfl⟩⟩| ⟨_,_,rfl,_⟩<;>rfl)
  | (rcases A with ⟨_,rfl| ⟨_,rfl⟩⟩| ⟨_,_,_,_,rfl,_⟩<;>rfl)
  | (obtain⟨_,rfl,_⟩:=A;rfl)
  | (obtain⟨_,_,rfl⟩:=A;rfl)
  | (obtain⟨_,_,rfl,_⟩:=A;rfl)
  | (obtain⟨_,_,_,rfl⟩:=A;rfl)
  | (obtain⟨_,_,_,rfl,_⟩:=A;rfl)
  | (obtain⟨_,_,_,_,rfl,_⟩:=A;rfl)
def E9 (t:TypeId){x y:Value}(A:NC x≠NC y\/NC x=0):
 binOp .eql t x y=(do pure (.bool (<-Op.equal t x y)))/\binOp .neq t x y=(do pure (.bool (!(<-Op.equal t x y)))):=by
 cases x<;>cases y<;>first
  |exact⟨rfl,rfl⟩
  | (simp[NC]at A;done)
def Sr {d:Nat}{t:TypeId}{x y:BV}{r:Bool}(e:Jg P (d+1) t x y=some r):x.xU=true/\y.xU=true:=by
 have hp:∀{x:BV} {b:Bool},afr x=some b->x.xU=true:=fun {x b} h=>by cases x<;>first|rfl|cases h
 have J:∀{x:BV} {b:Bool},afq x=some b->x.xU=true:=fun {x b} h=>by cases x<;>first|rfl|cases h
 have hs:∀{x:BV} {b:Bool},TX x=some b->x.xU=true:=fun {x b} h=>by cases x<;>first|rfl|cases h
 unfold Jg at e
 split at e<;>first
  |exact⟨rfl,rfl⟩
  | (cases e;done)
  | (rcases DV e with ⟨A,I⟩| ⟨A,I⟩<;>first|exact⟨hp A,hp I⟩|exact⟨hp I,hp A⟩|exact⟨J A,J I⟩|exact⟨J I,J A⟩|exact⟨hs A,hs I⟩|exact⟨hs I,hs A⟩)
def aiB (hr:bq P g h w){op:BinOp}{t:TypeId}{x y v:BV}{V y':Value}(U:aw P g w x V)(O:aw P g w y y')(e:Dp P op t x y=some v):
 ∃v',(binOp op t V y').run P w= .ok v' w/\aw P g w v v':=by
 have Z:∀r,Jg P 12 t x y=some r->(Op.equal t V y').run P w= .ok r w:=fun r hb=>agv hr 12 t x y V y' r U O hb Op.maxDepth (by unfold Op.maxDepth;omega)
 by_cases hi:∃k a k' b,x= .int k a/\y= .int k' b
 ·obtain⟨k,a,k',b,rfl,rfl⟩:=hi;simp only[aw]at U O;subst U O
  by_cases hs:op= .shl\/op= .shr
  ·rcases hs with rfl|rfl
   ·simp only[Dp]at e
    split at e
    ·cases e
    rename_i hb
    cases e
    exact⟨_,by simp only[binOp,Op.shift];rw[amt hb];rfl,by simp[aw]⟩
   simp only[Dp]at e
   split at e
   ·cases e
   rename_i hb
   cases e
   exact⟨_,by simp only[binOp,Op.shift];rw[amt hb];rfl,by simp[aw]⟩
  have Y:op≠ .shl/\op≠ .shr:=by constructor<;>intro h'<;>exact hs (by simp[h'])
  have A:(if k≠k' then none else
   match op with
   | .add=>some (BV.int k (k.wrap (a+b)))
   | .sub=>some (.int k (k.wrap (a-b)))
   | .mul=>some (.int k (k.wrap (a*b)))
   | .quo=>if b=0 then none else some (.int k (k.wrap (a.tdiv b)))
   | .rem=>if b=0 then none else some (.int k (a.tmod b))
   | .and=>some (.int k (k.wrap (BitVec.ofInt k.bits a &&& BitVec.ofInt k.bits b).toNat))
   | .or=>some (.int k (k.wrap (BitVec.ofInt k.bits a ||| BitVec.ofInt k.bits b).toNat))
   | .xor=>some (.int k (k.wrap (BitVec.ofInt k.bits a ^^^ BitVec.ofInt k.bits b).toNat))
   | .andNot=>some (.int k (k.wrap (BitVec.ofInt k.bits a &&& ~~~(BitVec.ofInt k.bits b)).toNat))
   | .eql=>some (.bool (a==b))
   | .neq=>some (.bool (a !=b))
   | .lss=>some (.bool (decide (a<b)))
   | .leq=>some (.bool (decide (a<=b)))
   | .gtr=>some (.bool (decide (a>b)))
   | .geq=>some (.bool (decide (a≥b)))
   |_=>none)=some v:=by
   rw[<-e];cases op<;>first|rfl| (exact absurd rfl Y.1)| (exact absurd rfl Y.2)
  split at A
  ·cases A
  rename_i hk
  have hk:k=k':=by simpa using hk
  subst hk
  cases op<;>dsimp only at A
  case quo=>
   split at A
   ·cases A
   rename_i hb;cases A
   exact⟨_,by simp only[binOp];rw[amt (by simp)];simp only[Op.intDiv];rw[amt hb];rfl,by simp[aw]⟩
  case rem=>
   split at A
   ·cases A
   rename_i hb;cases A
   exact⟨_,by simp only[binOp];rw[amt (by simp)];simp only[Op.intDiv];rw[amt hb];rfl,by simp[aw]⟩
  all_goals first
   | (cases A;done)
   | (cases A;exact⟨_,by simp only[binOp];rw[amt (by simp)];rfl,by simp only[aw]⟩)
 by_cases I:∃a b,x= .ax a/\y= .ax b
 ·obtain⟨a,b,rfl,rfl⟩:=I;simp only[aw]at U O;subst U O;have hb:∀op,op≠ .shl->op≠ .shr->binOp op t (.string ⟨a.toArray⟩) (.string ⟨b.toArray⟩)=Op.stringOp op ⟨a.toArray⟩ ⟨b.toArray⟩:=fun op h1 h2=>by cases op<;>first|rfl| (exact absurd rfl h1)| (exact absurd rfl h2)
  cases op<;>simp only[Dp]at e
  case add=>
   split at e
   ·rename_i hl
    cases e
    refine⟨.string ⟨(a++b).toArray⟩,?_,by simp[aw]⟩;rw[hb _ (by simp) (by simp)];simp only[Op.stringOp];rw[amt (by simp only[ByteArray.size,List.size_toArray];simp only[IntKind.max,IntKind.signed,IntKind.bits,am5];omega),Tp];rfl
   cases e
  all_goals first
   | (cases e;done)
   | (cases e;refine⟨_,by rw[hb _ (by simp) (by simp)];simp only[Op.stringOp,Tq,Sem.run_pure];rfl,?_⟩;simp[aw,JA])
   | (simp[Jg]at e)
 have a6:(op= .eql/\(Jg P 12 t x y).map BV.bool=some v)\/(op= .neq/\(Jg P 12 t x y).map (fun b=>BV.bool (!b))=some v):=by
  unfold Dp at e
  split at e
  ·exact absurd ⟨_,_,_,_,rfl,rfl⟩ hi
  ·exact absurd ⟨_,_,_,_,rfl,rfl⟩ hi
  ·exact absurd ⟨_,_,_,_,rfl,rfl⟩ hi
  ·exact absurd ⟨_,_,rfl,rfl⟩ I
  ·exact .inl ⟨rfl,e⟩
  ·exact .inr ⟨rfl,e⟩
  cases e
 have bz:∀r,Jg P 12 t x y=some r->(NC V≠NC y'\/NC V=0):=fun r hb=>by
  obtain⟨k1,k2⟩:=Sr hb;rw[<-aw.kind U k1,<-aw.kind O k2]
  by_cases h0:aaD x=0
  ·exact .inr h0
  left
  cases x<;>simp[aaD]at h0<;>cases y<;>simp[aaD]<;>first
   |exact absurd ⟨_,_,_,_,rfl,rfl⟩ hi
   |exact absurd ⟨_,_,rfl,rfl⟩ I
 rcases a6 with ⟨rfl,J⟩| ⟨rfl,J⟩
 ·cases hb:Jg P 12 t x y with
  |none=>simp[hb]at J
  |some r=>simp[hb]at J;subst J;exact⟨.bool r,by rw[(E9 t (bz r hb)).1];simp[Z r hb],by simp[aw]⟩
 cases hb:Jg P 12 t x y with
 |none=>simp[hb]at J
 |some r=>simp[hb]at J;subst J;exact⟨.bool (!r),by rw[(E9 t (bz r hb)).2];simp[Z r hb],by simp[aw]⟩
end
end
section
section
variable {P:Program} {g:Gh} {h:ai} {w:World}
def aj8 {op:UnOp}{x v:BV}{I:Value}(A:aw P g w x I)(e:unB op x=some v):∃J,(Op.unary op I).run P w= .ok J w/\aw P g w v J:=by
 unfold unB at e
 split at e
 ·simp only[aw]at A;subst A;cases e;exact⟨_,rfl,by simp[aw]⟩
 ·simp only[aw]at A;subst A;cases e;exact⟨_,rfl,by simp[aw]⟩
 ·simp only[aw]at A;subst A;cases e;exact⟨_,rfl,by simp[aw]⟩
 cases e
end
end
section
section
variable {P:Program} {g:Gh} {h:ai} {w w':World}
def tB {t:TypeId}(I:D0 P t=true):cZ P t=true/\((∃k,P.underlying t=some (.int k))\/P.underlying t=some .bool\/P.underlying t=some .string\/∃fs,P.underlying t=some (.struct fs)/\sJ P fs.toList 0=true/\P.stoodInHeld t=false):=by
 unfold D0 at I;simp only[amo]at I;refine⟨I.1,?_⟩;have h2:=I.2
 split at h2
 ·rename_i k A;exact .inl ⟨k,A⟩
 ·rename_i A;exact .inr (.inl A)
 ·rename_i A;exact .inr (.inr (.inl A))
 ·rename_i fs A
  simp only[amo,amJ]at h2;exact .inr (.inr (.inr ⟨fs,A,h2⟩))
 cases h2
def yk (P:Program)(t:TypeId)(d:D):BV:=
 match P.underlying t with
 |some (.int k)=> .int k d.int
 |some .bool=> .bool d.bool
 |some .string=> .ax d.ax
 |_=> .qd
def ZR (P:Program)(t:TypeId):Prop:=(∃k,P.underlying t=some (.int k))\/P.underlying t=some .bool\/P.underlying t=some .string
def Jb {t:TypeId}(hs:ZR P t)(n:Nat)(d:D):fq P (n+1) t d=[yk P t d]:=by
 rcases hs with ⟨k,hu⟩|hu|hu<;>simp[fq,yk,hu]
def abl {t:TypeId}(hs:ZR P t){a b:D}(I:Dc P t a)(hb:Dc P t b)(m:Nat):Jg P (m+1) t (yk P t a) (yk P t b)=some (D.Ht a b):=by
 have key:∀{x y:Bool},(x=true↔y=true)->(some x:Option Bool)=some y:=fun A=>by congr 1;exact amW.2 A
 rcases hs with ⟨k,hu⟩|hu|hu
 ·cases I with
  |int h1 n=>cases hb with
   |int h2 J=>simp only[yk,hu,Jg,D.int,am5];exact key (by rw[D.wF];simp)
   |bool h2=>rw[hu]at h2;cases h2
   |ax h2=>rw[hu]at h2;cases h2
   |struct h2=>rw[hu]at h2;cases h2
  |bool h2=>rw[hu]at h2;cases h2
  |ax h2=>rw[hu]at h2;cases h2
  |struct h2=>rw[hu]at h2;cases h2
 ·cases I with
  |bool h1 n=>cases hb with
   |bool h2 J=>simp only[yk,hu,Jg,D.bool];exact key (by rw[D.wF];simp)
   |int h2=>rw[hu]at h2;cases h2
   |ax h2=>rw[hu]at h2;cases h2
   |struct h2=>rw[hu]at h2;cases h2
  |int h2=>rw[hu]at h2;cases h2
  |ax h2=>rw[hu]at h2;cases h2
  |struct h2=>rw[hu]at h2;cases h2
 cases I with
 |ax h1 n=>cases hb with
  |ax h2 J=>simp only[yk,hu,Jg,D.ax];exact key (by rw[D.wF];simp)
  |int h2=>rw[hu]at h2;cases h2
  |bool h2=>rw[hu]at h2;cases h2
  |struct h2=>rw[hu]at h2;cases h2
 |int h2=>rw[hu]at h2;cases h2
 |bool h2=>rw[hu]at h2;cases h2
 |struct h2=>rw[hu]at h2;cases h2
def zd {f:Field}{r:List Field}{i:Nat}(e:sJ P (f::r) i=true):f.name≠ "_"/\f.offset=i/\ZR P f.type/\kF P f.type=some 1/\sJ P r (i+1)=true:=by
 simp only[sJ,amo]at e;obtain⟨⟨⟨⟨h1,h2⟩,J⟩,I⟩,O⟩:=e;refine⟨by simpa using h1,amC h2,?_,?_,O⟩
 ·split at J
  ·rename_i k A;exact .inl ⟨k,A⟩
  ·rename_i A;exact .inr (.inl A)
  ·rename_i A;exact .inr (.inr A)
  cases J
 split at I
 ·rename_i n U;rw[U,amC I]
 cases I
def Gn (n:Nat)(d:D):∀(fs:List Field) (i:Nat),sJ P fs i=true->∀(j:Nat) (f:Field),fs[j]?=some f->(ji (fq P (n+1)) fs i d)[j]?=some (yk P f.type (d.af (i+j)))
 | [],_,_,j,f,hf=>by simp at hf
 |x::r,i,hp,j,f,hf=>by
  obtain⟨_,_,I,_,A⟩:=zd hp;simp only[ji];rw[Jb I]
  cases j with
  |zero=>simp at hf;subst hf;simp
  |succ j=>simp at hf;have:=Gn n d r (i+1) A j f hf;rw[show i+1+j=i+(j+1)by omega]at this;simpa using this
def Fs (m:Nat){xs ys:List BV}{a b:List D}:∀(fs:List Field) (i:Nat),sJ P fs i=true->
 (∀(j:Nat) (f:Field),fs[j]?=some f->xs[i+j]?=some (yk P f.type (D.at a (i+j)))/\ys[i+j]?=some (yk P f.type (D.at b (i+j)))/\Dc P f.type (D.at a (i+j))/\Dc P f.type (D.at b (i+j)))->
 ∃r,tZ P (Jg P (m+1)) fs xs ys=some r/\(r=true↔∀j,j<fs.length->D.at a (i+j)=D.at b (i+j))
 | [],i,_,_=>⟨true,rfl,by simp⟩
 |f::fr,i,hp,V=>by
  obtain⟨h1,h2,J,h4,h5⟩:=zd hp;obtain⟨Z,U,O,I⟩:=V 0 f rfl;simp only[anN]at Z U O I;have A:jw P f.type=some false:=by rcases J with ⟨k,hu⟩|hu|hu<;>simp[jw,hu]
  have p1:HC P f.type xs f.offset=some (yk P f.type (D.at a i)):=by simp only[HC,A,h2];exact Z
  have p2:HC P f.type ys f.offset=some (yk P f.type (D.at b i)):=by simp only[HC,A,h2];exact U
  obtain⟨r,r1,r2⟩:=Fs m fr (i+1) h5 fun j f' hf'=>by have:=V (j+1) f' (by simpa using hf');rw[show i+(j+1)=i+1+j by omega]at this;exact this
  simp only[tZ];rw[amu h1,p1,p2];dsimp only;rw[abl J O I]
  cases he:D.Ht (D.at a i) (D.at b i)with
  |true=>
   dsimp only;refine⟨r,r1,r2.trans ⟨fun k j Y=>?_,fun k j Y=>?_⟩⟩
   ·cases j with
    |zero=>exact D.wF.1 he
    |succ j=>have:=k j (by simpa using Y);rwa [show i+1+j=i+(j+1)by omega]at this
   have:=k (j+1) (by simp;omega);rwa [show i+(j+1)=i+1+j by omega]at this
  |false=>refine⟨false,rfl,⟨fun k=>(by cases k),fun k=>?_⟩⟩;exact absurd (k 0 (by simp)) (D.zy.1 he)
def Gm {t:TypeId}(hs:ZR P t)(d:D):de P t d=yk P t d:=by
 have A:jw P t=some false:=by rcases hs with ⟨k,hu⟩|hu|hu<;>simp[jw,hu]
 simp only[de,A,aH,Jb hs]
def ab4 {t:TypeId}(hk:D0 P t=true){a b:D}(ha:Dc P t a)(hb:Dc P t b)(m:Nat):Jg P (m+2) t (de P t a) (de P t b)=some (D.Ht a b):=by
 obtain⟨_,hs⟩:=tB hk
 by_cases A:ZR P t
 ·rw[Gm A,Gm A];exact abl A ha hb (m+1)
 obtain⟨fs,I,hp,U⟩:∃fs,P.underlying t=some (.struct fs)/\sJ P fs.toList 0=true/\P.stoodInHeld t=false:=by
  rcases hs with h|h|h|h
  ·exact absurd (.inl h) A
  ·exact absurd (.inr (.inl h)) A
  ·exact absurd (.inr (.inr h)) A
  exact h
 cases ha with
 |int h2=>rw[I]at h2;cases h2
 |bool h2=>rw[I]at h2;cases h2
 |ax h2=>rw[I]at h2;cases h2
 |struct h2 as hl hi=>
  rw[I]at h2;cases h2
  cases hb with
  |int h2=>rw[I]at h2;cases h2
  |bool h2=>rw[I]at h2;cases h2
  |ax h2=>rw[I]at h2;cases h2
  |struct h2 bs a7 V=>
   rw[I]at h2;cases h2;have O:jw P t=some true:=(by simp[jw,I]);have J:∀d,aH P t d=ji (fq P 7) fs.toList 0 d:=fun d=>by simp[aH,fq,I]
   have hat:∀(l:List D) (j:Nat),j<l.length->l[j]?=some (D.at l j):=fun l j Y=>by simp[D.at,List.getD,amr Y]
   obtain⟨r,r1,r2⟩:=Fs (xs:=aH P t (.r as)) (ys:=aH P t (.r bs)) (a:=as) (b:=bs) m fs.toList 0 hp fun j f hf=>by have a6:=(amw.1 hf).1;have e1:=Gn (P:=P) 6 (.r as) fs.toList 0 hp j f hf;have Z:=Gn (P:=P) 6 (.r bs) fs.toList 0 hp j f hf;simp only[anr]at e1 Z ⊢;rw[J,J];exact⟨e1,Z,hi j f _ hf (hat _ _ (by omega)),V j f _ hf (hat _ _ (by omega))⟩
   simp only[de,O];have e0:Jg P (m+1+1) t (.agg (aH P t (.r as))) (.agg (aH P t (.r bs)))=if P.stoodInHeld t then none else tZ P (Jg P (m+1)) fs.toList (aH P t (.r as)) (aH P t (.r bs)):=by simp only[Jg,I]
   rw[e0];simp only[U,amp,ann];rw[r1];congr 1;rw[amW,r2,D.wF];constructor
   ·intro k;congr 1;apply aoY;intro j
    by_cases Y:j<fs.toList.length
    ·rw[hat as j (by omega),hat bs j (by omega)];have:=k j Y;simp only[anr]at this;rw[this]
    rw[anu (by omega),anu (by omega)]
   intro k j _
   cases k;rfl
def VE (O:bq P g h w){t:TypeId}(A:D0 P t=true){a b:D}(J:Dc P t a)(hb:Dc P t b){u v:Value}(U:aw P g w (de P t a) u)(I:aw P g w (de P t b) v):
 (Op.equal t u v).run P w= .ok (D.Ht a b) w:=
 agv O 12 t _ _ u v _ U I (ab4 A J hb 10) Op.maxDepth (by unfold Op.maxDepth;omega)
def UQ {t:TypeId}{v:BV}{d:D}{J:Value}(hd:cZ P t=true)(e:unV P t v=some d)(A:aw P g w v J):aw P g w (de P t d) J:=by
 unfold unV at e
 split at e
 ·rename_i I
  split at e
  ·rename_i cs
   simp only[aw]at A;obtain⟨vs,rfl,A⟩:=A;simp only[de,I,aw];exact⟨vs,rfl,qk.shape hd (D9 e A)⟩
  cases e
 ·rename_i I
  have h1:=qk.shape (g:=g) hd (D9 e (ay.cons A ay.nil));simp only[de,I]
  split
  ·rename_i y O
   rw[O]at h1;obtain⟨u,U,h2⟩:=h1.one
   cases U;exact h2
  simp only[aw]
 cases e
def XG {n:Nat}:∀(fs:List Field) (i:Nat) {cs:List BV} {ds:List D} {r:List BV},sJ P fs i=true->XF (unF P (n+1)) fs cs=some (ds,r)->ds.length=fs.length/\∀(j:Nat) (f:Field) (d:D),fs[j]?=some f->ds[j]?=some d->Dc P f.type d
 | [],i,cs,ds,r,_,e=>by simp[XF]at e;obtain⟨rfl,rfl⟩:=e;exact⟨rfl,fun j f d h=>by simp at h⟩
 |f::fr,i,cs,ds,r,hp,e=>by
  obtain⟨_,_,U,_,Z⟩:=zd hp;simp only[XF]at e
  split at e
  ·rename_i d V h1
   split at e
   ·rename_i O J h2
    cases e
    obtain⟨I,Y⟩:=XG fr (i+1) Z h2;refine⟨by simp[I],fun j f' d' A hd=>?_⟩
    cases j with
    |zero=>
     simp at A hd;subst A;subst hd;simp only[unF]at h1;rcases U with ⟨k,hu⟩|hu|hu
     ·simp only[hu]at h1
      split at h1
      ·split at h1
       ·cases h1;exact .int hu _
       cases h1
      cases h1
     ·simp only[hu]at h1
      split at h1
      ·cases h1;exact .bool hu _
      cases h1
     simp only[hu]at h1
     split at h1
     ·cases h1;exact .ax hu _
     cases h1
    |succ j=>exact Y j f' d' (by simpa using A) (by simpa using hd)
   cases e
  cases e
def VP {t:TypeId}{k:BV}{d:D}(e:YK P t k=some d):D0 P t=true/\unV P t k=some d/\Dc P t d:=by
 unfold YK at e
 split at e
 ·rename_i I
  refine⟨I,e,?_⟩;have A:∃cs,XE P t cs=some d:=by
   unfold unV at e
   split at e
   ·split at e
    ·exact⟨_,e⟩
    cases e
   ·exact⟨_,e⟩
   cases e
  obtain⟨cs,A⟩:=A;unfold XE at A
  split at A
  ·rename_i U h1
   cases A
   rw[unF.eq_def]at h1;dsimp only at h1;obtain⟨_,hs⟩:=tB I;rcases hs with ⟨kk,hu⟩|hu|hu| ⟨fs,hu,hp,_⟩
   ·simp only[hu]at h1
    split at h1
    ·split at h1
     ·cases h1;exact .int hu _
     cases h1
    cases h1
   ·simp only[hu]at h1
    split at h1
    ·cases h1;exact .bool hu _
    cases h1
   ·simp only[hu]at h1
    split at h1
    ·cases h1;exact .ax hu _
    cases h1
   simp only[hu]at h1
   split at h1
   ·rename_i ds r h2
    cases h1
    obtain⟨J,O⟩:=XG (n:=6) fs.toList 0 hp h2;exact .struct hu ds J O
   cases h1
  cases A
 cases e
end
end
section
section
variable {P:Program} {g:Gh} {h:ai} {w:World}
def vw {aS:Nat}{es:Array MapEntry}{clock:Nat}(hw:w.heap[aS]?=some (.map es clock)):(getObj aS).run P w= .ok (.map es clock) w:=by
 simp[getObj,Sem.run,hw]
def KU {aS:Nat}{es:Array MapEntry}{clock:Nat}(hw:w.heap[aS]?=some (.map es clock))(o:Obj):(setObj aS o).run P w= .ok () (w.iI aS o):=by
 simp[setObj,Sem.run,hw,World.iI]
def RN {K:TypeId->BV->Bool}{K':TypeId->Value->Sem Unit}(hK:∀t x O,aw P g w x O->K t x=true->(K' t O).run P w= .ok () w):
 ∀(fs:List Field) (cs:List BV) (vs:Array Value),ay P g w cs vs.toList->GQ P K fs cs=true->
 (forIn fs PUnit.unit (fun f __s=>
   if f.name≠ "_" then do
    let __do_lift<-part f.type vs f.offset
    K' f.type __do_lift
    pure (ForInStep.yield PUnit.unit)
   else pure (ForInStep.yield PUnit.unit)):Sem PUnit).run P w= .ok PUnit.unit w:=by
 intro fs
 induction fs with
 |nil=>intro cs vs _ _;simp
 |cons f fs Z=>
  intro cs vs J e;simp only[GQ,amo]at e;obtain⟨A,V⟩:=e;simp only[apI,Sem.run_bind]
  by_cases Y:f.name≠ "_"
  ·rw[amu Y]at A ⊢
   split at A
   ·rename_i x hx
    obtain⟨O,U,I⟩:=K4 J hx;simp only[Sem.run_bind,U,Result.andThen_ok,hK _ _ _ I A,Sem.run_pure];exact Z cs vs J V
   cases A
  rw[amt Y];simp only[Sem.run_pure,Result.andThen_ok];exact Z cs vs J V
def abn:∀(n:Nat) (t:TypeId) (k:BV) (k':Value) (empty:Bool),aw P g w k k'->FC P n t k=true->∀N,n<=N->(Instr.checkKey empty N t k').run P w= .ok () w:=by
 intro n
 induction n with
 |zero=>intro t k k' empty _ e;simp[FC]at e
 |succ n Y=>
  intro t k k' empty A e N hN;obtain⟨N,rfl⟩:∃O,N=O+1:=⟨N-1,by omega⟩;unfold FC at e
  split at e
  ·rename_i fs cs I
   simp only[aw]at A;obtain⟨vs,rfl,V⟩:=A;have:=RN (P:=P) (g:=g) (w:=w) (K:=FC P n) (K':=Instr.checkKey empty N) (fun t x Z U J=>Y t x Z empty U J N (by omega)) fs.toList cs vs V e;refine(Sem.run_bind P w _ _).trans ?_;rw[aO I,Result.andThen_ok];refine(Sem.run_bind P w _ _).trans ?_;rw[<-api];rw[this];rfl
  ·rename_i q q' i I
   simp only[aw]at A;subst A;refine(Sem.run_bind P w _ _).trans ?_;rw[aO I,Result.andThen_ok];rfl
  ·rename_i s I
   simp only[aw]at A;subst A;refine(Sem.run_bind P w _ _).trans ?_;rw[aO I,Result.andThen_ok];rfl
  ·rename_i b I
   simp only[aw]at A;subst A;refine(Sem.run_bind P w _ _).trans ?_;rw[aO I,Result.andThen_ok];rfl
  cases e
def Xp {kt:TypeId}{kind:TypeDesc}(J:P.underlying kt=some kind){a b:Value}{y:Bool}(e:Instr.sameNow kind a b=some y):(Op.equal kt a b).run P w= .ok y w:=by
 unfold Instr.sameNow at e;unfold Op.equal;rw[show Op.maxDepth=9999+1 from rfl];refine(Sem.run_bind P w (underlying kt) _).trans ?_;rw[aO J,Result.andThen_ok]
 split at e
 ·rename_i q A a O b
  split at e
  ·rename_i I
   subst I
   cases e
   show Sem.run P (if A=A then pure (a==b)else _) w=_;rw[amu rfl];rfl
  cases e
 ·cases e;rfl
 ·cases e;rfl
 cases e
def adt {kt:TypeId}{k':Value}(hu:∃d,P.underlying kt=some d){es:List MapEntry}{q:Nat->Bool}(hq:∀(i:Nat) e,es[i]?=some e->(Op.equal kt k' e.key).run P w= .ok (q i) w):
 ∃A,(Instr.findKey kt k' es).run P w= .ok A w/\(match A with|some (i,v)=>q i=true/\∃e,es[i]?=some e/\e.val=v|none=>∀i,i<es.length->q i=false):=by
 obtain⟨d,hu⟩:=hu;have a7:∀(l:List MapEntry) (i:Nat) (q:Nat->Bool),(∀(j:Nat) e,l[j]?=some e->(Op.equal kt k' e.key).run P w= .ok (q (i+j)) w)->
  ∃A,(Instr.findAsking kt k' l i).run P w= .ok A w/\(match A with|some (n,v)=>q n=true/\∃j e,n=i+j/\l[j]?=some e/\e.val=v|none=>∀j,j<l.length->q (i+j)=false):=by
  intro l
  induction l with
  |nil=>intro i q _;exact⟨none,rfl,by simp⟩
  |cons e l ih=>
   intro i q hl;have h0:=hl 0 e rfl
   cases hb:q (i+0)with
   |true=>rw[hb]at h0;exact⟨some (i,e.val),by simp[Instr.findAsking,h0],by simpa using hb,0,e,rfl,rfl,rfl⟩
   |false=>
    rw[hb]at h0;obtain⟨A,k1,k2⟩:=ih (i+1) q (fun j I he=>by have:=hl (j+1) I (by simpa using he);rwa [show i+(j+1)=i+1+j by omega]at this);refine⟨A,by simp[Instr.findAsking,h0,k1],?_⟩
    cases A with
    |some p=>obtain⟨Y,j,I,m2,U,Z⟩:=k2;exact⟨Y,j+1,I,by omega,by simpa using U,Z⟩
    |none=>
     intro j hj
     cases j with
     |zero=>exact hb
     |succ j=>have:=k2 j (by simpa using hj);rwa [show i+1+j=i+(j+1)by omega]at this
 have a6:∀(l:List MapEntry) (i:Nat) (q:Nat->Bool) A,(∀(j:Nat) e,l[j]?=some e->(Op.equal kt k' e.key).run P w= .ok (q (i+j)) w)->Instr.findNow d k' l i=some A->
  (match A with|some (n,v)=>q n=true/\∃j e,n=i+j/\l[j]?=some e/\e.val=v|none=>∀j,j<l.length->q (i+j)=false):=by
  intro l
  induction l with
  |nil=>intro i q A _ I;simp[Instr.findNow]at I;subst I;simp
  |cons e l ih=>
   intro i q A hl I;have h0:=hl 0 e rfl;simp only[Instr.findNow]at I
   cases hy:Instr.sameNow d k' e.key with
   |none=>simp[hy]at I
   |some y=>
    have J:=Xp (w:=w) hu hy;have V:q (i+0)=y:=by unfold Op.equal at J h0;rw[h0]at J;injection J
    cases y with
    |true=>simp[hy]at I;subst I;exact⟨by simpa using V,0,e,rfl,rfl,rfl⟩
    |false=>
     simp[hy]at I;have:=ih (i+1) q A (fun j I he=>by have:=hl (j+1) I (by simpa using he);rwa [show i+(j+1)=i+1+j by omega]at this) I
     cases A with
     |some p=>obtain⟨Y,j,I,m2,U,Z⟩:=this;exact⟨Y,j+1,I,by omega,by simpa using U,Z⟩
     |none=>
      intro j hj
      cases j with
      |zero=>exact V
      |succ j=>have:=this j (by simpa using hj);rwa [show i+1+j=i+(j+1)by omega]at this
 have hrun:(Instr.findKey kt k' es).run P w=((match Instr.findNow d k' es 0 with|some r=>pure r|none=>Instr.findAsking kt k' es):Sem (Option (Nat×Value))).run P w:=by
  refine(Sem.run_bind P w (underlying kt) _).trans ?_;rw[aO hu,Result.andThen_ok]
  cases Instr.findNow d k' es 0<;>rfl
 rw[hrun];have bz:∀A:Option (Nat×Value),(match A with|some (n,v)=>q n=true/\∃j e,n=0+j/\es[j]?=some e/\e.val=v|none=>∀j,j<es.length->q (0+j)=false)->(match A with|some (i,v)=>q i=true/\∃e,es[i]?=some e/\e.val=v|none=>∀i,i<es.length->q i=false):=by
  intro A O
  cases A with
  |some p=>obtain⟨Y,j,e,m2,U,Z⟩:=O;exact⟨Y,e,by rw[show p.1=j by omega];exact U,Z⟩
  |none=>intro i hi;have:=O i hi;rwa [anr]at this
 cases hn:Instr.findNow d k' es 0 with
 |some A=>exact⟨A,rfl,bz A (a6 es 0 q A (fun j e he=>by rw[anr];exact hq j e he) hn)⟩
 |none=>obtain⟨A,k1,k2⟩:=a7 es 0 q (fun j e he=>by rw[anr];exact hq j e he);exact⟨A,k1,bz A k2⟩
def SR (hr:bq P g h w){kt:TypeId}{vk:VK}{l:List (D×D)}{st:List Nat}{c:Nat}{es:List MapEntry}(O:BE P g w kt vk l st c es)(hp:D0 P kt=true){d:D}(hd:Dc P kt d){k':Value}(Z:aw P g w (de P kt d) k'):
 ∃I,(Instr.findKey kt k' es).run P w= .ok I w/\(match I with|some (i,v)=>D.i7 l d=true/\l[i]?=some (d,D.val l d)/\∃e,es[i]?=some e/\e.val=v|none=>D.i7 l d=false):=by
 have hu:∃t,P.underlying kt=some t:=by obtain⟨_,hs⟩:=tB hp;rcases hs with ⟨k,hu⟩|hu|hu| ⟨fs,hu,_⟩<;>exact⟨_,hu⟩
 obtain⟨I,h1,h2⟩:=adt (P:=P) (w:=w) (k':=k') hu (es:=es) (q:=fun i=>match l[i]? with|some p=>D.Ht d p.1|none=>false) (fun i e he=>by
  have hi:i<l.length:=by have:=(amw.1 he).1;rw[O.len]at this;exact this
  have J:=amr hi;rw[J]
  exact VE hr hp hd (O.IG _ (apz hi)) Z (O.key i _ e J he))
 refine⟨I,h1,?_⟩
 cases I with
 |some p=>
  obtain⟨i,v⟩:=p;obtain⟨A,e,k2,k3⟩:=h2;dsimp only at A ⊢
  cases hi:l[i]? with
  |none=>rw[hi]at A;cases A
  |some x=>rw[hi]at A;have Y:=D.wF.1 A;obtain⟨x1,x2⟩:=x;dsimp only at Y;subst Y;have V:=D.Ov O.nd hi;have U:D.i7 l d=true:=(by unfold D.i7;rw[V];rfl);refine⟨U,?_,e,k2,k3⟩;unfold D.val;rw[V];rfl
 |none=>dsimp only at h2 ⊢;rw[apv];intro U;obtain⟨i,hi⟩:=D.P3 (D.V6 U);have:=h2 i (by have:=(amw.1 hi).1;rw[O.len];exact this);rw[hi]at this;exact absurd rfl (D.zy.1 this)
def bq.SV (I:bq P g h w){b aS aD:Nat}{kt:TypeId}{vk:VK}{l:List (D×D)}{st:List Nat}{c:Nat}(hb:h.get b=some (.cd kt vk l st c))(J:g.m b=some (aS,aD)):
 aD=0/\∃es,w.heap[aS]?=some (.map es c)/\BE P g w kt vk l st c es.toList:=by
 obtain⟨_,o,ho,A⟩:=I.obj _ _ _ _ hb J;simp only[fO]at A;obtain⟨h0,es,rfl,he⟩:=A;exact⟨h0,es,ho,he⟩
def adz {kt U:TypeId}{vk:VK}{l:List (D×D)}{st:List Nat}{c:Nat}{es:List MapEntry}{r:Nat}(O:BE P g w kt vk l st c es){d:D}{i:Nat}{e:MapEntry}{u:BV}(I:D.i7 l d=true)(hl:l[i]?=some (d,D.val l d))(he:es[i]?=some e)(hs:Ap P r U vk l d=some u){y:Nat×Nat}(J:g.m r=some y):aw P g w u e.val:=by
 have:=O.val i _ e hl he;unfold Ap at hs;unfold E1 at this
 cases vk with
 |data A=>
  dsimp only at hs this
  split at hs
  ·rename_i hc
   simp only[amo]at hc;have:=amC hc.2;subst this
   cases hs;assumption
  cases hs
 |dD f A=>dsimp only at hs this;rw[I]at hs;cases hs;obtain⟨x,h1,h2⟩:=this;simp only[aw];exact⟨x.1,x.2,h1,h2,y,J⟩
 |Oq=>dsimp only at hs this;rw[I]at hs;cases hs;simp only[aw];exact⟨_,_,this,ay.nil,ay.nil⟩
def ZW (hr:bq P g h w){t:TypeId}{x k v:BV}{x' k':Value}{ok:Bool}(hx:aw P g w x x')(hk:aw P g w k k')(e:y6 P h t x k ok=some v):
 ∃v',(Instr.lookup t x' k' ok).run P w= .ok v' w/\aw P g w v v':=by
 unfold y6 at e
 split at e
 ·rename_i kt Z hu
  split at e
  ·cases e
  rename_i J
  have J:FC P 4 kt k=true:=by simpa using J
  have a8:=fun em=>abn (P:=P) (g:=g) (w:=w) 4 kt k k' em hk J 10000 (by omega)
  split at e
  ·rename_i r
   split at e
   ·rename_i b4 vk l st ck hb
    split at e
    ·rename_i d hd
     obtain⟨hp,a6,O⟩:=VP hd
     split at e
     ·rename_i I
      have I:=amC I;subst I;simp only[aw]at hx;obtain⟨aS,hm,rfl⟩:=hx;obtain⟨_,es,hw,hrel⟩:=hr.SV hb hm;obtain⟨Y,h1,h2⟩:=SR hr hrel hp O (UQ (tB hp).1 a6 hk);have hrun:(Instr.lookup t (.map (some aS)) k' ok).run P w=
       ((do let (v,ok')<-(match Y with|some (_,v)=>pure (v,true)|none=>do pure (<-zeroValue Z,false));pure (if ok then .tuple #[v,.bool ok']else v)):Sem Value).run P w:=by
       refine(Sem.run_bind P w (underlying t) _).trans ?_;rw[aO hu,Result.andThen_ok];dsimp only;simp only[Sem.run_bind,Sem.run_pure,Result.andThen_ok,vw hw,a8,h1]
       cases Y with
       |none=>cases hz:(zeroValue Z).run P w<;>simp[hz]
       |some q=>rfl
      split at e
      ·rename_i u hs
       have hv:v=(if ok then .tuple [u,.bool (D.i7 l d)]else u):=(by simpa using e.symm);subst hv
       cases Y with
       |some q=>
        obtain⟨j,u'⟩:=q;obtain⟨A,k2,en,k3,rfl⟩:=h2;have U:=adz hrel A k2 k3 hs hm;refine⟨if ok then .tuple #[en.val,.bool true]else en.val,by rw[hrun];cases ok<;>rfl,?_⟩
        cases ok with
        |false=>exact U
        |true=>simp only[am5,aw];exact⟨_,rfl,ay.cons U (ay.cons (by simp[aw,A]) ay.nil)⟩
       |none=>
        have A:D.i7 l d=false:=h2;have hz:q7 P Z=some u:=by
         unfold Ap at hs
         cases vk with
         |data a7=>
          dsimp only at hs
          split at hs
          ·rw[A]at hs;exact hs
          cases hs
         |dD f a7=>dsimp only at hs;rw[A]at hs;exact hs
         |Oq=>dsimp only at hs;rw[A]at hs;exact hs
        obtain⟨z',b1,V⟩:=Ja hz w;refine⟨if ok then .tuple #[z',.bool false]else z',by rw[hrun];simp[b1],?_⟩
        cases ok with
        |false=>exact V g
        |true=>simp only[am5,aw];exact⟨_,rfl,ay.cons (V g) (ay.cons (by simp[aw,A]) ay.nil)⟩
      cases e
     cases e
    cases e
   cases e
  cases e
 cases e
end
end
section
def D.Ar {k:D}{x:Nat}:∀{ks:List D} {st:List Nat} {i:Nat},ks.Nodup->ks[i]?=some k->st[i]?=some x->D.kP ks st k=x
 | [],_,i,_,h,_=>by simp at h
 |p::q,[],i,_,_,h=>by simp at h
 |p::q,y::t,i,A,h1,h2=>by
  show (match D.Ht p k with|true=>y|false=>D.kP q t k)=x;rw[anp]at A
  cases i with
  |zero=>simp at h1 h2;subst h1;subst h2;rw[D.wF.2 rfl]
  |succ i=>simp at h1 h2;rw[D.zy.2 fun e=>A.1 (by rw[e];exact amn h1)];exact D.Ar A.2 h1 h2
section
variable {P:Program} {g:Gh} {h:ai} {w w':World}
def BE.Gp {kt Y:TypeId}{l:List (D×D)}{st:List Nat}{c:Nat}{es:List MapEntry}(J:BE P g w kt (.data Y) l st c es){d v:D}{i:Nat}{q:D}(hl:l[i]?=some (d,q)){k' Z:Value}(hk:aw P g w (de P kt d) k')(hv:aw P g w (de P Y v) Z):
 BE P g w kt (.data Y) (D.mC l d v) st c (es.modify i fun e=>{e with key:=k',val:=Z}):=by
 refine⟨by simp[D.Bl,J.len],by rw[D.Bl];exact J.sl,fun j p x h1 h2=>?_,fun j s x h1 h2=>?_,fun j p x h1 h2=>?_,fun p hp=>?_,by rw[D.CJ];exact J.nd,J.snd,J.Ny⟩
 ·obtain⟨y,I,O,_⟩:=D.xG h1;rw[apc]at h2
  cases e:es[j]? with
  |none=>rw[e]at h2;cases h2
  |some z=>
   rw[e]at h2
   by_cases A:i=j
   ·subst A;rw[hl]at I;cases I;simp at h2;subst h2;rw[O];exact hk
   simp[A]at h2;subst h2;rw[O];exact J.key j y z I e
 ·rw[apc]at h2
  cases e:es[j]? with
  |none=>rw[e]at h2;cases h2
  |some z=>
   rw[e]at h2;have:=J.born j s z h1 e
   by_cases A:i=j
   ·subst A;simp at h2;subst h2;exact this
   simp[A]at h2;subst h2;exact this
 ·obtain⟨y,I,O,y3,y4⟩:=D.xG h1;rw[apc]at h2
  cases e:es[j]? with
  |none=>rw[e]at h2;cases h2
  |some z=>
   rw[e]at h2
   by_cases A:i=j
   ·subst A;rw[hl]at I;cases I;simp at h2;subst h2;unfold E1;dsimp only;rw[y4 rfl];exact hv
   simp[A]at h2;subst h2;have U:y.1≠d:=fun V=>A ((ao0 (by rw[D.Bj];exact(amw.1 hl).1) J.nd).1 ((D.xF hl).trans (by rw[D.xF I,V])));have:=J.val j y z I e;unfold E1 at this ⊢;rw[y3 U];exact this
 obtain⟨j,hj⟩:=anL hp;obtain⟨y,I,O,_⟩:=D.xG hj;rw[O];exact J.IG y (amn I)
def BE.app {g':Gh}{w':World}{kt:TypeId}{vk:VK}{l:List (D×D)}{st:List Nat}{c:Nat}{es:List MapEntry}(O:BE P g' w' kt vk l st c es){d v:D}(hd:Dc P kt d)(hh:D.i7 l d=false){k' v':Value}(hk:aw P g' w' (de P kt d) k')(hv:E1 P g' w' vk d v v'):
 BE P g' w' kt vk (l++[(d,v)]) (st++[c]) (c+1) (es++[⟨k',v',c⟩]):=by
 have Z:=O.len;have a6:=O.sl;have J:∀(j:Nat) p,(l++[(d,v)])[j]?=some p->(j<l.length/\l[j]?=some p)\/(j=l.length/\p=(d,v)):=fun j p I=>by
  rw[anj]at I
  split at I
  ·rename_i Y;exact .inl ⟨Y,I⟩
  have:j-l.length=0:=by
   rcases aoT (j-l.length)with h|h
   ·exact h
   rw[anu (by simp;omega)]at I;cases I
  rw[this]at I;cases I;exact .inr ⟨by omega,rfl⟩
 have A:∀(j:Nat) x,(es++[⟨k',v',c⟩])[j]?=some x->(j<l.length/\es[j]?=some x)\/(j=l.length/\x=⟨k',v',c⟩):=fun j p I=>by
  rw[anj]at I
  split at I
  ·rename_i Y;exact .inl ⟨by omega,I⟩
  have:j-es.length=0:=by
   rcases aoT (j-es.length)with h|h
   ·exact h
   rw[anu (by simp;omega)]at I;cases I
  rw[this]at I;cases I;exact .inr ⟨by omega,rfl⟩
 refine⟨by simp[Z],by simp[a6],fun j p x h1 h2=>?_,fun j s x h1 h2=>?_,fun j p x h1 h2=>?_,fun p hp=>?_,?_,?_,fun s hs=>?_⟩
 ·rcases J j p h1 with ⟨a,b⟩| ⟨a,hp⟩
  ·rcases A j x h2 with ⟨U,V⟩| ⟨U,_⟩
   ·exact O.key j p x b V
   omega
  rcases A j x h2 with ⟨U,V⟩| ⟨U,hx⟩
  ·omega
  subst hp;subst hx;exact hk
 ·rcases A j x h2 with ⟨U,V⟩| ⟨U,rfl⟩
  ·rw[an7 (by omega)]at h1;exact O.born j s x h1 V
  rw[apl (by omega),show j-st.length=0 by omega]at h1;cases h1;rfl
 ·rcases J j p h1 with ⟨a,b⟩| ⟨a,hp⟩
  ·rcases A j x h2 with ⟨U,V⟩| ⟨U,_⟩
   ·exact O.val j p x b V
   omega
  rcases A j x h2 with ⟨U,V⟩| ⟨U,hx⟩
  ·omega
  subst hp;subst hx;exact hv
 ·rcases amO.1 hp with hp|hp
  ·exact O.IG p hp
  simp at hp;subst hp;exact hd
 ·rw[D.VQ,aop];refine⟨O.nd,by simp[D.fh],fun a ha b hb=>?_⟩;simp[D.fh]at hb;subst hb;intro he;subst he;rw[D.aht.2 ha]at hh;cases hh
 ·rw[aop];refine⟨O.snd,by simp,fun a ha b hb=>?_⟩;simp at hb;subst hb;have:=O.Ny a ha;omega
 rcases amO.1 hs with hs|hs
 ·have:=O.Ny s hs;omega
 simp at hs;omega
def bq.aj0 (U:bq P g h w){r aS:Nat}{kt:TypeId}{vk:VK}{l J:List (D×D)}{st A:List Nat}{c c1:Nat}{es es1:Array MapEntry}(hb:h.get r=some (.cd kt vk l st c))(Y:g.m r=some (aS,0))(hw:w.heap[aS]?=some (.map es c))
 (he:BE P g w kt vk J A c1 es1.toList)(V:(aE.cd kt vk l st c).CF=none:=by rfl)(O:(aE.cd kt vk J A c1).CF=none:=by rfl):
 bq P g (h.put r (some (.cd kt vk J A c1))) (w.iI aS (.map es1 c1))/\mO g h w g (h.put r (some (.cd kt vk J A c1))) (w.iI aS (.map es1 c1)):=by
 refine U.XS (hf:=V) (hf':=O) hb Y hw rfl ⟨rfl,rfl,rfl⟩ (fun s hs=>?_) (fun I=>?_)
 ·simp[World.shape?,hw]at hs
 simp only[fO];exact⟨trivial,es1,rfl,he.mono I⟩
def MX {t:TypeId}(hs:ZR P t)(d:D):(match yk P t d with| .int .. | .ax _| .bool _=>true|_=>false)=true:=by
 rcases hs with ⟨k,hu⟩|hu|hu<;>simp[yk,hu]
def Ip (n:Nat)(d:D):∀(fs:List Field) (i:Nat),sJ P fs i=true->(ji (fq P (n+1)) fs i d).all (fun c=>match c with| .int .. | .ax _| .bool _=>true|_=>false)=true
 | [],_,_=>rfl
 |x::r,i,hp=>by obtain⟨_,_,A,_,I⟩:=zd hp;simp only[ji];rw[Jb A,aod,Ip n d r (i+1) I];simp only[ap4,List.all_nil,anJ];exact MX A _
def W5 {t:TypeId}(O:D0 P t=true)(d:D):zF (de P t d)=true:=by
 obtain⟨_,hs⟩:=tB O
 by_cases A:ZR P t
 ·rw[Gm A];have:=MX A d;unfold zF;rcases A with ⟨k,hu⟩|hu|hu<;>simp[yk,hu]
 obtain⟨fs,hu,hp,J⟩:∃fs,P.underlying t=some (.struct fs)/\sJ P fs.toList 0=true/\P.stoodInHeld t=false:=by
  rcases hs with h|h|h|h
  ·exact absurd (.inl h) A
  ·exact absurd (.inr (.inl h)) A
  ·exact absurd (.inr (.inr h)) A
  exact h
 have I:jw P t=some true:=by simp[jw,hu]
 simp only[de,I,zF,aH,fq,hu];exact Ip 6 d fs.toList 0 hp
end
end
section
section
variable {P:Program} {g:Gh} {h:ai} {w w':World}
def Gh.vI (g:Gh)(f:Nat)(k:D)(x:Nat×Nat):Gh:={g with s:=fun f' k'=>@ite _ (f'=f/\k'=k) (Classical.propDecidable _) (some x) (g.s f' k')}
def Gh.aeW (g:Gh)(f:Nat)(k:D)(x:Nat×Nat):(g.vI f k x).s f k=some x:=by simp[Gh.vI]
def Gh.acb (g:Gh){f f':Nat}{k k':D}{x:Nat×Nat}(h:¬(f'=f/\k'=k)):(g.vI f k x).s f' k'=g.s f' k':=by
 unfold Gh.vI;exact amt h
def bq.ajr (hr:bq P g h w){r c aS O I:Nat}{kt e f:Nat}{l:List (D×D)}{st:List Nat}{ck:Nat}{cs:List BV}{d k:D}{es:Array MapEntry}{k':Value}
 (hb:h.get r=some (.cd kt (.dD f e) l st ck))(hm:g.m r=some (aS,0))(hw:w.heap[aS]?=some (.map es ck))(hrel:BE P g w kt (.dD f e) l st ck es.toList)
 (hc:h.get c=some (.cells cs e false))(d1:g.m c=some (O,I))(hd:cZ P e=true)(hu:XE P e cs=some d)(hh:D.i7 l k=false)(hk:Dc P kt k)(i1:aw P g w (de P kt k) k'):
 bq P (g.vI f k (O,I)) ((h.put c (some (.tQ r f k))).put r (some (.cd kt (.dD f e) (l++[(k,d)]) (st++[ck]) (ck+1)))) (w.iI aS (.map (es.push ⟨k',.pointer (some ⟨O,I,none⟩),ck⟩) (ck+1)))/\
 mO g h w (g.vI f k (O,I)) ((h.put c (some (.tQ r f k))).put r (some (.cd kt (.dD f e) (l++[(k,d)]) (st++[ck]) (ck+1)))) (w.iI aS (.map (es.push ⟨k',.pointer (some ⟨O,I,none⟩),ck⟩) (ck+1)))/\
 Ph g h (g.vI f k (O,I)) ((h.put c (some (.tQ r f k))).put r (some (.cd kt (.dD f e) (l++[(k,d)]) (st++[ck]) (ck+1)))):=by
 generalize e5:g.vI f k (O,I)=g';generalize ho':aE.cd kt (.dD f e) (l++[(k,d)]) (st++[ck]) (ck+1)=o';generalize g7:(h.put c (some (.tQ r f k))).put r (some o')=h';generalize e4:w.iI aS (.map (es.push ⟨k',.pointer (some ⟨O,I,none⟩),ck⟩) (ck+1))=w';have e0:r≠c:=fun J=>by subst J;rw[hb]at hc;cases hc
 have h8:g.s f k=none:=by
  cases J:g.s f k with
  |none=>rfl
  |some x=>
   obtain⟨⟨o1,h1⟩,_⟩:=hr.sk _ _ _ _ _ hb rfl J;unfold D.i7 at hh;simp only[aE.BM,am5]at h1
   cases V:D.ia l k with
   |none=>rw[V]at h1;cases h1
   |some y=>rw[V]at hh;cases hh
 have e7:∀f' Z x,g.s f' Z=some x->¬(f'=f/\Z=k):=fun f' Z x h1 h2=>by obtain⟨rfl,rfl⟩:=h2;rw[h8]at h1;cases h1
 have gm:g'.m=g.m:=by subst e5;rfl
 have d6:g'.fz=g.fz:=by subst e5;rfl
 have a7:g'.s f k=some (O,I):=by subst e5;exact Gh.aeW _ _ _ _
 have U:∀f' Z,¬(f'=f/\Z=k)->g'.s f' Z=g.s f' Z:=fun f' Z h1=>by subst e5;exact Gh.acb _ h1
 have b1:∀x,h'.get x=if x=r then some o' else if x=c then some (.tQ r f k)else h.get x:=fun x=>by subst g7;rw[ai.iR,ai.iR]
 have b6:h'.next=h.next:=by subst g7;rfl
 have d5:o'.CF=some f:=by subst ho';rfl
 have g2:o'.nf=some o':=by subst ho';rfl
 have g1:w'.heap.size=w.heap.size:=by subst e4;simp[World.iI]
 have h6:aS<w.heap.size:=hr.img r aS 0 hm;have Y:∀x,x≠aS->w'.heap[x]?=w.heap[x]?:=fun x hx=>by subst e4;unfold World.iI;exact anc (by omega)
 have e8:w'.heap[aS]?=some (.map (es.push ⟨k',.pointer (some ⟨O,I,none⟩),ck⟩) (ck+1)):=by subst e4;exact iJ h6
 have d2:=ai.jH hb rfl;have d3:=ai.jH hc rfl;have g5:¬g.fz aS:=(hr.obj r _ aS 0 hb hm).1
 have a6:iL g w g' w':=⟨fun b x J=>by rw[gm];exact J,fun c J=>by rw[d6];exact J,fun c h1=>Y c (fun J=>g5 (J▸h1)),fun c s h1=>by
  by_cases J:c=aS
  ·subst J;simp[World.shape?,hw]at h1
  rw[kE (Y c J)];exact h1,fun f' Z x h1=>by rw[U _ _ (e7 _ _ _ h1)];exact h1⟩
 have hat:∀L o1,h'.at L=some o1->(L= .el r f k/\o1= .bY e [d] false)\/(L= .aS r/\o1=o')\/(L≠ .aS r/\L≠ .aS c/\L≠ .el r f k/\h.at L=some o1):=fun L o1 J=>by
  cases L with
  |aS x=>
   obtain⟨V,e3⟩:=ai.CP J;rw[b1]at V
   by_cases hx:x=r
   ·subst hx;rw[amu rfl]at V;cases V;exact .inr (.inl ⟨rfl,rfl⟩)
   rw[amt hx]at V
   by_cases d7:x=c
   ·subst d7;rw[amu rfl]at V;cases V;cases e3
   rw[amt d7]at V;exact .inr (.inr ⟨fun h=>(by cases h;exact hx rfl),fun h=>(by cases h;exact d7 rfl),fun h=>(by cases h),ai.jH V e3⟩)
  |el x f' Z=>
   obtain⟨y,V,e3⟩:=ai.RU J;rw[b1]at V
   by_cases hx:x=r
   ·subst hx;rw[amu rfl]at V;cases V;have e6:=aE.wv e3;rw[d5]at e6;cases e6;subst ho';simp only[aE.BM,am5]at e3
    by_cases d4:Z=k
    ·subst d4;rw[D.CL hh]at e3;cases e3;exact .inl ⟨rfl,rfl⟩
    rw[D.FG d4]at e3;refine .inr (.inr ⟨fun h=>(by cases h),fun h=>(by cases h),fun h=>(by cases h;exact d4 rfl),ai.Hs hb ?_⟩);simp only[aE.BM,am5];exact e3
   rw[amt hx]at V
   by_cases d7:x=c
   ·subst d7;rw[amu rfl]at V;cases V;cases e3
   rw[amt d7]at V;exact .inr (.inr ⟨fun h=>(by cases h),fun h=>(by cases h),fun h=>(by cases h;exact hx rfl),ai.Hs V e3⟩)
 have i2:∀L,L≠ .el r f k->(∀x,L≠ .el x f k)->g'.at L=g.at L:=fun L _ h2=>by
  cases L with
  |aS x=>show g'.m x=g.m x;rw[gm]
  |el x f' Z=>exact U f' Z fun b4=>by obtain⟨rfl,rfl⟩:=b4;exact h2 x rfl
 have e9:∀x o1,x≠r->h.at (.el x f k)≠some o1:=fun x o1 hx J=>by obtain⟨y,V,e3⟩:=ai.RU J;exact hx (hr.fu _ _ _ _ _ V hb (aE.wv e3) rfl)
 have d9:∀L o1,h.at L=some o1->L≠ .el r f k->g'.at L=g.at L:=fun L o1 J h2=>i2 L h2 fun x hx=>by
  subst hx
  by_cases g4:x=r
  ·subst g4;exact h2 rfl
  exact e9 x o1 g4 J
 have g9:Ob g' h':=by
  refine⟨fun b o h1=>?_,fun b x h1=>by rw[b6];exact hr.lt b x (gm▸h1),fun f' Z x h1=>?_,fun b o f' h1 h2=>?_,fun b b' o o1 f' h1 h2 h3 h4=>?_,fun b o f' Z x h1 h2 h3=>?_,fun b b' f' Z h1=>?_⟩
  ·rw[b6];rw[b1]at h1
   by_cases J:b=r
   ·rw[J];exact hr.PJ _ _ hb
   rw[amt J]at h1
   by_cases V:b=c
   ·rw[V];exact hr.PJ _ _ hc
   rw[amt V]at h1;exact hr.PJ _ _ h1
  ·rw[b6]
   by_cases b4:f'=f/\Z=k
   ·rw[b4.1];exact hr.Hv _ _ _ hb rfl
   rw[U _ _ b4]at h1;exact hr.Ny _ _ _ h1
  ·rw[b6];rw[b1]at h1
   by_cases J:b=r
   ·rw[amu J]at h1;cases h1;rw[d5]at h2;cases h2;exact hr.Hv _ _ _ hb rfl
   rw[amt J]at h1
   by_cases V:b=c
   ·rw[amu V]at h1;cases h1;cases h2
   rw[amt V]at h1;exact hr.Hv _ _ _ h1 h2
  ·have f9:∀b o,h'.get b=some o->o.CF=some f'->∃o2,h.get b=some o2/\o2.CF=some f':=fun b o h1 h2=>by
    rw[b1]at h1
    by_cases J:b=r
    ·rw[amu J]at h1;cases h1;rw[d5]at h2;cases h2;exact⟨_,J▸hb,rfl⟩
    rw[amt J]at h1
    by_cases V:b=c
    ·rw[amu V]at h1;cases h1;cases h2
    rw[amt V]at h1;exact⟨o,h1,h2⟩
   obtain⟨p1,Z,k2⟩:=f9 _ _ h1 h3;obtain⟨p2,j1,j2⟩:=f9 _ _ h2 h4;exact hr.fu _ _ _ _ _ Z j1 k2 j2
  ·rw[b1]at h1;rw[gm]
   by_cases J:b=r
   ·rw[amu J]at h1;cases h1;rw[d5]at h2;cases h2;refine⟨?_,⟨_,J▸hm⟩⟩;subst ho';simp only[aE.BM,am5]
    by_cases d4:Z=k
    ·subst d4;rw[D.CL hh];exact⟨_,rfl⟩
    rw[D.FG d4];rw[U _ _ fun b4=>d4 b4.2]at h3;obtain⟨⟨o1,k2⟩,_⟩:=hr.sk _ _ _ _ _ hb rfl h3;simp only[aE.BM,am5]at k2;exact⟨o1,k2⟩
   rw[amt J]at h1
   by_cases V:b=c
   ·rw[amu V]at h1;cases h1;cases h2
   rw[amt V]at h1;have e6:¬(f'=f/\Z=k):=fun b4=>J (hr.fu _ _ _ _ _ h1 hb (b4.1▸h2) rfl);rw[U _ _ e6]at h3;exact hr.sk _ _ _ _ _ h1 h2 h3
  rw[b1]at h1;rw[gm]
  by_cases J:b=r
  ·rw[amu J]at h1;cases h1;cases g2
  rw[amt J]at h1
  by_cases V:b=c
  ·rw[amu V]at h1;cases h1;exact⟨⟨_,V▸d1,a7⟩,_,hm⟩
  rw[amt V]at h1;obtain⟨⟨x,h9,k2⟩,k3⟩:=hr.al _ _ _ _ h1;exact⟨⟨x,h9,by rw[U _ _ (e7 _ _ _ k2)];exact k2⟩,k3⟩
 refine⟨g9.UH ?_ ?_ ?_ ?_,⟨a6,by omega,?_,fun x _ hx=>?_,fun x _ h1=> .inl (d6▸h1),by rw[b6];exact amG _,by subst e4;exact⟨rfl,rfl,rfl⟩⟩,fun b i4 J hv=>⟨by rw[gm];exact J,?_⟩⟩
 ·intro L a8 A h1;rw[g1]
  cases L with
  |aS x=>exact hr.rV (.aS x) a8 A (by rw[<-h1];show g.m x=g'.m x;rw[gm])
  |el x f' Z=>
   by_cases b4:f'=f/\Z=k
   ·obtain⟨rfl,rfl⟩:=b4
    change g'.s f' Z=_ at h1
    rw[a7]at h1;cases h1;exact hr.img c _ _ d1
   exact hr.rV (.el x f' Z) a8 A (by rw[<-h1];exact(U _ _ b4).symm)
 ·intro L1 L2 a8 A d0 o1 o2 h1 h2 m1 m2;have conv:∀L o1 A,h'.at L=some o1->g'.at L=some (a8,A)->(L= .el r f k/\a8=O)\/(L≠ .el r f k/\L≠ .aS c/\∃o2 d0,h.at L=some o2/\g.at L=some (a8,d0)):=fun L o1 A h1 m1=>by
   rcases hat L o1 h1 with ⟨rfl,_⟩| ⟨rfl,_⟩| ⟨n1,n2,n3,g6⟩
   ·left;refine⟨rfl,?_⟩;change g'.s f k=_ at m1;rw[a7]at m1;cases m1;rfl
   ·right;refine⟨fun h=>(by cases h),fun h=>(by cases h;exact e0 rfl),_,A,d2,?_⟩;rw[<-m1];show g.m r=g'.m r;rw[gm]
   exact .inr ⟨n3,n2,o1,A,g6,by rw[<-m1];exact(d9 L o1 g6 n3).symm⟩
  rcases conv L1 o1 A h1 m1 with ⟨rfl,rfl⟩| ⟨n1,h5,p1,q1,j1,j2⟩
  ·rcases conv L2 o2 d0 h2 m2 with ⟨rfl,_⟩| ⟨n2,g3,p2,q2,l1,l2⟩
   ·rfl
   exact absurd (hr.rW _ _ _ _ _ _ _ l1 d3 l2 d1) g3
  rcases conv L2 o2 d0 h2 m2 with ⟨rfl,e3⟩| ⟨n2,g3,p2,q2,l1,l2⟩
  ·subst e3;exact absurd (hr.rW _ _ _ _ _ _ _ j1 d3 j2 d1) h5
  exact hr.rW _ _ _ _ _ _ _ j1 l1 j2 l2
 ·intro L o1 a8 A h1 m1;rcases hat L o1 h1 with ⟨rfl,rfl⟩| ⟨rfl,rfl⟩| ⟨n1,n2,n3,h1⟩
  ·change g'.s f k=_ at m1
   rw[a7]at m1;cases m1;obtain⟨Z,o2,k2,k3⟩:=hr.vL _ _ _ _ d3 d1;have g0:O≠aS:=fun ee=>by
    have:=hr.rW _ _ _ _ _ _ _ d3 d2 d1 (ee▸hm)
    cases this;exact e0 rfl
   refine⟨by rw[d6];exact Z,o2,(Y _ g0).trans k2,?_⟩;simp only[fO]at k3 ⊢;obtain⟨cc,lo,hi,rfl,⟨vs,hv,h7⟩,_,hs⟩:=k3;obtain⟨rfl,rfl⟩:=hs trivial;refine⟨cc,0,0,rfl,BF.zero _ _ _,vs,?_,h7⟩;have hD:=D9 hu hv;have:=dm.cons (l:=[]) (vs:=[]) (by rw[qk.length hd hD]) hD dm.nil;simp only[ana]at this;exact this.mono a6.mf a6.mc
  ·change g'.m r=_ at m1
   rw[gm,hm]at m1;cases m1;refine⟨by rw[d6];exact g5,_,e8,?_⟩;subst ho';simp only[fO];refine⟨trivial,_,rfl,?_⟩;rw[apu];exact(hrel.mono a6).app hk hh (aw.mono a6 _ _ i1) (by unfold E1;exact⟨(O,I),a7,rfl⟩)
  rw[d9 L o1 h1 n3]at m1;obtain⟨Z,o2,i3,g8⟩:=hr.vL _ _ _ _ h1 m1;have e0:a8≠aS:=fun ee=>n1 (hr.rW _ _ _ _ _ _ _ h1 d2 (ee▸m1) hm);exact⟨by rw[d6];exact Z,o2,(Y _ e0).trans i3,g8.mono a6⟩
 ·intro x hx;rw[g1];exact hr.oU x (d6▸hx)
 ·intro x hx hno;exact Y x (fun e=>hno ⟨.aS r,_,0,d2,e▸hm⟩)
 ·obtain⟨L,o1,A,hl,d8⟩:=hx;rcases hat L o1 hl with ⟨rfl,_⟩| ⟨rfl,_⟩| ⟨n1,n2,n3,h1⟩
  ·change g'.s f k=_ at d8;rw[a7]at d8;cases d8;exact⟨.aS c,_,I,d3,d1⟩
  ·exact⟨.aS r,_,A,d2,by rw[<-d8];show g.m r=g'.m r;rw[gm]⟩
  exact⟨L,o1,A,h1,by rw[<-d8];exact(d9 L o1 h1 n3).symm⟩
 rw[b1,amt (fun ee=>by subst ee;rw[hm]at J;cases J),amt fun ee=>by subst ee;rw[d1]at J;cases J]
end
end
section
def PC:∀(n:Nat),(∀a b,D.beq n a b=true->a=b)/\(∀a b,D.E8 n a b=true->a=b):=by
 intro n
 induction n with
 |zero=>exact⟨fun a b h=>by simp[D.beq]at h,fun a b h=>by simp[D.E8]at h⟩
 |succ n J=>
  obtain⟨I,A⟩:=J;constructor
  ·intro a b h
   cases a<;>cases b<;>simp only[D.beq,amY,amp]at h<;>first
    | (subst h;rfl)
    | (have:=A _ _ h;subst this;rfl)
  intro a b h
  cases a<;>cases b<;>simp only[D.E8,amo,amp]at h<;>first
   |rfl
   | (obtain⟨h1,h2⟩:=h;rw[I _ _ h1,A _ _ h2])
def abJ:∀(n:Nat),(∀a b,BV.beq n a b=true->a=b)/\(∀a b,BV.E8 n a b=true->a=b):=by
 intro n
 induction n with
 |zero=>exact⟨fun a b h=>by simp[BV.beq]at h,fun a b h=>by simp[BV.E8]at h⟩
 |succ n J=>
  obtain⟨I,A⟩:=J;constructor
  ·intro a b h
   cases a<;>cases b<;>simp only[BV.beq,amo,amY,amp]at h<;>first
    |rfl
    | (subst h;rfl)
    | (obtain⟨rfl,rfl⟩:=h;rfl)
    | (obtain⟨⟨⟨rfl,rfl⟩,rfl⟩,rfl⟩:=h;rfl)
    | (obtain⟨⟨⟨rfl,rfl⟩,h1⟩,rfl⟩:=h;have:=(PC n).1 _ _ h1;subst this;rfl)
    | (obtain⟨⟨rfl,rfl⟩,rfl⟩:=h;rfl)
    | (obtain⟨rfl,h1⟩:=h;have:=(PC n).2 _ _ h1;subst this;rfl)
    | (have:=A _ _ h;subst this;rfl)
    | (obtain⟨⟨h1,rfl⟩,rfl⟩:=h;have:=A _ _ h1;subst this;rfl)
    | (obtain⟨⟨rfl,h1⟩,h2⟩:=h;have:=A _ _ h1;have:=A _ _ h2;subst_vars;rfl)
    | (obtain⟨rfl,h1⟩:=h;have:=I _ _ h1;subst this;rfl)
  intro a b h
  cases a<;>cases b<;>simp only[BV.E8,amo,amp]at h<;>first
   |rfl
   | (obtain⟨h1,h2⟩:=h;rw[I _ _ h1,A _ _ h2])
section
variable {P:Program} {g:Gh} {h:ai} {w:World}
def Nd {b:BV}{u v:Value}(hb:(match b with| .int .. | .ax _| .bool _=>true|_=>false)=true)(A:aw P g w b u)(I:aw P g w b v)(n:Nat):Instr.sameBits n u v=true:=by
 cases b<;>simp at hb<;>simp only[aw]at A I<;>subst A I
 ·cases n<;>simp[Instr.sameBits]
 ·cases n<;>simp[Instr.sameBits]
 cases n<;>(simp only[Instr.sameBits,RY];simp)
def ZC {b:BV}{u v:Value}(hb:zF b=true)(A:aw P g w b u)(I:aw P g w b v):Instr.sameBits 10000 u v=true:=by
 by_cases Y:∃cs,b= .agg cs
 ·obtain⟨cs,rfl⟩:=Y;simp only[zF,ang]at hb;simp only[aw]at A I;obtain⟨us,rfl,A⟩:=A;obtain⟨vs,rfl,I⟩:=I;rw[show (10000:Nat)=9999+1 from rfl];simp only[Instr.sameBits,amo,amY,ang];have h1:=A.length;have h2:=I.length;refine⟨by simp at h1 h2;omega,fun x Z=>?_⟩;obtain⟨i,hi⟩:=anL Z;rw[List.getElem?_zip_eq_some]at hi;obtain⟨b,O,V⟩:=A.ajK hi.1;obtain⟨v',J,U⟩:=I.get O;rw[hi.2]at J;cases J;exact Nd (hb b (amn O)) V U _
 refine Nd ?_ A I _
 cases b<;>simp[zF]at hb ⊢
 exact Y ⟨_,rfl⟩
def agz (hr:bq P g h w){t kt Z d1:TypeId}{r:Nat}{vk:VK}{l:List (D×D)}{st:List Nat}{ck:Nat}{k v:BV}{d:D}{k' v':Value}{aS:Nat}{h':ai}(hu:P.underlying t=some (.map Z d1))(d2:Z=kt)(hb:h.get r=some (.cd kt vk l st ck))(Y:g.m r=some (aS,0))
 (V:∀em,(Instr.checkKey em 10000 Z k').run P w= .ok () w)(hk:aw P g w k k')(hv:aw P g w v v')(hd:YK P kt k=some d)(e:Nz P h r kt vk l st ck d v=some h'):
 ∃g' w',(Instr.mapUpdate t (.map (some aS)) k' v').run P w= .ok () w'/\bq P g' h' w'/\mO g h w g' h' w'/\Ph g h g' h':=by
 subst d2;obtain⟨hp,d3,J⟩:=VP hd;have O:=UQ (tB hp).1 d3 hk;obtain⟨_,es,hw,hrel⟩:=hr.SV hb Y;obtain⟨r',h1,h2⟩:=SR hr hrel hp J O;unfold Nz at e
 cases vk with
 |data et=>
  dsimp only at e
  split at e
  ·rename_i a6
   split at e
   ·rename_i dv a7
    have b1:=UQ a6 a7 hv
    split at e
    ·rename_i U
     cases e
     cases r' with
     |none=>dsimp only at h2;rw[U]at h2;cases h2
     |some q=>obtain⟨i,u⟩:=q;obtain⟨_,hl,en,he,rfl⟩:=h2;have A:=hr.aj0 hb Y hw (es1:=es.modify i fun e=>{e with key:=k',val:=v'}) (c1:=ck) (by rw[Array.toList_modify];exact hrel.Gp hl O b1);refine⟨g,_,?_,A.1,A.2,Ph.put Y _⟩;have a8:(Instr.keyThatStays (((es[i]?).map (·.key)).getD k') k').run P w= .ok k' w:=(by have b6:es[i]?=some en:=(by simpa using he);rw[b6];have d4:=hrel.key i _ en hl he;simp[Instr.keyThatStays,ZC (W5 hp d) d4 O]);simp only[Instr.mapUpdate,Sem.run_bind,aO hu,Result.andThen_ok,vw hw,V,h1,a8,KU hw]
    rename_i U
    cases e
    cases r' with
    |some q=>obtain⟨i,u⟩:=q;exact absurd h2.1 U
    |none=>have A:=hr.aj0 hb Y hw (es1:=es.push {key:=k',val:=v',born:=ck}) (c1:=ck+1) (by rw[apu];exact hrel.app J (by simpa using U) O b1);refine⟨g,_,?_,A.1,A.2,Ph.put Y _⟩;simp only[Instr.mapUpdate,Sem.run_bind,aO hu,Result.andThen_ok,vw hw,V,h1,KU hw]
   cases e
  cases e
 |dD f el=>
  dsimp only at e
  split at e
  ·rename_i a6
   split at e
   ·rename_i c off
    split at e
    ·rename_i cs e' hc
     split at e
     ·rename_i I
      simp only[amo]at I;have he:=amC I.1;have ho:=amC I.2;subst he;subst ho
      split at e
      ·rename_i dv a7
       split at e
       ·cases e
       rename_i U
       cases e
       simp only[aw]at hv;obtain⟨d5,d0,b4,rfl⟩:=hv
       cases r' with
       |some q=>obtain⟨i,u⟩:=q;exact absurd h2.1 U
       |none=>obtain⟨a1,a2,a3⟩:=hr.ajr hb Y hw hrel hc b4 a6 a7 (by simpa using U) J O;refine⟨_,_,?_,a1,a2,a3⟩;simp only[Instr.mapUpdate,Sem.run_bind,aO hu,Result.andThen_ok,vw hw,V,h1,KU hw,anN]
      cases e
     cases e
    cases e
   cases e
  cases e
 |Oq=>
  dsimp only at e
  split at e
  ·rename_i f
   split at e
   ·cases e
   rename_i U
   cases e
   simp only[aw,ay]at hv;obtain⟨a',c',rfl,ha,hc⟩:=hv;have ha:a'=#[]:=(by apply aoF;simpa using ha);have hc:c'=#[]:=(by apply aoF;simpa using hc);subst ha hc
   cases r' with
   |some q=>obtain⟨i,u⟩:=q;exact absurd h2.1 U
   |none=>have A:=hr.aj0 hb Y hw (es1:=es.push {key:=k',val:= .func (.func f) #[] #[],born:=ck}) (c1:=ck+1) (by rw[apu];exact hrel.app (v:= .z (Int.ofNat f)) J (by simpa using U) O (by simp[E1,D.int]));refine⟨g,_,?_,A.1,A.2,Ph.put Y _⟩;simp only[Instr.mapUpdate,Sem.run_bind,aO hu,Result.andThen_ok,vw hw,V,h1,KU hw]
  cases e
def Iq (hr:bq P g h w){t:TypeId}{m k v:BV}{V k' U:Value}{h':ai}(Y:aw P g w m V)(Z:aw P g w k k')(hv:aw P g w v U)(e:mA P h t m k v=some h'):
 ∃g' w',(Instr.mapUpdate t V k' U).run P w= .ok () w'/\bq P g' h' w'/\mO g h w g' h' w'/\Ph g h g' h':=by
 unfold mA at e
 split at e
 ·rename_i kt et r hu
  simp only[aw]at Y;obtain⟨aS,J,rfl⟩:=Y
  split at e
  ·cases e
  rename_i A
  have A:FC P 4 kt k=true:=by simpa using A
  have O:=fun em=>abn (P:=P) (g:=g) (w:=w) 4 kt k k' em Z A 10000 (by omega)
  split at e
  ·rename_i a6 vk l st ck hb
   split at e
   ·rename_i d hd
    split at e
    ·rename_i I
     have I:=amC I;subst I;exact agz hr hu rfl hb J O Z hv hd e
    cases e
   cases e
  cases e
 cases e
end
end
section
section
variable {P:Program} {g:Gh} {h:ai} {w:World}
def mN (P:Program)(g:Gh)(h:ai)(w:World)(v:BV)(h':ai)(r:Result Value):Prop:=
 ∃A g' w',r= .ok A w'/\bq P g' h' w'/\mO g h w g' h' w'/\Ph g h g' h'/\aw P g' w' v A
def mN.alG (J:bq P g h w){v:BV}{r:Result Value}(I:∃A,r= .ok A w/\aw P g w v A):mN P g h w v h r:=by
 obtain⟨A,h1,h2⟩:=I;exact⟨A,g,w,h1,J,mO.refl _ _ _,Ph.refl _ _,h2⟩
def mN.DS (A:bq P g h w){o:aE}{v:BV}{r:Result Value}(U:bq P g (h.new o) w->g.m h.next=none->Q3 P g (h.new o) w h.next v r)(hno:rr h.next o:=by exact rr.bare rfl rfl):mN P g h w v (h.new o) r:=by
 obtain⟨h1,h2⟩:=A.V9 o hno;obtain⟨J,w',e,I,V,Y⟩:=U h1 A.CM;refine⟨J,_,w',e,I,h2.trans V,?_,Y⟩;intro b hb O _;refine⟨by rw[Gh.j8 g (by omega)];exact O,?_⟩;rw[ai.gY,ifN]
def adx (U:bq P g h w){t:TypeId}{x v:BV}{J:Value}{h':ai}(V:aw P g w x J)(e:ZH P h t x=some (v,h')):mN P g h w v h' ((Instr.range t J).run P w):=by
 have mk:∀(o:aE) (co:Obj),rr h.next o->(∀g' w',iL g w g' w'->fO P g' w' o 0 co)->(Instr.range t J).run P w= .ok (.pointer (some ⟨w.heap.size,0,none⟩)) {w with heap:=w.heap.push co}->mN P g h w (.ie h.next 0) (h.new o) ((Instr.range t J).run P w):=by intro o co hno ho hrun;refine mN.DS U (fun O hm=>?_) hno;refine⟨_,_,hrun,?_⟩;have h1:=O.real (w':={w with heap:=w.heap.push co}) (by rw[ai.gY,amu rfl]) hm rfl ⟨rfl,rfl,rfl⟩ (fun A=>ho _ _ A) hno.nf;refine⟨h1.1,h1.2,?_⟩;simp only[aw];exact⟨_,_,Gh.ou _ _ _ _,rfl⟩
 unfold ZH at e
 split at e
 ·rename_i k el m hu
  simp only[aw]at V;obtain⟨aS,I,rfl⟩:=V
  split at e
  ·rename_i kt vk l st clock hb
   cases e
   obtain⟨_,Z,hw,he⟩:=U.SV hb I;exact mk _ _ (rr.bare rfl rfl) (fun g' w' A=>by simp only[fO];exact⟨trivial,aS,A.mm _ _ I,fun k Y=>(by simp at Y),rfl⟩) (by simp[Instr.range,aO hu,vw hw])
  cases e
 cases e
def bq.ak3 (O:bq P g h w){r aS aD:Nat}{o:aE}(hb:h.get r=some o)(J:g.m r=some (aS,aD))(I:o.nf=some o:=by rfl):∃o',w.heap[aS]?=some o'/\fO P g w o aD o':=by
 obtain⟨_,o',ho,A⟩:=O.obj _ _ _ _ hb J I;exact⟨o',ho,A⟩
def adr (hr:bq P g h w){it v:BV}{d4:Value}(hi:aw P g w it d4)(e:BR P h it=some v):∃v',(Instr.entry d4).run P w= .ok v' w/\aw P g w v v':=by
 unfold BR at e
 split at e
 ·rename_i r
  simp only[aw]at hi;obtain⟨aS,aD,hm,rfl⟩:=hi
  split at e
  ·rename_i m ks st clock seen hb
   obtain⟨o',hw,ho⟩:=hr.ak3 hb hm;simp only[fO]at ho;obtain⟨rfl,d6,d2,b6,rfl⟩:=ho
   split at e
   ·rename_i k kt vk l st' I A e1
    split at e
    ·rename_i J
     have J:D.fh l=ks/\st'=st/\I=clock:=(by unfold xR at J;simpa using J);obtain⟨d1,rfl,rfl⟩:=J;obtain⟨_,es,d9,hrel⟩:=hr.SV e1 d2
     cases hs:Bz P m kt vk l k with
     |none=>rw[hs]at e;cases e
     |some p=>
      rw[hs]at e
      cases e
      have d8:k∈ks:=b6 k (List.mem_of_head? A);obtain⟨i,hi⟩:=anL d8;rw[<-d1]at hi;obtain⟨q,hq,rfl⟩:=D.SC hi;have d3:=(amw.1 hq).1;obtain⟨O,U⟩:∃O,es.toList[i]?=some O:=⟨_,amr (show i<es.toList.length by rw[hrel.len];exact d3)⟩;have a6:=amr (show i<st'.length by rw[hrel.sl];exact d3);have Y:=hrel.born i _ O a6 U;have Z:D.kP ks st' q.1=O.born:=(by rw[Y,<-d1];exact D.Ar hrel.nd (D.xF hq) a6);have d5:(getObj aS).run P w= .ok (.mapIter (some d6) I (seen.reverse.map (D.kP ks st')).toArray I) w:=(by simp[getObj,Sem.run,hw]);have b1:(seen.reverse.map (D.kP ks st')).toArray.back?=some O.born:=by
       obtain⟨s0,rfl⟩:∃s0,seen=q.1::s0:=by
        cases seen with
        |nil=>cases A
        |cons y ys=>simp at A;exact⟨ys,by rw[A]⟩
       simp[Z]
      have a8:es.find? (fun e=>e.born==O.born)=some O:=by
       rw[<-Array.find?_toList]
       cases b4:es.toList.find? (fun e=>e.born==O.born)with
       |none=>have:=List.find?_eq_none.1 b4 O (amn U);simp at this
       |some x=>have e0:=List.mem_of_find?_eq_some b4;have d7:=List.find?_some b4;obtain⟨j,hj⟩:=anL e0;have a7:j<st'.length:=(by have:=(amw.1 hj).1;rw[hrel.sl,<-hrel.len];exact this);have h1:=hrel.born j _ x (amr a7) hj;have h2:x.born=O.born:=(by simpa using d7);have h3:st'[j]?=st'[i]?:=(by rw[amr a7,a6,<-h1,<-Y,h2]);have:j=i:=(ao0 a7 hrel.snd).1 h3;subst this;rw[hj]at U;rw[<-U]
      have hv:D.val l q.1=q.2:=(by unfold D.val;rw[D.Ov hrel.nd (show l[i]?=some (q.1,q.2)from hq)];rfl);refine⟨.tuple #[O.key,O.val],?_,?_⟩
      ·simp only[Instr.entry,anN,Sem.run_bind,d5,Result.andThen_ok,b1,vw d9];rw[amt (by simp)];simp[a8]
      simp only[aw];unfold Bz at hs
      split at hs
      ·have d0:=hrel.key i q O hq U;have V:=hrel.val i q O hq U;unfold E1 at V
       cases vk with
       |data et=>
        dsimp only at hs V
        split at hs
        ·cases hs
         exact⟨_,rfl,ay.cons d0 (ay.cons (by rw[hv];exact V) ay.nil)⟩
        cases hs
       |dD f et=>
        dsimp only at hs V
        cases hs
        obtain⟨x,x1,x2⟩:=V;refine⟨_,rfl,ay.cons d0 (ay.cons ?_ ay.nil)⟩;simp only[aw];exact⟨x.1,x.2,x1,x2,_,d2⟩
       |Oq=>cases hs
      cases hs
    cases e
   cases e
  cases e
 cases e
def aiC (hr:bq P g h w){V:Array TypeId}{t:TypeId}{args:List BV}{args':Array Value}{v:BV}(ha:ay P g w args args'.toList)(e:YN P h V args=some v):
 ∃U,(Builtin.len_ V t args').run P w= .ok U w/\aw P g w v U:=by
 unfold YN at e
 split at e
 ·rename_i t0 x ht
  obtain⟨Y,hl,J⟩:=ha.one;have O:args'=#[Y]:=by apply aoF;simpa using hl
  subst O;have bz:∀(d:TypeDesc) (n:Nat),P.underlying t0=some d->(∀K,(Builtin.len_ V t #[Y]).run P w=K->K= .ok (goInt n) w)->some (goI n)=some v->∃U,(Builtin.len_ V t #[Y]).run P w= .ok U w/\aw P g w v U:=fun d n A I hv=>by
   cases hv
   exact⟨goInt n,I _ rfl,by simp[aw,goI,goInt]⟩
  split at e
  ·rename_i s A
   simp only[aw]at J;subst J;have e1:(ByteArray.mk s.toArray).size=s.length:=(by simp[ByteArray.size]);have e2:(Builtin.len_ V t #[.string ⟨s.toArray⟩]).run P w= .ok (goInt s.length) w:=by simp only[Builtin.len_];simp[ht,aO A,e1]
   exact bz _ _ A (fun K I=>by rw[<-I];exact e2) e
  ·rename_i el A
   simp only[aw]at J;subst J;exact bz _ _ A (fun K I=>by rw[<-I];simp[Builtin.len_,ht,aO A]) e
  ·rename_i el A
   simp only[aw]at J;obtain⟨a,c,rfl⟩:=J;exact bz _ _ A (fun K I=>by rw[<-I];simp[Builtin.len_,ht,aO A]) e
  ·rename_i el Z l A
   simp only[aw]at J;rcases J with ⟨rfl,rfl| ⟨a,c,rfl⟩⟩| ⟨aS,off,c,rfl,_⟩<;>exact bz _ _ A (fun K I=>by rw[<-I];simp[Builtin.len_,ht,aO A]) e
  ·rename_i el Z l A
   simp only[aw]at J;rcases J with ⟨rfl,rfl| ⟨a,rfl⟩⟩| ⟨aS,off,rfl,_⟩<;>exact bz _ _ A (fun K I=>by rw[<-I];simp[Builtin.len_,ht,aO A]) e
  ·rename_i el b n vt A
   simp only[aw]at J;rcases J with ⟨⟨_,rfl⟩,rfl| ⟨a,rfl⟩⟩| ⟨aS,aD,c,_,rfl,_⟩<;>exact bz _ _ A (fun K I=>by rw[<-I];simp[Builtin.len_,ht,aO A]) e
  ·rename_i el b n A
   simp only[aw]at J;obtain⟨aS,aD,_,rfl⟩:=J;exact bz _ _ A (fun K I=>by rw[<-I];simp[Builtin.len_,ht,aO A]) e
  ·rename_i k el r A
   simp only[aw]at J;obtain⟨aS,hm,rfl⟩:=J
   split at e
   ·rename_i kt vk l st clock hb
    obtain⟨_,a6,hw,he⟩:=hr.SV hb hm;have hl:=he.len;refine bz _ l.length A (fun K I=>?_) e;rw[<-I];simp at hl;simp[Builtin.len_,ht,aO A,vw hw,hl]
   cases e
  cases e
 cases e
def Xv {f:BV->BV->Option BV}{f':Value->Value->Sem Value}(hf:∀x y z A U,aw P g w x A->aw P g w y U->f x y=some z->∃J,(f' A U).run P w= .ok J w/\aw P g w z J):
 ∀(l:List BV) (l':List Value) (x v:BV) (A:Value),ay P g w l l'->aw P g w x A->l.foldlM f x=some v->∃I,(l'.foldlM f' A).run P w= .ok I w/\aw P g w v I:=by
 intro l
 induction l with
 |nil=>intro l' x v A hl O e;simp only[ay]at hl;subst hl;simp at e;subst e;exact⟨A,by simp,O⟩
 |cons y l ih=>
  intro l' x v A hl O e;simp only[ay]at hl;obtain⟨U,lr,rfl,Y,hl⟩:=hl;simp only[List.foldlM_cons]at e ⊢
  cases V:f x y with
  |none=>simp[V]at e
  |some z=>simp[V]at e;obtain⟨J,h1,h2⟩:=hf _ _ _ _ _ O Y V;obtain⟨I,Z,h4⟩:=ih lr z v J hl h2 e;exact⟨I,by simp[h1,Z],h4⟩
def agy {x y z:BV}{J I:Value}(O:aw P g w x J)(A:aw P g w y I)(e:ahG x y=some z):∃U,(Builtin.min2 J I).run P w= .ok U w/\aw P g w z U:=by
 unfold ahG at e
 split at e
 ·simp only[aw]at O A;subst O A;cases e;exact⟨_,rfl,by simp[aw]⟩
 cases e
def agx {x y z:BV}{J I:Value}(O:aw P g w x J)(A:aw P g w y I)(e:ahC x y=some z):∃U,(Builtin.max2 J I).run P w= .ok U w/\aw P g w z U:=by
 unfold ahC at e
 split at e
 ·simp only[aw]at O A;subst O A;cases e;exact⟨_,rfl,by simp[aw]⟩
 cases e
end
end
end Go.PB
end
