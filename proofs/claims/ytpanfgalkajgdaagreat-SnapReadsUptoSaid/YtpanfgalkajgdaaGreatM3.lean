import Derived.Orders
import Derived.Test.YtpanfgalkajgdaaGreatM2
set_option linter.all false
noncomputable section
namespace Go.PB
open Go
section
section
variable {P:Program} {g:Gh} {h:ai} {w:World}
def gA.T0 {w':World}{aS off:Nat}{vs:List Value}(hc:gA w aS off vs)(hw:w'.heap=w.heap):gA w' aS off vs:=fun i x hi=>by
 rw[BK (w:=w) (by rw[hw])];exact hc i x hi
def ahI (A I:Nat)(J:I<A):Builtin.nextslicecap A I<=2*A+1024:=by
 unfold Builtin.nextslicecap
 split
 ·omega
 split
 ·omega
 have grow:∀(r c:Nat),c<=2*A+1024->Builtin.growBy A r c<=2*A+1024:=by
  intro r
  induction r with
  |zero=>intro c hc;exact hc
  |succ r O=>
   intro c hc;simp only[Builtin.growBy]
   split
   ·exact hc
   exact O _ (by omega)
 exact grow 4 I (by omega)
def QE {ts:Array TypeId}{t st el:TypeId}{i:TypeInfo}{a:Option Addr}{len c n:Nat}{I:Value}{A new:Array Value}(ht:ts[0]?=some st)(hu:P.underlying st=some (.slice el))(hi:P.info? el=some i)
 {z:Value}(hz:(zeroValue el).run P w= .ok z w)(d3:∃xt d,ts[1]?=some xt/\P.underlying xt=some d/\∀k,d≠ .int k)
 (V:(Builtin.lenOf I).run P w= .ok n w)(Y:∀w':World,w'.heap=w.heap->(Builtin.firstCells i.size n I).run P w'= .ok new w')(O:∀w':World,w'.heap=w.heap->(Builtin.firstCells i.size len (.slice a len c)).run P w'= .ok A w')
 (b6:c<len+n)(b4:(2*(len+n)+1024)*i.bytes<=2^47)(hb:i.bytes≠0):
 ∃cap,∃rest:Array Value,len+n<=cap/\rest.size=(cap-(len+n))*z.cells.size/\(Builtin.append_ ts t #[.slice a len c,I]).run P w= .ok (.slice (some ⟨w.heap.size,0,none⟩) (len+n) cap)
  {w with heap:=w.heap.push (.cells (A++new++rest) el),drawn:=w.drawn+1}:=by
 obtain⟨xt,d,d0,a8,a7⟩:=d3;have b1:∀dd,(zeroValue el).run P {w with drawn:=dd}= .ok z {w with drawn:=dd}:=fun dd=>by
  simp only[zeroValue,Sem.run_bind,I9 hi,Result.andThen_ok]at hz ⊢
  cases Z:i.zero with
  |none=>simp[Z]at hz
  |some z0=>simp[Z]at hz ⊢;exact hz
 let q:Question:= .appendCap (len+n) c el
 let cap:=q.cut (w.tape w.drawn q)
 have U:len+n<=cap:=by show len+n<=Question.cut (.appendCap (len+n) c el) _;simp only[Question.cut];omega
 refine⟨cap,Builtin.zeroCells z.cells (cap-(len+n)),U,by simp[Builtin.zeroCells],?_⟩;have J:=ahI (len+n) c b6;have d4:Builtin.nextslicecap (len+n) c*i.bytes<=2^48:=by have:=anF i.bytes J;omega
 have d1:kF P el=some i.size:=G1 hi;have d2:((len+n:Nat):Int)<=IntKind.i64.max:=by
  have h1:len+n<=(2*(len+n)+1024)*i.bytes:=by have:1<=i.bytes:=(by omega);have:=ap2 (2*(len+n)+1024) this;omega
  simp only[IntKind.max,IntKind.signed,IntKind.bits,am5];omega
 have e0:(#[Value.slice a len c,I]:Array Value)[0]?=some (.slice a len c):=rfl;have e1:(#[Value.slice a len c,I]:Array Value)[1]?=some I:=rfl
 have a6:∀v w',((do
  let newCap<-choose (Question.appendCap (len+n) c el)
  let ti<-typeInfo el
  askRoom (newCap*ti.bytes)
  let A<-Builtin.firstCells i.size len (Value.slice a len c)
  let new<-Builtin.firstCells i.size n I
  let zz<-zeroValue el
  let row<-newRow el (A++new++Builtin.zeroCells zz.cells (newCap-(len+n)))
  pure (Value.slice (some row) (len+n) newCap):Sem Value).run P w= .ok v w')->
  (Builtin.append_ ts t #[.slice a len c,I]).run P w= .ok v w':=by
  intro v w' hv;unfold Builtin.append_;simp only[ht,d0,e0,e1];simp only[Sem.run_bind,aO hu,aO a8,Result.andThen_ok,mZ d1,Sem.run_pure,I9 hi]at hv ⊢;have c1:¬len+n<=c:=by omega
  have c2:¬(((len+n:Nat):Int)>IntKind.i64.max/\(False\/i.bytes=0)):=by rintro⟨h1,_⟩;omega
  have c3:¬Builtin.nextslicecap (len+n) c*i.bytes>2^48:=by omega
  cases d<;>first
   | (exact absurd rfl (a7 _))
   | (simp only[amp,ann,apS,am5,Sem.run_bind,V,Result.andThen_ok,c1,I9 hi,c2,c3,Sem.run_pure]
      exact hv)
 refine a6 _ _ ?_;simp only[Sem.run_bind,run_choose,Question.forced,amp,ann,Result.andThen_ok,I9 hi,run_askRoom,O {w with drawn:=w.drawn+1} rfl,Y {w with drawn:=w.drawn+1} rfl,b1,newRow,run_newObj,Sem.run_pure];rfl
def B1 {ts:Array TypeId}{t st el:TypeId}{size:Nat}{a:Option Addr}{len c n:Nat}{A:Value}{new:Array Value}{w':World}(ht:ts[0]?=some st)(hu:P.underlying st=some (.slice el))(hs:kF P el=some size)
 (a6:∃Y d,ts[1]?=some Y/\P.underlying Y=some d/\∀k,d≠ .int k)
 (J:(Builtin.lenOf A).run P w= .ok n w)(I:(Builtin.firstCells size n A).run P w= .ok new w)
 (a7:len+n<=c)(Z:∀O,a=some O->(storeCells (O.add (len*size)) new.toList).run P w= .ok () w')(hno:a=none->w'=w):
 (Builtin.append_ ts t #[.slice a len c,A]).run P w= .ok (.slice a (len+n) c) w':=by
 obtain⟨Y,d,a8,V,U⟩:=a6;have e0:(#[Value.slice a len c,A]:Array Value)[0]?=some (.slice a len c):=rfl;have e1:(#[Value.slice a len c,A]:Array Value)[1]?=some A:=rfl;unfold Builtin.append_;simp only[ht,a8,e0,e1];simp only[Sem.run_bind,aO hu,aO V,Result.andThen_ok,mZ hs,Sem.run_pure]
 cases d<;>first
  | (exact absurd rfl (U _))
  | (simp only[amp,ann,apS,am5,Sem.run_bind,J,Result.andThen_ok,a7,I]
     cases a with
     |none=>rw[hno rfl];rfl
     |some O=>simp only[Sem.run_bind,Z O rfl,Result.andThen_ok,Sem.run_pure])
def abo (hr:bq P g h w){el:TypeId}{x:BV}{U:Value}{xs:List D}(hd:cZ P el=true)(V:aw P g w x U)(e:N9 h el x=some xs):
 (∀w',(Builtin.lenOf U).run P w'= .ok xs.length w')/\∃ys:Array Value,(∀w':World,w'.heap=w.heap->(Builtin.firstCells (P.cellsOf el) xs.length U).run P w'= .ok ys w')/\dm P g.fz w el xs ys.toList:=by
 have J:∀(l:List D) (aS off c:Nat) (vs:List Value),U= .slice (some ⟨aS,off,none⟩) l.length c->dm P g.fz w el l vs->gA w aS off vs->
  (∀w',(Builtin.lenOf U).run P w'= .ok l.length w')/\∃ys:Array Value,(∀w':World,w'.heap=w.heap->(Builtin.firstCells (P.cellsOf el) l.length U).run P w'= .ok ys w')/\dm P g.fz w el l ys.toList:=by
  intro l aS off c vs a6 Y hat;subst a6;refine⟨fun _=>rfl,vs.toArray,fun w' a7=>?_,by simpa using Y⟩;simp only[Builtin.firstCells];exact qU _ Y.1 (hat.T0 a7)
 have I:U= .slice none 0 0->(∀w',(Builtin.lenOf U).run P w'= .ok 0 w')/\∃ys:Array Value,(∀w':World,w'.heap=w.heap->(Builtin.firstCells (P.cellsOf el) 0 U).run P w'= .ok ys w')/\dm P g.fz w el [] ys.toList:=by rintro rfl;exact⟨fun _=>rfl,#[],fun _ _=>rfl,dm.nil⟩
 have A:∀(a:Addr) (c:Nat),U= .slice (some a) 0 c->(∀w',(Builtin.lenOf U).run P w'= .ok 0 w')/\∃ys:Array Value,(∀w':World,w'.heap=w.heap->(Builtin.firstCells (P.cellsOf el) 0 U).run P w'= .ok ys w')/\dm P g.fz w el [] ys.toList:=by rintro a c rfl;exact⟨fun _=>rfl,#[],fun _ _=>by simp only[Builtin.firstCells,aph];rfl,dm.nil⟩
 have O:∀(l:List D),aw P g w (.bx el l) U->(∀w',(Builtin.lenOf U).run P w'= .ok l.length w')/\∃ys:Array Value,(∀w':World,w'.heap=w.heap->(Builtin.firstCells (P.cellsOf el) l.length U).run P w'= .ok ys w')/\dm P g.fz w el l ys.toList:=by
  intro l hl;simp only[aw]at hl;rcases hl with ⟨rfl,h1| ⟨a,c,h1⟩⟩| ⟨aS,off,c,h1,_,_,vs,Y,hat⟩
  ·exact I h1
  ·exact A a c h1
  exact J l aS off c vs h1 Y hat
 unfold N9 at e
 split at e
 ·simp only[aw]at V;cases e;exact I V
 ·simp only[aw]at V;obtain⟨a,c,V⟩:=V;cases e;exact A a c V
 ·rename_i e' l
  split at e
  ·rename_i he;cases e;have he:=amC he;subst he;exact O _ V.TC
  cases e
 ·rename_i e' l
  split at e
  ·rename_i he;cases e;have he:=amC he;subst he;exact O _ V
  cases e
 ·rename_i b n vt
  split at e
  ·rename_i e' l a8 hb
   split at e
   ·rename_i he
    have he:=amC he;subst he
    split at e
    ·rename_i hn
     cases e
     simp only[aw]at V;have Z:(l.take n).length=n:=(by rw[amI];omega);rcases V with ⟨⟨_,rfl⟩,h1| ⟨a,h1⟩⟩| ⟨aS,aD,c,hm,h1,_⟩
     ·simpa using I h1
     ·simpa using A a 0 h1
     obtain⟨cc,vs,_,hw,Y,_,hat,_⟩:=hr.bY hb hm;exact J (l.take n) aS aD c _ (by rw[Z];exact h1) (Y.take n) hat.take
    cases e
   cases e
  cases e
 cases e
def agA (O:bq P g h w){el:TypeId}{x:BV}{A:Value}{xs:List D}(hd:cZ P el=true)(I:aw P g w x A)(e:adC P h el x=some xs):
 (∀w',(Builtin.lenOf A).run P w'= .ok xs.length w')/\∃ys:Array Value,(∀w':World,w'.heap=w.heap->(Builtin.firstCells (P.cellsOf el) xs.length A).run P w'= .ok ys w')/\dm P g.fz w el xs ys.toList:=by
 unfold adC at e
 split at e
 ·rename_i s
  split at e
  ·rename_i hb
   cases e
   simp only[aw]at I;subst I;simp only[amo]at hb;have U:=Iz hb.1;refine⟨fun _=>by simp[Builtin.lenOf,kf,ByteArray.size],(s.map fun x=>Value.int .u8 x.toNat).toArray,fun w' _=>?_,(Ao hd _ _).2 (by simpa using Pz U s)⟩;have J:((ByteArray.mk s.toArray).extract 0 (kf s).length)=ByteArray.mk s.toArray:=by apply aoR;simp[kf]
   simp only[Builtin.firstCells,J,Sem.run_pure];simp
  cases e
 exact abo O hd I e
def IA {F:Value->ByteArray->Sem (ForInStep ByteArray)}(V:∀n s,F (.int .u8 n) s=pure (ForInStep.yield (ByteArray.push s (UInt8.ofNat n.toNat)))):
 ∀(l:List D) (vs:List Value) (A:ByteArray),ay P g w (l.map fun d=>BV.int .u8 d.int) vs->(forIn vs A F).run P w= .ok (A++⟨(bO l).toArray⟩) w:=by
 intro l
 induction l with
 |nil=>intro vs A I;simp only[ank,ay]at I;subst I;simp[bO];apply aoR;simp
 |cons d l J=>intro vs A I;simp only[anb,ay,aw]at I;obtain⟨Y,U,rfl,rfl,O⟩:=I;simp only[apI,Sem.run_bind,V,Sem.run_pure,Result.andThen_ok];rw[J U _ O];congr 1;apply aoR;simp[bO]
def Z4 {el:TypeId}{x:BV}{I:Value}{xs:List D}(A:aw P g w x I)(e:N9 h el x=some xs):∃a n c,I= .slice a n c:=by
 unfold N9 at e
 split at e<;>(first|simp only[aw]at A| (cases e;done))
 ·exact⟨_,_,_,A⟩
 ·obtain⟨a,c,A⟩:=A;exact⟨_,_,_,A⟩
 ·rcases A with ⟨_,A| ⟨a,A⟩⟩| ⟨_,_,A,_⟩<;>exact⟨_,_,_,A⟩
 ·rcases A with ⟨_,A| ⟨a,c,A⟩⟩| ⟨_,_,_,A,_⟩<;>exact⟨_,_,_,A⟩
 rcases A with ⟨_,A| ⟨a,A⟩⟩| ⟨_,_,_,_,A,_⟩<;>exact⟨_,_,_,A⟩
def Xu (hr:bq P g h w){J dst:TypeId}{x v:BV}{x':Value}(I:aw P g w x x')(e:tV P h J dst x=some v):∃v',(convert J dst x').run P w= .ok v' w/\aw P g w v v':=by
 unfold tV at e
 split at e
 ·rename_i d k k' n hs hd
  simp only[aw]at I;subst I;cases e;refine⟨.int k (k.wrap n),?_,by simp[aw]⟩;refine(Sem.run_bind P w _ _).trans ?_;rw[aO hs,Result.andThen_ok];refine(Sem.run_bind P w _ _).trans ?_;rw[aO hd,Result.andThen_ok]
  cases d<;>rfl
 ·rename_i d s hs hd
  simp only[aw]at I;subst I;cases e;refine⟨.string ⟨s.toArray⟩,?_,by simp[aw]⟩;refine(Sem.run_bind P w _ _).trans ?_;rw[aO hs,Result.andThen_ok];refine(Sem.run_bind P w _ _).trans ?_;rw[aO hd,Result.andThen_ok]
  cases d<;>rfl
 ·rename_i el hs hd _
  split at e
  ·rename_i hb
   simp only[amo]at hb;have V:=Iz hb.1;have Z:=Pr hb.2 V;obtain⟨l,A,rfl⟩:=am9.1 e;obtain⟨O,ys,U,Y⟩:=abo hr hb.2 I A;obtain⟨a,n,c,rfl⟩:=Z4 I A;have hn:n=l.length:=(by have:=O w;simp only[Builtin.lenOf,Sem.run_pure]at this;cases this;rfl);subst hn;refine⟨.string ⟨(bO l).toArray⟩,?_,by simp[aw]⟩;refine(Sem.run_bind P w _ _).trans ?_;rw[aO hs,Result.andThen_ok];refine(Sem.run_bind P w _ _).trans ?_;rw[aO hd,Result.andThen_ok];have hv:ay P g w (l.map fun d=>BV.int .u8 d.int) ys.toList:=by rw[<-Sk V];exact(Ao hb.2 _ _).1 Y
   have h1:=U w rfl;refine(Sem.run_bind P w (underlying el) _).trans ?_;rw[aO V,Result.andThen_ok]
   cases a with
   |none=>
    simp only[Builtin.firstCells,Sem.run_pure]at h1
    cases h1
    have:l=[]:=(by have:=hv.length;simp at this;exact am3.1 this.symm);subst this;rfl
   |some a=>simp only[Builtin.firstCells,Z,aqg]at h1;simp only[Conv.bytesToString,Sem.run_bind,h1,Result.andThen_ok];rw[<-api,IA (fun _ _=>rfl) l _ _ hv];simp
  cases e
 cases e
def Xs (hr:bq P g h w){ts:Array TypeId}{t st el e6:TypeId}{xt:TypeDesc}{i:TypeInfo}{s x v:BV}{s' x':Value}{h':ai}(ht:ts[0]?=some st)(j4:ts[1]?=some e6)(hu:P.underlying st=some (.slice el))(h6:P.underlying e6=some xt)
 (hi:P.info? el=some i)(hs:aw P g w s s')(hx:aw P g w x x')(hc:(cZ P el&&!(ahv xt)&&!(i.bytes==0||!U3 P el i.size))=true)
 (e:(match adC P h el x with|some xs=>Dm h el i.bytes s xs|none=>none)=some (v,h')):
 mN P g h w v h' ((Builtin.append_ ts t #[s',x']).run P w):=by
 simp only[amo,amJ,apb,amF,amP]at hc;obtain⟨⟨hd,g6⟩,h4,d7⟩:=hc;have d3:kF P el=some i.size:=G1 hi;have V:P.cellsOf el=i.size:=qW d3;have d6:∃xt d,ts[1]?=some xt/\P.underlying xt=some d/\∀k,d≠ .int k:=⟨e6,xt,j4,h6,fun k hk=>by subst hk;simp[ahv]at g6⟩
 split at e
 case h_2=>cases e
 rename_i xs h5
 obtain⟨a6,ys,b4,b6⟩:=agA hr hd hx h5;rw[V]at b4;have j3:ys.size=xs.length*i.size:=by have:=b6.1;rw[V]at this;simpa using this
 unfold U3 at d7
 cases e3:q7 P el with
 |none=>simp[e3]at d7
 |some z=>
 simp only[e3,amo,amY]at d7;obtain⟨z',i2,i8⟩:=Ja e3 w;have g3:z'.cells.size=i.size:=by have:=((i8 g).TA d7.1).length;simp at this;omega
 have U:∀(vb:Bool) (Y:ai),bq P g Y w->∀(a:Option Addr) (len c:Nat) (l:List D) (J:Array Value),s'= .slice a len c->l.length=len->c<len+xs.length->bh i.bytes (len+xs.length)=true->dm P g.fz w el l J.toList->
  (∀w':World,w'.heap=w.heap->(Builtin.firstCells i.size len (.slice a len c)).run P w'= .ok J w')->
  mN P g Y w (.hY Y.next (len+xs.length) vb) (Y.new (.bY el (l++xs) vb)) ((Builtin.append_ ts t #[s',x']).run P w):=by
  intro vb Y a8 a len c l J Z j1 i3 A g0 h3;subst Z;simp only[bh,aml]at A;obtain⟨cap,rest,k1,k2,k3⟩:=QE (P:=P) (w:=w) (t:=t) (a:=a) ht hu hi i2 d6 (a6 w) b4 h3 i3 A h4;refine mN.DS a8 fun h7 hm=>?_;refine⟨_,_,k3,?_⟩
  have h1:=h7.real (b:=Y.next) (w':={w with heap:=w.heap.push (.cells (J++ys++rest) el),drawn:=w.drawn+1}) (by rw[ai.gY,amu rfl]) hm rfl ⟨rfl,rfl,rfl⟩ (fun O=>by
   simp only[fO];refine⟨_,0,0,rfl,BF.zero _ _ _,J.toList++ys.toList,(g0.append b6).mono O.mf O.mc,fun j y hj=>?_⟩;have d5:=(amw.1 hj).1;rw[anr,<-ans];simp only[aow]
   rw[an7 d5];exact hj)
  refine⟨h1.1,h1.2,?_⟩;simp only[aw];have h9:J.size=len*i.size:=by have:=g0.1;rw[V,j1]at this;simpa using this
  refine .inr ⟨_,_,cap,Gh.ou _ _ _ _,rfl,k1,el,cap*i.size,?_,by rw[V];omega⟩;have:(J++ys++rest).size=cap*i.size:=by simp only[Array.size_append,h9,j3,k2,g3];rw[<-an2,<-an2];congr 1;omega
  have hh:(w.heap.push (.cells (J++ys++rest) el))[w.heap.size]?=some (.cells (J++ys++rest) el):=by simp
  simp only[World.shape?,hh,this]
 have z8:(s'= .slice none 0 0\/∃a,s'= .slice (some a) 0 0)->bh i.bytes xs.length=true->∀Y,bq P g Y w->mN P g Y w (.hY Y.next xs.length true) (Y.new (.bY el xs true)) ((Builtin.append_ ts t #[s',x']).run P w):=by
  intro I A Y a8
  by_cases e2:xs=[]
  ·subst e2;have i4:ys=#[]:=by apply aoF;have:=b6.1;simpa using this
   have j5:aw P g w (.hY Y.next 0 true) s':=(by simp only[aw];exact .inl ⟨⟨trivial,trivial⟩,I⟩);have hrun:(Builtin.append_ ts t #[s',x']).run P w= .ok s' w:=by
    rcases I with rfl| ⟨a,rfl⟩
    ·exact B1 ht hu d3 d6 (a6 w) (b4 w rfl) (by simp) (fun ad d4=>by cases d4) (fun _=>rfl)
    exact B1 ht hu d3 d6 (a6 w) (b4 w rfl) (by simp) (fun ad d4=>by rw[i4];simp[storeCells]) (fun _=>rfl)
   exact⟨s',g,w,hrun,(a8.V9 _).1,(a8.V9 _).2,Ph.new _,j5⟩
  have k0:0<xs.length:=apg.2 e2;rcases I with hc| ⟨a,hc⟩
  ·have:=U true Y a8 none 0 0 [] #[] hc rfl (by omega) (by simpa using A) dm.nil (fun _ _=>rfl);simpa using this
  have:=U true Y a8 (some a) 0 0 [] #[] hc rfl (by omega) (by simpa using A) dm.nil (fun _ _=>by simp only[Builtin.firstCells,aph];rfl);simpa using this
 unfold Dm at e
 split at e
 ·rename_i b n vt
  split at e
  ·rename_i e' l k7 hb
   split at e
   ·rename_i g1
    simp only[amo,amY]at g1;obtain⟨he,j0⟩:=g1;have he:=amC he;subst he;subst j0
    split at e
    ·rename_i d0
     simp only[amo,aml]at d0;obtain⟨hn,A⟩:=d0;subst hn
     cases e
     obtain⟨g7,g5⟩:=hr.drop b;simp only[aw]at hs;rcases hs with ⟨⟨rfl,i1⟩,I⟩| ⟨aS,aD,c,hm,Z,k8,e7⟩
     ·have e0:l=[]:=am3.1 i1;subst e0;have hk:=z8 I (by simpa using A) _ g7;obtain⟨v2,g2,w2,k1,k2,k3,k4,k5⟩:=hk;refine⟨v2,g2,w2,k1,by simpa using k2,by simpa using g5.trans k3,?_,by simpa using k5⟩;have:=(Ph.amh (g:=g) hb).trans (amG _) k4;simpa using this
     obtain⟨cc,vs,⟨lo,hi⟩,hw,hv,j2,hat,e5⟩:=hr.bY hb hm;have g8:=hv.1;rw[V]at g8;have d5:=(amL.1 hw).1
     by_cases d1:l.length+xs.length<=c
     ·
      obtain⟨e1,m4,d8,e9⟩:=e7;have d9:w.shape? aS=some (el,cc.size):=(by simp[World.shape?,hw]);rw[d9]at d8;cases d8;rw[V]at e9;have g4:aD+l.length*i.size+ys.size<=cc.size:=(by have:(l.length+xs.length)*i.size<=c*i.size:=anF _ d1;rw[an2]at this;omega);have d2:∀y∈ys.toList,y.oneCell'=true:=(by have:=(Ao (g:=g) hd xs ys.toList).1 b6;exact Tj this (Yh xs));have a7:=kD (P:=P) aS (aD+l.length*i.size) el lo hi ys.toList 0 cc w hw (by simpa using g4) d2 e5.1;simp only[anN]at a7;subst Z;have hrun:=B1 (P:=P) (t:=t) (w:=w) (w':=w.iI aS (.cells (gZ cc (aD+l.length*i.size) ys.toList) el (lo,hi))) (a:=some ⟨aS,aD,none⟩) ht hu d3 d6 (a6 w) (b4 w rfl) d1 (fun ad d4=>by cases d4;rw[nW];exact a7) (fun hc=>by cases hc);have g9:=hr.move (off:=0) (o':= .bY el (l++xs) vt) (co':= .cells (gZ cc (aD+l.length*i.size) ys.toList) el (lo,hi)) (w':=w.iI aS (.cells (gZ cc (aD+l.length*i.size) ys.toList) el (lo,hi))) hb hm hw rfl ⟨rfl,rfl,rfl⟩
       (fun s hs=>by
         rw[d9]at hs
         simp only[World.shape?,iJ d5,lZ];exact hs)
       (fun O=>by
         simp only[fO];refine⟨_,lo,hi,rfl,⟨by simpa only[lZ]using e5.1,e5.2⟩,vs++ys.toList,(hv.append b6).mono O.mf O.mc,fun j y hj=>?_⟩;rw[xS _ _ _ _ (by simpa using g4)];rw[anj]at hj
         by_cases f9:j<vs.length
         ·rw[amu f9]at hj;rw[ifN];exact j2 _ _ hj
         rw[amt f9]at hj;have h8:=(amw.1 hj).1;simp only[aov]at h8;rw[amu (by simp only[aov];omega),show aD+0+j-(aD+l.length*i.size)=j-vs.length by omega]
         exact hj)
      refine⟨_,_,_,hrun,g9.1,g9.2,?_,?_⟩
      ·intro b1 m7 e8 k6;refine⟨by rw[Gh.j8 g (by omega)];exact e8,?_⟩;rw[ai.gY,amt (by simp;omega),ai.iR,amt fun ee=>by subst ee;rw[hm]at e8;cases e8]
      simp only[aw];refine .inr ⟨_,_,c,Gh.ou _ _ _ _,by simp,d1,el,cc.size,?_,?_⟩
      ·simp only[World.shape?,iJ d5,lZ]
      rw[V];omega
     
     have hk:=U vt _ g7 (some ⟨aS,aD,none⟩) l.length c l vs.toArray Z rfl (by omega) A (by simpa using hv)
      (fun w' e4=>by simp only[Builtin.firstCells];exact qU _ g8 (hat.T0 e4))
     obtain⟨v2,g2,w2,k1,k2,k3,k4,k5⟩:=hk;exact⟨v2,g2,w2,k1,k2,g5.trans k3,(Ph.put hm none).trans (amG _) k4,k5⟩
    cases e
   cases e
  cases e
 ·split at e
  ·rename_i A
   cases e
   simp only[aw]at hs;exact z8 (.inl hs) A h hr
  cases e
 ·rename_i e' l
  split at e
  ·rename_i he
   have he:=amC he;subst he
   split at e
   ·rename_i d0
    simp only[amo,anZ,aml]at d0;obtain⟨k9,A⟩:=d0
    cases e
    simp only[aw]at hs;rcases hs with ⟨rfl,I⟩| ⟨aS,off,Z,_,vs,hv,hat⟩
    ·have:=z8 I (by simpa using A) h hr;simpa using this
    by_cases e2:0<xs.length
    ·exact U true h hr (some ⟨aS,off,none⟩) l.length l.length l vs.toArray Z rfl (by omega) A (by simpa using hv)
      (fun w' e4=>by simp only[Builtin.firstCells];exact qU _ (by rw[<-V];exact hv.1) (hat.T0 e4))
    have e0:l=[]:=am3.1 (by omega);subst e0;have:=z8 (.inr ⟨_,Z⟩) (by simpa using A) h hr;simpa using this
   cases e
  cases e
 cases e
def ZU (U:bq P g h w){O:Array TypeId}{t:TypeId}{args:List BV}{args':Array Value}{v:BV}{h':ai}(ha:ay P g w args args'.toList)(e:Jy P h O args=some (v,h')):
 mN P g h w v h' ((Builtin.append_ O t args').run P w):=by
 unfold Jy at e
 split at e
 ·rename_i st Y s x ht J
  obtain⟨s',x',hl,hs,Z⟩:=ha.two;have A:args'=#[s',x']:=by apply aoF;simpa using hl
  subst A
  split at e
  ·rename_i el xt V I
   cases hi:P.info? el with
   |none=>simp[hi]at e
   |some i=>
    simp only[hi]at e
    split at e
    ·rename_i hc
     exact Xs U ht J V I hi hs Z hc e
    cases e
  cases e
 cases e
end
end
section
section
variable {P:Program} {g:Gh} {h:ai} {w:World}
def NR (P:Program)(g:Gh)(w:World):bP->Result Next->Prop
 | .value v,r=>∃A,r= .ok (.value A) w/\aw P g w v A
 | .skip,r=>r= .ok .skip w
 | .defer d,r=>∃d',r= .ok (.defer d') w/\XY P g w d d'
 | .recover,r=>r= .ok .recover w
 | .enter f args,r=>∃args',r= .ok (.enter f args') w/\ay P g w args args'.toList
def mM (P:Program)(g:Gh)(h:ai)(w:World)(n:bP)(h':ai)(r:Result Next):Prop:=
 ∃g' w',bq P g' h' w'/\mO g h w g' h' w'/\Ph g h g' h'/\NR P g' w' n r
def mM.y9 {v:BV}{h':ai}{s:Sem Value}(he:mN P g h w v h' (s.run P w)):mM P g h w (.value v) h' ((do pure (.value (<-s)):Sem Next).run P w):=by
 obtain⟨A,g',w',e,h1,h2,J,I⟩:=he;exact⟨g',w',h1,h2,J,A,by simp[e],I⟩
def mM.FI (I:bq P g h w){v:BV}{s:Sem Value}(he:∃A,s.run P w= .ok A w/\aw P g w v A):mM P g h w (.value v) h ((do pure (.value (<-s)):Sem Next).run P w):=
 mM.y9 (mN.alG I he)
def mM.ahP {h':ai}{s:Sem Unit}(he:∃g' w',s.run P w= .ok () w'/\bq P g' h' w'/\mO g h w g' h' w'/\Ph g h g' h'):mM P g h w .skip h' ((do s;pure .skip:Sem Next).run P w):=by
 obtain⟨g',w',e,h1,h2,A⟩:=he;exact⟨g',w',h1,h2,A,by simp[NR,e]⟩
def mM.pure (I:bq P g h w){n:bP}{r:Result Next}(A:NR P g w n r):mM P g h w n h r:=⟨g,w,I,mO.refl _ _ _,Ph.refl _ _,A⟩
def Xt (I:bq P g h w){b:Builtin}{O:Array TypeId}{t:TypeId}{cs:Array Bool}{args:List BV}{args':Array Value}{n:bP}{h':ai}(J:ay P g w args args'.toList)(e:Fa P h b O args=some (n,h')):
 mM P g h w n h' ((builtin b O t cs args').run P w):=by
 have hv:∀{r:Option (BV×ai)} {s:Sem Value},(∀v h1,r=some (v,h1)->mN P g h w v h1 (s.run P w))->(r.map fun (x:BV×ai)=>(bP.value x.1,x.2))=some (n,h')->mM P g h w n h' ((do pure (.value (<-s)):Sem Next).run P w):=by
  intro r s hs he
  cases r with
  |none=>cases he
  |some x=>obtain⟨v,h1⟩:=x;simp at he;obtain⟨rfl,rfl⟩:=he;exact mM.y9 (hs v h1 rfl)
 cases b<;>simp only[Fa]at e
 case append=>exact hv (fun v h1 he=>ZU I J he) e
 case len=>
  cases hl:YN P h O args with
  |none=>simp[hl]at e
  |some v=>simp[hl]at e;obtain⟨rfl,rfl⟩:=e;exact mM.FI I (aiC I J hl)
 case min=>
  cases args with
  |nil=>cases e
  |cons x r=>
   simp only[ay]at J;obtain⟨U,V,hl,Z,A⟩:=J
   cases hf:r.foldlM ahG x with
   |none=>simp[hf]at e
   |some v=>simp[hf]at e;obtain⟨rfl,rfl⟩:=e;obtain⟨Y,h1,h2⟩:=Xv (P:=P) (g:=g) (w:=w) (f':=Builtin.min2) (fun x y z U y'=>agy) r V x v U A Z hf;refine mM.FI (s:=Builtin.min_ O t args') I ⟨Y,?_,h2⟩;simp only[Builtin.min_,hl];exact h1
 case max=>
  cases args with
  |nil=>cases e
  |cons x r=>
   simp only[ay]at J;obtain⟨U,V,hl,Z,A⟩:=J
   cases hf:r.foldlM ahC x with
   |none=>simp[hf]at e
   |some v=>simp[hf]at e;obtain⟨rfl,rfl⟩:=e;obtain⟨Y,h1,h2⟩:=Xv (P:=P) (g:=g) (w:=w) (f':=Builtin.max2) (fun x y z U y'=>agx) r V x v U A Z hf;refine mM.FI (s:=Builtin.max_ O t args') I ⟨Y,?_,h2⟩;simp only[Builtin.max_,hl];exact h1
 case recover=>cases e;exact mM.pure I rfl
 all_goals cases e
def K3 (V:bq P g h w){f:FuncId}{args:List BV}{args':Array Value}{n:bP}(U:ay P g w args args'.toList)(e:Cv P f args=some n):
 NR P g w n ((callFunc f args').run P w):=by
 unfold Cv at e
 split at e
 ·rename_i hb
  cases e
  unfold TP at hb
  split at hb
  ·rename_i fn hf
   simp only[amo,amJ,Option.isSome_iff_ne_none]at hb;obtain⟨J,O⟩:=hb;have I:fn.body.isNone=false:=by cases A:fn.body with|none=>exact absurd A J|some _=>rfl
   refine⟨args',?_,U⟩;simp only[callFunc,Sem.run_bind,run_program,Result.andThen_ok,hf,O,I,amp,ann,Sem.run_pure]
  cases hb
 cases e
def QI (I:bq P g h w){t:Db}{J:Target}{args:List BV}{args':Array Value}{n:bP}{h':ai}(ht:Ef P g w t J)(O:ay P g w args args'.toList)(e:GP P h t args=some (n,h')):
 mM P g h w n h' ((invoke J args').run P w):=by
 unfold GP at e
 split at e
 ·rename_i b V ty cs
  simp only[Ef]at ht;subst ht;simp only[invoke];exact Xt I O e
 ·rename_i f captured
  simp only[Ef]at ht;obtain⟨U,rfl,hc⟩:=ht
  cases A:Cv P f (args++captured)with
  |none=>simp[A]at e
  |some Y=>simp[A]at e;obtain⟨rfl,rfl⟩:=e;simp only[invoke];exact mM.pure I (K3 I (by rw[aow];exact O.append hc) A)
 cases e
def ZX (O:bq P g h w){f:BV}{f':Value}{args:List BV}{args':Array Value}{d:Ay}(hf:aw P g w f f')(I:ay P g w args args'.toList)(e:TZ f args=some d):
 ∃d',(Deferred.ofValue f' args').run P w= .ok d' w/\XY P g w d d':=by
 unfold TZ at e
 split at e
 ·rename_i fn first captured
  simp only[aw]at hf;obtain⟨J,A,rfl,h1,h2⟩:=hf
  cases e
  exact⟨_,rfl,⟨A,rfl,h2⟩,by rw[aow];exact h1.append I⟩
 cases e
def Nu (J:bq P g h w){ρ:Operand->BV}{σ:Operand->Value}{c:Call}{ty:TypeId}{d:Ay}(I:∀x∈c.operands.toList,aw P g w (ρ x) (σ x))(e:xO ρ c ty=some d):
 ∃d',(resolve σ c ty).run P w= .ok d' w/\XY P g w d d':=by
 have A:ay P g w (c.args.toList.map ρ) (c.args.map σ).toList:=by rw[ao7];exact ay.map fun a O=>I a (by simp[Call.operands,O])
 unfold xO at e;dsimp only at e
 split at e
 ·rename_i b hc
  cases e
  refine⟨{target:= .builtin b c.argTypes ty (c.args.map fun| .const _=>true|_=>false),args:=c.args.map σ},by simp only[resolve,hc];rfl,rfl,A⟩
 ·rename_i f hc
  obtain⟨d',h1,h2⟩:=ZX J (I f (by simp[Call.operands,hc])) A e;exact⟨d',by simp only[resolve,hc];exact h1,h2⟩
 cases e
def B3:Value->Nat
 | .nilIface=>1| .agg _=>2|_=>0
def ag9:BV->Nat
 | .IZ=>1| .agg _=>2|_=>0
def aw.alo {b:BV}{v:Value}(A:aw P g w b v)(I:b.xU=true):ag9 b=B3 v:=by
 cases b<;>simp only[aw]at A<;>first
  | (simp[BV.xU]at I;done)
  | (subst A;rfl)
  | (rcases A with ⟨_,rfl| ⟨_,_,rfl⟩⟩| ⟨_,_,_,rfl,_⟩<;>rfl)
  | (rcases A with ⟨_,rfl| ⟨_,rfl⟩⟩| ⟨_,_,rfl,_⟩<;>rfl)
  | (rcases A with ⟨_,rfl| ⟨_,rfl⟩⟩| ⟨_,_,_,_,rfl,_⟩<;>rfl)
  | (obtain⟨_,rfl,_⟩:=A;rfl)
  | (obtain⟨_,_,rfl⟩:=A;rfl)
  | (obtain⟨_,_,rfl,_⟩:=A;rfl)
  | (obtain⟨_,_,_,rfl⟩:=A;rfl)
  | (obtain⟨_,_,_,rfl,_⟩:=A;rfl)
  | (obtain⟨_,_,_,_,rfl,_⟩:=A;rfl)
def Rc {op:BinOp}(t:TypeId)(x y:Operand){a b:Value}(A:B3 a≠B3 b\/B3 a=0):eqGuard op t x y a b=pure ():=by
 cases op<;>first
  |rfl
  | (cases a<;>cases b<;>first
      |rfl
      | (simp[B3]at A;done))
def Xm {op:BinOp}{t:TypeId}{x y:Operand}{a b:BV}{J b':Value}(I:aw P g w a J)(hb:aw P g w b b')(e:Ft P op t x y a b=true)(Y:(op= .eql\/op= .neq)->a.xU=true/\b.xU=true):(eqGuard op t x y J b').run P w= .ok () w:=by
 by_cases ho:op= .eql\/op= .neq
 ·obtain⟨U,V⟩:=Y ho;have O:=I.alo U;have A:=hb.alo V
  by_cases hc:B3 J≠B3 b'\/B3 J=0
  ·rw[Rc t x y hc];rfl
  simp only[not_or,Decidable.not_not,an3]at hc;obtain⟨h1,h2⟩:=hc
  cases a<;>simp[ag9]at O<;>first
   | (rw[<-O]at h2;exact absurd rfl h2)
   |skip
  ·simp only[aw]at I;subst I
   cases b<;>simp[ag9]at A<;>first
    | (rw[<-h1]at A;cases A;done)
    |skip
   simp only[aw]at hb;subst hb;rcases ho with rfl|rfl
   all_goals
    simp only[Ft,anZ]at e;simp only[eqGuard];rw[amt (by simp)];rw[amu (by cases x<;>cases y<;>first|rfl| (simp at e;done))];rfl
  simp only[aw]at I;obtain⟨Z,rfl,_⟩:=I
  cases b<;>simp[ag9]at A<;>first
   | (rw[<-h1]at A;cases A;done)
   |skip
  simp only[aw]at hb;obtain⟨vs,rfl,_⟩:=hb;rcases ho with rfl|rfl
  all_goals
   simp only[Ft]at e;simp only[eqGuard];rw[amt (by simp)];simp only[Sem.run_bind,run_program,Result.andThen_ok,e,am5];rfl
 have:eqGuard op t x y J b'=pure ():=by cases op<;>first|rfl| (simp at ho)
 rw[this];rfl
def X9 {op:BinOp}{t:TypeId}{x y v:BV}(e:Dp P op t x y=some v)(ho:op= .eql\/op= .neq):x.xU=true/\y.xU=true:=by
 unfold Dp at e
 split at e<;>first
  |exact⟨rfl,rfl⟩
  | (cases A:Jg P 12 t x y with
     |none=>simp[A]at e
     |some r=>exact Sr A)
  | (cases e;done)
def aly {ps:Array (Nat×Operand)}{ρ:Operand->BV}{σ:Operand->Value}(I:∀x∈(ps.toList.map (·.2)),aw P g w (ρ x) (σ x)):
 X0 P g w (ps.toList.map fun (i,x)=>(i,ρ x)) (ps.toList.map fun (i,x)=>(i,σ x)):=by
 refine⟨by simp,fun j i v A=>?_⟩;rw[anw]at A ⊢
 cases hp:ps.toList[j]? with
 |none=>simp[hp]at A
 |some q=>obtain⟨J,x⟩:=q;simp[hp]at A;obtain⟨rfl,rfl⟩:=A;exact⟨σ x,by simp[hp],I x (anh.2 ⟨_,amn hp,rfl⟩)⟩
def afA {x:Option Operand}{ρ:Operand->BV}{σ:Operand->Value}(A:∀y∈x,aw P g w (ρ y) (σ y)):AF P g w (x.map ρ) (x.map σ):=by
 cases x with
 |none=>exact .inl ⟨rfl,rfl⟩
 |some y=>exact .inr ⟨_,_,rfl,rfl,A y rfl⟩
def OJ (P:Program)(g:Gh)(h:ai)(w:World)(b:Nat)(v:BV)(r:Result Next):Prop:=
 ∃A w',r= .ok (.value A) w'/\bq P (g.Gp b w.heap.size 0) h w'/\mO g h w (g.Gp b w.heap.size 0) h w'/\aw P (g.Gp b w.heap.size 0) w' v A
def OJ.of {b:Nat}{v:BV}{s:Sem Value}(I:Q3 P g h w b v (s.run P w)):OJ P g h w b v ((do pure (.value (<-s)):Sem Next).run P w):=by
 obtain⟨A,w',e,h1,h2,J⟩:=I;exact⟨A,w',by simp[e],h1,h2,J⟩
def abi (hr:bq P g h w){o:Oper}{ρ:Operand->BV}{σ:Operand->Value}{v:BV}{h1 h2:ai}(ha:nw o=true)
 (I:∀x∈o.op.operands.toList,aw P g w (ρ x) (σ x))(e:HB P h1 ρ o=some (.value v,h2))(hb:h.get h1.next=h2.get h1.next)(hm:g.m h1.next=none):
 OJ P g h w h1.next v ((execOp σ o).run P w):=by
 obtain⟨dst,op,ty,pos,after,guard⟩:=o;have O:∀{r:Option (BV×ai)} {s:Sem Value},(∀v V,h.get h1.next=V.get h1.next->r=some (v,V)->Q3 P g h w h1.next v (s.run P w))->(r.map fun (x:BV×ai)=>(bP.value x.1,x.2))=some (.value v,h2)->OJ P g h w h1.next v ((do pure (.value (<-s)):Sem Next).run P w):=by
  intro r s hs he
  cases r with
  |none=>cases he
  |some x=>obtain⟨u,h3⟩:=x;simp at he;obtain⟨rfl,rfl⟩:=he;exact OJ.of (hs _ _ hb rfl)
 cases op<;>simp only[HB,nw,amp,reduceCtorEq]at e ha<;>simp only[Op.operands]at I
 case alloc t=>
  refine O (fun v h2 hb he=>?_) e
  cases hz:q7 P t with
  |none=>simp[hz]at he
  |some z=>
   simp only[hz,anT,Ly]at he
   split at he
   ·rename_i J
    cases he
    rw[ai.gY,amu rfl]at hb;exact ZJ hr hz hb hm J
   cases he
 case box t x=>
  refine O (fun v h2 hb he=>?_) e;simp only[Ly]at he
  split at he
  ·rename_i J
   cases he
   rw[ai.gY,amu rfl]at hb;exact agk hr hb hm (I x (by simp)) J
  cases he
 case buildSlice t len A=>
  refine O (s:=Instr.buildSlice t len (A.map fun (x:Nat×Operand)=>(x.1,σ x.2))) (fun v h2 hb he=>?_) e;have hp:=aly (P:=P) (g:=g) (w:=w) (ps:=A) (ρ:=ρ) (σ:=σ) (fun x Y=>I x (by simpa using Y));have e1:(A.map fun (x:Nat×Operand)=>(x.1,σ x.2))=(A.toList.map fun (x:Nat×Operand)=>(x.1,σ x.2)).toArray:=by apply aoF;simp
  rw[e1];exact N8 hr hp he hb rfl hm
 case makeSlice t l c=>exact O (fun v h2 hb he=>QA hr (I l (by simp)) (I c (by simp)) he hb rfl hm) e
 case makeMap t r=>
  have Z:∀(hh:(r.map ρ=none/\r.map σ=none)\/∃q n,r.map ρ=some (.int q n)/\r.map σ=some (.int q n)) {k el},P.underlying t=some (.map k el)->(sH P h1 k el).map (fun o=>(bP.value (.map h1.next),h1.new o))=some (.value v,h2)->OJ P g h w h1.next v ((execOp σ {dst,op:= .makeMap t r,type:=ty,pos,after,guard}).run P w):=by
   intro hh k el a6 e
   cases hn:sH P h1 k el with
   |none=>rw[hn]at e;cases e
   |some o=>rw[hn]at e;cases e;rw[ai.gY,amu rfl]at hb;exact OJ.of (s:=Instr.makeMap t (r.map σ)) (agl hr a6 hn hb hm hh)
  cases r with
  |none=>
   simp only[Option.map_none]at e
   split at e
   ·exact Z (.inl ⟨rfl,rfl⟩) (by assumption) e
   cases e
  |some x=>
   have Y:=I x (by simp)
   cases U:ρ x<;>simp only[amH,U]at e<;>try (cases e;done)
   rename_i q i
   rw[U]at Y;simp only[aw]at Y
   split at e
   ·exact Z (.inr ⟨q,i,by simp[U],by simp[Y]⟩) (by assumption) e
   cases e
def TW {P:Program}{h:ai}{k e:TypeId}{o:aE}(A:sH P h k e=some o):vU (some o)=false:=by
 unfold sH at A
 repeat' split at A
 all_goals first|cases A;done| (cases A;rfl)
def SG {ρ:Operand->BV}{o:Oper}{n:bP}{h1:ai}(Y:nw o=true)(e:HB P h ρ o=some (n,h1)):∃v A,n= .value v/\h1=h.new A/\vU (some A)=false/\rr h.next A:=by
 obtain⟨dst,op,ty,pos,after,guard⟩:=o;have I:∀{r:Option (BV×ai)},(∀v h1,r=some (v,h1)->∃A,h1=h.new A/\vU (some A)=false/\rr h.next A)->(r.map fun (x:BV×ai)=>(bP.value x.1,x.2))=some (n,h1)->∃v A,n= .value v/\h1=h.new A/\vU (some A)=false/\rr h.next A:=by
  intro r V e
  cases r with
  |none=>cases e
  |some x=>obtain⟨u,h2⟩:=x;simp at e;obtain⟨rfl,rfl⟩:=e;obtain⟨A,k⟩:=V _ _ rfl;exact⟨_,A,rfl,k⟩
 have J:∀{t:TypeId} {x u:BV} {h2:ai},Ly P h t x=some (u,h2)->∃A,h2=h.new A/\vU (some A)=false/\rr h.next A:=by
  intro t x u h2 e;unfold Ly at e
  split at e
  ·cases e;exact⟨_,rfl,rfl,rr.bare rfl rfl⟩
  cases e
 cases op<;>simp only[HB,nw,amx,amp,reduceCtorEq]at e Y
 case alloc t=>
  refine I (fun v h1 e=>?_) e
  cases U:q7 P t with
  |none=>simp[U]at e
  |some z=>simp only[U,anT]at e;exact J e
 case box=>exact I (fun v h1 e=>J e) e
 case buildSlice=>
  refine I (fun v h1 e=>?_) e;unfold AK at e
  split at e
  ·split at e
   ·dsimp only at e
    split at e
    ·cases e
    split at e
    ·split at e
     ·split at e
      ·cases e;exact⟨_,rfl,rfl,rr.bare rfl rfl⟩
      cases e;exact⟨_,rfl,rfl,rr.bare rfl rfl⟩
     cases e
    cases e
   cases e
  cases e
 case makeMap t r=>
  have:∃k el,(sH P h k el).map (fun o=>(bP.value (.map h.next),h.new o))=some (n,h1):=by
   split at e
   all_goals first|cases e;done| (split at e;exact⟨_,_,e⟩;cases e)
  obtain⟨k,el,e⟩:=this
  cases O:sH P h k el with
  |none=>rw[O]at e;cases e
  |some o=>rw[O]at e;cases e;exact⟨_,_,rfl,rfl,TW O,P7 O⟩
 case makeSlice=>
  refine I (fun v h1 e=>?_) e;unfold wz at e
  split at e
  ·split at e
   ·split at e
    ·split at e
     ·split at e
      ·cases e;exact⟨_,rfl,rfl,rr.bare rfl rfl⟩
      cases e
     cases e
    cases e
   cases e
  cases e
def UN (I:bq P g h w){o:Oper}{ρ:Operand->BV}{σ:Operand->Value}{n:bP}{h':ai}(A:∀x∈o.op.operands.toList,aw P g w (ρ x) (σ x))(e:HB P h ρ o=some (n,h')):
 mM P g h w n h' ((execOp σ o).run P w):=by
 by_cases ha:nw o=true
 ·obtain⟨v,ob,rfl,rfl,_,hno⟩:=SG ha e;obtain⟨k1,k2⟩:=I.V9 ob hno;obtain⟨Y,w',e1,h1,h2,h3⟩:=abi k1 ha A e rfl I.CM;refine⟨_,w',h1,k2.trans h2,fun b hb hm _=>⟨by rw[Gh.j8 g (by omega)];exact hm,by rw[ai.gY,ifN]⟩,Y,e1,h3⟩
 obtain⟨dst,op,ty,pos,after,guard⟩:=o;have U:∀{r:Option BV} {s:Sem Value},(∀v,r=some v->∃Y,s.run P w= .ok Y w/\aw P g w v Y)->(r.map fun x=>(bP.value x,h))=some (n,h')->mM P g h w n h' ((do pure (.value (<-s)):Sem Next).run P w):=by
  intro r s hs he
  cases r with
  |none=>cases he
  |some x=>simp at he;obtain⟨rfl,rfl⟩:=he;exact mM.FI I (hs x rfl)
 have a8:∀{r:Option (BV×ai)} {s:Sem Value},(∀v h1,r=some (v,h1)->mN P g h w v h1 (s.run P w))->(r.map fun (x:BV×ai)=>(bP.value x.1,x.2))=some (n,h')->mM P g h w n h' ((do pure (.value (<-s)):Sem Next).run P w):=by
  intro r s hs he
  cases r with
  |none=>cases he
  |some x=>obtain⟨v,h1⟩:=x;simp at he;obtain⟨rfl,rfl⟩:=he;exact mM.y9 (hs v h1 rfl)
 have hu:∀{r:Option ai} {s:Sem Unit},(∀h1,r=some h1->∃g' w',s.run P w= .ok () w'/\bq P g' h1 w'/\mO g h w g' h1 w'/\Ph g h g' h1)->(r.map fun x=>(bP.skip,x))=some (n,h')->mM P g h w n h' ((do s;pure .skip:Sem Next).run P w):=by
  intro r s hs he
  cases r with
  |none=>cases he
  |some x=>simp at he;obtain⟨rfl,rfl⟩:=he;exact mM.ahP (hs x rfl)
 cases op<;>simp only[HB]at e<;>simp only[Op.operands]at A
 case move x=>cases e;exact mM.pure I ⟨_,rfl,A x (by simp)⟩
 case assign x=>cases e;exact mM.pure I ⟨_,rfl,A x (by simp)⟩
 case pick c a b=>
  have hc:=A c (by simp);have ha:=A a (by simp);have hb:=A b (by simp)
  cases a7:ρ c<;>simp[a7]at e
  rename_i bb
  rw[a7]at hc;simp only[aw]at hc;obtain⟨rfl,rfl⟩:=e;refine mM.pure I ⟨if bb then σ a else σ b,?_,?_⟩
  ·simp[execOp,hc,asBool]
  cases bb<;>simpa
 case build t J=>
  refine U (fun v he=>?_) e;have:=adq (aly (P:=P) (g:=g) (w:=w) (ps:=J) (ρ:=ρ) (σ:=σ) fun x O=>A x (by simpa using O)) he;have e1:(J.map fun (x:Nat×Operand)=>(x.1,σ x.2))=(J.toList.map fun (x:Nat×Operand)=>(x.1,σ x.2)).toArray:=by apply aoF;simp
  show ∃Y,(Instr.build t (J.map fun (x:Nat×Operand)=>(x.1,σ x.2))).run P w= .ok Y w/\aw P g w v Y;rw[e1];exact this
 case load t a=>exact U (fun v he=>agw I (A a (by simp)) he) e
 case store t a x=>exact hu (fun h1 he=>⟨g,SU I (A a (by simp)) (A x (by simp)) he⟩) e
 case nilCheck x=>
  have O:=A x (by simp)
  cases Z:ρ x<;>simp[Z]at e<;>rw[Z]at O<;>have V:=O<;>simp only[aw]at O
  case ie b off=>obtain⟨rfl,rfl⟩:=e;obtain⟨_,_,_,h1⟩:=O;exact mM.pure I ⟨σ x,by simp[execOp,h1],V⟩
  case ze cs=>obtain⟨rfl,rfl⟩:=e;obtain⟨_,_,h1,_⟩:=O;exact mM.pure I ⟨σ x,by simp[execOp,h1],V⟩
  case sW b f k off=>obtain⟨rfl,rfl⟩:=e;obtain⟨_,_,_,h1,_⟩:=O;exact mM.pure I ⟨σ x,by simp[execOp,h1],V⟩
  case yJ b el i off=>obtain⟨rfl,rfl⟩:=e;obtain⟨_,_,_,h1⟩:=O;exact mM.pure I ⟨σ x,by simp[execOp,h1],V⟩
  case func fn a b=>
   obtain⟨_,_,h1,_⟩:=O
   cases fn<;>simp at e<;>obtain⟨rfl,rfl⟩:=e<;>exact mM.pure I ⟨σ x,by simp[execOp,h1],V⟩
 case binOp op t x y yt=>
  split at e
  ·rename_i hg
   refine U (s:=do eqGuard op t x y (σ x) (σ y);binOp op t (σ x) (σ y)) (fun v he=>?_) e;obtain⟨Y,h1,h2⟩:=aiB I (A x (by simp)) (A y (by simp)) he;refine⟨Y,?_,h2⟩;have:=Xm (A x (by simp)) (A y (by simp)) hg (X9 he);simp[this,h1]
  cases e
 case unOp op t x=>exact U (fun v he=>aj8 (A x (by simp)) he) e
 case convert d0 dst x=>exact U (fun v he=>Xu I (A x (by simp)) he) e
 case makeFunc fn first captured=>
  have hf:ay P g w (first.toList.map ρ) (first.map σ).toList:=by rw[ao7];exact ay.map fun a ha=>A a (by simp[ha])
  have hc:ay P g w (captured.toList.map ρ) (captured.map σ).toList:=by rw[ao7];exact ay.map fun a ha=>A a (by simp[ha])
  cases fn<;>simp at e<;>obtain⟨rfl,rfl⟩:=e<;>
   exact mM.pure I ⟨_,rfl,by simp only[aw];exact⟨_,_,rfl,hf,hc⟩⟩
 case slice t x lo hi mx=>exact U (fun v he=>ady I (A x (by simp)) (afA fun y hy=>A y (by simp at hy;simp[hy])) (afA fun y hy=>A y (by simp at hy;simp[hy])) (afA fun y hy=>A y (by simp at hy;simp[hy])) he) e
 case fieldAddr t x i=>exact U (fun v he=>RL (A x (by simp)) he) e
 case field t x i=>exact U (fun v he=>ads (A x (by simp)) he) e
 case indexAddr t x i=>exact U (fun v he=>RM (A x (by simp)) (A i (by simp)) he) e
 case index t x i=>exact U (fun v he=>adu (A x (by simp)) (A i (by simp)) he) e
 case lookup t x i ok=>exact U (fun v he=>ZW I (A x (by simp)) (A i (by simp)) he) e
 case mapUpdate t m k x=>exact hu (fun h1 he=>Iq I (A m (by simp)) (A k (by simp)) (A x (by simp)) he) e
 case insert t m k x=>exact hu (fun h1 he=>Iq I (A m (by simp)) (A k (by simp)) (A x (by simp)) he) e
 case range t x=>exact a8 (fun v h1 he=>adx I (A x (by simp)) he) e
 case entry it=>exact U (fun v he=>adr I (A it (by simp)) he) e
 case extract t i=>
  have O:=A t (by simp)
  cases Z:ρ t<;>simp[Z]at e
  rename_i vs
  rw[Z]at O;simp only[aw]at O;obtain⟨b6,h1,h2⟩:=O;obtain⟨v,b4,rfl,rfl⟩:=e;obtain⟨Y,a6,b1⟩:=h2.get b4;refine mM.FI (s:=Instr.extract (σ t) i) I ⟨Y,?_,b1⟩;simp only[ans]at a6;simp[Instr.extract,h1,a6]
 case call c=>
  cases hd:xO ρ c ty with
  |none=>simp[hd]at e
  |some d=>simp only[hd,anT]at e;obtain⟨d',h1,h2,h3⟩:=Nu I A hd;have:=QI I h2 h3 e;simp only[execOp,Sem.run_bind,h1,Result.andThen_ok];exact this
 case defer c=>
  cases hd:xO ρ c ty with
  |none=>simp[hd]at e
  |some d=>simp[hd]at e;obtain⟨rfl,rfl⟩:=e;obtain⟨d',h1,h2⟩:=Nu I A hd;exact mM.pure I ⟨d',by simp[execOp,h1],h2⟩
 all_goals first|exact absurd rfl ha|cases e
def aiD (V:bq P g h w){o:Oper}{ρ:Operand->BV}{σ:Operand->Value}{n:bP}{h':ai}(A:∀x∈o.op.operands.toList,aw P g w (ρ x) (σ x))(e:opR P h ρ o=some (n,h')):
 mM P g h w n h' ((execOp σ o).run P w):=by
 unfold opR at e
 split at e
 ·rename_i J dst x ho
  split at e
  ·rename_i r hb
   obtain⟨a6,op,ty,pos,after,guard⟩:=o;simp only at ho;subst ho;simp only[amD,anC]at e;obtain⟨rfl,rfl⟩:=e;have Y:=A x (by simp[Op.operands]);unfold Yc at hb
   split at hb
   ·rename_i el s hs hd U
    split at hb
    ·rename_i I
     simp only[amo]at I;have Z:=Iz I.1
     cases hb
     rw[U]at Y;simp only[aw]at Y;refine mM.y9 (s:=convert J dst (σ x)) (mN.DS V fun O hm=>?_);have hrun:(convert J dst (σ x)).run P w=(Conv.stringToBytes el ⟨s.toArray⟩).run P w:=by rw[Y];refine(Sem.run_bind P w _ _).trans ?_;rw[aO hs,Result.andThen_ok];refine(Sem.run_bind P w _ _).trans ?_;rw[aO hd,Result.andThen_ok];refine(Sem.run_bind P w (underlying el) _).trans ?_;rw[aO Z,Result.andThen_ok]
     rw[hrun];exact ZK O I.2 Z (by rw[ai.gY,amu rfl]) hm
    cases hb
   cases hb
  exact UN V A e
 exact UN V A e
end
end
section
def kY (g:Gh):ig->Item->Prop
 | .code c,i=>i= .code c
 | .inBlock id,i=>i= .inBlock id
 | .inLoop c,i=>i= .inLoop c
 | .inScope c,i=>i= .inScope c
 | .inRegion aZ todo,i=>i= .inRegion aZ todo
 | .js _,_=>False
def cM (g:Gh):List ig->List Item->Prop
 | [],A=>A=[]
 |b::bs,A=>∃i I,A=i::I/\kY g b i/\cM g bs I
def r7 (P:Program)(g:Gh)(w:World):aam->FrameMode->Prop
 | .run,m=>m= .run
 | .returning,m=>m= .returning
def Cf (_:Gh)(b r:Option Nat):Prop:=b=none/\r=none
def ahf (aZ:Array Oper)(i:Nat):Prop:=∃o,aZ[i]?=some o/\ng o=true
def iM (aZ:Array Oper)(cN:List BV)(aN:List (Option BV))(rest:List Nat)(t:Nat):BV:=
 match gz aZ t with
 |some k=>if k∈rest then cN.getD t BV.undef else (aN.getD k none).getD .qd
 |none=>cN.getD t BV.undef
def Jr (A:List Nat):List Nat->Prop
 | []=>True
 |i::r=>(∀k∈i::r,fg A i k=false)/\Jr A r
def NJ (P:Program)(g:Gh)(h hp:ai)(aZ:Array Oper)(cN:List BV)(aN:List (Option BV))(b:Option Nat)(i:Nat)(o:Oper)(v:BV):Prop:=
 (nP o aZ (fun t=>some (qi aZ (bj aZ) cN aN i t))=some false/\v=BV.undef)\/
 (nP o aZ (fun t=>some (qi aZ (bj aZ) cN aN i t))=some true/\
   ((nw o=false/\HB P hp (nF aZ (bj aZ) cN aN i) o=some (.value v,hp))\/
    (nw o=true/\∃h1 h2,b=some h1.next/\HB P h1 (nF aZ (bj aZ) cN aN i) o=some (.value v,h2)/\g.m h1.next=none/\h.get h1.next=h2.get h1.next/\vU (h.get h1.next)=false)))
def sR (aN:List (Option BV))(i:Nat):Prop:=∃v,aN[i]?=some (some v)
def De (aZ:Array Oper)(dB:List Nat)(i:Nat):Prop:=∀e∈dB,fg (bj aZ) i e=false
structure kN (P:Program)(g:Gh)(h:ai)(w:World)(lb ub:Nat)(hp:ai)(ph:Nat->Option Nat)(d:Lr)(tmps:Array Value)(rest:List Nat):Prop where
 ok:LQ d.aZ=true
 TH:LR d.aZ d.cN.length=true
 size:tmps.size=d.cN.length
 adL:d.aN.length=d.aZ.size
 Bo:rest.Nodup
 lt:∀i∈rest,i<d.aZ.size
 ord:Jr (bj d.aZ) rest
 dc:∀i,i<d.aZ.size->i∉rest->∀k,fg (bj d.aZ) i k=true->k∉rest
 dB:∀e,e∈d.dB↔(e∈rest/\ahf d.aZ e)
 Dt:d.dB.Pairwise fun a b=>fg (bj d.aZ) b a=true
 aN:∀i,i<d.aZ.size->i∉rest->sR d.aN i
 Ir:∀(t:Nat) v,tmps[t]?=some v->aw P g w (iM d.aZ d.cN d.aN rest t) v
 ready:∀i∈rest,∀o,d.aZ[i]?=some o->ng o=false->De d.aZ d.dB i->sR d.aN i
 BX:∀i∈rest,∀o v,d.aZ[i]?=some o->ng o=false->d.aN[i]?=some (some v)->De d.aZ d.dB i/\NJ P g h hp d.aZ d.cN d.aN (ph i) i o v
 SI:∀i j b,ph i=some b->ph j=some b->i=j
 W4:∀i b,ph i=some b->lb<=b/\b<ub
def Oa (P:Program)(g:Gh)(h:ai)(w:World)(lb ub:Nat)(hp:ai)(d:Lr)(tmps:Array Value)(rest:List Nat):Prop:=∃ph,kN P g h w lb ub hp ph d tmps rest
def gK (P:Program)(g:Gh)(h:ai)(w:World)(lb ub:Nat)(top:Bool)(b:bE)(f:Frame):Prop:=
 match b.todo with
 | .js d::k=>b.dw=d.cN/\∃rest k',f.todo= .inRegion d.aZ rest::k'/\cM g k k'/\∃hp,(top=true->hp=h)/\Oa P g h w lb ub hp d f.tmps rest/\
    (top=false->∃x r,rest=x::r/\d.dB.head?=some x)
 |_=>ay P g w b.dw f.tmps.toList/\cM g b.todo f.todo
structure oR (P:Program)(g:Gh)(h:ai)(w:World)(lb ub:Nat)(top:Bool)(b:bE)(f:Frame):Prop where
 fn:b.fn=f.fn
 kind:b.kind=f.kind
 tz:b.kind= .normal\/b.kind= .deferred
 defers:mL P g w b.defers f.defers
 mode:r7 P g w b.mode f.mode
 round:Cf g b.roundOf f.roundOf
 run:b.mode= .run->gK P g h w lb ub top b f
 dw:b.mode≠ .run->ay P g w b.dw f.tmps.toList
structure sN where
 K:Gh->ai->Nat->List Frame->Prop
 mono:∀{g g':Gh} {h h':ai} {lb:Nat} {cs:List Frame},(∀b,b<lb->g.m b=none->vU (h.get b)=false->g'.m b=none/\h'.get b=h.get b)->K g h lb cs->K g' h' lb cs
def sN.of (cs:List Frame):sN:=⟨fun _ _ _ c=>c=cs,fun _ h=>h⟩
def pA (P:Program)(g:Gh)(h:ai)(w:World)(aD:sN):Nat->List bE->List Frame->Prop
 |lb,[],cs=>aD.K g h lb cs
 |lb,b::bs,cs=>∃c I A,cs=c::I/\A<=lb/\oR P g h w A lb false b c/\pA P g h w aD A bs I
def Q4 (P:Program)(aD:sN)(g:Gh)(w:World)(lb:Nat)(s:av)(f:Frame)(cs:List Frame):Prop:=
 bq P g s.h w/\lb<=s.h.next/\oR P g s.h w lb s.h.next true s.fr f/\pA P g s.h w aD lb s.cs cs
def vX (lb:Nat)(g:Gh)(h:ai)(g':Gh)(h':ai):Prop:=∀b,b<lb->g.m b=none->vU (h.get b)=false->g'.m b=none/\h'.get b=h.get b
section
variable {P:Program} {g g':Gh} {h h':ai} {w w':World}
def Ph.lt (hp:Ph g h g' h'){lb:Nat}(hl:lb<=h.next):vX lb g h g' h':=fun b hb A I=>hp b (by omega) A I
def vX.refl (lb:Nat)(g:Gh)(h:ai):vX lb g h g h:=fun _ _ A _=>⟨A,rfl⟩
def vX.mono {lb A:Nat}(hp:vX lb g h g' h')(hl:A<=lb):vX A g h g' h':=fun b hb I J=>hp b (by omega) I J
def vX.trans {A:Gh}{I:ai}{lb:Nat}(a:vX lb g h g' h')(b:vX lb g' h' A I):vX lb g h A I:=fun x O U J=>by
 obtain⟨Y,h1⟩:=a x O U J;obtain⟨V,h2⟩:=b x O Y (by rw[h1];exact J);exact⟨V,h2.trans h1⟩
def kY.mono (A:iL g w g' w'){b:ig}{i:Item}(h:kY g b i):kY g' b i:=by
 cases b<;>simp only[kY]at h ⊢
 all_goals exact h
def cM.mono (I:iL g w g' w'){bs:List ig}:∀{A:List Item},cM g bs A->cM g' bs A:=by
 induction bs with
 |nil=>intro A h;exact h
 |cons b bs J=>intro A h;simp only[cM]at h ⊢;obtain⟨i,O,rfl,h1,h2⟩:=h;exact⟨i,O,rfl,h1.mono I,J h2⟩
def r7.mono (A:iL g w g' w'){b:aam}{m:FrameMode}(h:r7 P g w b m):r7 P g' w' b m:=by
 cases b<;>simp only[r7]at h ⊢
 all_goals exact h
def Cf.mono (A:iL g w g' w'){b r:Option Nat}(h:Cf g b r):Cf g' b r:=by
 exact h
def NJ.mono {hp:ai}{aZ:Array Oper}{cN:List BV}{aN:List (Option BV)}{b:Option Nat}{i:Nat}{o:Oper}{v:BV}
 (A:∀x,b=some x->g.m x=none->vU (h.get x)=false->g'.m x=none/\h'.get x=h.get x)(ho:NJ P g h hp aZ cN aN b i o v):NJ P g' h' hp aZ cN aN b i o v:=by
 rcases ho with h1| ⟨h1,h2| ⟨h2,V,Z,I,Y,k4,k5,O⟩⟩
 ·exact .inl h1
 ·exact .inr ⟨h1,.inl h2⟩
 obtain⟨U,J⟩:=A _ I k4 O;exact .inr ⟨h1,.inr ⟨h2,V,Z,I,Y,U,J.trans k5,by rw[J];exact O⟩⟩
def kN.mono (V:iL g w g' w'){hp:ai}{lb ub:Nat}(J:vX ub g h g' h'){ph:Nat->Option Nat}{d:Lr}{tmps:Array Value}{rest:List Nat}(hd:kN P g h w lb ub hp ph d tmps rest):
 kN P g' h' w' lb ub hp ph d tmps rest:=
 {hd with
  Ir:=fun t v ht=>aw.mono V _ _ (hd.Ir t v ht)
  BX:=fun i hi o v h1 h2 O=>⟨(hd.BX i hi o v h1 h2 O).1,(hd.BX i hi o v h1 h2 O).2.mono fun x U A I=>J x (hd.W4 i x U).2 A I⟩}
def Oa.mono (I:iL g w g' w'){hp:ai}{lb ub:Nat}(A:vX ub g h g' h'){d:Lr}{tmps:Array Value}{rest:List Nat}(hd:Oa P g h w lb ub hp d tmps rest):
 Oa P g' h' w' lb ub hp d tmps rest:=by
 obtain⟨ph,hd⟩:=hd;exact⟨ph,hd.mono I A⟩
def oR.mono (hm:iL g w g' w'){lb ub:Nat}(hph:vX ub g h g' h'){b:bE}{f:Frame}(hf:oR P g h w lb ub false b f):oR P g' h' w' lb ub false b f where
 fn:=hf.fn
 kind:=hf.kind
 tz:=hf.tz
 defers:=hf.defers.mono hm
 mode:=hf.mode.mono hm
 round:=hf.round.mono hm
 dw:=fun e=>ay.mono hm _ _ (hf.dw e)
 run:=fun e=>by
  have:=hf.run e;unfold gK at this ⊢
  split
  ·rename_i d k ht
   simp only[ht]at this;obtain⟨h1,rest,k',h2,h3,hp,h4,h5,h6⟩:=this;exact⟨h1,rest,k',h2,h3.mono hm,hp,(fun e=>by cases e),h5.mono hm hph,by simpa using h6⟩
  rename_i hno
  split at this
  ·rename_i d k ht;exact absurd ht (hno d k)
  exact⟨ay.mono hm _ _ this.1,this.2.mono hm⟩
def pA.mono (J:iL g w g' w'){aD:sN}{bs:List bE}:∀{lb:Nat} {cs:List Frame},vX lb g h g' h'->pA P g h w aD lb bs cs->pA P g' h' w' aD lb bs cs:=by
 induction bs with
 |nil=>intro lb cs A h;exact aD.mono A h
 |cons b bs O=>intro lb cs A h;simp only[pA]at h ⊢;obtain⟨c,V,I,rfl,h1,h2,U⟩:=h;exact⟨c,V,I,rfl,h1,h2.mono J A,O (A.mono h1) U⟩
def Of {dw:List BV}{tmps:Array Value}(A:ay P g w dw tmps.toList)(f:Frame)(hf:f.tmps=tmps)(x:Operand):aw P g w (AV dw x) (f.eval x):=by
 subst hf
 cases x with
 |tmp t=>
  simp only[AV,Frame.eval]
  cases hb:dw[t]? with
  |none=>have:f.tmps.toList[t]?=none:=(by rw[anu];have:=A.length;have:=anV.1 hb;omega);simp only[List.getD,hb,ao9,anv];rw[<-ans,this];exact aw.undef
  |some b=>obtain⟨v,h1,h2⟩:=A.get hb;simp only[List.getD,hb,anI,anv];rw[<-ans,h1];exact h2
 |const v=>exact aw.ofv P g w v
 |global a=>simp[AV,aw]
 |func f'=>simp only[AV,Frame.eval,aw];exact⟨#[],#[],rfl,ay.nil,ay.nil⟩
def af6 {dw:List BV}{tmps:Array Value}(A:ay P g w dw tmps.toList){b:BV}{v:Value}(hb:aw P g w b v)(d:Option Nat):
 ay P g w (yc dw d b) (match d with|some d=>tmps.setIfInBounds d v|none=>tmps).toList:=by
 cases d with
 |none=>exact A
 |some d=>simpa [yc]using A.set d hb
def ahh {id:Nat}:∀{bs:List ig} {I:List Item},cM g bs I->
 (∀k,yK id bs=some k->∃k',exitTo id I=some k'/\cM g k k')/\(yK id bs=none->exitTo id I=none):=by
 intro bs
 induction bs with
 |nil=>intro I h;simp only[cM]at h;subst h;exact⟨fun k A=>by simp[yK]at A,fun _=>rfl⟩
 |cons b bs O=>
  intro I h;simp only[cM]at h;obtain⟨i,U,rfl,h1,h2⟩:=h;have:=O h2
  cases b<;>simp only[kY]at h1
  case inBlock J=>
   subst h1;simp only[yK,exitTo]
   by_cases hc:(J==id)=true
   ·rw[amu hc,amu hc];exact⟨fun k A=>by cases A;exact⟨U,rfl,h2⟩,fun A=>by cases A⟩
   rw[amt hc,amt hc];exact this
  all_goals (subst h1;simpa only[yK,exitTo]using this)
def ahr {l:Nat}:∀{bs:List ig} {A:List Item},cM g bs A->
 (∀k,yM l bs=some k->∃k',gotoIn l A=some k'/\cM g k k')/\(yM l bs=none->gotoIn l A=none):=by
 intro bs
 induction bs with
 |nil=>intro A h;simp only[cM]at h;subst h;exact⟨fun k I=>by simp[yM]at I,fun _=>rfl⟩
 |cons b bs J=>
  intro A h;simp only[cM]at h;obtain⟨i,O,rfl,h1,h2⟩:=h;have:=J h2
  cases b<;>simp only[kY]at h1
  case inScope body=>
   subst h1;simp only[yM,gotoIn]
   cases hf:findLabel body l with
   |none=>exact this
   |some rest=>exact⟨fun k I=>by cases I;exact⟨_,rfl,_,_,rfl,rfl,_,_,rfl,rfl,h2⟩,fun I=>by cases I⟩
  all_goals (subst h1;simpa only[yM,gotoIn]using this)
end
end
section
section
variable {P:Program} {w w':World} {cs cs':List Frame} {fn:FuncId} {tmps:Array Value} {ds:List Deferred} {kd:CallKind} {ro:Option Nat} {k:List Item}
abbrev rf (fn:FuncId)(tmps:Array Value)(todo:List Item)(ds:List Deferred)(kd:CallKind)(ro:Option Nat):Frame:=
 {fn:=fn,tmps:=tmps,todo:=todo,defers:=ds,mode:= .run,kind:=kd,roundOf:=ro}
def ajq:step P (lone (rf fn tmps (.code .skip::k) ds kd ro) cs w)= .next (lone (rf fn tmps k ds kd ro) cs w):=step_lone_go (by simp[stepG,stepG.exec])
def ag5 {l:Nat}:step P (lone (rf fn tmps (.code (.label l)::k) ds kd ro) cs w)= .next (lone (rf fn tmps k ds kd ro) cs w):=step_lone_go (by simp[stepG,stepG.exec])
def abF {l:Nat}:step P (lone (rf fn tmps (.inBlock l::k) ds kd ro) cs w)= .next (lone (rf fn tmps k ds kd ro) cs w):=step_lone_go (by simp[stepG,stepG.exec])
def abG {c:Code}:step P (lone (rf fn tmps (.inScope c::k) ds kd ro) cs w)= .next (lone (rf fn tmps k ds kd ro) cs w):=step_lone_go (by simp[stepG,stepG.exec])
def aky {a b:Code}:step P (lone (rf fn tmps (.code (.seq a b)::k) ds kd ro) cs w)= .next (lone (rf fn tmps (.code a:: .code b::k) ds kd ro) cs w):=step_lone_go (by simp[stepG,stepG.exec])
def ag2 {l:Nat}{c:Code}:step P (lone (rf fn tmps (.code (.block l c)::k) ds kd ro) cs w)= .next (lone (rf fn tmps (.code c:: .inBlock l::k) ds kd ro) cs w):=step_lone_go (by simp[stepG,stepG.exec])
def ajp {c:Code}:step P (lone (rf fn tmps (.code (.loop c)::k) ds kd ro) cs w)= .next (lone (rf fn tmps (.code c:: .inLoop c::k) ds kd ro) cs w):=step_lone_go (by simp[stepG,stepG.exec])
def ad3 {c:Code}:step P (lone (rf fn tmps (.inLoop c::k) ds kd ro) cs w)= .next (lone (rf fn tmps (.code c:: .inLoop c::k) ds kd ro) cs w):=step_lone_go (by simp[stepG,stepG.exec])
def ag6 {c:Code}:step P (lone (rf fn tmps (.code (.scope c)::k) ds kd ro) cs w)= .next (lone (rf fn tmps (.code c:: .inScope c::k) ds kd ro) cs w):=step_lone_go (by simp[stepG,stepG.exec])
def ajl {x:Operand}{a b:Code}{t:Bool}(h:(rf fn tmps (.code (.cond x a b)::k) ds kd ro).eval x= .bool t):
 step P (lone (rf fn tmps (.code (.cond x a b)::k) ds kd ro) cs w)= .next (lone (rf fn tmps (.code (if t then a else b)::k) ds kd ro) cs w):=step_lone_go (by simp[stepG,stepG.exec,h])
def ajn {id:Nat}{k':List Item}(h:exitTo id k=some k'):step P (lone (rf fn tmps (.code (.exit id)::k) ds kd ro) cs w)= .next (lone (rf fn tmps k' ds kd ro) cs w):=step_lone_go (by simp[stepG,stepG.exec,h])
def ajo {l:Nat}{k':List Item}(h:gotoIn l k=some k'):step P (lone (rf fn tmps (.code (.goto l)::k) ds kd ro) cs w)= .next (lone (rf fn tmps k' ds kd ro) cs w):=step_lone_go (by simp[stepG,stepG.exec,h])
def ad4 {id:Nat}{aZ:Array Oper}:step P (lone (rf fn tmps (.code (.region id aZ false)::k) ds kd ro) cs w)= .next (lone (rf fn tmps (.inRegion aZ (List.range aZ.size)::k) ds kd ro) cs w):=step_lone_go (by simp[stepG,stepG.exec])
def ajm {id:Nat}{aZ:Array Oper}(A:P.follows .mixedOrders=true):∃t,step P (lone (rf fn tmps (.code (.region id aZ true)::k) ds kd ro) cs w)=
 .next (lone (rf fn tmps (.inRegion aZ (Region.linearise .any aZ t)::k) ds kd ro) cs {w with drawn:=w.drawn+1}):=
 ⟨w.tape w.drawn (.order fn id),step_lone_go (by simp[stepG,stepG.exec,choose,Sem.run,Question.forced,Question.cut,Region.schedule,A])⟩
def MK {aZ:Array Oper}:step P (lone (rf fn tmps (.inRegion aZ []::k) ds kd ro) cs w)= .next (lone (rf fn tmps k ds kd ro) cs w):=step_lone_go (by simp[stepG,stepG.exec])
def ON {aZ:Array Oper}{i:Nat}{r:List Nat}(h:((aZ[i]?).map (Region.wanted · (yielded aZ tmps))).getD false=false):
 step P (lone (rf fn tmps (.inRegion aZ (i::r)::k) ds kd ro) cs w)= .next (lone ((rf fn tmps (.inRegion aZ (i::r)::k) ds kd ro).finish undef) cs w):=step_lone_go (by
 have h':=h
 simp[stepG,stepG.exec,h'])
def Tf {aZ:Array Oper}{i:Nat}{r:List Nat}{o:Oper}(ho:aZ[i]?=some o)(hw:Region.wanted o (yielded aZ tmps)=true)(hd:ro=none\/∀c,o.op≠ .defer c):
 stepG P true {frame:=rf fn tmps (.inRegion aZ (i::r)::k) ds kd ro,callers:=cs,status:= .running,dying:=none} w=
  stepG.apply P true (rf fn tmps (.inRegion aZ (i::r)::k) ds kd ro) cs none (execOp (rf fn tmps (.inRegion aZ (i::r)::k) ds kd ro).eval o) w:=by
 simp only[stepG,stepG.exec,ho,amH,hw,anI,am5];simp only[stepG.oper,Frame.oper?,ho];rcases hd with rfl|hd
 ·rfl
 cases ro with
 |none=>rfl
 |some l=>
  obtain⟨dst,op,ty,pos,after,guard⟩:=o
  cases op<;>first
   |rfl
   | (exact absurd rfl (hd _))
def Tg {f:Frame}{s:Sem Next}{v:Value}(A:s.run P w= .ok (.value v) w'):(stepG.apply P true f cs none s w).bare= .go {frame:=f.finish v,callers:=cs,status:= .running,dying:=none} w':=by
 simp[stepG.apply,Sem.runT_eq,A]
def X2 {f:Frame}{s:Sem Next}(A:s.run P w= .ok .skip w'):(stepG.apply P true f cs none s w).bare= .go {frame:=f.finish undef,callers:=cs,status:= .running,dying:=none} w':=by
 simp[stepG.apply,Sem.runT_eq,A]
def ag3 {f:Frame}{s:Sem Next}{d:Deferred}(A:s.run P w= .ok (.defer d) w'):(stepG.apply P true f cs none s w).bare= .go {frame:=({f with defers:=d::f.defers}:Frame).finish undef,callers:=cs,status:= .running,dying:=none} w':=by
 simp[stepG.apply,Sem.runT_eq,A]
def ag4 {f:Frame}{s:Sem Next}{g:FuncId}{args:Array Value}(J:s.run P w= .ok (.enter g args) w')(A:∀d r I rest b,f.todo≠ .call d b r I::rest):
 (stepG.apply P true f cs none s w).bare= .go {frame:=Frame.enter P g args .normal,callers:=f::cs,status:= .running,dying:=none} w':=by
 simp only[stepG.apply,Sem.runT_eq,J,am5,GStep.bare_after];simp only[GStep.bare];congr 2
 split
 ·rename_i ht;exact absurd ht (A _ _ _ _ _)
 rfl
def abH {f:Frame}{s:Sem Next}(A:f.roundOf=none)(I:s.run P w= .ok .recover w'):
 (stepG.apply P true f cs none s w).bare=(match tryRecover f cs with
   |some (v,cs')=> .go {frame:=f.finish v,callers:=cs',status:= .running,dying:=none} w'
   |none=> .go {frame:=f.finish .nilIface,callers:=cs,status:= .running,dying:=none} w'):=by
 simp only[stepG.apply,Sem.runT_eq,I,am5,GStep.bare_after,A]
 cases tryRecover f cs with
 |none=>rfl
 |some x=>rfl
end
end
def YM {l:Array Bool}{i:Nat}(hi:l[i]?=some false):∃(m:Nat),l[m]?=some false/\∀(j:Nat),j<m->l[j]?=some true:=by
 induction i using Nat.strongRecOn with
 |_ i U=>
  by_cases I:∀(j:Nat),j<i->l[j]?=some true
  ·exact⟨i,hi,I⟩
  have:∃(j:Nat),j<i/\l[j]?≠some true:=by apply anq;intro V;exact I fun j O=>anq fun A=>V ⟨j,O,A⟩
  obtain⟨j,O,A⟩:=this;have J:j<l.size:=by have:=(amL.1 hi).1;omega
  refine U j O ?_;rw[am0 J]at A ⊢
  cases hb:l[j]with
  |true=>rw[hb]at A;exact absurd rfl A
  |false=>rfl
def aeO (acc:List Nat):∀(es:List Edge) (s k:Nat),(es.foldl (fun s e=>if Region.binds .any e then s ||| 2^e.on ||| acc.getD e.on 0 else s) s).testBit k=true->
 s.testBit k=true\/∃e∈es,Region.binds .any e=true/\(k=e.on\/(acc.getD e.on 0).testBit k=true):=by
 intro es
 induction es with
 |nil=>intro s k h;exact .inl h
 |cons e es A=>
  intro s k h;simp only[aol]at h;rcases A _ k h with h1| ⟨J,h1,h2,I⟩
  ·by_cases hb:Region.binds .any e=true
   ·rw[amu hb]at h1;rw[aoK,aoK,anZ,anZ]at h1;rcases h1 with (h1|h1)|h1
    ·exact .inl h1
    ·rw[Nat.testBit_two_pow]at h1;have h2:e.on=k:=(by simpa using h1);exact .inr ⟨e,by simp,hb,.inl h2.symm⟩
    exact .inr ⟨e,by simp,hb,.inr h1⟩
   rw[amt hb]at h1;exact .inl h1
  exact .inr ⟨J,by simp[h1],h2,I⟩
def Jx:∀(l:List Oper) (acc:List Nat),(jG l acc).take acc.length=acc/\
 ∀(j:Nat) (o:Oper),l[j]?=some o->∀k,((jG l acc).getD (acc.length+j) 0).testBit k=true->
  ∃e∈o.after.toList,Region.binds .any e=true/\(k=e.on\/(((jG l acc).take (acc.length+j)).getD e.on 0).testBit k=true):=by
 intro l
 induction l with
 |nil=>intro acc;exact⟨by simp[jG],fun j o h=>by simp at h⟩
 |cons x l U=>
  intro acc;simp only[jG];generalize O:(x.after.toList.foldl (fun s e=>if Region.binds .any e then s ||| 2^e.on ||| acc.getD e.on 0 else s) 0)=b;obtain⟨h1,h2⟩:=U (acc++[b]);have A:(jG l (acc++[b])).take acc.length=acc:=by have:=amZ (List.take acc.length) h1;simpa [apm]using this
  have hb:(jG l (acc++[b])).getD acc.length 0=b:=by have:=amZ (fun l=>l.getD acc.length 0) h1;simp only[List.getD,ane,ams,amB,amM]at this;rw[ifP]at this;simpa [List.getD]using this
  refine⟨A,fun j o J k I=>?_⟩
  cases j with
  |zero=>
   simp at J;subst J;simp only[anN]at I ⊢;rw[hb,<-O]at I;rw[A];rcases aeO acc _ _ _ I with h0|h0
   ·simp at h0
   exact h0
  |succ j=>simp at J;have:=h2 j o J k (by simpa [aof,aoN 1 j]using I);simpa [aof,aoN 1 j]using this
def LB {aZ:Array Oper}{i k:Nat}(h:fg (bj aZ) i k=true):∃o,aZ[i]?=some o/\∃e∈o.after.toList,Region.binds .any e=true/\(k=e.on\/(e.on<i/\fg (bj aZ) e.on k=true)):=by
 unfold fg bj at*
 cases ho:aZ.toList[i]? with
 |none=>
  exfalso;have I:∀(l:List Oper) (A:List Nat),(jG l A).length=A.length+l.length:=by
   intro l
   induction l with
   |nil=>intro A;simp[jG]
   |cons x l O=>intro A;simp only[jG,O];simp;omega
  have:(jG aZ.toList []).getD i 0=0:=by rw[anV]at ho;simp only[List.getD];rw[anu (by rw[I];simpa using ho)];rfl
  rw[this]at h;simp at h
 |some o=>
  obtain⟨e,h1,h2,h3⟩:=(Jx aZ.toList []).2 i o ho k (by simpa using h);refine⟨o,by simpa using ho,e,h1,h2,?_⟩;rcases h3 with h3|h3
  ·exact .inl h3
  right;simp only[amM,anr,List.getD,ane]at h3
  split at h3
  ·rename_i J;exact⟨J,by simpa [List.getD]using h3⟩
  simp at h3
def Od {aZ:Array Oper}(A:∀i o,aZ[i]?=some o->∀e∈o.after.toList,Region.binds .any e=true->e.on<i):∀(i k:Nat),fg (bj aZ) i k=true->k<i:=by
 intro i
 induction i using Nat.strongRecOn with
 |_ i J=>
  intro k h;obtain⟨o,ho,e,he,hb,I⟩:=LB h;have:=A i o ho e he hb;rcases I with rfl| ⟨h1,h2⟩
  ·exact this
  have:=J e.on h1 k h2;omega
def VU {aZ:Array Oper}(b6:∀i o,aZ[i]?=some o->∀e∈o.after.toList,Region.binds .any e=true->e.on<i):
 ∀(A t:Nat) (listed:Array Bool),listed.size=aZ.size->(∀i,listed[i]?=some true->∀k,fg (bj aZ) i k=true->listed[k]?=some true)->
  let S:=Region.linearise.go .any aZ A t listed []
  S.Nodup/\(∀i∈S,listed[i]?=some false)/\Jr (bj aZ) S/\((listed.toList.filter (!·)).length<=A->∀i,listed[i]?=some false->i∈S):=by
 intro A
 induction A with
 |zero=>
  intro t listed d2 b4;simp only[Region.linearise.go];refine⟨by simp,by simp,by simp[Jr],fun d6 i hi=>?_⟩;exfalso;have:false∈listed.toList.filter (!·):=by rw[apJ];exact⟨by rw[<-ans]at hi;exact amn hi,rfl⟩
  have:=ao1 this;omega
 |succ A ih=>
  intro t listed d2 b4;simp only[Region.linearise.go];generalize d4:(List.range aZ.size).filter (fun i=>!listed.getD i true&&((aZ[i]?).map (·.after.all fun e=>!Region.binds .any e||listed.getD e.on false)).getD false)=rs;have b1:∀i,i∈rs↔(i<aZ.size/\listed[i]?=some false/\∃o,aZ[i]?=some o/\∀e∈o.after.toList,Region.binds .any e=true->listed[e.on]?=some true):=by
   intro i;rw[<-d4,apJ,ao2,amo];constructor
   ·rintro⟨h1,h2,h3⟩;refine⟨h1,?_,?_⟩
    ·simp only[anv,amJ]at h2
     cases hl:listed[i]? with
     |none=>simp[hl]at h2
     |some b=>simp[hl]at h2;rw[h2]
    cases ho:aZ[i]? with
    |none=>simp[ho]at h3
    |some o=>
     simp only[ho,amH,anI]at h3;refine⟨o,rfl,fun e he hb=>?_⟩;have:=aom.1 h3 e (by simpa using he);simp only[hb,anY,aoD,anv]at this
     cases hl:listed[e.on]? with
     |none=>simp[hl]at this
     |some b=>simp[hl]at this;rw[this]
   rintro⟨h1,h2,o,h3,h4⟩;refine⟨h1,by simp[anv,h2],?_⟩;simp only[h3,amH,anI];rw[aom];intro e he
   by_cases hb:Region.binds .any e=true
   ·simp[hb,anv,h4 e (by simpa using he) hb]
   simp[hb]
  cases hr:rs[t % rs.length]? with
  |none=>
   simp only[List.reverse_nil];refine⟨by simp,by simp,by simp[Jr],fun _ i hi=>?_⟩;exfalso;have d3:rs≠[]:=by obtain⟨m,a8,Z⟩:=YM hi;have Y:m<aZ.size:=(by have:=(amL.1 a8).1;omega);have:m∈rs:=(b1 _).2 ⟨Y,a8,_,am0 Y,fun e he hb=>Z _ (b6 _ _ (am0 Y) e he hb)⟩;intro h0;rw[h0]at this;simp at this
   have:t % rs.length<rs.length:=ap9 _ (apg.2 d3);rw[anV]at hr;omega
  |some i=>
   dsimp only;rw[linearise_go_acc];simp only[List.reverse_cons,List.reverse_nil,an0,apQ];have hi:=(b1 i).1 (amn hr);obtain⟨Y,I,o,ho,a7⟩:=hi;have U:∀k,fg (bj aZ) i k=true->listed[k]?=some true:=by
    intro k hk;obtain⟨o',ho',e,he,hb,hc⟩:=LB hk;rw[ho]at ho';cases ho';have h1:=a7 e he hb;rcases hc with rfl| ⟨_,h2⟩
    ·exact h1
    exact b4 _ h1 _ h2
   have d0:i<listed.size:=(by omega);have O:∀k,(listed.setIfInBounds i true)[k]?=if k=i then some true else listed[k]?:=fun k=>by
    by_cases hk:k=i
    ·subst hk;rw[amu rfl,amV d0]
    rw[amt hk,anc (by omega)]
   obtain⟨n1,n2,n3,n4⟩:=ih (t/rs.length) (listed.setIfInBounds i true) (by simpa using d2) (by
    intro j hj k hk;rw[O]at hj ⊢
    by_cases V:k=i
    ·rw[amu V]
    rw[amt V]
    by_cases J:j=i
    ·subst J;exact U k hk
    rw[amt J]at hj;exact b4 j hj k hk)
   have d1:i∉Region.linearise.go .any aZ A (t/rs.length) (listed.setIfInBounds i true) []:=fun hm=>by have:=n2 i hm;rw[O,amu rfl]at this;cases this
   refine⟨anp.2 ⟨d1,n1⟩,?_,?_,?_⟩
   ·intro j hj;rcases amz.1 hj with rfl|hj
    ·exact I
    have:=n2 j hj;rw[O]at this
    by_cases J:j=i
    ·rw[amu J]at this;cases this
    rwa [amt J]at this
   ·refine⟨fun k hk=>?_,n3⟩
    cases ht:fg (bj aZ) i k with
    |false=>rfl
    |true=>
     exfalso;have h1:=U k ht;rcases amz.1 hk with rfl|hk
     ·rw[I]at h1;cases h1
     have:=n2 k hk;rw[O]at this
     by_cases V:k=i
     ·rw[amu V]at this;cases this
     rw[amt V,h1]at this;cases this
   intro d6 j hj
   by_cases J:j=i
   ·subst J;simp
   refine am4 _ (n4 ?_ j (by rw[O,amt J];exact hj));have a6:∀(l:List Bool) (i:Nat),l[i]?=some false->((l.set i true).filter (!·)).length+1=(l.filter (!·)).length:=by
    intro l
    induction l with
    |nil=>intro i h;simp at h
    |cons b l d5=>
     intro i h
     cases i with
     |zero=>simp at h;subst h;simp
     |succ i=>
      simp at h;have:=d5 i h
      cases b<;>simp[List.set]<;>omega
   have:=a6 listed.toList i (by simpa using I);rw[Array.toList_setIfInBounds];omega
def VH (acc:List Nat):∀(es:List Edge) (s k:Nat),(s.testBit k=true\/∃e∈es,Region.binds .any e=true/\(k=e.on\/(acc.getD e.on 0).testBit k=true))->
 (es.foldl (fun s e=>if Region.binds .any e then s ||| 2^e.on ||| acc.getD e.on 0 else s) s).testBit k=true:=by
 intro es
 induction es with
 |nil=>intro s k h;rcases h with h| ⟨e,he,_⟩;· exact h
       ·simp at he
 |cons e es A=>
  intro s k h;simp only[aol];apply A;rcases h with h| ⟨I,he,hb,hc⟩
  ·left
   by_cases hb:Region.binds .any e=true
   ·rw[amu hb,aoK,aoK,h];rfl
   rw[amt hb];exact h
  rcases amz.1 he with rfl|he
  ·left;rw[amu hb,aoK,aoK];rcases hc with rfl|hc
   ·rw[Nat.testBit_two_pow_self];simp
   rw[hc];simp
  exact .inr ⟨I,he,hb,hc⟩
def X4:∀(l:List Oper) (acc:List Nat) (j:Nat) (o:Oper),l[j]?=some o->
 (jG l acc).getD (acc.length+j) 0=o.after.toList.foldl (fun s e=>if Region.binds .any e then s ||| 2^e.on ||| ((jG l acc).take (acc.length+j)).getD e.on 0 else s) 0:=by
 intro l
 induction l with
 |nil=>intro acc j o h;simp at h
 |cons x l J=>
  intro acc j o I
  cases j with
  |zero=>
   simp at I;subst I;simp only[jG,anN];generalize O:(x.after.toList.foldl (fun s e=>if Region.binds .any e then s ||| 2^e.on ||| acc.getD e.on 0 else s) 0)=b;have h1:=(Jx l (acc++[b])).1;have A:(jG l (acc++[b])).take acc.length=acc:=by have:=amZ (List.take acc.length) h1;simpa [apm]using this
   have hb:(jG l (acc++[b])).getD acc.length 0=b:=(by have:=amZ (fun l=>l.getD acc.length 0) h1;simp only[List.getD,ane,ams,amB,amM]at this;rw[ifP]at this;simpa [List.getD]using this);rw[hb,A,O]
  |succ j=>simp at I;simp only[jG];have:=J (acc++[x.after.toList.foldl (fun s e=>if Region.binds .any e then s ||| 2^e.on ||| acc.getD e.on 0 else s) 0]) j o I;simpa [aof,aoN 1 j]using this
def aaC {aZ:Array Oper}{i k:Nat}{o:Oper}{e:Edge}(ho:aZ[i]?=some o)(he:e∈o.after.toList)(hb:Region.binds .any e=true)
 (A:k=e.on\/(e.on<i/\fg (bj aZ) e.on k=true)):fg (bj aZ) i k=true:=by
 unfold fg bj at*;have:=X4 aZ.toList [] i o (by simpa using ho);simp only[amM,anr]at this;rw[this];refine VH _ _ _ _ (.inr ⟨e,he,hb,?_⟩);rcases A with A| ⟨h1,h2⟩
 ·exact .inl A
 right;simp only[List.getD,ane,amu h1];simpa [List.getD]using h2
def Ya {aZ:Array Oper}(I:∀(i:Nat) o,aZ[i]?=some o->∀e∈o.after.toList,Region.binds .any e=true->e.on<i):∀(i k j:Nat),fg (bj aZ) i k=true->fg (bj aZ) k j=true->fg (bj aZ) i j=true:=by
 intro i
 induction i using Nat.strongRecOn with
 |_ i J=>
  intro k j h1 h2;obtain⟨o,ho,e,he,hb,hc⟩:=LB h1;rcases hc with rfl| ⟨A,hc⟩
  ·exact aaC ho he hb (.inr ⟨I i o ho e he hb,h2⟩)
  exact aaC ho he hb (.inr ⟨A,J _ A _ _ hc h2⟩)
def Un {A:List Nat}:∀{l:List Nat},Oz A l=true->l.Pairwise fun a b=>fg A b a=true:=by
 intro l
 induction l with
 |nil=>intro _;exact List.Pairwise.nil
 |cons a l I=>intro h;simp only[Oz,amo,ang]at h;exact an9.2 ⟨fun b hb=>h.1 b hb,I h.2⟩
structure alQ (aZ:Array Oper)(i:Nat)(o:Oper):Prop where
 low:∀e∈o.after.toList,Region.binds .any e=true->e.on<i
 dst:∀t,o.dst=some t->gz aZ t=some i
 Kc:∀t,t∈Oy o->∀k,gz aZ t=some k->fg (bj aZ) i k=true\/fg (bj aZ) k i=true\/k=i
 guard:∀j b,o.guard=some (j,b)->fg (bj aZ) i j=true
def pP {aZ:Array Oper}(h:LQ aZ=true):(∀(i:Nat) o,aZ[i]?=some o->alQ aZ i o)/\(tW aZ).Pairwise fun a b=>fg (bj aZ) b a=true:=by
 unfold LQ at h;simp only[amo]at h;obtain⟨h1,h2⟩:=h;constructor
 ·intro i o ho;have A:i<aZ.toList.length:=by have:=(amL.1 ho).1;simpa using this
  rw[ang]at h1;have:=h1 i (ao2.2 A);have I:aZ.toList[i]?=some o:=by simpa using ho
  rw[I]at this;simp only[amo,ang]at this;obtain⟨⟨⟨a,b⟩,c⟩,d⟩:=this;refine⟨fun e he hb=>?_,fun t ht=>?_,fun t ht k O=>?_,fun j b' J=>?_⟩
  ·have:=a e he;simpa [hb]using this
  ·rw[ht]at b;simpa using b
  ·have:=c t ht;rw[O]at this;simp only[anZ,amY]at this;rcases this with (h|h)|h
   ·exact .inl h
   ·exact .inr (.inl h)
   exact .inr (.inr h)
  rw[J]at d;exact d
 have:=Un h2;unfold tW;simpa using this
section
def HLe (h h':ai):Prop:=∀b o,h.get b=some o->h'.get b=some o
section
variable {P:Program} {h h':ai}
def ahi (hl:HLe h h'){b f:Nat}{k:D}{x:TypeId×List (D×D)×TypeId×List Nat×Nat}(e:LU P h b f k=some x):LU P h' b f k=some x:=by
 unfold LU at e ⊢
 split at e
 ·rename_i hb;rw[hl _ _ hb];exact e
 cases e
def VX (hl:HLe h h'){A:Bool}{n b f:Nat}{k:D}{off:Nat}{v:BV}(e:J9 P h A n b f k off=some v):J9 P h' A n b f k off=some v:=by
 unfold J9 at e ⊢
 cases hf:LU P h b f k with
 |none=>rw[hf]at e;cases e
 |some x=>rw[ahi hl hf];rw[hf]at e;exact e
def ae4 (hl:HLe h h'){t:TypeId}{a v:BV}(e:Ag P h t a=some v):Ag P h' t a=some v:=by
 unfold Ag at e ⊢
 split at e
 ·rename_i A n h1 h2
  try simp only[h1,h2]
  split at e
  ·rename_i b off
   split at e
   ·rename_i hb
    simp only[hl _ _ hb];exact e
   ·rename_i hb
    simp only[hl _ _ hb];exact VX hl e
   cases e
  ·exact VX hl e
  ·exact e
  ·split at e
   ·rename_i hb
    simp only[hl _ _ hb];exact e
   cases e
  cases e
 cases e
def YO (hl:HLe h h'){t:TypeId}{x k:BV}{ok:Bool}{v:BV}(e:y6 P h t x k ok=some v):y6 P h' t x k ok=some v:=by
 unfold y6 at e ⊢
 split at e
 ·rename_i kt J I
  try simp only[I]
  split at e
  ·cases e
  rename_i A
  rw[amt A]
  cases x<;>try (simp at e;done)
  case map r=>
   dsimp only at e ⊢
   cases hb:h.get r with
   |none=>simp[hb]at e
   |some o=>rw[hl _ _ hb];rw[hb]at e;exact e
 cases e
def ab3 (hl:HLe h h'){it v:BV}(e:BR P h it=some v):BR P h' it=some v:=by
 unfold BR at e ⊢
 split at e
 ·rename_i r
  split at e
  ·rename_i hb
   try simp only[hl _ _ hb]
   split at e
   ·rename_i h1 h2
    simp only[h1,hl _ _ h2];exact e
   cases e
  cases e
 cases e
def ahz (hl:HLe h h'){A:Array TypeId}{args:List BV}{v:BV}(e:YN P h A args=some v):YN P h' A args=some v:=by
 unfold YN at e ⊢
 split at e
 ·rename_i t x ht
  try simp only[ht]
  split at e
  case h_8=>
   rename_i I
   try simp only[I]
   split at e
   ·rename_i hb;simp only[hl _ _ hb];exact e
   cases e
  all_goals first|exact e|cases e
 cases e
def aiF (hl:HLe h h'){e:TypeId}{x:BV}{l:List D}(hs:N9 h e x=some l):N9 h' e x=some l:=by
 unfold N9 at hs ⊢
 split at hs
 case h_5=>
  split at hs
  ·rename_i hb;simp only[hl _ _ hb];exact hs
  cases hs
 all_goals first|exact hs|cases hs
def Vw (hl:HLe h h'){s d:TypeId}{x v:BV}(e:tV P h s d x=some v):tV P h' s d x=some v:=by
 unfold tV at e ⊢
 split at e
 case h_3=>
  split at e
  ·rename_i hs hd _ hc
   obtain⟨l,h1,rfl⟩:=am9.1 e;simp only[hs,hd,hc,am5,aiF hl h1,amH]
  cases e
 all_goals first|exact e|cases e
def YV (hl:HLe h h'){ρ:Operand->BV}{o:Oper}{v:BV}{h1:ai}(he:ng o=false)(U:nw o=false)(e:HB P h ρ o=some (.value v,h1)):h1=h/\HB P h' ρ o=some (.value v,h'):=by
 obtain⟨dst,op,ty,pos,after,guard⟩:=o;have A:∀{r I:Option BV},(∀v,r=some v->I=some v)->(r.map fun x=>(bP.value x,h))=some (.value v,h1)->h1=h/\(I.map fun x=>(bP.value x,h'))=some (.value v,h'):=by
  intro r I J e
  cases r with
  |none=>cases e
  |some x=>simp at e;obtain⟨rfl,rfl⟩:=e;exact⟨rfl,by rw[J _ rfl];rfl⟩
 have hs:∀{u:BV},some (bP.value u,h)=some (bP.value v,h1)->h1=h/\some (bP.value u,h')=some (bP.value v,h'):=by intro u e;cases e;exact⟨rfl,rfl⟩
 cases op<;>simp only[HB,ng,nw,amx,amp,reduceCtorEq]at e he U ⊢
 case move=>exact hs e
 case assign=>exact hs e
 case pick=>split at e;· exact hs e
            ·cases e
 case build=>exact A (fun v e=>e) e
 case load=>exact A (fun v e=>ae4 hl e) e
 case nilCheck=>split at e
                case h_5=>split at e<;>first|cases e;done|exact hs e
                all_goals first|cases e;done|exact hs e
 case binOp=>split at e
             ·rename_i O;rw[amu O];exact A (fun v e=>e) e
             cases e
 case unOp=>exact A (fun v e=>e) e
 case convert=>exact A (fun v e=>Vw hl e) e
 case makeFunc=>split at e<;>first|cases e;done|exact hs e
 case slice=>exact A (fun v e=>e) e
 case fieldAddr=>exact A (fun v e=>e) e
 case field=>exact A (fun v e=>e) e
 case indexAddr=>exact A (fun v e=>e) e
 case index=>exact A (fun v e=>e) e
 case lookup=>exact A (fun v e=>YO hl e) e
 case entry=>exact A (fun v e=>ab3 hl e) e
 case extract=>split at e
               ·exact A (fun v e=>e) e
               cases e
 case call c=>
  split at he
  case h_4=>cases he
  all_goals
   rename_i hc
   simp only[xO,hc,anT,GP,Fa]at e ⊢
  ·exact A (fun v e=>ahz hl e) e
  ·split at e
   ·cases e
   exact A (fun v e=>e) e
  split at e
  ·cases e
  exact A (fun v e=>e) e
def afx {ρ:Operand->BV}{o:Oper}{v:BV}{h1:ai}(he:ng o=false)(J:nw o=false)(A:L4 o=false)(e:HB P h ρ o=some (.value v,h1))(h':ai):HB P h' ρ o=some (.value v,h'):=by
 obtain⟨dst,op,ty,pos,after,guard⟩:=o;have I:∀{r:Option BV},(r.map fun x=>(bP.value x,h))=some (.value v,h1)->(r.map fun x=>(bP.value x,h'))=some (.value v,h'):=by
  intro r e
  cases r with
  |none=>cases e
  |some x=>simp at e;obtain⟨rfl,rfl⟩:=e;rfl
 have hs:∀{u:BV},some (bP.value u,h)=some (bP.value v,h1)->some (bP.value u,h')=some (bP.value v,h'):=by intro u e;cases e;rfl
 cases op<;>simp only[HB,ng,nw,L4,amx,amp,reduceCtorEq]at e he J A ⊢
 case pick=>split at e;· exact hs e
            ·cases e
 case nilCheck=>split at e
                case h_5=>split at e<;>first|cases e;done|exact hs e
                all_goals first|cases e;done|exact hs e
 case makeFunc=>split at e<;>first|cases e;done|exact hs e
 case extract=>split at e
               ·exact I e
               cases e
 case move=>exact hs e
 case assign=>exact hs e
 all_goals exact I e
end
end
section
def Hb (tmps:Array Value)(dst:Option Nat)(v:Value):Array Value:=
 match dst with|some d=>tmps.setIfInBounds d v|none=>tmps
def RP {t:Nat}:∀(l:List Oper) (k j:Nat),Gr t l k=some j->∃i o,j=k+i/\l[i]?=some o/\o.dst=some t:=by
 intro l
 induction l with
 |nil=>intro k j h;simp[Gr]at h
 |cons x l A=>
  intro k j h;simp only[Gr]at h
  split at h
  ·rename_i hd;cases h;exact⟨0,x,rfl,rfl,by simpa using hd⟩
  obtain⟨i,o,h1,h2,I⟩:=A _ _ h;exact⟨i+1,o,by omega,by simpa using h2,I⟩
def r6 {aZ:Array Oper}{t k:Nat}(h:gz aZ t=some k):∃o,aZ[k]?=some o/\o.dst=some t:=by
 obtain⟨i,o,h1,h2,A⟩:=RP _ _ _ h;exact⟨o,by simp at h1;subst h1;simpa using h2,A⟩
def K5 {aZ:Array Oper}{cN:List BV}{aN A:List (Option BV)}{i:Nat}(I:∀k,fg (bj aZ) i k=true->A.getD k none=aN.getD k none):
 qi aZ (bj aZ) cN A i=qi aZ (bj aZ) cN aN i:=by
 funext t;unfold qi
 cases hw:gz aZ t with
 |none=>rfl
 |some k=>
  dsimp only
  cases hb:fg (bj aZ) i k with
  |true=>rw[I k hb]
  |false=>rfl
def TI {aZ:Array Oper}{cN:List BV}{aN A:List (Option BV)}{i:Nat}(I:∀k,fg (bj aZ) i k=true->A.getD k none=aN.getD k none):
 nF aZ (bj aZ) cN A i=nF aZ (bj aZ) cN aN i:=by
 funext x
 cases x<;>simp only[nF]
 rw[K5 I]
def NJ.congr {P:Program}{g:Gh}{h hp:ai}{aZ:Array Oper}{cN:List BV}{aN A:List (Option BV)}{b:Option Nat}{i:Nat}{o:Oper}{v:BV}
 (I:∀k,fg (bj aZ) i k=true->A.getD k none=aN.getD k none)(ho:NJ P g h hp aZ cN aN b i o v):NJ P g h hp aZ cN A b i o v:=by
 unfold NJ at*;rw[TI I,K5 I];exact ho
section
variable {P:Program} {g g':Gh} {h h' hp:ai} {w w':World} {lb ub:Nat} {ph:Nat->Option Nat} {d:Lr} {tmps:Array Value} {i:Nat} {r:List Nat} {o:Oper}
def ME {aZ:Array Oper}{o:Oper}{dw:Nat->Option BV}{tmps:Array Value}
 (hs:∀j b,o.guard=some (j,b)->∀d,(aZ[j]?).bind (·.dst)=some d->(dw d=none/\tmps[d]?=none)\/∃b v,dw d=some b/\tmps[d]?=some v/\aw P g w b v){r:Bool}(e:nP o aZ dw=some r):
 Region.wanted o (yielded aZ tmps)=r:=by
 unfold nP at e;unfold Region.wanted
 split at e
 ·rename_i J;rw[J];cases e;rfl
 rename_i j I J
 rw[J];dsimp only;unfold Q0 at e;unfold yielded
 cases hd:(aZ[j]?).bind (·.dst)with
 |none=>simp[hd]at e;rw[e];rfl
 |some d=>
  simp only[hd,anT]at e ⊢;rcases hs j I J d hd with ⟨h1,h2⟩| ⟨b,v,h1,h2,A⟩
  ·simp[h1]at e;rw[h2,e];rfl
  rw[h1]at e;rw[h2]
  cases b<;>first
   | (simp at e;done)
   | (simp only[aw]at A;subst A;simpa using e)
   | (have:∀b,v≠ .bool b:=by
       intro b hb;subst hb;simp only[aw]at A<;>
       first
        | (cases A;done)
        | (rcases A with ⟨_,A| ⟨_,_,A⟩⟩| ⟨_,_,_,A,_⟩<;>cases A;done)
        | (rcases A with ⟨_,A| ⟨_,A⟩⟩| ⟨_,_,A,_⟩<;>cases A;done)
        | (rcases A with ⟨_,A| ⟨_,A⟩⟩| ⟨_,_,_,_,A,_⟩<;>cases A;done)
        | (obtain⟨_,A,_⟩:=A;cases A;done)
        | (obtain⟨_,_,A⟩:=A;cases A;done)
        | (obtain⟨_,_,A,_⟩:=A;cases A;done)
        | (obtain⟨_,_,_,A⟩:=A;cases A;done)
        | (obtain⟨_,_,_,A,_⟩:=A;cases A;done)
        | (obtain⟨_,_,_,_,A,_⟩:=A;cases A;done)
        | (obtain⟨_,A⟩:=A;cases A;done)
      simp at e;rw[e]
      cases v<;>first|rfl|exact absurd rfl (this _))
def AU {aZ:Array Oper}{n:Nat}(h:LR aZ n=true){i:Nat}{o:Oper}{t:Nat}(ho:aZ[i]?=some o)(hd:o.dst=some t):t<n:=by
 unfold LR at h;rw[ang]at h
 have:=h o (by have:aZ.toList[i]?=some o:=by simpa using ho
               exact amn this)
 rw[hd]at this;simpa using this
def kN.amd (hd:kN P g h w lb ub hp ph d tmps (i::r)){t:Nat}
 (U:∀k,gz d.aZ t=some k->fg (bj d.aZ) i k=true\/fg (bj d.aZ) k i=true\/k=i):
 qi d.aZ (bj d.aZ) d.cN d.aN i t=iM d.aZ d.cN d.aN (i::r) t:=by
 unfold qi iM
 cases hw:gz d.aZ t with
 |none=>rfl
 |some k=>
  dsimp only;have O:=fun i o ho=>((pP hd.ok).1 i o ho).low
  cases hb:fg (bj d.aZ) i k with
  |true=>
   have I:k∉i::r:=fun J=>by have:=hd.ord.1 k J;rw[this]at hb;cases hb
   rw[amt I];rfl
  |false=>
   have J:k∈i::r:=by
    rcases U k hw with h1|h1|rfl
    ·rw[h1]at hb;cases hb
    ·apply anq;intro I;obtain⟨o',ho',_⟩:=r6 hw;have A:k<d.aZ.size:=(amL.1 ho').1;exact hd.dc k A I i h1 (by simp)
    simp
   rw[amu J];rfl
def kN.abp (hd:kN P g h w lb ub hp ph d tmps (i::r)){t:Nat}
 (J:∀k,gz d.aZ t=some k->fg (bj d.aZ) i k=true\/fg (bj d.aZ) k i=true\/k=i):
 aw P g w (qi d.aZ (bj d.aZ) d.cN d.aN i t) (tmps.getD t undef):=by
 rw[hd.amd J]
 cases ht:tmps[t]? with
 |some v=>rw[anv,ht];exact hd.Ir t v ht
 |none=>
  rw[anv,ht];have A:tmps.size<=t:=by rw[Array.getElem?_eq_none_iff]at ht;exact ht
  rw[hd.size]at A;unfold iM
  cases hw:gz d.aZ t with
  |none=>dsimp only;rw[List.getD,anu A];exact aw.undef
  |some k=>exfalso;obtain⟨o',ho',I⟩:=r6 hw;have:=AU hd.TH ho' I;omega
def V1 {o:Oper}{t:Nat}(h:Operand.tmp t∈o.op.operands.toList):t∈Oy o:=by
 unfold Oy;rw[List.mem_filterMap];exact⟨_,h,rfl⟩
def kN.eval (hd:kN P g h w lb ub hp ph d tmps (i::r))(ho:d.aZ[i]?=some o)(f:Frame)(hf:f.tmps=tmps):
 ∀x∈o.op.operands.toList,aw P g w (nF d.aZ (bj d.aZ) d.cN d.aN i x) (f.eval x):=by
 intro x I;subst hf
 cases x with
 |tmp t=>simp only[nF,Frame.eval];exact hd.abp fun k A=>((pP hd.ok).1 i o ho).Kc t (V1 I) k A
 |const v=>exact aw.ofv P g w v
 |global a=>simp[nF,aw]
 |func f'=>simp only[nF,Frame.eval,aw];exact⟨#[],#[],rfl,ay.nil,ay.nil⟩
def kN.wanted (hd:kN P g h w lb ub hp ph d tmps (i::r))(ho:d.aZ[i]?=some o){b:Bool}
 (e:nP o d.aZ (fun t=>some (qi d.aZ (bj d.aZ) d.cN d.aN i t))=some b):Region.wanted o (yielded d.aZ tmps)=b:=by
 refine ME (P:=P) (g:=g) (w:=w) (fun j b' U t ht=>?_) e;right
 cases I:d.aZ[j]? with
 |none=>rw[I]at ht;cases ht
 |some V=>
  rw[I]at ht;simp only[anT]at ht;have J:=AU hd.TH I ht;have A:t<tmps.size:=by rw[hd.size];exact J
  refine⟨_,tmps[t],rfl,am0 A,?_⟩;have hw:=((pP hd.ok).1 j V I).dst t ht;have hb:=((pP hd.ok).1 i o ho).guard j b' U;have:=hd.abp (t:=t) (fun k O=>by rw[hw]at O;cases O;exact .inl hb);rw[anv,am0 A]at this;exact this
def PK (hd:kN P g h w lb ub hp ph d tmps (i::r))(ho:d.aZ[i]?=some o)(he:ng o=false){v:BV}{v':Value}(hv:d.aN[i]?=some (some v))(hm:iL g w g' w')
 (hop:∀j∈r,∀x,ph j=some x->g.m x=none->vU (h.get x)=false->g'.m x=none)(hvr:aw P g' w' v v'):kN P g' h w' lb ub hp ph d (Hb tmps o.dst v') r where
 ok:=hd.ok
 TH:=hd.TH
 size:=by unfold Hb;split<;>simp[hd.size]
 adL:=hd.adL
 Bo:=(anp.1 hd.Bo).2
 lt:=fun j hj=>hd.lt j (by simp[hj])
 ord:=hd.ord.2
 dc:=fun j hj hn k hk=>by
  by_cases hji:j=i
  ·subst hji;intro hm;have:=hd.ord.1 k (by simp[hm]);rw[this]at hk;cases hk
  intro hm;exact hd.dc j hj (by simp[hji,hn]) k hk (by simp[hm])
 dB:=fun e=>by
  rw[hd.dB e];constructor
  ·rintro⟨h1,h2⟩;rcases amz.1 h1 with rfl|h1
   ·obtain⟨o',ho',he'⟩:=h2;rw[ho]at ho';cases ho';rw[he]at he';cases he'
   exact⟨h1,h2⟩
  rintro⟨h1,h2⟩;exact⟨by simp[h1],h2⟩
 Dt:=hd.Dt
 aN:=fun j hj hn=>by
  by_cases hji:j=i
  ·subst hji;exact⟨v,hv⟩
  exact hd.aN j hj (by simp[hji,hn])
 Ir:=fun t u hu=>by
  have hnr:=(anp.1 hd.Bo).1
  by_cases hdt:o.dst=some t
  ·have hw:=((pP hd.ok).1 i o ho).dst t hdt;have hcs:iM d.aZ d.cN d.aN r t=v:=(by unfold iM;rw[hw];dsimp only;rw[amt hnr,List.getD,hv];rfl);rw[hcs];have hlt:=AU hd.TH ho hdt;have:u=v':=by
    unfold Hb at hu;rw[hdt]at hu;dsimp only at hu;rw[amV (by rw[hd.size];exact hlt)]at hu
    cases hu;rfl
   rw[this];exact hvr
  have hut:tmps[t]?=some u:=by
   unfold Hb at hu
   cases hdd:o.dst with
   |none=>rw[hdd]at hu;exact hu
   |some t'=>
    rw[hdd]at hu hdt;dsimp only at hu
    rwa [anc fun e=>hdt (by rw[e])]at hu
  have hcs:iM d.aZ d.cN d.aN r t=iM d.aZ d.cN d.aN (i::r) t:=by
   unfold iM
   cases hw:gz d.aZ t with
   |none=>rfl
   |some k=>
    dsimp only;have hki:k≠i:=fun e=>by subst e;obtain⟨o',ho',hd'⟩:=r6 hw;rw[ho]at ho';cases ho';exact hdt hd'
    by_cases hkr:k∈r
    ·rw[amu hkr,amu (by simp[hkr])]
    rw[amt hkr,amt (by simp[hkr,hki])]
  rw[hcs];exact aw.mono hm _ _ (hd.Ir t u hut)
 ready:=fun j hj=>hd.ready j (by simp[hj])
 BX:=fun j hj o' u h1 h2 h3=>by obtain⟨k1,k2⟩:=hd.BX j (by simp[hj]) o' u h1 h2 h3;exact⟨k1,k2.mono fun x hx hx' hv'=>⟨hop j hj x hx hx' hv',rfl⟩⟩
 SI:=hd.SI
 W4:=hd.W4
def VA {o:Oper}(he:ng o=false):∀c,o.op≠ .defer c:=fun c hc=>by simp[ng,hc]at he
section
variable {fn:FuncId} {ds:List Deferred} {kd:CallKind} {ro:Option Nat} {k:List Item} {cs:List Frame}
def GM {aZ:Array Oper}(ho:aZ[i]?=some o)(v:Value):
 (rf fn tmps (.inRegion aZ (i::r)::k) ds kd ro).finish v=rf fn (Hb tmps o.dst v) (.inRegion aZ r::k) ds kd ro:=by
 cases hd:o.dst<;>simp[Frame.finish,ho,Hb,hd]
def Yo (hr:bq P g h w)(hd:kN P g h w lb ub h ph d tmps (i::r))(ho:d.aZ[i]?=some o)(he:ng o=false):
 ∃v' g' w',Steps P (lone (rf fn tmps (.inRegion d.aZ (i::r)::k) ds kd ro) cs w) (lone (rf fn (Hb tmps o.dst v') (.inRegion d.aZ r::k) ds kd ro) cs w')/\
  bq P g' h w'/\mO g h w g' h w'/\vX lb g h g' h/\kN P g' h w' lb ub h ph d (Hb tmps o.dst v') r:=by
 have b1:De d.aZ d.dB i:=fun e a7=>hd.ord.1 e ((hd.dB e).1 a7).1;obtain⟨v,hv⟩:=hd.ready i (by simp) o ho he b1;obtain⟨_,A⟩:=hd.BX i (by simp) o v ho he hv;have a8:=(anp.1 hd.Bo).1;rcases A with ⟨hw,rfl⟩| ⟨hw,A⟩
 ·have Y:=hd.wanted ho hw;refine⟨undef,g,w,Steps.one ?_,hr,mO.refl _ _ _,vX.refl _ _ _,PK hd ho he hv (iL.refl _ _) (fun _ _ _ _ h _=>h) aw.undef⟩;rw[ON (by simp[ho,Y]),GM ho]
 have Y:=hd.wanted ho hw;have V:=hd.eval ho (rf fn tmps (.inRegion d.aZ (i::r)::k) ds kd ro) rfl;have U:=Tf (P:=P) (w:=w) (cs:=cs) (fn:=fn) (tmps:=tmps) (ds:=ds) (kd:=kd) (ro:=ro) (k:=k) (r:=r) ho Y (.inr (VA he));rcases A with ⟨_,Z⟩| ⟨ha,h1,h2,hb,Z,b4,a6,b6⟩
 ·obtain⟨g',w',k1,k2,k3,v',k4,k5⟩:=UN hr V Z;refine⟨v',g',w',Steps.one ?_,k1,k2,fun x hx I O=>?_,PK hd ho he hv k2.mono (fun j hj x hx I O=>?_) k5⟩
  ·exact step_lone_go (by rw[U,Tg k4,GM ho])
  ·cases J:decide (x<h.next)with
   |true=>exact k3 x (by simpa using J) I O
   |false=>
    have:h.get x=none:=by
     cases hq:h.get x with
     |none=>rfl
     |some q=>have:=hr.PJ _ _ hq;simp at J;omega
    refine⟨?_,by rfl⟩
    cases hq:g'.m x with
    |none=>rfl
    |some q=>have:=k1.lt _ _ hq;simp at J;omega
  cases J:decide (x<h.next)with
  |true=>exact(k3 x (by simpa using J) I O).1
  |false=>
   cases hq:g'.m x with
   |none=>rfl
   |some q=>have:=k1.lt _ _ hq;simp at J;omega
 obtain⟨v',w',k4,k1,k2,k5⟩:=abi hr ha V Z a6 b4;refine⟨v',_,w',Steps.one ?_,k1,k2,fun x hx I O=>?_,PK hd ho he hv k2.mono (fun j hj x hx I O=>?_) k5⟩
 ·exact step_lone_go (by rw[U,Tg k4,GM ho])
 ·have:=(hd.W4 i _ hb).1;exact⟨by rw[Gh.j8 g (by omega)];exact I,rfl⟩
 rw[Gh.j8 g fun e=>a8 ?_];exact I;subst e;rw[hd.SI _ _ _ hb hx];exact hj
def aez:∀{rest:List Nat} {g:Gh} {w:World} {tmps:Array Value},bq P g h w->kN P g h w lb ub h ph d tmps rest->
 ∃tmps' A g' w',Steps P (lone (rf fn tmps (.inRegion d.aZ rest::k) ds kd ro) cs w) (lone (rf fn tmps' (.inRegion d.aZ A::k) ds kd ro) cs w')/\
  bq P g' h w'/\mO g h w g' h w'/\vX lb g h g' h/\kN P g' h w' lb ub h ph d tmps' A/\((A=[]/\d.dB=[])\/∃x r dB,A=x::r/\d.dB=x::dB):=by
 intro rest
 induction rest with
 |nil=>
  intro g w tmps J hd;refine⟨tmps,[],g,w,Steps.refl _ _,J,mO.refl _ _ _,vX.refl _ _ _,hd,.inl ⟨rfl,?_⟩⟩
  cases he:d.dB with
  |nil=>rfl
  |cons x l=>have:=(hd.dB x).1 (by simp[he]);simp at this
 |cons i r ih=>
  intro g w tmps J hd;have O:=hd.lt i (by simp);have ho:=am0 O
  cases he:ng d.aZ[i]with
  |false=>obtain⟨v',g1,w1,s1,h1,e1,p1,Z⟩:=Yo (fn:=fn) (ds:=ds) (kd:=kd) (ro:=ro) (k:=k) (cs:=cs) J hd ho he;obtain⟨tmps',A,Y,w2,s2,h2,e2,V,U,hc⟩:=ih h1 Z;exact⟨tmps',A,Y,w2,s1.trans s2,h2,e1.trans e2,p1.trans V,U,hc⟩
  |true=>
   refine⟨tmps,i::r,g,w,Steps.refl _ _,J,mO.refl _ _ _,vX.refl _ _ _,hd,.inr ⟨i,r,?_⟩⟩;have I:i∈d.dB:=(hd.dB i).2 ⟨by simp,_,ho,he⟩
   cases hl:d.dB with
   |nil=>rw[hl]at I;cases I
   |cons x l=>
    refine⟨l,rfl,?_⟩;rw[hl]at I;rcases amz.1 I with rfl|hil
    ·rfl
    exfalso;have hp:=hd.Dt;rw[hl]at hp;have h1:=(an9.1 hp).1 i hil;have h2:=hd.ord.1 x ((hd.dB x).1 (by simp[hl])).1;rw[h2]at h1;cases h1
end
end
end
end Go.PB
end
