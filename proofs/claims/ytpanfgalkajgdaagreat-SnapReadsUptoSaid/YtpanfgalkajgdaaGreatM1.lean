import Derived.Laws.Build
import Derived.Test.YtpanfgalkajgdaaGreatM0
set_option linter.all false
noncomputable section
open Go.IntKind renaming wrap→wp
namespace Go.PB
open Go
section
section
variable {P:Program} {g:Gh} {h:ai} {w w':World}
def QG {S:TypeId->D->List BV}(hS:∀t d d',(S t d).length=(S t d').length):∀(fs:List Field) (i:Nat) (d d':D),(ji S fs i d).length=(ji S fs i d').length:=by
 intro fs
 induction fs with
 |nil=>intros;rfl
 |cons f r A=>intro i d d';simp only[ji,ams];rw[hS f.type (d.af i) (d'.af i),A (i+1) d d']
def RK:∀(n:Nat) (t:TypeId) (d d':D),(fq P n t d).length=(fq P n t d').length:=by
 intro n
 induction n with
 |zero=>intros;rfl
 |succ n I=>
  intro t d d';simp only[fq]
  cases J:P.underlying t with
  |none=>rfl
  |some A=>cases A<;>first|rfl|exact QG I _ _ _ _
def ay.Le {as bs:List BV}{vs:List Value}(h:ay P g w (as++bs) vs):∃A xs,vs=A++xs/\ay P g w as A/\ay P g w bs xs:=by
 refine⟨vs.take as.length,vs.drop as.length,(aoj _ _).symm,?_,?_⟩
 ·simpa using h.take as.length
 simpa using h.drop as.length
def aj4 {n:Nat}(J:∀{t:TypeId} {d:D} {cs:List Value},CG P n t=true->qk P g.fz w t d cs->ay P g w (fq P n t d) cs)(d:D):
 ∀(fs:List Field) (i:Nat) (css:List (List Value)),LW (CG P n) fs=true->css.length=fs.length->(∀j f cs,fs[j]?=some f->css[j]?=some cs->qk P g.fz w f.type (d.af (i+j)) cs)->
  ay P g w (ji (fq P n) fs i d) css.flatten:=by
 intro fs
 induction fs with
 |nil=>intro i css _ hl _;have:css=[]:=am3.1 (by simpa using hl);subst this;exact ay.nil
 |cons f r A=>
  intro i css hf hl hi
  cases css with
  |nil=>simp at hl
  |cons c O=>
   simp only[LW,amo]at hf;simp only[ji,aoZ];refine(J hf.1 (hi 0 f c (by simp) (by simp))).append (A (i+1) O hf.2 (by simpa using hl) fun j f' cs I hc=>?_);have:=hi (j+1) f' cs (by simpa using I) (by simpa using hc)
   rwa [show i+(j+1)=i+1+j by omega]at this
def qk.UH:∀(n:Nat) {t:TypeId} {d:D} {cs:List Value},CG P n t=true->qk P g.fz w t d cs->ay P g w (fq P n t d) cs:=by
 intro n
 induction n with
 |zero=>intro t d cs hf;simp[CG]at hf
 |succ n I=>
  intro t d cs hf h;simp only[CG]at hf
  cases h with
  |int A=>simp only[fq,A];exact ay.cons (by simp[aw]) ay.nil
  |bool A=>simp only[fq,A];exact ay.cons (by simp[aw]) ay.nil
  |ax A=>simp only[fq,A];exact ay.cons (by simp[aw]) ay.nil
  |cS A h0=>simp only[fq,A];exact ay.cons (by simp only[aw];exact .inl ⟨h0,.inl trivial⟩) ay.nil
  |empty A h0 a c=>simp only[fq,A];exact ay.cons (by simp only[aw];exact .inl ⟨h0,.inr ⟨a,c,rfl⟩⟩) ay.nil
  |slice A aS off c vs hb hc hl hi hat=>simp only[fq,A];exact ay.cons (by simp only[aw];exact .inr ⟨aS,off,c,rfl,hc,hb,vs,⟨hl,hi⟩,hat⟩) ay.nil
  |struct A css hl hi=>simp only[A]at hf;simp only[fq,A];exact aj4 I d _ 0 css hf hl (by simpa using hi)
def alr {n:Nat}(Z:∀{t:TypeId} {d:D} {cs:List Value},CG P n t=true->ay P g w (fq P n t d) cs->qk P g.fz w t d cs)(d:D):
 ∀(fs:List Field) (i:Nat) (cs:List Value),LW (CG P n) fs=true->ay P g w (ji (fq P n) fs i d) cs->
  ∃css:List (List Value),css.length=fs.length/\cs=css.flatten/\∀j f c,fs[j]?=some f->css[j]?=some c->qk P g.fz w f.type (d.af (i+j)) c:=by
 intro fs
 induction fs with
 |nil=>intro i cs _ A;simp only[ji,ay]at A;subst A;exact⟨[],rfl,rfl,fun j f c I=>by simp at I⟩
 |cons f r J=>
  intro i cs hf A;simp only[LW,amo]at hf;simp only[ji]at A;obtain⟨V,xs,rfl,h1,h2⟩:=A.Le;obtain⟨css,O,U,Y⟩:=J (i+1) xs hf.2 h2;refine⟨V::css,by simp[O],by simp[U],fun j f' c I hc=>?_⟩
  cases j with
  |zero=>simp at I hc;subst I;subst hc;exact Z hf.1 h1
  |succ j=>
   have:=Y j f' c (by simpa using I) (by simpa using hc)
   rwa [show i+1+j=i+(j+1)by omega]at this
def qk.of:∀(n:Nat) {t:TypeId} {d:D} {cs:List Value},CG P n t=true->ay P g w (fq P n t d) cs->qk P g.fz w t d cs:=by
 intro n
 induction n with
 |zero=>intro t d cs hf;simp[CG]at hf
 |succ n V=>
  intro t d cs hf h;simp only[CG]at hf;simp only[fq]at h
  cases I:P.underlying t with
  |none=>simp[I]at hf
  |some O=>
   simp only[I]at hf h
   cases O with
   |int k=>obtain⟨v,rfl,A⟩:=h.one;simp only[aw]at A;subst A;exact .int I
   |bool=>obtain⟨v,rfl,A⟩:=h.one;simp only[aw]at A;subst A;exact .bool I
   |string=>obtain⟨v,rfl,A⟩:=h.one;simp only[aw]at A;subst A;exact .ax I
   |slice e=>
    obtain⟨v,rfl,A⟩:=h.one;simp only[aw]at A;rcases A with ⟨h0,rfl| ⟨a,c,rfl⟩⟩| ⟨aS,off,c,rfl,hc,hb,vs,⟨hl,hi⟩,hat⟩
    ·exact .cS I h0
    ·exact .empty I h0 a c
    exact .slice I aS off c vs hb hc hl hi hat
   |struct fs=>obtain⟨css,J,rfl,U⟩:=alr V d _ 0 cs hf h;exact .struct I css J (by simpa using U)
   |_=>simp at hf
def gL {t:TypeId}(h:cZ P t=true):CG P 8 t=true/\kF P t=some (P.cellsOf t)/\0<P.cellsOf t/\∀d,(aH P t d).length=P.cellsOf t:=by
 simp only[cZ,amo]at h;obtain⟨h1,h2⟩:=h
 split at h2
 ·rename_i n A
  simp only[amo]at h2;have hc:P.cellsOf t=n:=by unfold kF at A;simp only[am9]at A;obtain⟨i,hi,rfl⟩:=A;simp[Program.cellsOf,hi]
  have h0:0<n:=by have:=h2.1;simp[Nat.blt]at this;omega
  have hl:(aH P t (.z 0)).length=n:=amC h2.2;rw[hc];exact⟨h1,A,h0,fun d=>(RK 8 t d (.z 0)).trans hl⟩
 cases h2
def qk.shape {t:TypeId}{d:D}{cs:List Value}(hd:cZ P t=true)(h:qk P g.fz w t d cs):ay P g w (aH P t d) cs:=qk.UH 8 (gL hd).1 h
def qk.ahO {t:TypeId}{d:D}{cs:List Value}(hd:cZ P t=true)(h:ay P g w (aH P t d) cs):qk P g.fz w t d cs:=qk.of 8 (gL hd).1 h
def qk.length {fz:Nat->Prop}{t:TypeId}{d:D}{cs:List Value}(hd:cZ P t=true)(h:qk P fz w t d cs):cs.length=P.cellsOf t:=by
 have:=(qk.shape (g:=⟨fun _=>none,fz,fun _ _=>none⟩) hd h).length;rw[this];exact(gL hd).2.2.2 d
def Xr {S:TypeId->D->List BV}(hS:∀t d,(S t d).all BV.one=true):∀(fs:List Field) (i:Nat) (d:D),(ji S fs i d).all BV.one=true:=by
 intro fs
 induction fs with
 |nil=>intros;rfl
 |cons f r A=>intro i d;simp only[ji,aod,hS,A,aoC]
def ZT:∀(n:Nat) (t:TypeId) (d:D),(fq P n t d).all BV.one=true:=by
 intro n
 induction n with
 |zero=>intros;rfl
 |succ n I=>
  intro t d;simp only[fq]
  cases P.underlying t with
  |none=>rfl
  |some A=>cases A<;>first|rfl|exact Xr I _ _ _
def Yh {e:TypeId}(l:List D):(BL P e l).all BV.one=true:=by
 unfold BL;rw[List.all_flatMap];exact ang.2 fun d _=>ZT 8 e d
def Yg (e:TypeId):BL P e []=[]:=rfl
def MY (e:TypeId)(x:D)(l:List D):BL P e (x::l)=aH P e x++BL P e l:=rfl
def dm.nil {fz:Nat->Prop}{e:TypeId}:dm P fz w e [] []:=⟨by simp,fun i x A=>by simp at A⟩
def dm.cons {fz:Nat->Prop}{e:TypeId}{x:D}{l:List D}{cs vs:List Value}(hc:cs.length=P.cellsOf e)(I:qk P fz w e x cs)(h:dm P fz w e l vs):dm P fz w e (x::l) (cs++vs):=by
 refine⟨by rw[ams,hc,h.1,amB,an2,aoz,aoN],fun i y A=>?_⟩
 cases i with
 |zero=>simp at A;subst A;rw[aph,anx,<-hc,List.take_left];exact I
 |succ i=>
  have:=h.2 i y (by simpa using A);rw[show (i+1)*P.cellsOf e=cs.length+i*P.cellsOf e by rw[hc,an2,aoz,aoN],apy]
  rwa [apE (by omega),an0,aoU]
def dm.akd {fz:Nat->Prop}{e:TypeId}{x:D}{l:List D}{vs:List Value}(h:dm P fz w e (x::l) vs):
 qk P fz w e x (vs.take (P.cellsOf e))/\dm P fz w e l (vs.drop (P.cellsOf e)):=by
 have hl:=h.1;rw[amB,an2,aoz]at hl;refine⟨by simpa using h.2 0 x (by simp),by rw[anz,hl];omega,fun i y A=>?_⟩;have:=h.2 (i+1) y (by simpa using A)
 rwa [show (i+1)*P.cellsOf e=P.cellsOf e+i*P.cellsOf e by rw[an2,aoz,aoN],<-an4]at this
def Ao {e:TypeId}(hd:cZ P e=true):∀(l:List D) (vs:List Value),dm P g.fz w e l vs↔ay P g w (BL P e l) vs:=by
 intro l
 induction l with
 |nil=>intro vs;simp only[Yg,ay];exact⟨fun h=>am3.1 (by simpa using h.1),fun h=>h▸dm.nil⟩
 |cons x l I=>
  intro vs;have A:=(gL hd).2.2.2 x;constructor
  ·intro h;obtain⟨h1,h2⟩:=h.akd;have:=(qk.shape hd h1).append ((I _).1 h2)
   rwa [aoj]at this
  intro h;rw[MY]at h;obtain⟨J,xs,rfl,h1,h2⟩:=h.Le;exact dm.cons (h1.length.trans A) (qk.ahO hd h1) ((I _).2 h2)
def dm.append {fz:Nat->Prop}{e:TypeId}{l m:List D}{I vs:List Value}(h:dm P fz w e l I)(k:dm P fz w e m vs):dm P fz w e (l++m) (I++vs):=by
 refine⟨by rw[ams,h.1,k.1,ams,an2],fun i x O=>?_⟩;rw[anj]at O;have A:=h.1
 split at O
 ·rename_i U
  have h1:=h.2 i x O;have J:i*P.cellsOf e+P.cellsOf e<=I.length:=by rw[A,show i*P.cellsOf e+P.cellsOf e=(i+1)*P.cellsOf e by rw[an2,aoz]];exact anF _ U
  rwa [apy,show i*P.cellsOf e-I.length=0 by omega,anx,List.take_append,anz,show P.cellsOf e-(I.length-i*P.cellsOf e)=0 by omega,aoJ,ana]
 rename_i V
 have h1:=k.2 (i-l.length) x O;have J:I.length<=i*P.cellsOf e:=by rw[A];exact anF _ (by omega)
 rw[apy,apE J,an0,A,<-aqh];exact h1
def dm.take {fz:Nat->Prop}{e:TypeId}{l:List D}{vs:List Value}(n:Nat)(h:dm P fz w e l vs):dm P fz w e (l.take n) (vs.take (n*P.cellsOf e)):=by
 have hl:=h.1
 refine⟨by
  rw[amI,amI,hl];rcases Nat.le_total n l.length with a|a
  ·rw[anS a,anS (anF _ a)]
  rw[Nat.min_eq_right a,Nat.min_eq_right (anF _ a)],fun i x A=>?_⟩
 rw[ane]at A
 split at A
 ·rename_i I
  have h1:=h.2 i x A;rw[apU,apm,<-aqh];have:P.cellsOf e<=(n-i)*P.cellsOf e:=Nat.le_mul_of_pos_left _ (by omega);rw[anS this];exact h1
 cases A
def dm.drop {fz:Nat->Prop}{e:TypeId}{l:List D}{vs:List Value}(n:Nat)(h:dm P fz w e l vs):dm P fz w e (l.drop n) (vs.drop (n*P.cellsOf e)):=by
 have hl:=h.1;refine⟨by rw[anz,anz,hl,<-aqh],fun i x A=>?_⟩;rw[anG]at A;have h1:=h.2 (n+i) x A
 rwa [an4,<-an2]
def alJ {n:Nat}(ih:∀{t:TypeId} {cs r:List BV} {d:D},unF P n t cs=some (d,r)->∃c1,cs=c1++r/\∀vs,ay P g w c1 vs->qk P g.fz w t d vs):
 ∀(fs:List Field) (cs r:List BV) (ds:List D),XF (unF P n) fs cs=some (ds,r)->∃A:List (List BV),cs=A.flatten++r/\A.length=fs.length/\
  ∀j f c,fs[j]?=some f->A[j]?=some c->∀vs,ay P g w c vs->qk P g.fz w f.type (D.at ds j) vs:=by
 intro fs
 induction fs with
 |nil=>intro cs r ds e;simp only[XF,amD,anC]at e;obtain⟨rfl,rfl⟩:=e;exact⟨[],by simp,rfl,fun j f c I=>by simp at I⟩
 |cons f fr J=>
  intro cs r ds e;simp only[XF]at e
  split at e
  ·rename_i d Y h1
   split at e
   ·rename_i dr V h2
    cases e
    obtain⟨c1,rfl,U⟩:=ih h1;obtain⟨A,rfl,Z,k3⟩:=J _ _ _ h2;refine⟨c1::A,by simp,by simp[Z],fun j f' c I hc vs O=>?_⟩
    cases j with
    |zero=>simp at I hc;subst I;subst hc;exact U vs O
    |succ j=>exact k3 j f' c (by simpa using I) (by simpa using hc) vs O
   cases e
  cases e
def ay.SY:∀(A:List (List BV)) (vs:List Value),ay P g w A.flatten vs->∃I:List (List Value),vs=I.flatten/\I.length=A.length/\∀(j:Nat) (c:List BV) (u:List Value),A[j]?=some c->I[j]?=some u->ay P g w c u:=by
 intro A
 induction A with
 |nil=>intro vs h;simp only[List.flatten_nil,ay]at h;subst h;exact⟨[],rfl,rfl,fun j c u (J:([]:List (List BV))[j]?=some c) _=>by simp at J⟩
 |cons c A ih=>
  intro vs h;rw[aoZ]at h;obtain⟨Z,xs,rfl,h1,h2⟩:=h.Le;obtain⟨I,rfl,U,Y⟩:=ih _ h2;refine⟨Z::I,by simp,by simp[U],fun j V u J O=>?_⟩
  cases j with
  |zero=>simp at J O;subst J;subst O;exact h1
  |succ j=>exact Y j V u (by simpa using J) (by simpa using O)
def akc:∀(n:Nat) {t:TypeId} {cs r:List BV} {d:D},unF P n t cs=some (d,r)->∃c1,cs=c1++r/\∀vs,ay P g w c1 vs->qk P g.fz w t d vs:=by
 intro n
 induction n with
 |zero=>intro t cs r d e;simp[unF]at e
 |succ n ih=>
  intro t cs r d e;simp only[unF]at e
  cases J:P.underlying t with
  |none=>simp[J]at e
  |some td=>
   simp only[J]at e
   cases td with
   |int k=>
    try dsimp only at e
    split at e
    ·rename_i k' m U
     split at e
     ·rename_i V;cases e;subst V
      exact⟨[.int _ m],rfl,fun vs I=>by obtain⟨v,rfl,A⟩:=I.one;simp only[aw]at A;subst A;exact .int (d:= .z m) J⟩
     cases e
    cases e
   |bool=>
    try dsimp only at e
    split at e
    ·rename_i b U;cases e
     exact⟨[.bool b],rfl,fun vs I=>by obtain⟨v,rfl,A⟩:=I.one;simp only[aw]at A;subst A;exact .bool (d:= .b b) J⟩
    cases e
   |string=>
    try dsimp only at e
    split at e
    ·rename_i b U;cases e
     exact⟨[.ax b],rfl,fun vs I=>by obtain⟨v,rfl,A⟩:=I.one;simp only[aw]at A;subst A;exact .ax (d:= .s b) J⟩
    cases e
   |slice el=>
    try dsimp only at e
    split at e
    ·rename_i e' l U
     split at e
     ·rename_i V;cases e;subst V
      refine⟨[.bx _ l],rfl,fun vs I=>?_⟩;obtain⟨v,rfl,A⟩:=I.one;simp only[aw]at A;rcases A with ⟨h0,rfl| ⟨a,c,rfl⟩⟩| ⟨aS,off,c,rfl,hc,hb,vs,⟨hl,hi⟩,hat⟩
      ·exact .cS (d:= .r l) J h0
      ·exact .empty (d:= .r l) J h0 a c
      exact .slice (d:= .r l) J aS off c vs hb hc hl hi hat
     cases e
    ·rename_i U;cases e
     exact⟨[.cS],rfl,fun vs I=>by obtain⟨v,rfl,A⟩:=I.one;simp only[aw]at A;subst A;exact .cS (d:= .r []) J rfl⟩
    ·rename_i U;cases e
     exact⟨[.nE],rfl,fun vs I=>by obtain⟨v,rfl,A⟩:=I.one;simp only[aw]at A;obtain⟨a,c,rfl⟩:=A;exact .empty (d:= .r []) J rfl a c⟩
    ·rename_i e' l U
     split at e
     ·rename_i V;cases e;subst V
      refine⟨[.IL _ l],rfl,fun vs I=>?_⟩;obtain⟨v,rfl,A⟩:=I.one;simp only[aw]at A;rcases A with ⟨h0,rfl| ⟨a,rfl⟩⟩| ⟨aS,off,rfl,hb,vs,⟨hl,hi⟩,hat⟩
      ·exact .cS (d:= .r l) J h0
      ·exact .empty (d:= .r l) J h0 a 0
      exact .slice (d:= .r l) J aS off _ vs hb (amG _) hl hi hat
     cases e
    cases e
   |struct fs=>
    try dsimp only at e
    split at e
    ·rename_i ds U Y
     cases e
     obtain⟨Z,rfl,k1,k2⟩:=alJ ih _ _ _ _ Y;refine⟨Z.flatten,rfl,fun vs I=>?_⟩;obtain⟨vv,rfl,m1,m2⟩:=I.SY;refine .struct (d:= .r ds) J vv (m1.trans k1) fun j f c hj hc=>?_;have O:j<Z.length:=(by rw[<-m1];exact(amw.1 hc).1);exact k2 j f _ hj (amr O) c (m2 j _ c (amr O) hc)
    cases e
   |_=>simp at e
def D9 {t:TypeId}{cs:List BV}{d:D}(e:XE P t cs=some d){vs:List Value}(A:ay P g w cs vs):qk P g.fz w t d vs:=by
 unfold XE at e
 split at e
 ·rename_i d' h1
  cases e
  obtain⟨c1,rfl,k⟩:=akc (g:=g) (w:=w) 8 h1;exact k vs (by simpa using A)
 cases e
def aac {t:TypeId}:∀(n:Nat) {cs:List BV} {l:List D},QQ P t (P.cellsOf t) n cs=some l->cs.length=n*P.cellsOf t->l.length=n/\∀vs,ay P g w cs vs->dm P g.fz w t l vs:=by
 intro n
 induction n with
 |zero=>
  intro cs l e hl;simp only[QQ]at e
  split at e
  ·cases e;exact⟨rfl,fun vs A=>by simp only[ay]at A;subst A;exact dm.nil⟩
  cases e
 |succ n U=>
  intro cs l e hl;simp only[QQ]at e
  split at e
  ·rename_i d l' h1 h2
   cases e
   rw[an2,aoz]at hl;obtain⟨I,J⟩:=U h2 (by rw[anz,hl];omega);refine⟨by simp[I],fun vs A=>?_⟩;have O:=A.length;have:=dm.cons (by rw[amI];omega) (D9 h1 (A.take (P.cellsOf t))) (J _ (A.drop (P.cellsOf t)))
   rwa [aoj]at this
  cases e
def bq.bY (O:bq P g h w){b aS aD:Nat}{e:TypeId}{l:List D}{vt:Bool}(hb:h.get b=some (.bY e l vt))(I:g.m b=some (aS,aD)):
 ∃c vs m,w.heap[aS]?=some (.cells c e m)/\dm P g.fz w e l vs/\(∀i x,vs[i]?=some x->c[aD+i]?=some x)/\gA w aS aD vs/\BF P e c m.1 m.2:=by
 obtain⟨_,o,ho,A⟩:=O.obj _ _ _ _ hb I;simp only[fO]at A;obtain⟨c,lo,hi,rfl,I,vs,U,hc⟩:=A;refine⟨c,vs,(lo,hi),ho,U,hc,fun i x J=>?_,I⟩;simp only[World.cell?,ho];exact hc i x J
def ai.Vb {h':ai}(A:∀b,h'.get b=h.get b)(l:Loc):h'.at l=h.at l:=by
 cases l with
 |aS b=>show (h'.get b).bind _=(h.get b).bind _;rw[A]
 |el b f k=>show (h'.get b).bind (fun o=>o.BM f k)=(h.get b).bind (fun o=>o.BM f k);rw[A]
def bq.congr {h':ai}(A:bq P g h w)(I:∀b,h'.get b=h.get b)(J:h.next<=h'.next):bq P g h' w:=by
 have hat:=ai.Vb I
 exact⟨fun b o hb=>amX (A.PJ b o (I b▸hb)) J,fun b x O=>amX (A.lt b x O) J,fun f k x e=>amX (A.Ny f k x e) J,fun b o f e h2=>amX (A.Hv b o f (I b▸e) h2) J,
  fun b b' o o' f h1 h2=>A.fu b b' o o' f (I b▸h1) (I b'▸h2),fun b o f k x e=>A.sk b o f k x (I b▸e),fun b b' f k e=>A.al b b' f k (I b▸e),A.rV,
  fun l l' aS aD base' o o' h1 h2=>A.rW l l' aS aD base' o o' (hat l▸h1) (hat l'▸h2),fun l o aS aD e=>A.vL l o aS aD (hat l▸e),A.oU⟩
end
end
section
def D.wF {a b:D}:D.Ht a b=true↔a=b:=by unfold D.Ht;simp
def D.zy {a b:D}:D.Ht a b=false↔a≠b:=by unfold D.Ht;simp
def D.L6 (p:D×D)(l:List (D×D))(k:D):D.ia (p::l) k=(match D.Ht p.1 k with|true=>some p.2|false=>D.ia l k):=rfl
def D.Bm {p:D×D}{l:List (D×D)}{k:D}(h:p.1=k):D.ia (p::l) k=some p.2:=by rw[D.L6,D.wF.2 h]
def D.vd {p:D×D}{l:List (D×D)}{k:D}(h:p.1≠k):D.ia (p::l) k=D.ia l k:=by rw[D.L6,D.zy.2 h]
def D.Ow {p:D×D}{l:List (D×D)}{k v:D}(h:p.1=k):D.mC (p::l) k v=(p.1,v)::D.mC l k v:=by
 show (match D.Ht p.1 k with|true=>_|false=>_)=_;rw[D.wF.2 h]
def D.Ox {p:D×D}{l:List (D×D)}{k v:D}(h:p.1≠k):D.mC (p::l) k v=p::D.mC l k v:=by
 show (match D.Ht p.1 k with|true=>_|false=>_)=_;rw[D.zy.2 h]
def D.FD:∀(l:List (D×D)),D.fh l=l.map (·.1)
 | []=>rfl
 |p::q=>by simp[D.fh,D.FD q]
def D.Bj (l:List (D×D)):(D.fh l).length=l.length:=by rw[D.FD];simp
def D.VQ (l m:List (D×D)):D.fh (l++m)=D.fh l++D.fh m:=by simp[D.FD]
def D.xF {l:List (D×D)}{i:Nat}{p:D×D}(h:l[i]?=some p):(D.fh l)[i]?=some p.1:=by rw[D.FD,anw,h];rfl
def D.SC {l:List (D×D)}{i:Nat}{k:D}(h:(D.fh l)[i]?=some k):∃p,l[i]?=some p/\p.1=k:=by
 rw[D.FD,anw]at h
 cases e:l[i]? with
 |none=>rw[e]at h;cases h
 |some p=>rw[e]at h;exact⟨p,rfl,by simpa using h⟩
def D.P3 {k d:D}:∀{l:List (D×D)},D.ia l k=some d->∃i:Nat,l[i]?=some (k,d)
 | [],h=>by cases h
 |p::q,h=>by
  by_cases e:p.1=k
  ·rw[D.Bm e]at h;cases h;exact⟨0,by subst e;rfl⟩
  rw[D.vd e]at h;obtain⟨i,hi⟩:=D.P3 h;exact⟨i+1,by simpa using hi⟩
def D.SD {k:D}:∀{l:List (D×D)},D.ia l k=none->k∉D.fh l
 | [],_=>by simp[D.fh]
 |p::q,h=>by
  by_cases e:p.1=k
  ·rw[D.Bm e]at h;cases h
  rw[D.vd e]at h;have:=D.SD h;simp only[D.fh,amz,not_or];exact⟨fun x=>e x.symm,this⟩
def D.aht {l:List (D×D)}{k:D}:D.i7 l k=true↔k∈D.fh l:=by
 unfold D.i7
 cases h:D.ia l k with
 |none=>simp[D.SD h]
 |some d=>obtain⟨i,hi⟩:=D.P3 h;simp;exact amn (D.xF hi)
def D.V6 {l:List (D×D)}{k:D}(h:D.i7 l k=true):D.ia l k=some (D.val l k):=by
 unfold D.i7 at h;unfold D.val
 cases e:D.ia l k with
 |none=>rw[e]at h;cases h
 |some d=>rfl
def D.Ov {k d:D}:∀{l:List (D×D)},(D.fh l).Nodup->∀{i:Nat},l[i]?=some (k,d)->D.ia l k=some d
 | [],_,i,h=>by simp at h
 |p::q,A,i,h=>by
  simp only[D.fh,anp]at A
  cases i with
  |zero=>simp at h;subst h;exact D.Bm rfl
  |succ i=>simp at h;have I:k∈D.fh q:=amn (D.xF h);rw[D.vd fun e=>A.1 (e▸I)];exact D.Ov A.2 h
def D.CJ (k v:D):∀(l:List (D×D)),D.fh (D.mC l k v)=D.fh l
 | []=>rfl
 |p::q=>by
  by_cases e:p.1=k
  ·rw[D.Ow e];simp[D.fh,D.CJ k v q]
  rw[D.Ox e];simp[D.fh,D.CJ k v q]
def D.Bl (k v:D)(l:List (D×D)):(D.mC l k v).length=l.length:=by
 rw[<-D.Bj,D.CJ,D.Bj]
def D.xG {k v:D}:∀{l:List (D×D)} {i:Nat} {p:D×D},(D.mC l k v)[i]?=some p->∃q,l[i]?=some q/\p.1=q.1/\(q.1≠k->p.2=q.2)/\(q.1=k->p.2=v)
 | [],i,p,h=>by simp[D.mC]at h
 |x::q,i,p,h=>by
  by_cases e:x.1=k
  ·rw[D.Ow e]at h
   cases i with
   |zero=>simp at h;subst h;exact⟨x,rfl,rfl,fun h=>absurd e h,fun _=>rfl⟩
   |succ i=>simp at h;obtain⟨y,h1,h2⟩:=D.xG h;exact⟨y,by simpa using h1,h2⟩
  rw[D.Ox e]at h
  cases i with
  |zero=>simp at h;subst h;exact⟨x,rfl,rfl,fun _=>rfl,fun h=>absurd h e⟩
  |succ i=>simp at h;obtain⟨y,h1,h2⟩:=D.xG h;exact⟨y,by simpa using h1,h2⟩
def D.y8 {k v j:D}(h:j≠k):∀(l:List (D×D)),D.ia (D.mC l k v) j=D.ia l j
 | []=>rfl
 |p::q=>by
  by_cases e:p.1=k
  ·rw[D.Ow e,D.vd (by rw[e];exact fun x=>h x.symm),D.vd (by rw[e];exact fun x=>h x.symm),D.y8 h q]
  rw[D.Ox e]
  by_cases A:p.1=j
  ·rw[D.Bm A,D.Bm A]
  rw[D.vd A,D.vd A,D.y8 h q]
def D.qe {k v:D}:∀(l:List (D×D)),D.i7 l k=true->D.ia (D.mC l k v) k=some v
 | [],h=>by simp[D.i7,D.ia]at h
 |p::q,h=>by
  by_cases e:p.1=k
  ·rw[D.Ow e];exact D.Bm (p:=(p.1,v)) e
  rw[D.Ox e,D.vd e];exact D.qe q (by unfold D.i7 at h ⊢;rwa [D.vd e]at h)
def D.Nb (l:List (D×D))(k v j:D):D.ia (l++[(k,v)]) j=(match D.ia l j with|some x=>some x|none=>(match D.Ht k j with|true=>some v|false=>none)):=by
 induction l with
 |nil=>rfl
 |cons p q A=>
  rw[anM]
  by_cases e:p.1=j
  ·rw[D.Bm e,D.Bm e]
  rw[D.vd e,D.vd e,A]
def D.FG {l:List (D×D)}{k v j:D}(h:j≠k):D.ia (l++[(k,v)]) j=D.ia l j:=by
 rw[D.Nb]
 cases D.ia l j with
 |some x=>rfl
 |none=>dsimp only;rw[D.zy.2 fun e=>h e.symm]
def D.CL {l:List (D×D)}{k v:D}(h:D.i7 l k=false):D.ia (l++[(k,v)]) k=some v:=by
 rw[D.Nb];unfold D.i7 at h
 cases e:D.ia l k with
 |some x=>rw[e]at h;cases h
 |none=>dsimp only;rw[D.wF.2 rfl]
section
variable {P:Program} {g:Gh} {h:ai} {w w':World}
def GL {b f:Nat}{k:D}{e kt:TypeId}{l:List (D×D)}{st:List Nat}{c:Nat}(hf:LU P h b f k=some (e,l,kt,st,c)):
 h.get b=some (.cd kt (.dD f e) l st c)/\cZ P e=true/\D.i7 l k=true:=by
 unfold LU at hf
 split at hf
 ·rename_i A f' J l' st' I hb
  split at hf
  ·rename_i hc
   simp only[amo]at hc;have:=amC hc.1.1;subst this
   cases hf
   exact⟨hb,hc.1.2,hc.2⟩
  cases hf
 cases hf
def aeD {kt e f:Nat}{l:List (D×D)}{st:List Nat}{c:Nat}{k:D}(A:D.i7 l k=true):(aE.cd kt (.dD f e) l st c).BM f k=some (.bY e [D.val l k] false):=by
 simp[aE.BM,D.V6 A]
def bq.ai0 (O:bq P g h w){b f:Nat}{k:D}{e kt:TypeId}{l:List (D×D)}{st:List Nat}{c aS aD:Nat}(hf:LU P h b f k=some (e,l,kt,st,c))(hs:g.s f k=some (aS,aD)):
 ∃A vs m,w.heap[aS]?=some (.cells A e m)/\dm P g.fz w e [D.val l k] vs/\(∀(i:Nat) x,vs[i]?=some x->A[aD+i]?=some x)/\gA w aS aD vs/\BF P e A m.1 m.2:=by
 obtain⟨hb,hd,V⟩:=GL hf;obtain⟨_,o,ho,I⟩:=O.vL (.el b f k) _ _ _ (ai.Hs hb (aeD V)) hs;simp only[fO]at I;obtain⟨A,lo,hi,rfl,U,vs,Y,hc⟩:=I;refine⟨A,vs,(lo,hi),ho,Y,hc,fun i x J=>?_,U⟩;simp only[World.cell?,ho];exact hc i x J
def dm.one {fz:Nat->Prop}{e:TypeId}{d:D}{vs:List Value}(h:dm P fz w e [d] vs):qk P fz w e d vs:=by
 have h1:=h.2 0 d rfl;have h2:vs.length=P.cellsOf e:=by simpa using h.1
 rw[aph,anx,<-h2,ano]at h1;exact h1
def BE.mC {kt:TypeId}{f e:Nat}{l:List (D×D)}{st:List Nat}{c:Nat}{es:List MapEntry}(A:BE P g w kt (.dD f e) l st c es)(k d:D):BE P g w kt (.dD f e) (D.mC l k d) st c es:=by
 refine⟨by rw[D.Bl];exact A.len,by rw[D.Bl];exact A.sl,fun i p x h1 h2=>?_,A.born,fun i p x h1 h2=>?_,fun p hp=>?_,by rw[D.CJ];exact A.nd,A.snd,A.Ny⟩
 ·obtain⟨q,I,J,_⟩:=D.xG h1;rw[J];exact A.key i q x I h2
 ·obtain⟨q,I,J,_⟩:=D.xG h1;rw[J];exact A.val i q x I h2
 obtain⟨i,hi⟩:=anL hp;obtain⟨q,I,J,_⟩:=D.xG hi;rw[J];exact A.IG q (amn I)
def Ob.al3 (n:Ob g h){b:Nat}{o o':aE}(hb:h.get b=some o)(ho:o'.nf=some o')(V:o'.CF=o.CF)(Y:∀f k x,o.BM f k=some x->∃y,o'.BM f k=some y):Ob g (h.put b (some o')):=by
 have J:∀I o1,(h.put b (some o')).get I=some o1->(I=b/\o1=o')\/(I≠b/\h.get I=some o1):=fun I o1 h1=>by
  rw[ai.iR]at h1
  by_cases e:I=b
  ·rw[amu e]at h1;cases h1;exact .inl ⟨e,rfl⟩
  rw[amt e]at h1;exact .inr ⟨e,h1⟩
 have A:∀I o1,(h.put b (some o')).get I=some o1->∃O,h.get I=some O/\o1.CF=O.CF/\∀f k x,O.BM f k=some x->∃y,o1.BM f k=some y:=fun I o1 h1=>by
  rcases J _ _ h1 with ⟨rfl,rfl⟩| ⟨_,h2⟩
  ·exact⟨o,hb,V,Y⟩
  exact⟨o1,h2,rfl,fun f k x e=>⟨x,e⟩⟩
 refine⟨fun I o1 h1=>?_,n.lt,n.Ny,fun I o1 f h1 h2=>?_,fun I b2 o1 O f h1 h2 U h4=>?_,fun I o1 f k x h1 h2 U=>?_,fun I b2 f k h1=>?_⟩
 ·obtain⟨O,h2,_⟩:=A _ _ h1;exact n.PJ _ _ h2
 ·obtain⟨O,U,h4,_⟩:=A _ _ h1;exact n.Hv _ _ _ U (h4▸h2)
 ·obtain⟨p1,Z,k2,_⟩:=A _ _ h1;obtain⟨p2,j1,j2,_⟩:=A _ _ h2;exact n.fu _ _ _ _ _ Z j1 (k2▸U) (j2▸h4)
 ·obtain⟨p1,Z,k2,k3⟩:=A _ _ h1;obtain⟨⟨y,hy⟩,hm⟩:=n.sk _ _ _ _ _ Z (k2▸h2) U;exact⟨k3 _ _ _ hy,hm⟩
 rcases J _ _ h1 with ⟨_,e⟩| ⟨_,h1⟩
 ·exact absurd e.symm (aE.CO ho)
 exact n.al _ _ _ _ h1
def bq.akL (hr:bq P g h w){b f:Nat}{k d:D}{e kt:TypeId}{l:List (D×D)}{st:List Nat}{c aS aD:Nat}{co co':Obj}(hf:LU P h b f k=some (e,l,kt,st,c))(hs:g.s f k=some (aS,aD))
 (e0:w.heap[aS]?=some co)(O:w'.heap=w.heap.setIfInBounds aS co')(d9:w'.os=w.os/\w'.output=w.output/\w'.tape=w.tape)
 (b4:∀s,w.shape? aS=some s->w'.shape? aS=some s)
 (ho:iL g w g w'->fO P g w' (.bY e [d] false) aD co'):
 bq P g (h.put b (some (.cd kt (.dD f e) (D.mC l k d) st c))) w'/\mO g h w g (h.put b (some (.cd kt (.dD f e) (D.mC l k d) st c))) w':=by
 obtain⟨hb,hd,hk⟩:=GL hf;have Z:=ai.Hs hb (aeD (kt:=kt) (e:=e) (st:=st) (c:=c) hk);have d6:aS<w.heap.size:=hr.rV (.el b f k) aS aD hs;have A:∀c,c≠aS->w'.heap[c]?=w.heap[c]?:=fun c hc=>by rw[O,anc (by omega)]
 have d0:w'.heap[aS]?=some co':=by rw[O,amV d6]
 have d2:w'.heap.size=w.heap.size:=by rw[O];simp
 have d4:¬g.fz aS:=(hr.vL (.el b f k) _ aS aD Z hs).1
 have J:iL g w g w':=⟨fun _ _ e=>e,fun _ e=>e,fun c hc=>A c (fun e=>d4 (e▸hc)),fun c s d3=>by
  by_cases e:c=aS
  ·subst e;exact b4 s d3
  rw[kE (A c e)];exact d3,fun _ _ _ e=>e⟩
 have a6:∀x,(h.put b (some (.cd kt (.dD f e) (D.mC l k d) st c))).get x=if x=b then some (.cd kt (.dD f e) (D.mC l k d) st c)else h.get x:=fun x=>ai.iR _ _ _ _;have hat:∀L o1,(h.put b (some (.cd kt (.dD f e) (D.mC l k d) st c))).at L=some o1->
  (L= .el b f k/\o1= .bY e [d] false)\/(L= .aS b/\o1= .cd kt (.dD f e) (D.mC l k d) st c)\/(L≠ .el b f k/\L≠ .aS b/\h.at L=some o1):=fun L o1 e1=>by
  cases L with
  |aS x=>
   obtain⟨e2,_⟩:=ai.CP e1;rw[a6]at e2
   by_cases V:x=b
   ·subst V;rw[amu rfl]at e2;cases e2;exact .inr (.inl ⟨rfl,rfl⟩)
   rw[amt V]at e2;refine .inr (.inr ⟨fun h=>(by cases h),fun h=>(by cases h;exact V rfl),?_⟩)
   change ((h.put b _).get x).bind aE.nf=_ at e1
   rw[a6,amt V]at e1;exact e1
  |el x f' k'=>
   obtain⟨y,e2,e3⟩:=ai.RU e1;rw[a6]at e2
   by_cases V:x=b
   ·subst V;rw[amu rfl]at e2;cases e2;have a8:=aE.wv e3;have a8:f=f':=(by simpa [aE.CF]using a8);subst a8;simp only[aE.BM,am5]at e3
    by_cases Y:k'=k
    ·subst Y;rw[D.qe _ hk]at e3;cases e3;exact .inl ⟨rfl,rfl⟩
    rw[D.y8 Y]at e3;refine .inr (.inr ⟨fun h=>(by cases h;exact Y rfl),fun h=>(by cases h),ai.Hs hb ?_⟩);simp only[aE.BM,am5];exact e3
   rw[amt V]at e2;exact .inr (.inr ⟨fun h=>(by cases h;exact V rfl),fun h=>(by cases h),ai.Hs e2 e3⟩)
 have a7:∀L o1,(h.put b (some (.cd kt (.dD f e) (D.mC l k d) st c))).at L=some o1->∃o2,h.at L=some o2:=fun L o1 e1=>by
  rcases hat L o1 e1 with ⟨rfl,_⟩| ⟨rfl,_⟩| ⟨_,_,h1⟩
  ·exact⟨_,Z⟩
  ·exact⟨_,ai.jH hb rfl⟩
  exact⟨_,h1⟩
 refine⟨(hr.nm.al3 (o':= .cd kt (.dD f e) (D.mC l k d) st c) hb rfl rfl fun f' k' x V=>?_).UH ?_ ?_ ?_ ?_,⟨J,by omega,?_,fun c _ hc=>?_,fun _ _ h=> .inl h,amG _,d9⟩⟩
 ·simp only[aE.BM]at V ⊢
  split at V
  ·rename_i a8
   rw[amu a8]
   cases e1:D.ia l k' with
   |none=>rw[e1]at V;cases V
   |some y=>
    by_cases Y:k'=k
    ·subst Y;rw[D.qe _ hk];exact⟨_,rfl⟩
    rw[D.y8 Y,e1];exact⟨_,rfl⟩
  cases V
 ·intro L U I h1;rw[d2];exact hr.rV _ _ _ h1
 ·intro l1 l2 U I d7 o1 o2 h1 h2 m1 m2;obtain⟨_,g1⟩:=a7 _ _ h1;obtain⟨_,g2⟩:=a7 _ _ h2;exact hr.rW _ _ _ _ _ _ _ g1 g2 m1 m2
 ·intro L o1 U I h1 m1;rcases hat L o1 h1 with ⟨rfl,rfl⟩| ⟨rfl,rfl⟩| ⟨d5,e4,h1⟩
  ·change g.s f k=_ at m1
   rw[hs]at m1;cases m1;exact⟨d4,co',d0,ho J⟩
  ·obtain⟨n1,o2,d1,b1⟩:=hr.vL _ _ _ _ (ai.jH hb rfl) m1;have b6:U≠aS:=fun ee=>by
    have:=hr.rW _ _ _ _ _ _ _ (ai.jH hb rfl) Z (ee▸m1) hs
    cases this
   refine⟨n1,o2,(A _ b6).trans d1,?_⟩;simp only[fO]at b1 ⊢;obtain⟨h0,es,rfl,hm⟩:=b1;exact⟨h0,es,rfl,(hm.mC k d).mono J⟩
  obtain⟨n1,o2,d1,b1⟩:=hr.vL _ _ _ _ h1 m1;have b6:U≠aS:=fun ee=>d5 (hr.rW _ _ _ _ _ _ _ h1 Z (ee▸m1) hs);exact⟨n1,o2,(A _ b6).trans d1,b1.mono J⟩
 ·intro c hc;rw[d2];exact hr.oU c hc
 ·intro c hc hno;exact A c (fun e=>hno ⟨.el b f k,_,aD,Z,e▸hs⟩)
 obtain⟨L,o1,I,hl,d8⟩:=hc;obtain⟨o2,h2⟩:=a7 _ _ hl;exact⟨L,o2,I,h2,d8⟩
def bq.aeb (J:bq P g h w){b b' f:Nat}{k:D}{v:Value}{off:Nat}(hb:h.get b=some (.tQ b' f k))(A:aw P g w (.ie b off) v):aw P g w (.sW b' f k off) v:=by
 simp only[aw]at A ⊢;obtain⟨aS,aD,I,rfl⟩:=A;obtain⟨⟨x,h1,h2⟩,O⟩:=J.al _ _ _ _ hb;rw[I]at h1;cases h1;exact⟨aS,aD,h2,rfl,O⟩
end
end
section
section
variable {P:Program} {g:Gh} {h:ai} {w:World}
def aO {t:TypeId}{d:TypeDesc}(e:P.underlying t=some d)(w:World):(underlying t).run P w= .ok d w:=by
 simp[underlying,e]
def I9 {t:TypeId}{i:TypeInfo}(e:P.info? t=some i)(w:World):(typeInfo t).run P w= .ok i w:=by
 simp[typeInfo,e]
def mZ {t:TypeId}{n:Nat}(e:kF P t=some n)(w:World):(sizeOf t).run P w= .ok n w:=by
 unfold kF at e
 cases hi:P.info? t with
 |none=>rw[hi]at e;cases e
 |some i=>rw[hi]at e;simp at e;simp[sizeOf,I9 hi,e]
def qW {t:TypeId}{n:Nat}(e:kF P t=some n):P.cellsOf t=n:=by
 unfold kF at e;unfold Program.cellsOf;rw[e];rfl
def G1 {t:TypeId}{i:TypeInfo}(e:P.info? t=some i):kF P t=some i.size:=by simp[kF,e]
def OB {t:TypeId}{b:Bool}(e:jw P t=some b)(w:World):(isAgg t).run P w= .ok b w:=by
 unfold jw at e
 cases A:P.underlying t with
 |none=>rw[A]at e;cases e
 |some d=>
  rw[A]at e;simp at e;simp only[isAgg,Sem.run_bind,aO A,Result.andThen_ok]
  split at e<;>simp_all
def aw.of (P:Program)(g:Gh)(w:World):∀(n:Nat) (v:Value),aw P g w (BV.of n v) v:=by
 intro n
 induction n with
 |zero=>intro v;simp[BV.of,aw]
 |succ n U=>
  intro v;have A:∀cs:Array Value,ay P g w (cs.toList.map (BV.of n)) cs.toList:=fun cs=>by have:=ay.map (P:=P) (g:=g) (w:=w) (l:=cs.toList) (f:=BV.of n) (f':=id) (fun a _=>U a);simpa using this
  cases v with
  |pointer a=>cases a<;>simp[BV.of,aw]
  |slice a l c=>
   simp only[BV.of]
   split
   all_goals first
    | (rename_i e;injection e with J I O;subst J I O;simp[aw];done)
    | (simp_all [aw];done)
    |simp[aw]
  |map r=>cases r<;>simp[BV.of,aw]
  |string s=>simp[BV.of,aw]
  |agg cs=>simp only[BV.of,aw];exact⟨cs,rfl,A cs⟩
  |tuple cs=>simp only[BV.of,aw];exact⟨cs,rfl,A cs⟩
  |_=>simp[BV.of,aw]
def aw.ofv (P:Program)(g:Gh)(w:World)(v:Value):aw P g w (BV.ofv v) v:=aw.of P g w 6 v
def Ja {t:TypeId}{z:BV}(e:q7 P t=some z)(w:World):∃A,(zeroValue t).run P w= .ok A w/\∀g,aw P g w z A:=by
 unfold q7 at e
 cases hi:P.info? t with
 |none=>rw[hi]at e;cases e
 |some i=>
  rw[hi]at e
  cases I:i.zero with
  |none=>simp[I]at e
  |some A=>simp[I]at e;subst e;exact⟨A,by simp[zeroValue,I9 hi,I],fun g=>aw.ofv P g w A⟩
def QM {cs r:List BV}{off n:Nat}(e:iK cs off n=some r):r=(cs.drop off).take n/\r.length=n:=by
 unfold iK at e;dsimp only at e
 split at e
 ·rename_i hl;cases e;exact⟨rfl,hl⟩
 cases e
def jV {cs r vs:List BV}{off:Nat}(e:putCells cs off vs=some r):r=cs.take off++(vs++cs.drop (off+vs.length))/\off+vs.length<=cs.length:=by
 unfold putCells at e
 split at e
 ·rename_i hl;cases e;exact⟨rfl,hl⟩
 cases e
def ay.iK {cs r:List BV}{vs:List Value}{off n:Nat}(A:ay P g w cs vs)(e:iK cs off n=some r):
 ay P g w r ((vs.drop off).take n)/\((vs.drop off).take n).length=n:=by
 obtain⟨rfl,hl⟩:=QM e;have:=(A.drop off).take n;exact⟨this,by rw[this.length];exact hl⟩
def Up {cs r vs:List BV}{off:Nat}(e:putCells cs off vs=some r)(j:Nat):r[j]?=if off<=j/\j<off+vs.length then vs[j-off]? else cs[j]?:=by
 obtain⟨rfl,hl⟩:=jV e;rw[anj];simp only[amI];rw[anS (by omega)]
 by_cases h1:j<off
 ·rw[amu h1,ifN,ane,amu h1]
 rw[amt h1,anj]
 by_cases h2:j-off<vs.length
 ·rw[amu h2,ifP]
 rw[amt h2,ifN,anG];congr 1;omega
def N5 {cs r vs:List BV}{off:Nat}(e:putCells cs off vs=some r):r.length=cs.length:=by
 obtain⟨rfl,hl⟩:=jV e;simp;omega
def bq.cells (J:bq P g h w){b aS aD:Nat}{cs:List BV}{e:TypeId}{s:Bool}(hb:h.get b=some (.cells cs e s))(O:g.m b=some (aS,aD)):
 ∃c lo hi vs,w.heap[aS]?=some (.cells c e (lo,hi))/\ay P g w cs vs/\(∀i x,vs[i]?=some x->c[aD+i]?=some x)/\gA w aS aD vs/\
  (∀i,i<c.size->¬(lo<=i/\i<hi))/\(s=false->lo=0/\hi=0):=by
 obtain⟨_,o,ho,A⟩:=J.obj _ _ _ _ hb O;simp only[fO]at A;obtain⟨c,lo,hi,rfl,⟨vs,U,hc⟩,hf,hs⟩:=A;refine⟨c,lo,hi,vs,ho,U,hc,fun i x I=>?_,hf,hs⟩;simp only[World.cell?,ho];exact hc i x I
def gA.drop {aS off k:Nat}{vs:List Value}(hc:gA w aS off vs):gA w aS (off+k) (vs.drop k):=by
 intro i x hi;rw[anG]at hi;have:=hc _ _ hi
 rwa [show off+(k+i)=off+k+i by omega]at this
def gA.take {aS off k:Nat}{vs:List Value}(hc:gA w aS off vs):gA w aS off (vs.take k):=by
 intro i x hi;rw[ane]at hi
 split at hi
 ·exact hc _ _ hi
 cases hi
def vy {t:TypeId}{aS off:Nat}{cs:List BV}{vs:List Value}{k:Nat}{U:Bool}{n:Nat}{v:BV}(A:jw P t=some U)(Y:kF P t=some n)
 (V:ay P g w cs vs)(hc:gA w aS off vs)
 (e:(if U then (iK cs k n).map BV.agg else cs[k]?)=some v):∃I,(loadVar t ⟨aS,off+k,none⟩).run P w= .ok I w/\aw P g w v I:=by
 cases U with
 |true=>
  simp only[am5]at e
  cases ht:Go.PB.iK cs k n with
  |none=>rw[ht]at e;cases e
  |some r=>rw[ht]at e;simp at e;subst e;obtain⟨h1,h2⟩:=V.iK ht;refine⟨.agg ((vs.drop k).take n).toArray,?_,by simp only[aw];exact⟨_,rfl,h1⟩⟩;simp only[loadVar,Sem.run_bind,OB A,Result.andThen_ok,am5,mZ Y];rw[qU _ h2 (hc.drop.take)];rfl
 |false=>simp only[amp,ann]at e;obtain⟨I,O,J⟩:=V.get e;refine⟨I,?_,J⟩;simp only[loadVar,Sem.run_bind,OB A,Result.andThen_ok,amp,ann,run_load];rw[hc _ _ O]
def SS (Z:bq P g h w){t:TypeId}{V:Bool}{n:Nat}(J:jw P t=some V)(hn:kF P t=some n){b f:Nat}{k:D}{off:Nat}{v:BV}{U:Value}(O:aw P g w (.sW b f k off) U)(e:J9 P h V n b f k off=some v):
 ∃Y A,U= .pointer (some Y)/\(loadVar t Y).run P w= .ok A w/\aw P g w v A:=by
 unfold J9 at e;simp only[aw]at O;obtain⟨aS,aD,hs,rfl,_⟩:=O
 cases hf:LU P h b f k with
 |none=>simp[hf]at e
 |some x=>obtain⟨el,l,kt,st,c⟩:=x;simp only[hf]at e;obtain⟨cc,vs,_,hw,hv,_,hat,_⟩:=Z.ai0 hf hs;have I:=qk.shape (g:=g) (GL hf).2.1 hv.one;obtain⟨A,h1,h2⟩:=vy J hn I hat e;exact⟨_,A,rfl,h1,h2⟩
def Nt (V:bq P g h w){t:TypeId}{a v:BV}{a':Value}(O:aw P g w a a')(e:Ag P h t a=some v):
 ∃ad I,a'= .pointer (some ad)/\(loadVar t ad).run P w= .ok I w/\aw P g w v I:=by
 unfold Ag at e
 cases A:jw P t with
 |none=>simp[A]at e
 |some ag=>
  cases J:kF P t with
  |none=>simp[A,J]at e
  |some n=>
   simp only[A,J]at e
   cases a with
   |ie b off=>
    simp only[aw]at O;obtain⟨aS,aD,Z,rfl⟩:=O;dsimp only at e
    cases hb:h.get b with
    |none=>simp[hb]at e
    |some o=>
     cases o with
     |cells cs et s=>simp only[hb]at e;obtain⟨c,lo,hi,vs,hw,Y,_,hc,_⟩:=V.cells hb Z;obtain⟨I,h1,h2⟩:=vy A J Y hc e;exact⟨_,I,rfl,h1,h2⟩
     |tQ b' f k=>simp only[hb]at e;exact SS V A J (V.aeb hb (by simp only[aw];exact⟨aS,aD,Z,rfl⟩)) e
     |_=>simp[hb]at e
   |sW b f k off=>exact SS V A J O e
   |ze cs=>simp only[aw]at O;obtain⟨aS,off,rfl,_,vs,Y,hc⟩:=O;dsimp only at e;obtain⟨I,h1,h2⟩:=vy (k:=0) A J Y hc e;exact⟨_,I,rfl,h1,h2⟩
   |yJ b e' i off=>
    simp only[aw]at O;obtain⟨aS,aD,Z,rfl⟩:=O;dsimp only at e
    cases hb:h.get b with
    |none=>simp[hb]at e
    |some o=>
     cases o with
     |bY e2 l vt=>
      simp only[hb]at e
      split at e
      ·rename_i hc
       simp only[amo]at hc;obtain⟨he,hd⟩:=hc;have he:=amC he;subst he
       split at e
       ·rename_i hi
        obtain⟨c,vs,_,hw,Y,_,hat,_⟩:=V.bY hb Z;have hx:=Y.2 i (D.at l i) (by simp[D.at,List.getD,amr hi]);have a6:=qk.shape (g:=g) hd hx;have U:gA w aS (aD+i*P.cellsOf e') ((vs.drop (i*P.cellsOf e')).take (P.cellsOf e')):=hat.drop.take;obtain⟨I,h1,h2⟩:=vy A J a6 U e;exact⟨_,I,rfl,by rw[<-aof];exact h1,h2⟩
       cases e
      cases e
     |_=>simp[hb]at e
   |_=>simp at e
def agw (O:bq P g h w){t:TypeId}{a v:BV}{I:Value}(J:aw P g w a I)(e:Ag P h t a=some v):
 ∃A,(Instr.loadAt t I).run P w= .ok A w/\aw P g w v A:=by
 obtain⟨U,A,rfl,h1,h2⟩:=Nt O J e;exact⟨A,by simp[Instr.loadAt,Instr.sureAddr,h1],h2⟩
def vU:Option aE->Bool
 |some (.bY _ _ vt)=>vt
 |_=>false
def Ph (g:Gh)(h:ai)(g':Gh)(h':ai):Prop:=∀b,b<h.next->g.m b=none->vU (h.get b)=false->g'.m b=none/\h'.get b=h.get b
def Ph.refl (g:Gh)(h:ai):Ph g h g h:=fun _ _ e _=>⟨e,rfl⟩
def Ph.trans {g g' A:Gh}{h h' I:ai}(a:Ph g h g' h')(Y:h.next<=h'.next)(b:Ph g' h' A I):Ph g h A I:=fun x O e J=>by
 obtain⟨U,h1⟩:=a x O e J;obtain⟨V,h2⟩:=b x (amX O Y) U (by rw[h1];exact J);exact⟨V,h2.trans h1⟩
def Ph.put {b:Nat}{x:Nat×Nat}(A:g.m b=some x)(o:Option aE):Ph g h g (h.put b o):=fun J _ e _=>⟨e,by
 rw[ai.iR,amt fun I=>by subst I;rw[A]at e;cases e]⟩
def Ph.amh {b:Nat}{e:TypeId}{l:List D}(hb:h.get b=some (.bY e l true)):Ph g h g (h.put b none):=fun J _ e A=>⟨e,by
 rw[ai.iR,amt fun I=>by subst I;rw[hb]at A;cases A]⟩
def Ph.new (o:aE):Ph g h g (h.new o):=fun A hb e _=>⟨e,by rw[ai.gY,ifN]⟩
def Ph.Gp {aS aD:Nat}:Ph g h (g.Gp h.next aS aD) h:=fun A hb e _=>⟨by rw[Gh.j8 g (by omega)];exact e,rfl⟩
def We {b:BV}{v:Value}(A:aw P g w b v)(ho:b.one=true):v.oneCell'=true:=by
 obtain⟨_,h1,h2⟩:=A.one ho
 cases v<;>first|rfl| (exact absurd rfl (h1 _))| (exact absurd rfl (h2 _))
def Tj {cs:List BV}{vs:List Value}(I:ay P g w cs vs)(ho:cs.all BV.one=true):∀v∈vs,v.oneCell'=true:=by
 intro v A;obtain⟨i,hi⟩:=anL A;obtain⟨b,hb,J⟩:=I.ajK hi;exact We J ((ang.1 ho) b (amn hb))
def aiE (hr:bq P g h w){b aS aD off:Nat}{cs V xs:List BV}{e:TypeId}{s:Bool}{ys:List Value}(hb:h.get b=some (.cells cs e s))(hm:g.m b=some (aS,aD))
 (Y:ay P g w xs ys)(ho:xs.all BV.one=true)(hp:putCells cs off xs=some V):
 ∃w',(storeCells ⟨aS,aD+off,none⟩ ys).run P w= .ok () w'/\bq P g (h.put b (some (.cells V e s))) w'/\mO g h w g (h.put b (some (.cells V e s))) w':=by
 obtain⟨c,lo,hi,vs,hw,hv,hc,_,hf,hs⟩:=hr.cells hb hm;obtain⟨_,b4⟩:=jV hp;have O:ys≠[]->aD+off+ys.length<=c.size:=fun J=>by
  have hl:ys.length=xs.length:=Y.length;have a8:0<ys.length:=apg.2 J;have a7:vs.length=cs.length:=hv.length;have h1:off+ys.length-1<vs.length:=by omega
  have:=hc _ _ (amr h1);have:=(amL.1 this).1;omega
 have hrun:(storeCells ⟨aS,aD+off,none⟩ ys).run P w= .ok () (w.iI aS (.cells (gZ c (aD+off) ys) e (lo,hi))):=by
  cases U:ys with
  |nil=>simp only[storeCells,Sem.run_pure,gZ];have:=kD (P:=P) aS 0 e lo hi [] 0 c w hw (by simp) (by simp) hf;simpa [storeCells,gZ]using this
  |cons y r=>have Z:=O (by rw[U];simp);rw[U]at Z;have:=kD (P:=P) aS (aD+off) e lo hi (y::r) 0 c w hw (by simpa using Z) (fun v hv=>Tj Y ho v (by rw[U];exact hv)) hf;simpa using this
 refine⟨_,hrun,?_⟩;refine hr.XS hb hm hw rfl ⟨rfl,rfl,rfl⟩ (fun s hs=>?_) (fun I=>?_)
 ·have a6:=(amL.1 hw).1;simp only[World.shape?,hw]at hs;simp only[World.shape?,iJ a6,lZ];exact hs
 simp only[fO];refine⟨_,lo,hi,rfl,⟨vs.take off++(ys++vs.drop (off+ys.length)),?_,?_⟩,by simpa using hf,hs⟩
 ·obtain⟨rfl,_⟩:=jV hp;have h1:=ay.mono I _ _ hv;have h2:=ay.mono I _ _ Y;rw[Y.length];exact(h1.take off).append (h2.append (h1.drop _))
 intro i x A;have b1:=Y.length;have a7:=hv.length;rw[anj]at A;simp only[amI]at A;rw[anS (by omega)]at A
 by_cases J:ys=[]
 ·subst J;simp only[gZ];simp only[amM,anN,an0,anG,ane]at A
  by_cases h1:i<off
  ·rw[amu h1,amu h1]at A;exact hc i x A
  rw[amt h1,show off+(i-off)=i by omega]at A;exact hc i x A
 rw[xS _ _ _ _ (O J)]
 by_cases h1:i<off
 ·rw[amu h1,ane,amu h1]at A;rw[ifN];exact hc i x A
 rw[amt h1,anj]at A
 by_cases h2:i-off<ys.length
 ·rw[amu h2]at A;rw[ifP,show aD+i-(aD+off)=i-off by omega];exact A
 rw[amt h2,anG,show off+ys.length+(i-off-ys.length)=i by omega]at A;rw[ifN];exact hc i x A
def ta {t:TypeId}{n:Nat}(I:kF P t=some n){A:Addr}{v:Value}(hl:v.cells.size=n){w w':World}
 (hs:(storeCells A v.cells.toList).run P w= .ok () w'):(storeVar t A v).run P w= .ok () w':=by
 simp only[storeVar,Sem.run_bind,mZ I,Result.andThen_ok];rw[amt (by simpa using hl)];exact hs
def abj {α:Type}(vs ys:List α)(a sz off:Nat)(h1:off+ys.length<=sz)(h2:a+sz<=vs.length)(k:Nat):
 (vs.take a++((((vs.drop a).take sz).take off++(ys++((vs.drop a).take sz).drop (off+ys.length)))++vs.drop (a+sz)))[k]?=if a+off<=k/\k<a+off+ys.length then ys[k-(a+off)]? else vs[k]?:=by
 have U:(vs.take a).length=a:=by simp;omega
 have Y:((vs.drop a).take sz).length=sz:=by simp;omega
 have J:(((vs.drop a).take sz).take off).length=off:=by simp;omega
 have V:(((vs.drop a).take sz).drop (off+ys.length)).length=sz-(off+ys.length):=by simp;omega
 rw[anj,U]
 by_cases c1:k<a
 ·rw[amu c1,ifN,ane,amu c1]
 rw[amt c1,anj,ams,J,ams,V]
 by_cases I:k-a<off+(ys.length+(sz-(off+ys.length)))
 ·rw[amu I,anj,J]
  by_cases A:k-a<off
  ·rw[amu A,ifN,ane,amu A,ane,ifP,anG,show a+(k-a)=k by omega]
  rw[amt A,anj]
  by_cases O:k-a-off<ys.length
  ·rw[amu O,ifP,show k-a-off=k-(a+off)by omega]
  rw[amt O,ifN,anG,ane,ifP,anG];congr 1;omega
 rw[amt I,ifN,anG];congr 1;omega
def UO (hr:bq P g h w){t:TypeId}{n:Nat}(hn:kF P t=some n){b aS aD i off:Nat}{el:TypeId}{l:List D}{vt:Bool}(hb:h.get b=some (.bY el l vt))(hm:g.m b=some (aS,aD))
 {v:BV}{A:Value}(hv:aw P g w v A)(d8:v.cells.length=n)(Z:v.cells.all BV.one=true)(hd:cZ P el=true)(a8:i<l.length){cs:List BV}{d:D}
 (hp:putCells (aH P el (D.at l i)) off v.cells=some cs)(hu:XE P el cs=some d):
 ∃w',(Instr.storeAt t (.pointer (some ⟨aS,aD+(i*P.cellsOf el+off),none⟩)) A).run P w= .ok () w'/\bq P g (h.put b (some (.bY el (l.set i d) vt))) w'/\mO g h w g (h.put b (some (.bY el (l.set i d) vt))) w'/\Ph g h g (h.put b (some (.bY el (l.set i d) vt))):=by
 obtain⟨c,vs,⟨lo,hi⟩,hw,V,hc,hat,a7⟩:=hr.bY hb hm;have O:=hv.cells Z;obtain⟨_,d6,d4,b6⟩:=gL hd;generalize U:P.cellsOf el=sz at*;have a6:=V.1;rw[U]at a6;obtain⟨d3,b4⟩:=jV hp;rw[b6]at b4;have d2:A.cells.toList.length=v.cells.length:=O.length;have d7:i*sz+sz<=vs.length:=by rw[a6,show i*sz+sz=(i+1)*sz by rw[an2,aoz]];exact anF _ a8
 have d5:aD+vs.length<=c.size:=by
  have h1:vs.length-1<vs.length:=by omega
  have:=hc _ _ (amr h1);have:=(amL.1 this).1;omega
 have Y:aD+(i*sz+off)+A.cells.toList.length<=c.size:=by omega
 have hrun:=kD (P:=P) aS (aD+(i*sz+off)) el lo hi A.cells.toList 0 c w hw (by simpa using Y) (Tj O Z) a7.1;simp only[anN]at hrun;have d1:=(amL.1 hw).1
 have hX:=hr.XS (o':= .bY el (l.set i d) vt) (w':=w.iI aS (.cells (gZ c (aD+(i*sz+off)) A.cells.toList) el (lo,hi))) hb hm hw rfl ⟨rfl,rfl,rfl⟩ (fun s hs=>by
  simp only[World.shape?,hw]at hs;simp only[World.shape?,iJ d1,lZ];exact hs) (fun J=>by
  simp only[fO];have hx:=V.2 i (D.at l i) (by simp[D.at,List.getD,amr a8]);rw[U]at hx;have I:=qk.shape (g:=g) hd hx;generalize hR:(vs.drop (i*sz)).take sz=row at I;have d9:row.length=sz:=by rw[<-hR];simp;omega
  have d0:ay P g w cs (row.take off++(A.cells.toList++row.drop (off+A.cells.toList.length))):=by rw[d3,d2];exact(I.take off).append (O.append (I.drop _))
  have hD:=D9 hu d0;refine⟨_,lo,hi,rfl,⟨by simpa only[lZ]using a7.1,a7.2⟩,vs.take (i*sz)++((row.take off++(A.cells.toList++row.drop (off+A.cells.toList.length)))++vs.drop (i*sz+sz)),?_,fun k y hk=>?_⟩
  ·have r1:dm P g.fz w el (l.take i) (vs.take (i*P.cellsOf el)):=V.take i;have r2:dm P g.fz w el (l.drop (i+1)) (vs.drop ((i+1)*P.cellsOf el)):=V.drop (i+1);have r3:dm P g.fz w el [d] (row.take off++(A.cells.toList++row.drop (off+A.cells.toList.length))):=(by have:=dm.cons (l:=[]) (vs:=[]) (by rw[U,ams,ams,amI,anz];omega) hD dm.nil;simpa using this);have r4:=r1.append (r3.append r2);rw[U,show (i+1)*sz=i*sz+sz by rw[an2,aoz]]at r4;have:l.set i d=l.take i++([d]++l.drop (i+1)):=(by rw[List.set_eq_take_append_cons_drop,amu a8];rfl);rw[this];exact r4.mono J.mf J.mc
  rw[<-hR,abj vs A.cells.toList (i*sz) sz off (by omega) (by omega)]at hk;rw[xS _ _ _ _ Y]
  by_cases b1:i*sz+off<=k/\k<i*sz+off+A.cells.toList.length
  ·rw[amu b1]at hk;rw[ifP,show aD+k-(aD+(i*sz+off))=k-(i*sz+off)by omega];exact hk
  rw[amt b1]at hk
  rw[ifN];exact hc k y hk)
 refine⟨_,?_,hX.1,hX.2,Ph.put hm _⟩;simp only[Instr.storeAt,Instr.sureAddr,Sem.run_bind,Sem.run_pure,Result.andThen_ok];refine ta hn ?_ hrun;have:=O.length;simp at this;omega
def Nw (hr:bq P g h w){t:TypeId}{n:Nat}(hn:kF P t=some n){b f:Nat}{k:D}{off:Nat}{v:BV}{a' A:Value}{h':ai}(ha:aw P g w (.sW b f k off) a')(hv:aw P g w v A)(e:My P h n b f k off v=some h'):
 ∃w',(Instr.storeAt t a' A).run P w= .ok () w'/\bq P g h' w'/\mO g h w g h' w'/\Ph g h g h':=by
 unfold My at e;simp only[aw]at ha;obtain⟨aS,aD,hs,rfl,_⟩:=ha
 split at e
 ·rename_i a6
  simp only[amo,aml]at a6;obtain⟨d8,U⟩:=a6
  split at e
  ·rename_i el l kt st ck hf
   split at e
   ·rename_i cs hp
    split at e
    ·rename_i d hu
     cases e
     obtain⟨c,vs,⟨lo,hi⟩,hw,b4,hc,hat,Y⟩:=hr.ai0 hf hs;obtain⟨hb,hd,Z⟩:=GL hf;have J:=hv.cells U;obtain⟨_,d6,d4,b6⟩:=gL hd;have d7:vs.length=P.cellsOf el:=(by simpa using b4.1);obtain⟨d3,b1⟩:=jV hp;rw[b6]at b1;have d2:A.cells.toList.length=v.cells.length:=J.length;have d5:aD+vs.length<=c.size:=(by have h1:vs.length-1<vs.length:=(by omega);have:=hc _ _ (amr h1);have:=(amL.1 this).1;omega);have O:aD+off+A.cells.toList.length<=c.size:=(by omega);have hrun:=kD (P:=P) aS (aD+off) el lo hi A.cells.toList 0 c w hw (by simpa using O) (Tj J U) Y.1;simp only[anN]at hrun;have d1:=(amL.1 hw).1
     have hX:=hr.akL (d:=d) (w':=w.iI aS (.cells (gZ c (aD+off) A.cells.toList) el (lo,hi))) hf hs hw rfl ⟨rfl,rfl,rfl⟩ (fun s hs=>by
      simp only[World.shape?,hw]at hs;simp only[World.shape?,iJ d1,lZ];exact hs) (fun I=>by
      simp only[fO];have V:=qk.shape (g:=g) hd b4.one;have d0:ay P g w cs (vs.take off++(A.cells.toList++vs.drop (off+A.cells.toList.length))):=by rw[d3,d2];exact(V.take off).append (J.append (V.drop _))
      have hD:=D9 hu d0;have a7:(vs.take off++(A.cells.toList++vs.drop (off+A.cells.toList.length))).length=P.cellsOf el:=(by rw[ams,ams,amI,anz];omega);refine⟨_,lo,hi,rfl,⟨by simpa only[lZ]using Y.1,Y.2⟩,vs.take off++(A.cells.toList++vs.drop (off+A.cells.toList.length)),?_,fun i y Z=>?_⟩
      ·have r3:dm P g.fz w el [d] (vs.take off++(A.cells.toList++vs.drop (off+A.cells.toList.length))):=(by have:=dm.cons (l:=[]) (vs:=[]) a7 hD dm.nil;simpa using this);exact r3.mono I.mf I.mc
      have hR:=abj vs A.cells.toList 0 vs.length off (by omega) (by omega);simp only[aoJ,an0,anx,ano,anr,List.drop_length,ana]at hR;rw[hR]at Z;rw[xS _ _ _ _ O]
      by_cases a8:off<=i/\i<off+A.cells.toList.length
      ·rw[amu a8]at Z;rw[ifP,show aD+i-(aD+off)=i-off by omega];exact Z
      rw[amt a8]at Z
      rw[ifN];exact hc i y Z)
     obtain⟨_,y,hm⟩:=hr.sk _ _ _ _ _ hb rfl hs;refine⟨_,?_,hX.1,hX.2,Ph.put hm _⟩;simp only[Instr.storeAt,Instr.sureAddr,Sem.run_bind,Sem.run_pure,Result.andThen_ok];refine ta hn ?_ hrun;have:=J.length;simp at this;omega
    cases e
   cases e
  cases e
 cases e
def SU (I:bq P g h w){t:TypeId}{a v:BV}{a' Z:Value}{h':ai}(U:aw P g w a a')(V:aw P g w v Z)(e:B2 P h t a v=some h'):
 ∃w',(Instr.storeAt t a' Z).run P w= .ok () w'/\bq P g h' w'/\mO g h w g h' w'/\Ph g h g h':=by
 unfold B2 at e
 cases A:kF P t with
 |none=>simp[A]at e
 |some n=>
  cases a with
  |ie b off=>
   simp only[A]at e;simp only[aw]at U;obtain⟨aS,aD,O,rfl⟩:=U
   cases hb:h.get b with
   |none=>simp[hb]at e
   |some o=>
    cases o with
    |cells cs et s=>
     simp only[hb]at e
     split at e
     ·rename_i hc
      simp only[amo,aml]at hc
      cases hp:putCells cs off v.cells with
      |none=>rw[hp]at e;cases e
      |some a6=>rw[hp]at e;simp at e;subst e;have hx:=V.cells hc.2;obtain⟨w',h1,h2,h3⟩:=aiE I hb O hx hc.2 hp;refine⟨w',?_,h2,h3,Ph.put O _⟩;simp only[Instr.storeAt,Instr.sureAddr,Sem.run_bind,Sem.run_pure,Result.andThen_ok];refine ta A ?_ h1;have:=hx.length;simp at this;omega
     cases e
    |tQ b' f k=>simp only[hb]at e;exact Nw I A (I.aeb hb (by simp only[aw];exact⟨aS,aD,O,rfl⟩)) V e
    |_=>simp[hb]at e
  |sW b f k off=>simp only[A]at e;exact Nw I A U V e
  |yJ b e' i off=>
   simp only[A]at e;simp only[aw]at U;obtain⟨aS,aD,O,rfl⟩:=U
   cases hb:h.get b with
   |none=>simp[hb]at e
   |some o=>
    cases o with
    |bY e2 l vt=>
     simp only[hb]at e
     split at e
     ·rename_i hc
      simp only[amo,aml]at hc;obtain⟨⟨Y,J⟩,he,hd⟩:=hc;have he:=amC he;subst he
      split at e
      ·rename_i cs hp
       split at e
       ·rename_i d hu
        split at e
        ·rename_i hi
         cases e
         exact UO I A hb O V Y J hd hi hp hu
        cases e
       cases e
      cases e
     cases e
    |_=>simp[hb]at e
  |_=>simp[A]at e
def K4 {t:TypeId}{cs:List BV}{vs:Array Value}{off:Nat}{v:BV}(U:ay P g w cs vs.toList)(e:HC P t cs off=some v):
 ∃I,(part t vs off).run P w= .ok I w/\aw P g w v I:=by
 unfold HC at e
 split at e
 ·rename_i n A V
  cases ht:iK cs off n with
  |none=>rw[ht]at e;cases e
  |some r=>
   rw[ht]at e;simp at e;subst e;obtain⟨h1,h2⟩:=U.iK ht;refine⟨.agg (vs.extract off (off+n)),?_,?_⟩
   ·simp[part,OB A,mZ V]
   simp only[aw];refine⟨_,rfl,?_⟩;rw[Array.toList_extract];simpa [apr]using h1
 ·rename_i A
  obtain⟨I,J,O⟩:=U.get e;refine⟨I,?_,O⟩;have:vs[off]?=some I:=by simpa using J
  simp[part,OB A,this]
 cases e
end
end
section
section
variable {P:Program} {g:Gh} {h:ai} {w:World}
def Q3 (P:Program)(g:Gh)(h:ai)(w:World)(b:Nat)(v:BV)(r:Result Value):Prop:=
 ∃A w',r= .ok A w'/\bq P (g.Gp b w.heap.size 0) h w'/\mO g h w (g.Gp b w.heap.size 0) h w'/\aw P (g.Gp b w.heap.size 0) w' v A
def Xg (U:bq P g h w){b:Nat}{cs:List BV}{e:TypeId}{s:Bool}{vs:List Value}{c:Array Value}{lo hi:Nat}{w':World}
 (hb:h.get b=some (.cells cs e s))(V:g.m b=none)(Y:ay P g w cs vs)(hc:∀(i:Nat) x,vs[i]?=some x->c[i]?=some x)
 (A:w'.heap=w.heap.push (.cells c e (lo,hi)))(O:w'.os=w.os/\w'.output=w.output/\w'.tape=w.tape)
 (hf:∀i,i<c.size->¬(lo<=i/\i<hi))(hs:s=false->lo=0/\hi=0):
 bq P (g.Gp b w.heap.size 0) h w'/\mO g h w (g.Gp b w.heap.size 0) h w':=by
 refine U.real hb V A O fun I=>?_;simp only[fO];exact⟨c,lo,hi,rfl,⟨vs,ay.mono I _ _ Y,fun i x J=>by simpa using hc i x J⟩,hf,hs⟩
def Xh (O:bq P g h w){b:Nat}{t:TypeId}{v:BV}{A:Value}(hb:h.get b=some (.cells v.cells t false))(I:g.m b=none)
 (J:aw P g w v A)(ho:v.cells.all BV.one=true):Q3 P g h w b (.ie b 0) ((do pure (Value.pointer (some (<-newVar t A))):Sem Value).run P w):=by
 refine⟨.pointer (some ⟨w.heap.size,0,none⟩),_,by simp only[newVar,newRow,Sem.run_bind,run_newObj,Result.andThen_ok,Sem.run_pure];rfl,?_⟩;have h1:=Xg O (vs:=A.cells.toList) (c:=A.cells) (lo:=0) (hi:=0) (w':={w with heap:=w.heap.push (.cells A.cells t)}) hb I (J.cells ho) (fun i x hi=>by simpa using hi) rfl ⟨rfl,rfl,rfl⟩ (by omega) (fun _=>⟨rfl,rfl⟩);refine⟨h1.1,h1.2,?_⟩;simp only[aw];exact⟨_,_,Gh.ou _ _ _ _,rfl⟩
def ZJ (O:bq P g h w){b:Nat}{t:TypeId}{z:BV}(U:q7 P t=some z)(hb:h.get b=some (.cells z.cells t false))(J:g.m b=none)
 (ho:z.cells.all BV.one=true):Q3 P g h w b (.ie b 0) ((Instr.alloc t true (.tuple #[])).run P w):=by
 obtain⟨V,I,A⟩:=Ja U w;have:=Xh O hb J (A g) ho;simpa [Instr.alloc,I]using this
def agk (O:bq P g h w){b:Nat}{t:TypeId}{v:BV}{A:Value}(hb:h.get b=some (.cells v.cells t false))(I:g.m b=none)
 (J:aw P g w v A)(ho:v.cells.all BV.one=true):Q3 P g h w b (.ie b 0) ((Instr.box t A).run P w):=by
 have:=Xh O hb I J ho;simpa [Instr.box]using this
def P7 {P:Program}{h:ai}{k e:TypeId}{o:aE}(A:sH P h k e=some o):rr h.next o:=by
 unfold sH at A
 repeat' split at A
 all_goals first|cases A;done| (cases A;first|exact rr.bare rfl rfl|exact rr.map _ _ _ _)
def Wa {P:Program}{h:ai}{k e:TypeId}{o:aE}(A:sH P h k e=some o)(g:Gh)(w:World):fO P g w o 0 (.map #[] 0):=by
 unfold sH at A
 repeat' split at A
 all_goals first|cases A;done| (cases A;simp only[fO];exact⟨trivial,_,rfl,⟨rfl,rfl,fun i p e h=>(by simp at h),fun i p e h=>(by simp at h),fun i p e h=>(by simp at h),fun p h=>(by simp at h),apW,apW,fun s h=>by simp at h⟩⟩)
def agl (O:bq P g h w){b:Nat}{t k e:TypeId}{a:ai}{r:Option BV}{A:Option Value}(U:P.underlying t=some (.map k e)){o:aE}(J:sH P a k e=some o)(hb:h.get b=some o)(V:g.m b=none)
 (I:(r=none/\A=none)\/∃q n,r=some (.int q n)/\A=some (.int q n)):Q3 P g h w b (.map b) ((Instr.makeMap t A).run P w):=by
 have hrun:(Instr.makeMap t A).run P w= .ok (.map (some w.heap.size)) {w with heap:=w.heap.push (.map #[] 0)}:=by
  rcases I with ⟨_,rfl⟩| ⟨q,n,_,rfl⟩
  ·simp[Instr.makeMap]
  simp[Instr.makeMap,aO U,asInt,asIntOf]
 refine⟨_,_,hrun,?_⟩;have h1:=O.real (w':={w with heap:=w.heap.push (.map #[] 0)}) hb V rfl ⟨rfl,rfl,rfl⟩ (fun _=>Wa J _ _) (P7 J).nf;refine⟨h1.1,h1.2,?_⟩;simp only[aw];exact⟨_,Gh.ou _ _ _ _,rfl⟩
def Re (l:List Value):∀(k:Nat) (cs:Array Value) (off:Nat),off+k+l.length<=cs.size->
 ((l.zipIdx k).foldl (fun cs (x:Value×Nat)=>cs.setIfInBounds (off+x.2) x.1) cs)=gZ cs (off+k) l:=by
 induction l with
 |nil=>intro k cs off _;simp[gZ]
 |cons v r I=>intro k cs off A;simp only[amB]at A;simp only[List.zipIdx_cons,aol,gZ];rw[I (k+1) _ off (by simp;omega)];rfl
def aiM (cs:Array Value)(off:Nat)(xs:Array Value)(A:off+xs.size<=cs.size):
 xs.zipIdx.foldl (fun cs (x:Value×Nat)=>cs.setIfInBounds (off+x.2) x.1) cs=gZ cs off xs.toList:=by
 rw[<-Array.foldl_toList,Array.toList_zipIdx];have:=Re xs.toList 0 cs off (by simpa using A);simpa using this
def ay.putCells {cs I xs:List BV}{c:Array Value}{ys:List Value}{off:Nat}(hc:ay P g w cs c.toList)(U:ay P g w xs ys)(hp:putCells cs off xs=some I):
 ay P g w I (gZ c off ys).toList:=by
 have hl:=hc.length;have V:=U.length;obtain⟨_,Y⟩:=jV hp;refine ay.vi (by rw[N5 hp];simpa using hl) fun i b v hb A=>?_;rw[Up hp]at hb;simp only[ans]at A;rw[xS _ _ _ _ (by simp at hl;omega)]at A
 by_cases h1:off<=i/\i<off+xs.length
 ·rw[amu h1]at hb;rw[ifP]at A;obtain⟨u,J,O⟩:=U.get hb;rw[J]at A;cases A;exact O
 rw[amt h1]at hb;rw[ifN]at A;obtain⟨u,J,O⟩:=hc.get hb;simp only[ans]at J;rw[J]at A;cases A;exact O
def aw.TA {v:BV}{I:Value}(A:aw P g w v I)(J:v.xU=true):ay P g w v.cells I.cells.toList:=by
 by_cases hb:∃cs,v= .agg cs
 ·obtain⟨cs,rfl⟩:=hb;simp only[aw]at A;obtain⟨vs,rfl,h⟩:=A;simpa [BV.cells,Value.cells]using h
 have e:v.cells=[v]:=by cases v<;>first|rfl| (exact absurd ⟨_,rfl⟩ hb)
 have O:I.cells=#[I]:=by
  by_cases ht:∃cs,v= .tuple cs
  ·obtain⟨cs,rfl⟩:=ht;simp only[aw]at A;obtain⟨vs,rfl,_⟩:=A;rfl
  refine(A.one ?_).1
  cases v<;>first|rfl| (simp[BV.xU]at J;done)| (exact absurd ⟨_,rfl⟩ hb)| (exact absurd ⟨_,rfl⟩ ht)
 rw[e,O];exact ay.cons A ay.nil
def X0 (P:Program)(g:Gh)(w:World)(ps:List (Nat×BV))(A:List (Nat×Value)):Prop:=
 A.length=ps.length/\∀(j:Nat) i v,ps[j]?=some (i,v)->∃I,A[j]?=some (i,I)/\aw P g w v I
def X0.cons {i:Nat}{v:BV}{ps:List (Nat×BV)}{A:List (Nat×Value)}(hp:X0 P g w ((i,v)::ps) A):∃J I,A=(i,J)::I/\aw P g w v J/\X0 P g w ps I:=by
 obtain⟨hl,hp⟩:=hp
 cases A with
 |nil=>simp at hl
 |cons q A=>obtain⟨J,h1,h2⟩:=hp 0 i v (by simp);simp at h1;subst h1;exact⟨J,A,rfl,h2,by simpa using hl,fun j U u O=>by have:=hp (j+1) U u (by simpa using O);simpa using this⟩
def QH {A:Nat->Option (Nat×Nat)}:∀(ps:List (Nat×BV)) (U:List (Nat×Value)) (cs J:List BV) (c:Array Value),X0 P g w ps U->ay P g w cs c.toList->
 Hu A cs ps=some J->∃V,Instr.fill A c U=some V/\ay P g w J V.toList:=by
 intro ps
 induction ps with
 |nil=>
  intro U cs J c hp hc e;have:U=[]:=by have:=hp.1;simpa using this
  subst this;simp[Hu]at e;subst e;exact⟨c,rfl,hc⟩
 |cons p ps ih=>
  intro U cs J c hp hc e;obtain⟨i,v⟩:=p;obtain⟨v',a7,rfl,hv,a6⟩:=hp.cons;simp only[Hu]at e
  cases O:A i with
  |none=>simp[O]at e
  |some os=>
   obtain⟨off,size⟩:=os;simp only[O]at e
   split at e
   ·rename_i hl
    simp only[amo,aml]at hl
    cases I:putCells cs off v.cells with
    |none=>simp[I]at e
    |some Z=>simp only[I]at e;have hx:=hv.TA hl.2;have Y:=hx.length;have a8:=hc.length;obtain⟨_,b4⟩:=jV I;simp at Y a8;have b1:=hc.putCells hx I;obtain⟨V,h1,h2⟩:=ih a7 Z J _ a6 b1 e;refine⟨V,?_,h2⟩;simp only[Instr.fill,O];rw[amt (by simp;omega)];rw[aiM _ _ _ (by omega)];exact h1
   cases e
def ZO (w:World):∀(fs:List Field) (ps:List (Nat×Nat)),fs.mapM (fun f=>(kF P f.type).map fun s=>(f.offset,s))=some ps->
 (fs.mapM fun f=>(do pure (f.offset,<-sizeOf f.type):Sem (Nat×Nat))).run P w= .ok ps w:=by
 intro fs
 induction fs with
 |nil=>intro ps e;simp at e;subst e;simp
 |cons f fs I=>
  intro ps e;simp only[apV]at e ⊢
  cases hs:kF P f.type with
  |none=>simp[hs]at e
  |some n=>
   simp only[hs,amH]at e
   cases A:fs.mapM (fun f=>(kF P f.type).map fun s=>(f.offset,s))with
   |none=>simp[A]at e
   |some J=>simp[A]at e;subst e;simp only[Sem.run_bind,mZ hs,Result.andThen_ok,Sem.run_pure,I _ A]
def adq {t:TypeId}{ps:List (Nat×BV)}{Y:List (Nat×Value)}{v:BV}(hp:X0 P g w ps Y)(e:Yb P t ps=some v):
 ∃v',(Instr.build t Y.toArray).run P w= .ok v' w/\aw P g w v v':=by
 unfold Yb at e
 split at e
 ·rename_i V fs hz hu
  obtain⟨z',O,I⟩:=Ja hz w;have A:=I g;simp only[aw]at A;obtain⟨zs,rfl,U⟩:=A
  cases J:af3 P fs with
  |none=>simp[J]at e
  |some pl=>
   simp only[J]at e
   cases hf:Hu (fun i=>pl[i]?) V ps with
   |none=>simp[hf]at e
   |some cs=>simp[hf]at e;subst e;obtain⟨c',h1,h2⟩:=QH ps Y V cs zs hp U hf;refine⟨.agg c',?_,by simp only[aw];exact⟨_,rfl,h2⟩⟩;have Z:=ZO (P:=P) w fs.toList pl J;simp only[Instr.build,Sem.run_bind,O,Result.andThen_ok,aO hu];rw[apq];simp only[Sem.run_map,Z,Result.andThen_ok,List.getElem?_toArray,Value.cells];rw[h1];simp
 ·rename_i V n el hz hu
  obtain⟨z',O,I⟩:=Ja hz w;have A:=I g;simp only[aw]at A;obtain⟨zs,rfl,U⟩:=A
  cases hs:kF P el with
  |none=>simp[hs]at e
  |some size=>
   simp only[hs]at e
   cases hf:Hu (fun i=>some (i*size,size)) V ps with
   |none=>simp[hf]at e
   |some cs=>simp[hf]at e;subst e;obtain⟨c',h1,h2⟩:=QH ps Y V cs zs hp U hf;refine⟨.agg c',?_,by simp only[aw];exact⟨_,rfl,h2⟩⟩;simp only[Instr.build,Sem.run_bind,O,Result.andThen_ok,aO hu,mZ hs,Value.cells];rw[h1];simp
 cases e
end
end
section
section
variable {P:Program} {g:Gh} {h:ai} {w:World}
def Nr (z:List BV)(n:Nat):(Mt z n).length=n*z.length:=by
 induction n with
 |zero=>simp[Mt]
 |succ n A=>simp[Mt,A,aqe];omega
def agn (z:List BV)(O:0<z.length):∀(n i:Nat),i<n*z.length->(Mt z n)[i]?=z[i % z.length]?:=by
 intro n
 induction n with
 |zero=>intro i h;omega
 |succ n J=>
  intro i hi;simp only[Mt];rw[anj]
  split
  ·rename_i A;rw[Nat.mod_eq_of_lt A]
  rename_i I
  rw[aqe]at hi;rw[J _ (by omega)];congr 1
  conv=>rhs;rw[show i=(i-z.length)+z.length by omega,Nat.add_mod_right]
def ay.Mt {z:List BV}{I:Array Value}(O:ay P g w z I.toList)(hp:0<z.length)(n:Nat):
 ay P g w (Mt z n) ((Array.range (n*z.length)).map fun i=>I[i % I.size]!).toList:=by
 have hl:=O.length;simp at hl;refine ay.vi (by simp[Nr]) fun i b v hb J=>?_;have hi:i<n*z.length:=by
  have:=(amw.1 hb).1
  rwa [Nr]at this
 rw[agn z hp n i hi]at hb;obtain⟨u,A,U⟩:=O.get hb;have:v=u:=by simp only[ao7,Array.toList_range,anw,ap0 hi,amH,amD]at J;rw[<-J];simp only[ans]at A;rw[<-hl]at A;simp[getElem!_def,A]
 rw[this];exact U
def N8 (hr:bq P g h w){b:Nat}{t:TypeId}{len:Nat}{ps:List (Nat×BV)}{qs:List (Nat×Value)}{v:BV}{h1 h2:ai}
 (hp:X0 P g w ps qs)(e:AK P h1 t len ps=some (v,h2))(hb:h.get b=h2.get h1.next)(b1:b=h1.next)(hm:g.m b=none):
 Q3 P g h w b v ((Instr.buildSlice t len qs.toArray).run P w):=by
 unfold AK at e
 split at e
 ·rename_i el hu
  split at e
  ·rename_i A z hs hz
   dsimp only at e
   split at e
   ·cases e
   rename_i hc
   simp only[not_or,Nat.not_lt,Decidable.not_not]at hc;obtain⟨d8,d2,d5⟩:=hc
   cases hf:Hu (fun i=>some (i*(A+1),A+1)) (Mt z.cells len) ps with
   |none=>simp[hf]at e
   |some cs=>
    simp only[hf]at e
    split at e
    ·rename_i d6
     obtain⟨z',d4,d1⟩:=Ja hz w;have a7:=(d1 g).cells d5;have d0:=a7.length;simp at d0
     obtain⟨O,a8,Y⟩:=QH ps qs _ cs ((Array.range (len*(A+1))).map fun i=>z'.cells[i % z'.cells.size]!) hp (by
      have:=a7.Mt (by omega) len
      rw[d2]at this;exact this) hf
     have hrun:(Instr.buildSlice t len qs.toArray).run P w= .ok (.slice (some ⟨w.heap.size,0,none⟩) len len) {w with heap:=w.heap.push (.cells O el)}:=by
      simp only[Instr.buildSlice,Sem.run_bind,aO hu,Result.andThen_ok,mZ hs];rw[amt (by simp only[ap3];omega)];simp only[ap3]
      by_cases h0:len*(A+1)=0
      ·rw[amu h0];have b6:len=0:=by rcases Nat.mul_eq_zero.1 h0 with h0|h0<;>omega
       subst b6;have d3:Instr.fill (fun i=>some (i*(A+1),A+1)) ((Array.range (0*(A+1))).map fun i=>(#[]:Array Value)[i % (#[]:Array Value).size]!) qs=some O:=by have e0:(Array.range (0*(A+1))).map (fun i=>(#[]:Array Value)[i % (#[]:Array Value).size]!)=(Array.range (0*(A+1))).map (fun i=>z'.cells[i % z'.cells.size]!):=(by simp);rw[e0];exact a8
       simp only[Sem.run_bind,Sem.run_pure,Result.andThen_ok];rw[d3];simp[newRow]
      rw[amt h0];simp only[Sem.run_bind,Sem.run_pure,d4,Result.andThen_ok];rw[a8];simp[newRow]
     split at e
     ·
      rename_i l hl
      simp only[amD,anC]at e;obtain⟨rfl,rfl⟩:=e;rw[ai.gY,amu rfl]at hb
      split at hl
      ·rename_i a6
       simp only[amo]at a6;obtain⟨hd,U⟩:=a6;have U:=amC U;have Z:P.cellsOf el=A+1:=qW hs;rw[<-Z]at hl;obtain⟨d7,V⟩:=aac (g:=g) (w:=w) len hl (by rw[Z];exact U);have b4:=V _ Y;refine⟨_,_,hrun,?_⟩
       have I:=hr.real (w':={w with heap:=w.heap.push (.cells O el)}) hb hm rfl ⟨rfl,rfl,rfl⟩ (fun J=>by
        simp only[fO]
        exact⟨O,0,0,rfl,BF.zero _ _ _,O.toList,b4.mono J.mf J.mc,fun i x hi=>by simpa using hi⟩)
       refine⟨I.1,I.2,?_⟩;simp only[aw];refine .inr ⟨_,_,len,by rw[<-b1];exact Gh.ou _ _ _ _,rfl,amG _,el,O.size,by simp[World.shape?],?_⟩;have:=Y.length;simp at this;rw[Z,this,U];omega
      cases hl
     simp only[amD,anC]at e;obtain⟨rfl,rfl⟩:=e;rw[ai.gY,amu rfl]at hb;refine⟨_,_,hrun,?_⟩;have I:=Xg hr (vs:=O.toList) (c:=O) (lo:=0) (hi:=0) (w':={w with heap:=w.heap.push (.cells O el)}) hb hm Y (fun i x hi=>by simpa using hi) rfl ⟨rfl,rfl,rfl⟩ (by omega) (fun _=>⟨rfl,rfl⟩);refine⟨I.1,I.2,?_⟩;simp only[aw];exact⟨_,_,by rw[<-b1];exact Gh.ou _ _ _ _,rfl⟩
    cases e
  cases e
 cases e
def QX {c:Int}(h0:0<=c)(h1:c<2^40):IntKind.i64.wrap c=c:=by
 have A:(IntKind.i64).bits=64:=rfl;have I:(IntKind.i64).signed=true:=rfl;simp only[wp,A,I,anf,aml];have:c % (2^64:Int)=c:=Int.emod_eq_of_lt h0 (by omega);rw[this,ifN]
def RJ {t el:TypeId}{kl kc:IntKind}{I A:Int}{i:TypeInfo}{O:Value}(hu:P.underlying t=some (.slice el))(hi:P.info? el=some i)(V:(zeroValue el).run P w= .ok O w)
 (c1:0<=I)(c2:I<=A)(c3:A<2^40)(c4:(i.bytes:Int)*A<=2^47):
 (Instr.makeSlice t (.int kl I) (.int kc A)).run P w= .ok (.slice (some ⟨w.heap.size,0,none⟩) I.toNat A.toNat)
   {w with heap:=w.heap.push (.cells ((Array.range (A.toNat*i.size)).map fun j=>O.cells[j % O.cells.size]!) el)}:=by
 have Y:kF P el=some i.size:=G1 hi;have J:=QX (c:=I) c1 (by omega);have U:=QX (c:=A) (by omega) c3;simp only[Instr.makeSlice,Sem.run_bind,aO hu,Result.andThen_ok,asInt,asIntOf,Sem.run_pure,I9 hi,J,U];have hd:(decide (A<0)||decide ((i.bytes:Int)*A>2^48))=false:=by simp only[apb,amk];omega
 rw[amt (by simp only[hd,aoD,anZ,aml];omega)];simp only[Sem.run_bind,run_askRoom,Result.andThen_ok,mZ Y]
 by_cases h0:A.toNat*i.size=0
 ·rw[amu h0,h0];have Z:Array.range 0=#[]:=rfl;simp[newRow,Z]
 rw[amt h0];simp[newRow,V]
def Cx (el:TypeId)(d:D):∀n,BL P el (List.replicate n d)=Mt (aH P el d) n
 |0=>rfl
 |n+1=>by rw[List.replicate_succ,MY,Cx el d n];rfl
def QA (hr:bq P g h w){b:Nat}{t:TypeId}{l c:BV}{l' c':Value}{v:BV}{h1 h2:ai}
 (hl:aw P g w l l')(hc:aw P g w c c')(e:wz P h1 t l c=some (v,h2))(hb:h.get b=h2.get h1.next)(b1:b=h1.next)(hm:g.m b=none):
 Q3 P g h w b v ((Instr.makeSlice t l' c').run P w):=by
 unfold wz at e
 split at e
 ·rename_i el kl li kc ci hu
  simp only[aw]at hl hc;subst hl hc
  split at e
  ·rename_i i z hi hz
   by_cases J:(cZ P el&&z.cells.all BV.one)=true
   ·rw[amu J]at e;simp only[amo]at J;obtain⟨hd,a6⟩:=J
    split at e
    ·rename_i d b4
     split at e
     ·rename_i A
      simp only[amo,aml]at A;obtain⟨⟨⟨c1,c2⟩,c3⟩,c4⟩:=A;simp only[amD,anC]at e;obtain⟨rfl,rfl⟩:=e;rw[ai.gY,amu rfl]at hb;obtain⟨U,d2,b6⟩:=Ja hz w;have d0:=(b6 g).cells a6;have Z:=D9 b4 d0;have O:P.cellsOf el=i.size:=qW (G1 hi);have d3:U.cells.size=i.size:=(by have:=qk.length hd Z;rw[O]at this;simpa using this);refine⟨_,_,RJ hu hi d2 c1 c2 c3 c4,?_⟩;have Y:=(gL hd).2.2.1;have d1:=qk.shape hd Z;have a8:dm P g.fz w el (List.replicate li.toNat d) ((Array.range (li.toNat*i.size)).map fun j=>U.cells[j % U.cells.size]!).toList:=by rw[Ao hd,Cx];have:=d1.Mt (by rw[(gL hd).2.2.2 d];exact Y) li.toNat;rw[(gL hd).2.2.2 d,O]at this;exact this
      have a7:=hr.real (w':={w with heap:=w.heap.push (.cells ((Array.range (ci.toNat*i.size)).map fun j=>U.cells[j % U.cells.size]!) el)}) hb hm rfl ⟨rfl,rfl,rfl⟩ (fun I=>by
       simp only[fO];refine⟨_,0,0,rfl,BF.zero _ _ _,_,a8.mono I.mf I.mc,fun j x hj=>?_⟩;have d4:li.toNat*i.size<=ci.toNat*i.size:=anF _ (by omega);rw[ans]at hj;have V:=(amL.1 hj).1;simp only[Array.size_map,Array.size_range]at V;rw[anr];simp only[ap5,apR,V,am5,amH,amD]at hj;simp only[ap5,apR,show j<ci.toNat*i.size by omega,am5,amH,amD]
       exact hj)
      refine⟨a7.1,a7.2,?_⟩;simp only[aw];refine .inr ⟨_,_,ci.toNat,by rw[<-b1];exact Gh.ou _ _ _ _,rfl,by omega,el,ci.toNat*i.size,by simp[World.shape?],by rw[O];omega⟩
     cases e
    cases e
   rw[amt J]at e;cases e
  cases e
 cases e
def RL {t:TypeId}{x v:BV}{O:Value}{i:Nat}(A:aw P g w x O)(e:IQ P t x i=some v):
 ∃J,(Instr.fieldAt t O i).run P w= .ok J w/\aw P g w v J:=by
 unfold IQ at e
 split at e
 ·rename_i fs V
  cases hf:fs[i]? with
  |none=>simp[hf]at e
  |some f=>
   simp only[hf]at e
   split at e
   ·rename_i n hs
    have hrun:∀a:Addr,(Instr.fieldAt t (.pointer (some a)) i).run P w= .ok (.pointer (some (a.add f.offset))) w:=fun a=>by simp only[Instr.fieldAt,Sem.run_bind,aO V,Result.andThen_ok,hf,Instr.sureAddr,Sem.run_pure,fieldPlace,mZ hs];rw[ifN];simp
    cases x with
    |ie b off=>simp only[amD]at e;subst e;simp only[aw]at A;obtain⟨aS,aD,I,rfl⟩:=A;refine⟨_,hrun _,?_⟩;simp only[aw,nW];exact⟨aS,aD,I,by rw[aof]⟩
    |ze cs=>simp only[amD]at e;subst e;simp only[aw]at A;obtain⟨aS,off,rfl,hf',vs,Y,hc⟩:=A;refine⟨_,hrun _,?_⟩;simp only[aw,nW];exact⟨aS,_,rfl,hf',vs.drop f.offset,Y.drop _,hc.drop⟩
    |yJ b Z j off=>simp only[amD]at e;subst e;simp only[aw]at A;obtain⟨aS,aD,I,rfl⟩:=A;refine⟨_,hrun _,?_⟩;simp only[aw,nW];exact⟨aS,aD,I,by simp only[aof]⟩
    |sW b f' k off=>simp only[amD]at e;subst e;simp only[aw]at A;obtain⟨aS,aD,I,rfl,U⟩:=A;refine⟨_,hrun _,?_⟩;simp only[aw,nW];exact⟨aS,aD,I,by simp only[aof],U⟩
    |_=>simp at e
   cases e
 cases e
def VI (w:World)(c:Array Value)(e:TypeId)(k:Nat):
 (World.freeze {w with heap:=w.heap.push (.cells c e (0,0))} ⟨w.heap.size,k,none⟩ 1)={w with heap:=w.heap.push (.cells c e (k,k+1))}:=by
 simp only[World.freeze];rw[ifN];congr 1;apply aoA;intro i;rw[aoh]
 by_cases A:w.heap.size=i
 ·subst A;simp
 rw[amt A,aou,aou,amt (fun e=>A e.symm),amt fun e=>A e.symm]
def Iz {el:TypeId}(h:ML P el=true):P.underlying el=some (.int .u8):=by
 unfold ML at h
 split at h
 ·assumption
 cases h
def Sk {el:TypeId}(I:P.underlying el=some (.int .u8))(l:List D):BL P el l=l.map fun d=>BV.int .u8 d.int:=by
 induction l with
 |nil=>rfl
 |cons a r A=>simp only[BL,apw,anb,aH,fq,I,apQ]at A ⊢;rw[A]
def Pz {el:TypeId}(A:P.underlying el=some (.int .u8))(s:List UInt8):ay P g w (BL P el (kf s)) (s.map fun x=>Value.int .u8 x.toNat):=by
 rw[Sk A,kf,apF];exact ay.map fun a _=>by simp[aw,D.int]
def Pr {el:TypeId}(hd:cZ P el=true)(A:P.underlying el=some (.int .u8)):P.cellsOf el=1:=by
 have h1:=(gL hd).2.2.2 (.z 0);simp only[aH,fq,A,apO]at h1;exact h1.symm
def ZK (Z:bq P g h w){b:Nat}{el:TypeId}{s:List UInt8}(hd:cZ P el=true)(V:P.underlying el=some (.int .u8))
 (hb:h.get b=some (.bY el (kf s) false))(hm:g.m b=none):Q3 P g h w b (.hY b s.length false) ((Conv.stringToBytes el ⟨s.toArray⟩).run P w):=by
 have Y:=Pr hd V;have hv:=Pz (P:=P) (g:=g) (w:=w) V s
 let q:Question:= .appendCap s.length 0 el
 let cap:=q.cut (w.tape w.drawn q)
 have U:s.length<=cap:=by show s.length<=Question.cut (.appendCap s.length 0 el) _;simp only[Question.cut];omega
 let c:Array Value:=(s.map fun x=>Value.int .u8 x.toNat).toArray++Array.replicate (cap-s.length) (.int .u8 0)
 have O:c.size=cap:=by simp[c];omega
 have hrun:(Conv.stringToBytes el ⟨s.toArray⟩).run P w= .ok (.slice (some ⟨w.heap.size,0,none⟩) s.length cap) {w with heap:=w.heap.push (.cells c el (cap,cap+1)),drawn:=w.drawn+1}:=by
  simp only[Conv.stringToBytes,Sem.run_bind,run_choose,Question.forced,amp,ann,Result.andThen_ok];have e1:(ByteArray.mk s.toArray).size=s.length:=by simp[ByteArray.size]
  simp only[e1,newRow,Sem.run_bind,run_newObj,Result.andThen_ok,Sem.run_pure,markStringish,run_shape];have e2:(Array.map (fun (b:UInt8)=>Value.int IntKind.u8 b.toNat) s.toArray++Array.replicate (Question.cut (.appendCap s.length 0 el) (w.tape w.drawn (.appendCap s.length 0 el))-s.length) (Value.int .u8 0))=c:=by simp[c,cap,q]
  rw[e2];have e3:World.shape? {w with drawn:=w.drawn+1,heap:=w.heap.push (.cells c el)} w.heap.size=some (el,cap):=by simp[World.shape?,O]
  simp only[e3,run_freeze,Result.andThen_ok];have:=VI {w with drawn:=w.drawn+1} c el cap;simp only at this;rw[this]
 refine⟨_,_,hrun,?_⟩
 have J:=Z.real (w':={w with heap:=w.heap.push (.cells c el (cap,cap+1)),drawn:=w.drawn+1}) hb hm rfl ⟨rfl,rfl,rfl⟩ (fun A=>by
  simp only[fO];refine⟨c,cap,cap+1,rfl,⟨fun i hi=>by omega,fun h=>by simp[ML,V]at h⟩,_,((Ao hd _ _).2 hv).mono A.mf A.mc,fun i x hi=>?_⟩;have I:=(amw.1 hi).1;simp only[amm]at I;simp only[c];rw[anr,apj (by simpa using I)]
  simpa using hi)
 refine⟨J.1,J.2,?_⟩;simp only[aw];refine .inr ⟨_,_,cap,Gh.ou _ _ _ _,rfl,U,el,cap,?_,by rw[Y];omega⟩;simp[World.shape?,O]
def AI {k:IntKind}{n:Int}:(asIntOf (.int k n)).run P w= .ok (k,n) w:=rfl
def MJ.ie {el:TypeId}{l:List D}{aS off i:Nat}(I:MJ P g.fz w el l aS off)(hd:cZ P el=true)(A:i<l.length):
 aw P g w (.ze (aH P el (D.at l i))) (.pointer (some (Addr.add ⟨aS,off,none⟩ (i*P.cellsOf el)))):=by
 obtain⟨hf,vs,J,hat⟩:=I;have O:=J.2 i (D.at l i) (by simp[D.at,List.getD,amr A]);simp only[aw,nW];exact⟨aS,_,rfl,hf,_,qk.shape hd O,hat.drop.take⟩
def RM {t:TypeId}{x V v:BV}{x' O:Value}(I:aw P g w x x')(hi:aw P g w V O)(e:kC P t x V=some v):
 ∃Z,(Instr.indexAt t x' O).run P w= .ok Z w/\aw P g w v Z:=by
 unfold kC at e
 cases V with
 |int k i=>
  simp only[aw]at hi;subst hi;dsimp only at e
  split at e
  ·cases e
  rename_i a6
  split at e
  ·rename_i el Y
   cases hs:kF P el with
   |none=>simp[hs]at e
   |some size=>
    simp only[hs]at e;have hrun:∀(a:Addr) (len c:Nat),i.toNat<len->(Instr.indexAt t (.slice (some a) len c) (.int k i)).run P w= .ok (.pointer (some (a.add (i.toNat*size)))) w:=fun a len c A=>by simp only[Instr.indexAt,Sem.run_bind,AI,Result.andThen_ok,aO Y,Sem.run_pure];rw[amu ⟨by omega,by omega⟩];simp[mZ hs]
    cases x with
    |bx e' l=>
     dsimp only at e
     split at e
     ·rename_i hc
      simp only[amo]at hc;obtain⟨he,hd⟩:=hc;have he:=amC he;subst he
      split at e
      ·rename_i A
       simp only[amD]at e;subst e;simp only[aw]at I;rcases I with ⟨rfl,_⟩| ⟨aS,off,c,rfl,_,J⟩
       ·simp at A
       refine⟨_,hrun _ _ _ A,?_⟩;rw[<-qW hs];exact J.ie hd A
      cases e
     cases e
    |IL e' l=>
     dsimp only at e
     split at e
     ·rename_i hc
      simp only[amo]at hc;obtain⟨he,hd⟩:=hc;have he:=amC he;subst he
      split at e
      ·rename_i A
       simp only[amD]at e;subst e;simp only[aw]at I;rcases I with ⟨rfl,_⟩| ⟨aS,off,rfl,J⟩
       ·simp at A
       refine⟨_,hrun _ _ _ A,?_⟩;rw[<-qW hs];exact J.ie hd A
      cases e
     cases e
    |hY b n vt=>
     dsimp only at e
     split at e
     ·split at e
      ·rename_i A
       simp only[amD]at e;subst e;simp only[aw]at I;rcases I with ⟨⟨_,rfl⟩,_⟩| ⟨aS,aD,c,U,rfl,_⟩
       ·omega
       refine⟨_,hrun _ _ _ A,?_⟩;simp only[aw,nW];exact⟨aS,aD,U,by rw[qW hs,anN]⟩
      cases e
     cases e
    |Z0 b n=>
     dsimp only at e
     split at e
     ·rename_i A
      simp only[amD]at e;subst e;simp only[aw]at I;obtain⟨aS,aD,U,rfl⟩:=I;refine⟨_,hrun _ _ _ A,?_⟩;simp only[aw,nW];exact⟨aS,aD,U,rfl⟩
     cases e
    |_=>simp at e
  ·rename_i len el Y
   cases hs:kF P el with
   |none=>simp[hs]at e
   |some size=>
    simp only[hs]at e
    cases x<;>try (cases e;done)
    rename_i b off
    dsimp only at e
    split at e
    ·rename_i A
     simp only[amD]at e;subst e;simp only[aw]at I;obtain⟨aS,aD,U,rfl⟩:=I;refine⟨.pointer (some (Addr.add ⟨aS,aD+off,none⟩ (i.toNat*size))),?_,?_⟩
     ·simp only[Instr.indexAt,Sem.run_bind,AI,Result.andThen_ok,aO Y,Instr.sureAddr,Sem.run_pure];rw[amu ⟨by omega,by omega⟩];simp[mZ hs]
     simp only[aw,nW];exact⟨aS,aD,U,by rw[aof]⟩
    cases e
  cases e
 |_=>simp at e
def adu {t:TypeId}{x O v:BV}{Y I:Value}(V:aw P g w x Y)(hi:aw P g w O I)(e:LY P t x O=some v):
 ∃U,(Instr.index t Y I).run P w= .ok U w/\aw P g w v U:=by
 unfold LY at e
 cases O with
 |int k i=>
  simp only[aw]at hi;subst hi;dsimp only at e
  split at e
  ·cases e
  rename_i Z
  split at e
  ·rename_i s hu
   simp only[aw]at V;subst V
   cases A:s[i.toNat]? with
   |none=>simp[A]at e
   |some c=>
    simp[A]at e;subst e;refine⟨.int .u8 c.toNat,?_,by simp[aw]⟩;simp only[Instr.index,Sem.run_bind,AI,Result.andThen_ok,aO hu];rw[ifP];obtain⟨J,a6⟩:=amw.1 A;have:(ByteArray.mk s.toArray)[i.toNat]?=some c:=by rw[getElem?_pos (ByteArray.mk s.toArray) i.toNat (by simpa [ByteArray.size]using J)];congr 1
    simp[this]
  cases e
 |_=>simp at e
def ads {t:TypeId}{x v:BV}{I:Value}{i:Nat}(J:aw P g w x I)(e:Yx P t x i=some v):
 ∃A,(Instr.field t I i).run P w= .ok A w/\aw P g w v A:=by
 unfold Yx at e
 split at e
 ·rename_i fs cs U
  cases hf:fs[i]? with
  |none=>simp[hf]at e
  |some f=>simp only[hf]at e;simp only[aw]at J;obtain⟨vs,rfl,O⟩:=J;obtain⟨A,h1,h2⟩:=K4 O e;refine⟨A,?_,h2⟩;simp[Instr.field,aO U,hf,asAgg,h1]
 cases e
end
end
end Go.PB
end
