import Derived.RangeFuncRecord
import Derived.Below
import Derived.Test.YtpanfgalkajgdaaGreatM3
set_option linter.all false
noncomputable section
namespace Go.PB
open Go
section
section
variable {P:Program} {g:Gh} {h h' hp:ai} {w:World} {lb ub:Nat}
def agX (P:Program)(g:Gh)(h:ai)(lb:Nat)(aZ:Array Oper)(cN:List BV)(dB:List Nat)(aN:List (Option BV))(ph:Nat->Option Nat)(rest:List Nat):Prop:=
 (∀i∈rest,∀o v,aZ[i]?=some o->ng o=false->aN[i]?=some (some v)->De aZ dB i/\NJ P g h h aZ cN aN (ph i) i o v)/\
 (∀i j b,ph i=some b->ph j=some b->i=j)/\(∀i b,ph i=some b->lb<=b/\b<h.next)
def adS (aZ:Array Oper)(aN:List (Option BV))(rest:List Nat):Prop:=
 ∀i∈rest,∀o,aZ[i]?=some o->ng o=false->sR aN i->∀k,fg (bj aZ) i k=true->sR aN k
def ad0 (aZ:Array Oper)(dB:List Nat)(aN:List (Option BV))(m:Nat):Prop:=
 ∀i,i<m->∀o,aZ[i]?=some o->ng o=false->De aZ dB i->sR aN i
def Fz {aN:List (Option BV)}{m k:Nat}(h:k≠m)(x:Option BV):(aN.set m x).getD k none=aN.getD k none:=by
 simp only[List.getD];rw[an1 (by omega)]
def Av {aN:List (Option BV)}{m k:Nat}{v:BV}(h:sR aN k):sR (aN.set m (some v)) k:=by
 obtain⟨u,A⟩:=h
 by_cases I:k=m
 ·subst I;exact⟨v,by rw[aoB (amw.1 A).1]⟩
 exact⟨u,by rw[an1 (by omega)];exact A⟩
def ahu (A:bq P g h w)(o:aE):HLe h (h.new o):=fun b I hb=>by
 have:=A.PJ _ _ hb;rw[ai.gY,ifN];exact hb
def Kh {aZ:Array Oper}{dB:List Nat}{i k:Nat}(A:∀(i:Nat) o,aZ[i]?=some o->∀e∈o.after.toList,Region.binds .any e=true->e.on<i)
 (J:De aZ dB i)(I:fg (bj aZ) i k=true):De aZ dB k:=fun e he=>by
 cases hb:fg (bj aZ) k e with
 |false=>rfl
 |true=>have:=Ya A _ _ _ I hb;rw[J e he]at this;cases this
def J3 {aZ:Array Oper}{cN:List BV}{dB rest:List Nat}(b6:∀(i:Nat) o,aZ[i]?=some o->∀e∈o.after.toList,Region.binds .any e=true->e.on<i)
 (d8:∀k∈rest,ahf aZ k->k∈dB){h':ai}{A:List (Option BV)}:
 ∀(n m:Nat) (h:ai) (aN:List (Option BV)) (ph:Nat->Option Nat),wy P aZ (bj aZ) cN dB (List.range' m n) h aN=some (h',A)->bq P g h w->
  agX P g h lb aZ cN dB aN ph rest->lb<=h.next->aN.length=aZ.size->m+n=aZ.size->adS aZ aN rest->ad0 aZ dB aN m->(∀i,i<aZ.size->¬sR aN i->i∈rest)->
  ∃b4,bq P g h' w/\mO g h w g h' w/\Ph g h g h'/\A.length=aZ.size/\(∀(i:Nat) v,aN[i]?=some (some v)->A[i]?=some (some v))/\agX P g h' lb aZ cN dB A b4 rest/\ad0 aZ dB A aZ.size:=by
 intro n
 induction n with
 |zero=>
  intro m h aN ph e hr hf d4 V e5 d1 a7 O;simp only[List.range'_zero,wy]at e
  cases e
  exact⟨ph,hr,mO.refl _ _ _,Ph.refl _ _,V,fun _ _ h=>h,hf,by rw[<-e5];simpa using a7⟩
 |succ n ih=>
  intro m h aN ph e hr hf d4 V e5 d1 a7 O;have d5:m<aZ.size:=by omega
  have ho:=am0 d5;generalize aZ[m]=o at ho;rw[List.range'_succ]at e;simp only[wy,ho]at e
  cases b1:aN.getD m none with
  |some u=>
   rw[b1]at e;have e2:sR aN m:=by have e6:m<aN.length:=(by omega);rw[List.getD,amr e6]at b1;exact⟨u,by rw[amr e6];simpa using b1⟩
   refine ih (m+1) h aN ph e hr hf d4 V (by omega) d1 (fun i hi o' ho' he hn=>?_) O
   by_cases U:i=m
   ·subst U;exact e2
   exact a7 i (by omega) o' ho' he hn
  |none=>
   rw[b1]at e;dsimp only at e;have Z:¬sR aN m:=fun ⟨v,hv⟩=>by rw[List.getD,hv]at b1;cases b1
   split at e
   ·rename_i hc
    refine ih (m+1) h aN ph e hr hf d4 V (by omega) d1 (fun i hi o' ho' he hn=>?_) O
    by_cases U:i=m
    ·subst U;rw[ho]at ho';cases ho';rw[he,aoD,aoM]at hc;obtain⟨e',h1,h2⟩:=hc;rw[hn e' h1]at h2;cases h2
    exact a7 i (by omega) o' ho' he hn
   rename_i hc
   rw[anZ,not_or]at hc;obtain⟨he,d0⟩:=hc;have he:ng o=false:=(by simpa using he);have d0:De aZ dB m:=fun e' h1=>by
    cases hb:fg (bj aZ) m e' with
    |false=>rfl
    |true=>exact absurd (aoM.2 ⟨e',h1,hb⟩) d0
   have e8:m∈rest:=O m d5 Z;have d3:∀k,fg (bj aZ) m k=true->sR aN k:=fun k hk=>by
    have g3:=Od b6 m k hk;apply anq;intro d2;have f9:=O k (by omega) d2;have e7:=am0 (show k<aZ.size by omega)
    cases e4:ng aZ[k]with
    |true=>have:=d8 k f9 ⟨_,e7,e4⟩;rw[d0 k this]at hk;cases hk
    |false=>exact d2 (a7 k g3 _ e7 e4 (Kh b6 d0 hk))
   have a6:∀(v:BV) (h1:ai) (Y:Nat->Option Nat),bq P g h1 w->mO g h w g h1 w->Ph g h g h1->h.next<=h1.next->
    wy P aZ (bj aZ) cN dB (List.range' (m+1) n) h1 (aN.set m (some v))=some (h',A)->
    (∀i∈rest,i≠m->∀o' u,aZ[i]?=some o'->ng o'=false->aN[i]?=some (some u)->NJ P g h1 h1 aZ cN aN (Y i) i o' u)->
    NJ P g h1 h1 aZ cN aN (Y m) m o v->
    (∀i j b,Y i=some b->Y j=some b->i=j)->(∀i b,Y i=some b->lb<=b/\b<h1.next)->
    ∃b4,bq P g h' w/\mO g h w g h' w/\Ph g h g h'/\A.length=aZ.size/\(∀(i:Nat) v,aN[i]?=some (some v)->A[i]?=some (some v))/\agX P g h' lb aZ cN dB A b4 rest/\ad0 aZ dB A aZ.size:=by
    intro v h1 Y d6 d7 g1 e9 e1 e0 e3 d9 g2
    obtain⟨b4,k1,k2,k3,k4,k5,k6,k7⟩:=ih (m+1) h1 (aN.set m (some v)) Y e1 d6 (by
     refine⟨fun i hi o' u ho' I J=>?_,d9,g2⟩
     by_cases U:i=m
     ·subst U;rw[aoB (by omega)]at J
      cases J
      rw[ho]at ho';cases ho';exact⟨d0,e3.congr fun k hk=>Fz (by have:=Od b6 _ _ hk;omega) _⟩
     ·rw[an1 (by omega)]at J;refine⟨(hf.1 i hi o' u ho' I J).1,(e0 i hi U o' u ho' I J).congr fun k hk=>Fz (fun e=>?_) _⟩;subst e;exact Z (d1 i hi o' ho' I ⟨u,J⟩ _ hk)) (by omega) (by simpa using V) (by omega) (by
     intro i hi o' ho' I J k hk
     by_cases U:i=m
     ·subst U;exact Av (d3 k hk)
     ·obtain⟨u,hu⟩:=J;rw[an1 (by omega)]at hu;exact Av (d1 i hi o' ho' I ⟨u,hu⟩ k hk)) (by
     intro i hi o' ho' I g4
     by_cases U:i=m
     ·subst U;exact⟨v,by rw[aoB (by omega)]⟩
     ·exact Av (a7 i (by omega) o' ho' I g4)) (by
     intro i hi d2
     exact O i hi fun hv=>d2 (Av hv))
    refine⟨b4,k1,d7.trans k2,g1.trans e9 k3,k4,fun i u hu=>?_,k6,k7⟩;refine k5 i u ?_;rw[an1 fun e=>?_];exact hu;subst e;exact Z ⟨u,hu⟩
   split at e
   ·rename_i hw
    cases a8:HB P h (nF aZ (bj aZ) cN aN m) o with
    |none=>rw[a8]at e;cases e
    |some q=>
     obtain⟨nx,h1⟩:=q;rw[a8]at e
     cases nx<;>try (cases e;done)
     rename_i v
     dsimp only at e
     cases ha:nw o with
     |false=>
      obtain⟨hh,_⟩:=YV (h':=h) (fun _ _ h=>h) he ha a8;subst hh;exact a6 v h1 ph hr (mO.refl _ _ _) (Ph.refl _ _) (amG _) e (fun i hi _ o' u ho' I J=>(hf.1 i hi o' u ho' I J).2)
       (.inr ⟨hw,.inl ⟨ha,a8⟩⟩) hf.2.1 hf.2.2
     |true=>
      obtain⟨_,ob,_,rfl,g0,hno⟩:=SG ha a8;obtain⟨d6,d7⟩:=hr.V9 ob hno;refine a6 v (h.new ob) (fun j=>if j=m then some h.next else ph j) d6 d7 (Ph.new ob) (by simp) e (fun i hi U o' u ho' I J=>?_) ?_ (fun i j b hi hj=>?_) (fun i b hi=>?_)
      ·obtain⟨_,g5⟩:=hf.1 i hi o' u ho' I J;simp only[amt U];rcases g5 with k1| ⟨k1,⟨k2,k3⟩| ⟨k2,a,b,k3,k4,k5,k6,k7⟩⟩
       ·exact .inl k1
       ·exact .inr ⟨k1,.inl ⟨k2,(YV (ahu hr ob) I k2 k3).2⟩⟩
       have:=(hf.2.2 i _ k3).2;have hg:(h.new ob).get a.next=h.get a.next:=(by rw[ai.gY,ifN]);exact .inr ⟨k1,.inr ⟨k2,a,b,k3,k4,k5,by rw[hg];exact k6,by rw[hg];exact k7⟩⟩
      ·simp only[amu];exact .inr ⟨hw,.inr ⟨ha,h,_,rfl,a8,hr.CM,rfl,by rw[ai.gY,amu rfl];exact g0⟩⟩
      ·by_cases h1:i=m
       ·by_cases h2:j=m
        ·rw[h1,h2]
        simp only[amu h1]at hi;simp only[amt h2]at hj
        cases hi
        exact absurd (hf.2.2 j _ hj).2 (aoE _)
       by_cases h2:j=m
       ·simp only[amt h1]at hi;simp only[amu h2]at hj
        cases hj
        exact absurd (hf.2.2 i _ hi).2 (aoE _)
       simp only[amt h1]at hi;simp only[amt h2]at hj;exact hf.2.1 i j b hi hj
      by_cases h1:i=m
      ·simp only[amu h1]at hi;cases hi;exact⟨d4,by simp⟩
      simp only[amt h1]at hi;have:=hf.2.2 i b hi;exact⟨this.1,by simp;omega⟩
   ·rename_i hw
    exact a6 BV.undef h ph hr (mO.refl _ _ _) (Ph.refl _ _) (amG _) e (fun i hi _ o' u ho' I J=>(hf.1 i hi o' u ho' I J).2) (.inl ⟨hw,rfl⟩) hf.2.1 hf.2.2
   cases e
def BV.Xo {u v:BV}(e:BV.Xn u v=true):u=v:=by
 unfold BV.Xn at e;simp only[anZ]at e;rcases e with e|e
 ·exact(abJ 40).1 _ _ e
 exact @of_decide_eq_true _ (Classical.propDecidable _) e
def RE {aZ:Array Oper}{cN:List BV}{aN:List (Option BV)}{x:Nat}:∀(J:List Nat),GX P aZ (bj aZ) cN aN x h J=true->
 ∀i∈J,∀o v,aZ[i]?=some o->aN[i]?=some (some v)->ng o=false->nw o=false->L4 o=true->fg (bj aZ) x i=false->
  nP o aZ (fun t=>some (qi aZ (bj aZ) cN aN i t))=some true->HB P h (nF aZ (bj aZ) cN aN i) o=some (.value v,h):=by
 intro J
 induction J with
 |nil=>intro _ i hi;cases hi
 |cons j J Z=>
  intro e i hi o v ho Y he V O hb hw;simp only[GX,amo]at e;obtain⟨I,e2⟩:=e;rcases amz.1 hi with rfl|hi
  ·have U:aN.getD i none=some v:=(by rw[List.getD,Y];rfl);rw[ho,U]at I;simp only[he,V,O,hb,hw,apa,anY,amp,ann]at I
   cases A:HB P h (nF aZ (bj aZ) cN aN i) o with
   |none=>rw[A]at I;cases I
   |some q=>
    obtain⟨nx,h1⟩:=q;rw[A]at I
    cases nx<;>try (cases I;done)
    have:=BV.Xo I;subst this;have:=(YV (h':=h) (fun _ _ h=>h) he V A).1;subst this;rfl
  exact Z e2 i hi o v ho Y he V O hb hw
end
end
section
section
variable {P:Program} {g:Gh} {h h' hp:ai} {w:World} {lb ub:Nat} {ph:Nat->Option Nat} {d d':Lr} {tmps:Array Value} {x:Nat} {r:List Nat} {o:Oper}
def ab0 (hr:bq P g h w)(hd:kN P g h w lb ub hp ph d tmps (x::r)){O:List Nat}(A:d.dB=x::O)(ho:d.aZ[x]?=some o)(h4:lb<=h.next)(g2:ub<=h.next)
 {v:BV}{v':Value}(hv:aw P g w v v')(e:Fo P d x v h=some (d',h')):
 ∃d2,bq P g h' w/\mO g h w g h' w/\Ph g h g h'/\d'.aZ=d.aZ/\d'.cN=d.cN/\kN P g h' w lb h'.next h' d2 d' (Hb tmps o.dst v') r:=by
 have e0:=pP hd.ok;have Z:∀(i:Nat) o,d.aZ[i]?=some o->∀e∈o.after.toList,Region.binds .any e=true->e.on<i:=fun i o ho=>(e0.1 i o ho).low;have f9:x∈d.dB:=by rw[A];simp
 obtain⟨_,ox,e5,h5⟩:=(hd.dB x).1 f9;rw[ho]at e5;cases e5;have e9:x<d.aZ.size:=hd.lt x (by simp);have a6:=(anp.1 hd.Bo).1;unfold Fo at e;dsimp only at e
 split at e
 ·rename_i g1
  simp only[am9]at e;obtain⟨⟨h1,U⟩,e,e2⟩:=e;simp only[anC]at e2;obtain⟨rfl,rfl⟩:=e2;rw[A,aoy,apd]at e;rw[apd]at g1;have d4:∀i,i≠x->(d.aN.set x (some v))[i]?=d.aN[i]?:=fun i hi=>by rw[an1 (by omega)]
  have g4:x<d.aN.length:=by rw[hd.adL];exact e9
  have d0:(d.aN.set x (some v))[x]?=some (some v):=by rw[aoB g4]
  have e3:agX P g h lb d.aZ d.cN O (d.aN.set x (some v)) ph r:=by
   refine⟨fun i hi o' u ho' I b6=>?_,hd.SI,fun i b hb=>⟨(hd.W4 i b hb).1,amX (hd.W4 i b hb).2 g2⟩⟩;have a7:i≠x:=fun e=>a6 (e▸hi);have e8:d.aN[i]?=some (some u):=(by rw[<-d4 i a7];exact b6);obtain⟨b4,d5⟩:=hd.BX i (by simp[hi]) o' u ho' I e8;have d3:∀k,fg (bj d.aZ) i k=true->(d.aN.set x (some v)).getD k none=d.aN.getD k none:=fun k hk=>Fz (fun e=>by subst e;rw[b4 _ f9]at hk;cases hk) _;refine⟨fun e' I=>b4 e' (by rw[A];simp[I]),?_⟩;refine NJ.congr d3 ?_;rcases d5 with k1| ⟨k1,⟨k2,k3⟩|k2⟩
   ·exact .inl k1
   ·refine .inr ⟨k1,.inl ⟨k2,?_⟩⟩
    cases e1:L4 o' with
    |false=>exact afx I k2 e1 k3 h
    |true=>refine RE _ g1 i ?_ o' u ho' e8 I k2 e1 (hd.ord.1 i (by simp[hi])) k1;rw[List.mem_range'_1];have:=hd.lt i (by simp[hi]);omega
   exact .inr ⟨k1,.inr k2⟩
  have Y:∀i,sR d.aN i->sR (d.aN.set x (some v)) i:=fun i h=>Av h;have g9:adS d.aZ (d.aN.set x (some v)) r:=by
   intro i hi o' ho' I b6 k hk;have a7:i≠x:=fun e=>a6 (e▸hi);obtain⟨u,V⟩:=b6;rw[d4 i a7]at V;have b4:=(hd.BX i (by simp[hi]) o' u ho' I V).1;have e4:k<d.aZ.size:=by have:=Od Z i k hk;have:=hd.lt i (by simp[hi]);omega
   by_cases J:k∈x::r
   ·have g0:=am0 e4
    cases e7:ng d.aZ[k]with
    |true=>have:=b4 k ((hd.dB k).2 ⟨J,_,g0,e7⟩);rw[this]at hk;cases hk
    |false=>exact Y k (hd.ready k J _ g0 e7 (Kh Z b4 hk))
   exact Y k (hd.aN k e4 J)
  have b1:∀i,i<d.aZ.size->¬sR (d.aN.set x (some v)) i->i∈r:=by
   intro i hi hn;apply anq;intro g7
   by_cases a7:i=x
   ·subst a7;exact hn ⟨v,d0⟩
   exact hn (Y i (hd.aN i hi (by simp[a7,g7])))
  have d1:∀k∈r,ahf d.aZ k->k∈O:=by
   intro k hk he;have:=(hd.dB k).2 ⟨by simp[hk],he⟩;rw[A]at this;rcases amz.1 this with rfl|h1
   ·exact absurd hk a6
   exact h1
  obtain⟨d2,k1,k2,k3,k4,k5,k6,k7⟩:=J3 Z d1 d.aZ.size 0 h _ ph e hr e3 h4 (by simpa using hd.adL) (by omega) g9 (fun i hi=>by omega) b1;refine⟨d2,k1,k2,k3,rfl,rfl,?_⟩
  exact{
   ok:=hd.ok
   TH:=hd.TH
   size:=by unfold Hb;split<;>simp[hd.size]
   adL:=k4
   Bo:=(anp.1 hd.Bo).2
   lt:=fun j hj=>hd.lt j (by simp[hj])
   ord:=hd.ord.2
   dc:=fun j hj hn k hk=>by
    by_cases d9:j=x
    ·subst d9;intro hm;have:=hd.ord.1 k (by simp[hm]);rw[this]at hk;cases hk
    intro hm;exact hd.dc j hj (by simp[d9,hn]) k hk (by simp[hm])
   dB:=fun e'=>by
    simp only[A,aoy];constructor
    ·intro h1;obtain⟨h2,h3⟩:=(hd.dB e').1 (by rw[A];simp[h1]);refine⟨?_,h3⟩;rcases amz.1 h2 with rfl|h2
     ·exfalso;have hp:=hd.Dt;rw[A]at hp;have:=Od Z _ _ ((an9.1 hp).1 _ h1);omega
     exact h2
    rintro⟨h1,h2⟩;exact d1 _ h1 h2
   Dt:=by have hp:=hd.Dt;rw[A]at hp;simp only[A,aoy];exact(an9.1 hp).2
   aN:=fun j hj hn=>by have:sR (d.aN.set x (some v)) j:=anq fun h=>hn (b1 j hj h);obtain⟨u,V⟩:=this;exact⟨u,k5 j u V⟩
   Ir:=fun t u V=>by
    by_cases a8:o.dst=some t
    ·have hw:=(e0.1 x o ho).dst t a8;have d7:iM d.aZ d.cN U r t=v:=(by unfold iM;rw[hw];dsimp only;rw[amt a6,List.getD,k5 x v d0];rfl);show aw P g w (iM d.aZ d.cN U r t) u;rw[d7];have g5:=AU hd.TH ho a8;have:u=v':=by
      unfold Hb at V;rw[a8]at V;dsimp only at V;rw[amV (by rw[hd.size];exact g5)]at V
      cases V;rfl
     rw[this];exact hv
    have g6:tmps[t]?=some u:=by
     unfold Hb at V
     cases d8:o.dst with
     |none=>rw[d8]at V;exact V
     |some t'=>
      rw[d8]at V a8;dsimp only at V
      rwa [anc fun e=>a8 (by rw[e])]at V
    have d7:iM d.aZ d.cN U r t=iM d.aZ d.cN d.aN (x::r) t:=by
     unfold iM
     cases hw:gz d.aZ t with
     |none=>rfl
     |some k=>
      dsimp only;obtain⟨o',ho',g3⟩:=r6 hw;have d6:k≠x:=fun e=>by subst e;rw[ho]at ho';cases ho';exact a8 g3
      by_cases J:k∈r
      ·rw[amu J,amu (by simp[J])]
      rw[amt J,amt (by simp[J,d6])];obtain⟨u',e6⟩:=hd.aN k (amL.1 ho').1 (by simp[J,d6]);have:=k5 k u' (by rw[d4 k d6];exact e6);rw[List.getD,List.getD,this,e6]
    show aw P g w (iM d.aZ d.cN U r t) u;rw[d7];exact hd.Ir t u g6
   ready:=fun j hj o' ho' I hn=>by have g8:De d.aZ O j:=(by simpa only[A,aoy]using hn);exact k7 j (hd.lt j (by simp[hj])) o' ho' I g8
   BX:=fun j hj o' u ho' I b6=>by have:=k6.1 j hj o' u ho' I b6;simpa only[A,aoy]using this
   SI:=k6.2.1
   W4:=k6.2.2}
 cases e
def abZ (hr:bq P g h w){aZ:Array Oper}{dw:List BV}(hv:ay P g w dw tmps.toList)(a6:LQ aZ=true)(b1:LR aZ dw.length=true)(d1:lb<=h.next)(t:Nat){aN:List (Option BV)}
 (e:wy P aZ (bj aZ) dw (tW aZ) (List.range aZ.size) h (List.replicate aZ.size none)=some (h',aN)):
 ∃ph,bq P g h' w/\mO g h w g h' w/\Ph g h g h'/\kN P g h' w lb h'.next h' ph {aZ,cN:=dw,aN,dB:=tW aZ} tmps (Region.linearise .any aZ t):=by
 have a7:=pP a6;have J:∀(i:Nat) o,aZ[i]?=some o->∀e∈o.after.toList,Region.binds .any e=true->e.on<i:=fun i o ho=>(a7.1 i o ho).low
 have Y:=VU J aZ.size t (Array.replicate aZ.size false) (by simp) (fun i hi=>by
  rw[aoQ]at hi;split at hi<;>cases hi)
 obtain⟨l1,l2,l3,l4⟩:=Y
 have A:∀i,i<aZ.size->i∈Region.linearise .any aZ t:=fun i hi=>l4 (by
  simp only[aoW]
  exact am8 (apN _ _) (by simp)) i (by rw[aoQ,amu hi])
 have V:∀i∈Region.linearise .any aZ t,i<aZ.size:=fun i hi=>by
  have:=l2 i hi;rw[aoQ]at this
  split at this
  ·assumption
  cases this
 rw[apd]at e;have I:∀(i:Nat) v,(List.replicate aZ.size (none:Option BV))[i]?≠some (some v):=fun i v h=>by rw[anQ]at h;split at h<;>cases h
 have O:∀e,e∈tW aZ↔ahf aZ e:=fun e=>by
  unfold tW;rw[apJ,ao2];constructor
  ·rintro⟨h1,h2⟩;exact⟨_,am0 h1,by simpa [am0 h1]using h2⟩
  rintro⟨o,h1,h2⟩;exact⟨(amL.1 h1).1,by simpa [h1]using h2⟩
 obtain⟨a8,k1,k2,k3,k4,k5,k6,k7⟩:=J3 (P:=P) (g:=g) (w:=w) (lb:=lb) (rest:=Region.linearise .any aZ t) J (fun k _ he=>(O k).2 he) aZ.size 0 h _ (fun _=>none) e hr
  ⟨fun i _ o v _ _ h=>absurd h (I i v),(fun i j b h=>by cases h),fun i b h=>by cases h⟩ d1 (by simp) (by omega)
  (fun i _ o _ _ ⟨v,hv⟩=>absurd hv (I i v)) (fun i hi=>by omega) (fun i hi _=>A i hi)
 refine⟨a8,k1,k2,k3,?_⟩
 exact{
  ok:=a6
  TH:=b1
  size:=by have:=hv.length;simpa using this
  adL:=k4
  Bo:=l1
  lt:=V
  ord:=l3
  dc:=fun i hi Z=>absurd (A i hi) Z
  dB:=fun e=>by
   rw[O];constructor
   ·intro h1;obtain⟨o,h2,h3⟩:=h1;exact⟨A e (amL.1 h2).1,o,h2,h3⟩
   exact fun h=>h.2
  Dt:=a7.2
  aN:=fun i hi Z=>absurd (A i hi) Z
  Ir:=fun s u hu=>by
   have d0:iM aZ dw aN (Region.linearise .any aZ t) s=dw.getD s BV.undef:=by
    unfold iM
    cases hw:gz aZ s with
    |none=>rfl
    |some k=>dsimp only;obtain⟨o',ho',_⟩:=r6 hw;rw[amu (A k (amL.1 ho').1)]
   show aw P g w (iM aZ dw aN (Region.linearise .any aZ t) s) u;rw[d0];obtain⟨b,hb,b4⟩:=hv.ajK (show tmps.toList[s]?=some u by simpa using hu);rw[List.getD,hb];exact b4
  ready:=fun j hj o' ho' U Z=>k7 j (V j hj) o' ho' U Z
  BX:=fun j hj o' u ho' U b6=>k6.1 j hj o' u ho' U b6
  SI:=k6.2.1
  W4:=k6.2.2}
def J2 {aZ:Array Oper}{aN:List (Option BV)}:∀(l:List BV) (t s:Nat) (y:BV),l[s]?=some y->
 (rL aZ aN t l)[s]?=some (match gz aZ (t+s)with|some k=>(aN.getD k none).getD .qd|none=>y):=by
 intro l
 induction l with
 |nil=>intro t s y h;simp at h
 |cons a l A=>
  intro t s y h
  cases s with
  |zero=>simp at h;subst h;simp only[rL,anP,anN];cases gz aZ t<;>rfl
  |succ s=>simp at h;have:=A (t+1) s y h;simp only[rL,anO];rw[this];have e:t+1+s=t+(s+1):=(by omega);rw[e]
def sn {aZ:Array Oper}{aN:List (Option BV)}:∀(l:List BV) (t:Nat),(rL aZ aN t l).length=l.length:=by
 intro l
 induction l with
 |nil=>intro t;rfl
 |cons a l A=>intro t;simp[rL,A]
def aey (hd:kN P g h w lb ub hp ph d tmps []):ay P g w (rL d.aZ d.aN 0 d.cN) tmps.toList:=by
 refine ay.vi (by rw[sn];simpa using hd.size) fun i b v hb I=>?_;have A:i<d.cN.length:=by have:=(amw.1 hb).1;rw[sn]at this;exact this
 have:=J2 (aZ:=d.aZ) (aN:=d.aN) d.cN 0 i _ (amr A);rw[hb]at this;have hs:=hd.Ir i v (by simpa using I)
 cases this
 unfold iM at hs;simp only[anr]
 cases hw:gz d.aZ i with
 |none=>rw[hw]at hs;dsimp only at hs;rw[List.getD,amr A]at hs;exact hs
 |some k=>rw[hw]at hs;dsimp only at hs;rw[amt (by simp)]at hs;exact hs
end
end
section
section
variable {P:Program} {g g':Gh} {h h':ai} {w w':World} {lb ub:Nat} {aD:sN} {b b':bE} {f:Frame}
def oR.akG (hf:oR P g h w lb ub false b f)(O:b.mode= .run):∀d r J rest x,f.todo≠ .call d x r J::rest:=by
 intro d r J rest x e;have:=hf.run O;unfold gK at this
 split at this
 ·obtain⟨_,I,k',h1,_⟩:=this;rw[h1]at e;cases e
 obtain⟨_,h1⟩:=this;rw[e]at h1
 cases ht:b.todo with
 |nil=>rw[ht]at h1;simp only[cM]at h1;cases h1
 |cons i k=>
  rw[ht]at h1;simp only[cM]at h1;obtain⟨V,U,h2,A,_⟩:=h1
  cases h2
  cases i<;>simp only[kY]at A<;>first
   | (cases A;done)
   | (obtain⟨_,_,A⟩:=A;cases A;done)
   |exact A
def D6 (hr:bq P g h w)(hf:oR P g h w lb ub false b f)(d0:lb<=h.next)(b6:ub<=h.next){v:BV}{v':Value}(hv:aw P g w v v')(e:qB P b v h=some (b',h')):
 bq P g h' w/\mO g h w g h' w/\Ph g h g h'/\oR P g h' w lb h'.next true b' (f.finish v')/\h.next<=h'.next:=by
 unfold qB at e
 split at e
 case h_2=>cases e
 rename_i U
 have hrun:=hf.run U;obtain⟨Y,O,ftodo,A,a8,J,I⟩:=f;have b4:a8= .run:=by have:=hf.mode;rw[U]at this;exact this
 subst b4
 split at e
 ·rename_i aZ i rest k ht
  cases e
  unfold gK at hrun;rw[ht]at hrun;dsimp only at hrun;obtain⟨h1,h2⟩:=hrun;simp only[cM]at h2;obtain⟨it,ir,a7,h3,h4⟩:=h2;simp only[kY]at h3;subst h3 a7;refine⟨hr,mO.refl _ _ _,Ph.refl _ _,?_,amG _⟩;have V:(Frame.finish {fn:=Y,tmps:=O,todo:= .inRegion aZ (i::rest)::ir,defers:=A,mode:= .run,kind:=J,roundOf:=I} v')=
   {fn:=Y,tmps:=Hb O ((aZ[i]?).bind (·.dst)) v',todo:= .inRegion aZ rest::ir,defers:=A,mode:= .run,kind:=J,roundOf:=I}:=by
   simp only[Frame.finish]
   cases (aZ[i]?).bind (·.dst)<;>rfl
  rw[V];refine⟨hf.fn,hf.kind,hf.tz,hf.defers,hf.mode,hf.round,fun _=>?_,fun hn=>absurd U hn⟩;unfold gK;dsimp only;exact⟨af6 h1 hv _,_,_,rfl,rfl,h4⟩
 ·rename_i d k ht
  split at e
  ·rename_i x dB he
   simp only[am9]at e;obtain⟨⟨d',h1⟩,e1,e2⟩:=e;simp only[anC]at e2;obtain⟨rfl,rfl⟩:=e2;unfold gK at hrun;rw[ht]at hrun;dsimp only at hrun;obtain⟨h2,rest,k',a7,h3,hp,_,⟨ph,hd⟩,h5⟩:=hrun;subst a7;obtain⟨x',r,a6,Z⟩:=h5 rfl;rw[he]at Z;simp at Z;subst Z a6;obtain⟨o,ho,_⟩:=((hd.dB x).1 (by rw[he];simp)).2;obtain⟨b1,k1,k2,k3,k4,k5,k6⟩:=ab0 hr hd he ho d0 b6 hv e1;refine⟨k1,k2,k3,?_,k2.next⟩;have V:(Frame.finish {fn:=Y,tmps:=O,todo:= .inRegion d.aZ (x::r)::k',defers:=A,mode:= .run,kind:=J,roundOf:=I} v')=
    {fn:=Y,tmps:=Hb O o.dst v',todo:= .inRegion d.aZ r::k',defers:=A,mode:= .run,kind:=J,roundOf:=I}:=by
    simp only[Frame.finish,ho,anT]
    cases o.dst<;>rfl
   rw[V];refine⟨hf.fn,hf.kind,hf.tz,hf.defers,hf.mode,hf.round,fun _=>?_,fun hn=>absurd U hn⟩;unfold gK;dsimp only;refine⟨by rw[k5];exact h2,r,k',by rw[k4],h3,h1,fun _=>rfl,⟨b1,k6⟩,fun h=>by cases h⟩
  cases e
 cases e
def JW {I:FuncId}{args:List BV}{args':Array Value}{kind:CallKind}(Z:kind= .normal\/kind= .deferred)(V:ay P g w args args'.toList)(e:fj P I args kind=some b):
 oR P g h w lb ub true b (Frame.enter P I args' kind):=by
 unfold fj at e
 split at e
 ·rename_i fn U
  split at e
  ·rename_i c hb
   cases e
   have J:args'.size=args.length:=(by have:=V.length;simpa using this);have A:ay P g w (args++List.replicate (fn.ntmps-args.length) BV.undef) (args'++Array.replicate (fn.ntmps-args'.size) undef).toList:=by
    rw[aow,aoW,J];refine ay.append V ?_;refine ay.vi (by simp) fun i b v hb O=>?_;rw[anQ]at hb O
    split at hb
    ·rename_i hc
     rw[amu hc]at O
     cases hb;cases O;exact aw.undef
    cases hb
   unfold Frame.enter;simp only[U,amH,anI,anT,hb];refine⟨rfl,rfl,Z,by simp[mL],rfl,by simp[Cf],fun _=>?_,fun Y=>absurd rfl Y⟩;unfold gK;dsimp only;exact⟨A,_,_,rfl,rfl,by simp[cM]⟩
  cases e
 cases e
end
end
section
section
variable {P:Program} {g g':Gh} {h h':ai} {w w':World} {lb ub:Nat} {aD:sN} {b b':bE} {f:Frame} {bs:List bE} {cs:List Frame}
def E0 (P:Program)(aD:sN)(g:Gh)(h:ai)(w:World)(s':av)(r:GStep):Prop:=
 ∃g' w' I f' A,r.bare= .go {frame:=f',callers:=A,status:= .running,dying:=none} w'/\Q4 P aD g' w' I s' f' A/\mO g h w g' s'.h w'
def E0.ext {J:Gh}{h0:ai}{O:World}(e:mO J h0 O g h w){s':av}{r:GStep}(h':E0 P aD g h w s' r):E0 P aD J h0 O s' r:=by
 obtain⟨g',w',I,f',A,h1,h2,U⟩:=h';exact⟨g',w',I,f',A,h1,h2,e.trans U⟩
def qT (O:bq P g h w)(A:lb<=h.next)(I:ub<=h.next)(hf:oR P g h w lb ub false b f)(hc:pA P g h w aD lb bs cs){v:BV}{J:Value}(Y:aw P g w v J)
 {s':av}(e:((qB P b v h).map fun (fr,h)=>({fr,cs:=bs,h}:av))=some s'){r:GStep}(hb:r.bare= .go {frame:=f.finish J,callers:=cs,status:= .running,dying:=none} w):E0 P aD g h w s' r:=by
 simp only[am9]at e;obtain⟨⟨b',h'⟩,V,rfl⟩:=e;obtain⟨h1,h2,U,Z,h5⟩:=D6 O hf A I Y V;exact⟨g,w,lb,_,cs,hb,⟨h1,am8 A h5,Z,hc.mono h2.mono (U.lt A)⟩,h2⟩
def Mw (hr:bq P g h w)(a7:lb<=h.next)(hf:oR P g h w lb h.next false b f)(A:b.mode= .run)(hc:pA P g h w aD lb bs cs){s:Sem Next}{n:bP}{h1:ai}
 (a6:mM P g h w n h1 (s.run P w)){s':av}(e:sS P b bs .normal (n,h1)=some s'):E0 P aD g h w s' (stepG.apply P true f cs none s w):=by
 obtain⟨g1,w1,U,Y,p1,hn⟩:=a6;have I:=hf.mono Y.mono (p1.lt (amG _));have V:=hc.mono Y.mono (p1.lt a7);have J:lb<=h1.next:=am8 a7 Y.next;have d1:f.mode= .run:=by have:=hf.mode;rw[A]at this;exact this
 refine E0.ext Y ?_
 cases n with
 |value v=>obtain⟨v',hv,b6⟩:=hn;exact qT U J Y.next I V b6 e (Tg hv)
 |skip=>exact qT U J Y.next I V aw.undef e (X2 hn)
 |enter d2 args=>obtain⟨args',hv,ha⟩:=hn;simp only[sS,am9]at e;obtain⟨c,e1,rfl⟩:=e;refine⟨g1,w1,h.next,_,_,ag4 hv (hf.akG A),⟨U,Y.next,JW (.inl rfl) ha e1,?_⟩,mO.refl _ _ _⟩;simp only[pA];exact⟨f,cs,lb,rfl,a7,I,V⟩
 |defer d=>
  obtain⟨d',hv,hd⟩:=hn;have d0:oR P g1 h1 w1 lb h.next false {b with defers:=d::b.defers} {f with defers:=d'::f.defers}:=
   ⟨I.fn,I.kind,I.tz,⟨_,_,rfl,hd,I.defers⟩,I.mode,I.round,I.run,I.dw⟩
  simp only[sS]at e
  split at e
  ·cases e
  exact qT U J Y.next d0 V aw.undef e (ag3 hv)
 |recover=>
  simp only[sS]at e
  split at e
  ·cases e
  rename_i a8
  simp only[anZ,not_or,Bool.not_eq_true,apo,List.isEmpty_eq_false_iff]at a8;have b1:f.roundOf=none:=hf.round.2;have O:=abH (P:=P) (cs:=cs) (f:=f) b1 hn;have Z:tryRecover f cs=none:=by
   cases bs with
   |nil=>simp at a8
   |cons cb rb=>
    simp only[pA]at hc;obtain⟨c,cr,d3,rfl,_,h2,_⟩:=hc;have A:=h2.mode;unfold tryRecover;rw[<-hf.kind];rcases hf.tz with hk|hk<;>rw[hk]
    cases b4:cb.mode<;>rw[b4]at A<;>simp only[r7]at A<;>simp only[A]
  rw[Z]at O;exact qT U J Y.next I V (by simp[aw]) e O
def oR.ak0 {top:Bool}(hf:oR P g h w lb ub top b f)(O:b.mode≠ .run)(J I:Nat)(A:Bool):oR P g h w J I A b f:=
 ⟨hf.fn,hf.kind,hf.tz,hf.defers,hf.mode,hf.round,fun h=>absurd h O,hf.dw⟩
def UM (Y:bq P g h w)(J:lb<=h.next)(hk:b.kind=f.kind)(hc:pA P g h w aD lb bs cs){v:BV}{V:Value}(hv:aw P g w v V){s':av}(e:zw P b bs v h=some s'):
 E0 P aD g h w s' (doReturn P true f cs none V w):=by
 unfold zw at e
 split at e
 ·rename_i cb rb
  simp only[pA]at hc;obtain⟨c,cr,U,rfl,h1,h2,Z⟩:=hc
  split at e
  ·rename_i I
   refine qT Y (am8 h1 J) J h2 Z hv e ?_;unfold doReturn;rw[<-hk,I];rfl
  ·rename_i I
   split at e
   ·rename_i O
    cases e
    have A:=h2.mode;rw[O]at A;simp only[r7]at A;refine⟨g,w,U,c,cr,?_,⟨Y,am8 h1 J,h2.ak0 (by rw[O];exact fun h=>by cases h) _ _ _,Z⟩,mO.refl _ _ _⟩;unfold doReturn;rw[<-hk,I];dsimp only;rw[A];rfl
   cases e
  cases e
 cases e
def adv (hr:bq P g h w)(V:lb<=h.next)(hf:oR P g h w lb h.next true b f)(U:b.mode= .run)(O:ay P g w b.dw f.tmps.toList)(hc:pA P g h w aD lb bs cs){A:Option Code}{s':av}
 (e:Af P b bs h A=some s'){r:GStep}
 (J:f.roundOf=none->(A=none\/A=some .ret)->r.bare= .go {frame:={f with mode:= .returning},callers:=cs,status:= .running,dying:=none} w):E0 P aD g h w s' r:=by
 unfold Af at e;have Y:=hf.round
 split at e
 ·have I:∀s',some ({fr:={b with mode:= .returning},cs:=bs,h:=h}:av)=some s'->(A=none\/A=some .ret)->E0 P aD g h w s' r:=by
   intro s' e Z
   cases e
   refine⟨g,w,lb,_,cs,J Y.2 Z,⟨hr,V,?_,hc⟩,mO.refl _ _ _⟩;exact⟨hf.fn,hf.kind,hf.tz,hf.defers,rfl,hf.round,(fun h=>by cases h),fun _=>O⟩
  split at e
  ·exact I _ e (.inl rfl)
  ·exact I _ e (.inr rfl)
  cases e
 cases e
end
end
section
section
variable {P:Program} {g g':Gh} {h h':ai} {w w':World} {lb ub:Nat} {aD:sN} {b b':bE} {f:Frame} {bs:List bE} {cs:List Frame}
def aeU {dw:List BV}{tmps:Array Value}(A:ay P g w dw tmps.toList)(t:Nat):aw P g w (dw.getD t BV.undef) (tmps.getD t undef):=by
 have:=Of A {(default:Frame)with tmps:=tmps} rfl (.tmp t);simpa only[AV,Frame.eval]using this
def Nv (hr:bq P g h w){fn:Func}{dw:List BV}{tmps:Array Value}(Z:ay P g w dw tmps.toList){v:BV}(e:Gk P h fn dw=some v):
 ∃J,(results fn tmps).run P w= .ok J w/\aw P g w v J:=by
 have key:∀(l:List ResultVar) (vs:List BV),(l.mapM fun| .tmp t=>some (dw.getD t BV.undef)| .cell a t=>Ag P h t (dw.getD a BV.undef))=some vs->
  ∃A,(l.mapM (fun| .tmp t=>pure (tmps.getD t undef)| .cell a t=>do loadVar t (<-asAddr (tmps.getD a undef)):ResultVar->Sem Value)).run P w= .ok A w/\ay P g w vs A:=by
  intro l
  induction l with
  |nil=>intro vs e;simp at e;subst e;exact⟨[],by simp,by simp[ay]⟩
  |cons x l ih=>
   intro vs e;simp only[apV,Option.bind_eq_bind,apA,Option.pure_def,amD]at e;obtain⟨y,h1,ys,h2,rfl⟩:=e;obtain⟨A,h3,h4⟩:=ih ys h2;have hx:∃u,((fun| .tmp t=>pure (tmps.getD t undef)| .cell a t=>do loadVar t (<-asAddr (tmps.getD a undef)):ResultVar->Sem Value) x).run P w= .ok u w/\aw P g w y u:=by
    cases x with
    |tmp t=>simp only[amD]at h1;subst h1;exact⟨_,by simp,aeU Z t⟩
    |cell a t=>obtain⟨ad,J,ha,hl,V⟩:=Nt hr (aeU Z a) h1;refine⟨J,?_,V⟩;dsimp only;rw[ha];simp[asAddr,hl]
   obtain⟨u,k1,k2⟩:=hx;refine⟨u::A,?_,by simp only[ay];exact⟨u,A,rfl,k2,h4⟩⟩;rw[apV];refine(Sem.run_bind P w _ _).trans ?_;rw[k1,Result.andThen_ok];refine(Sem.run_bind P w _ _).trans ?_;rw[h3,Result.andThen_ok];simp
 unfold Gk at e;have I:∀A,((fn.results.toList).mapM (fun| .tmp t=>pure (tmps.getD t undef)| .cell a t=>do loadVar t (<-asAddr (tmps.getD a undef)):ResultVar->Sem Value)).run P w= .ok A w->
  (results fn tmps).run P w= .ok (if h:A.toArray.size=1 then A.toArray[0]else .tuple A.toArray) w:=by
  intro A U;unfold results;refine(Sem.run_bind P w _ _).trans ?_;rw[apq];have:((Functor.map List.toArray ((fn.results.toList).mapM (fun| .tmp t=>pure (tmps.getD t undef)| .cell a t=>do loadVar t (<-asAddr (tmps.getD a undef)):ResultVar->Sem Value))):Sem (Array Value)).run P w= .ok A.toArray w:=by rw[map_eq_pure_bind];refine(Sem.run_bind P w _ _).trans ?_;rw[U,Result.andThen_ok];simp
  exact(amZ (fun r=>Result.andThen r fun a w'=>Sem.run P (pure (if h:a.size=1 then a[0]else Value.tuple a)) w') this).trans rfl
 split at e
 ·rename_i x Y
  cases e
  obtain⟨A,h1,h2⟩:=key _ _ Y;obtain⟨u,rfl,hu⟩:=ay.one (by simpa using h2);exact⟨u,by rw[I _ h1];simp,hu⟩
 ·rename_i vs O Y
  cases e
  obtain⟨A,h1,h2⟩:=key _ _ Y;refine⟨.tuple A.toArray,?_,by simp only[aw];exact⟨_,rfl,by simpa using h2⟩⟩;rw[I _ h1,dif_neg];intro hs;have hl:=h2.length;simp only[List.size_toArray]at hs
  cases vs with
  |nil=>simp at hl;simp[hl]at hs
  |cons a r=>
   cases r with
   |nil=>exact O a rfl
   |cons b r=>simp at hl;omega
 cases e
def ZZ (hr:bq P g h w)(b6:lb<=h.next)(hf:oR P g h w lb h.next true b f)(U:b.mode≠ .run)(hc:pA P g h w aD lb bs cs){s':av}(e:BB P b bs h=some s'):
 E0 P aD g h w s' (unwind P true f cs none w):=by
 have a6:=hf.dw U;obtain⟨Z,J,ftodo,d4,O,I,A⟩:=f;have V:=hf.defers;have a7:=hf.mode;unfold BB at e
 split at e
 ·rename_i d ds b4
  rw[b4]at V;simp only[mL]at V;obtain⟨d',dr,e4,⟨ht,ha⟩,e7⟩:=V;subst e4;obtain⟨Y,args⟩:=d';dsimp only at ht ha;have d6:∀r,Y≠ .collected r:=fun r a8=>by
   subst a8
   cases b1:d.target<;>rw[b1]at ht<;>simp only[Ef]at ht<;>first
    | (cases ht;done)
    | (obtain⟨_,ht,_⟩:=ht;cases ht;done)
  have d0:Y≠ .nil:=fun a8=>by
   subst a8
   cases b1:d.target<;>rw[b1]at ht<;>simp only[Ef]at ht<;>first
    | (cases ht;done)
    | (obtain⟨_,ht,_⟩:=ht;cases ht;done)
    | (obtain⟨_,_,ht⟩:=ht;cases ht;done)
  have d5:unwind P true {fn:=Z,tmps:=J,todo:=ftodo,defers:=⟨Y,args⟩::dr,mode:=O,kind:=I,roundOf:=A} cs none w=
   callDeferred P {fn:=Z,tmps:=J,todo:=ftodo,defers:=dr,mode:=O,kind:=I,roundOf:=A} cs none ⟨Y,args⟩ w:=by
   cases Y<;>first
    |rfl
    |exact absurd rfl (d6 _)
  rw[d5];have hf':oR P g h w lb h.next true {b with defers:=ds} {fn:=Z,tmps:=J,todo:=ftodo,defers:=dr,mode:=O,kind:=I,roundOf:=A}:=
   ⟨hf.fn,hf.kind,hf.tz,e7,hf.mode,hf.round,fun h=>absurd h U,fun _=>a6⟩
  split at e
  ·rename_i e9 e5 h1 hi
   obtain⟨g1,w1,e2,x1,p1,hn⟩:=QI hr ht ha hi;have d7:oR P g1 h1 w1 lb h.next false {b with defers:=ds} _:=(hf'.ak0 U lb h.next false).mono x1.mono (p1.lt (amG _));have e8:=hc.mono x1.mono (p1.lt b6);obtain⟨args',hv,d9⟩:=hn;simp only[am9]at e;obtain⟨c,e1,rfl⟩:=e;refine⟨g1,w1,h.next,_,{fn:=Z,tmps:=J,todo:=ftodo,defers:=dr,mode:=O,kind:=I,roundOf:=A}::cs,?_,⟨e2,x1.next,JW (.inr rfl) d9 e1,?_⟩,x1⟩
   ·unfold callDeferred;dsimp only;rw[amt (by clear d5 hf a7 a6 ht hf' d7;cases Y<;>first| (exact Bool.false_ne_true)|exact absurd rfl d0)];simp only[Sem.runT_eq,hv,GStep.bare_after,GStep.bare_go]
   simp only[pA];exact⟨_,cs,lb,rfl,b6,d7,e8⟩
  cases e
 rename_i b4
 rw[b4]at V;simp only[mL]at V;subst V
 cases d2:b.mode with
 |run=>exact absurd d2 U
 |returning=>
  rw[d2]at e a7;simp only[r7]at a7;subst a7;dsimp only at e
  split at e
  ·cases e
  rename_i d8 e3
  split at e
  ·rename_i v d1
   have d3:P.funcs[Z]?=some d8:=(by rw[<-e3,hf.fn]);obtain⟨v',hrun,hv⟩:=Nv hr a6 d1;have:=UM (f:={fn:=Z,tmps:=J,todo:=ftodo,defers:=[],mode:= .returning,kind:=I,roundOf:=A}) hr b6 hf.kind hc hv e;obtain⟨g',w',e6,f',e0,k1,k2,k3⟩:=this;refine⟨g',w',e6,f',e0,?_,k2,k3⟩;rw[<-k1];simp only[unwind,d3,Sem.runT_eq,hrun,GStep.bare_after]
  cases e
end
end
section
section
variable {P:Program} {g g':Gh} {h h':ai} {w w':World} {lb ub:Nat} {aD:sN} {b b':bE} {f:Frame} {bs:List bE} {cs:List Frame}
def ib (P:Program)(aD:sN)(g:Gh)(h:ai)(w:World)(s':av)(m:Machine):Prop:=
 ∃g' w' I f' A,Steps P m (lone f' A w')/\Q4 P aD g' w' I s' f' A/\mO g h w g' s'.h w'
def ib.CQ {s':av}(hl:E0 P aD g h w s' (stepG P true {frame:=f,callers:=cs,status:= .running,dying:=none} w)):ib P aD g h w s' (lone f cs w):=by
 obtain⟨g',w',I,f',A,h1,h2,J⟩:=hl;exact⟨g',w',I,f',A,Steps.one (step_lone_go h1),h2,J⟩
def ib.trans {U:Gh}{h1:ai}{I:World}{f1:Frame}{A:List Frame}{s':av}(hs:Steps P (lone f cs w) (lone f1 A I))(hx:mO g h w U h1 I)(ht:ib P aD U h1 I s' (lone f1 A I)):
 ib P aD g h w s' (lone f cs w):=by
 obtain⟨g',w',O,f',J,V,Y,Z⟩:=ht;exact⟨g',w',O,f',J,hs.trans V,Y,hx.trans Z⟩
def gK.plain {top:Bool}{dw:List BV}{todo:List ig}(he:ay P g w dw f.tmps.toList)(hi:cM g todo f.todo)(I:b.dw=dw)(A:b.todo=todo):gK P g h w lb ub top b f:=by
 unfold gK
 split
 ·rename_i d k ht
  exfalso;rw[A]at ht;rw[ht]at hi;simp only[cM,kY]at hi;obtain⟨_,_,_,h1,_⟩:=hi;exact h1
 rw[I,A];exact⟨he,hi⟩
section
variable {bfn:FuncId} {benv:List BV} {btodo:List ig} {bds:List Ay} {bkd:CallKind} {bro:Option Nat} {fn:FuncId} {tmps:Array Value} {ftodo:List Item} {ds:List Deferred} {kd:CallKind} {ro:Option Nat}
abbrev bf (bfn:FuncId)(benv:List BV)(btodo:List ig)(bds:List Ay)(bkd:CallKind)(bro:Option Nat):bE:=
 {fn:=bfn,dw:=benv,todo:=btodo,defers:=bds,mode:= .run,kind:=bkd,roundOf:=bro}
def oR.with {top I:Bool}{J:Nat}(hf:oR P g h w lb ub top (bf bfn benv btodo bds bkd bro) (rf fn tmps ftodo ds kd ro)){benv':List BV}{tmps':Array Value}{btodo':List ig}{A:List Item}
 (he:ay P g w benv' tmps'.toList)(hi:cM g btodo' A):oR P g h w lb J I (bf bfn benv' btodo' bds bkd bro) (rf fn tmps' A ds kd ro):=
 ⟨hf.fn,hf.kind,hf.tz,hf.defers,hf.mode,hf.round,fun _=>gK.plain (f:=rf fn tmps' A ds kd ro) he hi rfl rfl,fun h=>absurd rfl h⟩
def XV (J:bq P g h w)(I:lb<=h.next)(hf:oR P g h w lb h.next true (bf bfn benv btodo bds bkd bro) (rf fn tmps ftodo ds kd ro))(hc:pA P g h w aD lb bs cs){benv':List BV}{tmps':Array Value}{btodo':List ig}{A:List Item}
 (he:ay P g w benv' tmps'.toList)(hi:cM g btodo' A)(hs:step P (lone (rf fn tmps ftodo ds kd ro) cs w)= .next (lone (rf fn tmps' A ds kd ro) cs w)):
 ib P aD g h w {fr:=bf bfn benv' btodo' bds bkd bro,cs:=bs,h} (lone (rf fn tmps ftodo ds kd ro) cs w):=
 ⟨g,w,lb,_,cs,Steps.one hs,⟨J,I,hf.with he hi,hc⟩,mO.refl _ _ _⟩
def Wb {o:Oper}{ρ:Operand->BV}{n:bP}{h1:ai}{fr:bE}{s':av}(A:Cf g fr.roundOf ro)(I:HB P h ρ o=some (n,h1))(e:sS P fr bs .normal (n,h1)=some s'):ro=none\/∀c,o.op≠ .defer c:=by
 by_cases hc:∃c,o.op= .defer c
 ·obtain⟨c,hc⟩:=hc;left;simp only[HB,hc,am9,anC]at I;obtain⟨d,_,rfl,rfl⟩:=I;simp only[sS]at e;exact A.2
 exact .inr fun c h=>hc ⟨c,h⟩
def ahQ {o:Oper}{ρ:Operand->BV}{q:bP×ai}(A:opR P h ρ o=some q):HB P h ρ o=some q\/∀c,o.op≠ .defer c:=by
 unfold opR at A
 split at A
 ·rename_i ho;exact .inr fun c h=>by rw[ho]at h;cases h
 exact .inl A
def ZY (hr:bq P g h w)(V:lb<=h.next){aZ:Array Oper}{i:Nat}{rest:List Nat}{k:List ig}{J:List Item}
 (hf:oR P g h w lb h.next true (bf bfn benv (.inRegion aZ (i::rest)::k) bds bkd bro) (rf fn tmps (.inRegion aZ (i::rest)::J) ds kd ro))(hc:pA P g h w aD lb bs cs)
 (A:ay P g w benv tmps.toList)(O:cM g k J){s':av}(e:fX P {fr:=bf bfn benv (.inRegion aZ (i::rest)::k) bds bkd bro,cs:=bs,h}=some s'):
 ib P aD g h w s' (lone (rf fn tmps (.inRegion aZ (i::rest)::J) ds kd ro) cs w):=by
 simp only[fX]at e
 split at e
 ·rename_i ho
  cases e
  refine XV hr V hf hc A (btodo':= .inRegion aZ rest::k) ⟨_,_,rfl,rfl,O⟩ ?_;rw[ON (by simp[ho])];simp[Frame.finish,ho]
 rename_i o ho
 have Z:∀{r:Bool},nP o aZ (fun t=>benv[t]?)=some r->Region.wanted o (yielded aZ tmps)=r:=fun hw=>
  ME (P:=P) (g:=g) (w:=w) (fun j b' _ t _=>by
   cases hb:benv[t]? with
   |none=>left;refine⟨rfl,?_⟩;have:tmps.toList[t]?=none:=(by rw[anu];have:=A.length;have:=anV.1 hb;omega);simpa using this
   |some y=>
    obtain⟨v,h1,h2⟩:=A.get hb
    exact .inr ⟨y,v,rfl,by simpa using h1,h2⟩) hw
 split at e
 ·rename_i hw
  have I:=Z hw
  cases Y:opR P h (AV benv) o with
  |none=>rw[Y]at e;cases e
  |some q=>obtain⟨n,h1⟩:=q;rw[Y]at e;have hd:=aiD hr (σ:=(rf fn tmps (.inRegion aZ (i::rest)::J) ds kd ro).eval) (fun x _=>Of A _ rfl x) Y;have:=Mw (f:=rf fn tmps (.inRegion aZ (i::rest)::J) ds kd ro) hr V (hf.with (btodo':= .inRegion aZ (i::rest)::k) A ⟨_,_,rfl,rfl,O⟩) rfl hc hd e;refine ib.CQ ?_;rw[Tf ho I ((ahQ Y).elim (fun Y=>Wb hf.round Y e) .inr)];exact this
 ·rename_i hw
  have I:=Z hw;simp only[amH,amD]at e;subst e;have U:step P (lone (rf fn tmps (.inRegion aZ (i::rest)::J) ds kd ro) cs w)= .next (lone (rf fn (Hb tmps o.dst undef) (.inRegion aZ rest::J) ds kd ro) cs w):=by rw[ON (by simp[ho,I]),GM ho]
  refine XV hr V hf hc (benv':=yc benv o.dst BV.undef) (tmps':=Hb tmps o.dst undef) (btodo':= .inRegion aZ rest::k) (af6 A aw.undef _) ⟨_,_,rfl,rfl,O⟩ U
 cases e
def agu (hr:bq P g h w)(a7:lb<=h.next){d:Lr}{k:List ig}
 (hf:oR P g h w lb h.next true (bf bfn benv (.js d::k) bds bkd bro) (rf fn tmps ftodo ds kd ro))(hc:pA P g h w aD lb bs cs)
 {s':av}(e:fX P {fr:=bf bfn benv (.js d::k) bds bkd bro,cs:=bs,h}=some s'):
 ib P aD g h w s' (lone (rf fn tmps ftodo ds kd ro) cs w):=by
 have hrun:=hf.run rfl;unfold gK at hrun;dsimp only at hrun;obtain⟨b4,rest,k',d0,hk,hp,b1,⟨ph,hd⟩,_⟩:=hrun;rw[b1 rfl]at hd;clear b1 hp;subst d0 b4;obtain⟨tmps',d1,g1,w1,s1,U,x1,p1,J,V⟩:=aez (fn:=fn) (ds:=ds) (kd:=kd) (ro:=ro) (k:=k') (cs:=cs) hr hd;have a8:=hk.mono x1.mono;have Z:=hc.mono x1.mono p1;have I:=hf.round.mono x1.mono;have O:=hf.defers.mono x1.mono;simp only[fX]at e;rcases V with ⟨rfl,A⟩| ⟨x,r,dB,rfl,A⟩
 ·rw[A]at e
  cases e
  refine ib.trans s1 x1 ⟨g1,w1,lb,_,cs,Steps.one MK,⟨U,a7,?_,Z⟩,mO.refl _ _ _⟩;exact⟨hf.fn,hf.kind,hf.tz,O,hf.mode,I,fun _=>gK.plain (f:=rf fn tmps' k' ds kd ro) (aey J) a8 rfl rfl,fun h=>absurd rfl h⟩
 rw[A]at e;dsimp only at e;obtain⟨o,ho,_⟩:=((J.dB x).1 (by rw[A];simp)).2;rw[ho]at e;dsimp only at e;have a6:oR P g1 h w1 lb h.next false (bf bfn d.cN (.js d::k) bds bkd bro) (rf fn tmps' (.inRegion d.aZ (x::r)::k') ds kd ro):=
  ⟨hf.fn,hf.kind,hf.tz,O,hf.mode,I,fun _=>by
    unfold gK;dsimp only
    exact⟨rfl,_,_,rfl,a8,h,(fun q=>by cases q),⟨ph,J⟩,fun _=>⟨x,r,rfl,by rw[A];rfl⟩⟩,fun h=>absurd rfl h⟩
 refine ib.trans s1 x1 ?_
 split at e
 ·rename_i hw
  have Y:=J.wanted ho hw
  cases hq:HB P h (nF d.aZ (bj d.aZ) d.cN d.aN x) o with
  |none=>rw[hq]at e;cases e
  |some q=>obtain⟨n,h1⟩:=q;rw[hq]at e;have b6:=UN U (σ:=(rf fn tmps' (.inRegion d.aZ (x::r)::k') ds kd ro).eval) (J.eval ho _ rfl) hq;have:=Mw (f:=rf fn tmps' (.inRegion d.aZ (x::r)::k') ds kd ro) U a7 a6 rfl Z b6 e;refine ib.CQ ?_;rw[Tf ho Y (Wb a6.round hq e)];exact this
 ·rename_i hw
  have Y:=J.wanted ho hw;have:=qT (r:=stepG P true {frame:=rf fn tmps' (.inRegion d.aZ (x::r)::k') ds kd ro,callers:=cs,status:= .running,dying:=none} w1) U a7 (amG _) a6 Z aw.undef e (by simp[stepG,stepG.exec,ho,Y]);exact ib.CQ this
 cases e
end
end
end
section
section
variable {P:Program} {g g':Gh} {h h':ai} {w w':World} {lb ub:Nat} {aD:sN} {b b':bE} {f:Frame} {bs:List bE} {cs:List Frame}
variable {bfn:FuncId} {benv:List BV} {btodo:List ig} {bds:List Ay} {bkd:CallKind} {bro:Option Nat} {fn:FuncId} {tmps:Array Value} {ftodo:List Item} {ds:List Deferred} {kd:CallKind} {ro:Option Nat}
def Bk (U:bq P g h w)(O:lb<=h.next)(hf:oR P g h w lb h.next true (bf bfn benv btodo bds bkd bro) (rf fn tmps ftodo ds kd ro))(J:ay P g w benv tmps.toList)(hc:pA P g h w aD lb bs cs){A:Option Code}{s':av}
 (e:Af P (bf bfn benv btodo bds bkd bro) bs h A=some s')
 (I:ro=none->(A=none\/A=some .ret)->(stepG P true {frame:=rf fn tmps ftodo ds kd ro,callers:=cs,status:= .running,dying:=none} w).bare= .go {frame:={rf fn tmps ftodo ds kd ro with mode:= .returning},callers:=cs,status:= .running,dying:=none} w):
 ib P aD g h w s' (lone (rf fn tmps ftodo ds kd ro) cs w):=
 ib.CQ (adv U O hf rfl J hc e I)
def agt (b4:P.follows .mixedOrders=true)(U:bq P g h w)(I:lb<=h.next){c:Code}{k:List ig}{ir:List Item}
 (hf:oR P g h w lb h.next true (bf bfn benv (.code c::k) bds bkd bro) (rf fn tmps (.code c::ir) ds kd ro))(hc:pA P g h w aD lb bs cs)
 (A:ay P g w benv tmps.toList)(J:cM g k ir){s':av}(e:fX P {fr:=bf bfn benv (.code c::k) bds bkd bro,cs:=bs,h}=some s'):
 ib P aD g h w s' (lone (rf fn tmps (.code c::ir) ds kd ro) cs w):=by
 cases c with
 |skip=>simp only[fX]at e;cases e;exact XV U I hf hc A J ajq
 |label l=>simp only[fX]at e;cases e;exact XV U I hf hc A J ag5
 |seq x y=>simp only[fX]at e;cases e;exact XV U I hf hc A (btodo':= .code x:: .code y::k) ⟨_,_,rfl,rfl,_,_,rfl,rfl,J⟩ aky
 |cond x t u=>
  simp only[fX]at e
  split at e
  ·rename_i tb hx
   cases e
   have a6:=Of A (rf fn tmps (.code (.cond x t u)::ir) ds kd ro) rfl x;rw[hx]at a6;simp only[aw]at a6;exact XV U I hf hc A (btodo':= .code (if tb then t else u)::k) ⟨_,_,rfl,rfl,J⟩ (ajl a6)
  cases e
 |block l x=>simp only[fX]at e;cases e;exact XV U I hf hc A (btodo':= .code x:: .inBlock l::k) ⟨_,_,rfl,rfl,_,_,rfl,rfl,J⟩ ag2
 |loop x=>simp only[fX]at e;cases e;exact XV U I hf hc A (btodo':= .code x:: .inLoop x::k) ⟨_,_,rfl,rfl,_,_,rfl,rfl,J⟩ ajp
 |scope x=>simp only[fX]at e;cases e;exact XV U I hf hc A (btodo':= .code x:: .inScope x::k) ⟨_,_,rfl,rfl,_,_,rfl,rfl,J⟩ ag6
 |ret=>simp only[fX]at e;refine Bk U I hf A hc e (fun a7 _=>?_);subst a7;simp[stepG,stepG.exec]
 |exit id=>
  simp only[fX]at e;obtain⟨h1,h2⟩:=ahh (id:=id) J
  split at e
  ·rename_i k' V
   obtain⟨i',h3,h4⟩:=h1 _ V
   cases e
   exact XV U I hf hc A h4 (ajn h3)
  rename_i V
  exact Bk U I hf A hc e (fun a7 hj=>by rcases hj with hj|hj<;>cases hj)
 |goto l=>
  simp only[fX]at e;obtain⟨h1,h2⟩:=ahr (l:=l) J
  split at e
  ·rename_i k' V
   obtain⟨i',h3,h4⟩:=h1 _ V
   cases e
   exact XV U I hf hc A h4 (ajo h3)
  rename_i V
  exact Bk U I hf A hc e (fun a7 hj=>by rcases hj with hj|hj<;>cases hj)
 |refuse s=>simp only[fX]at e;cases e
 |rangeFunc f' ps a b'=>simp only[fX]at e;cases e
 |region id aZ Z=>
  simp only[fX]at e
  split at e
  ·rename_i O
   have O:Z=false:=(by simpa using O);subst O
   cases e
   exact XV U I hf hc A (btodo':= .inRegion aZ (List.range aZ.size)::k) ⟨_,_,rfl,rfl,J⟩ ad4
  rename_i O
  have O:Z=true:=by simpa using O
  subst O
  split at e
  ·cases e
  rename_i b1
  rw[amJ,Bool.not_eq_false,amo]at b1;simp only[am9]at e;obtain⟨⟨h1,aN⟩,e1,e2⟩:=e;dsimp only at e2
  cases e2
  obtain⟨t,d0⟩:=ajm (P:=P) (w:=w) (cs:=cs) (fn:=fn) (tmps:=tmps) (ds:=ds) (kd:=kd) (ro:=ro) (k:=ir) (id:=id) (aZ:=aZ) b4;obtain⟨d1,x1⟩:=U.same (w':={w with drawn:=w.drawn+1}) rfl ⟨rfl,rfl,rfl⟩;have a8:=ay.mono x1.mono _ _ A;obtain⟨ph,b6,x2,p2,hd⟩:=abZ (lb:=lb) (tmps:=tmps) d1 a8 b1.1 b1.2 I t e1;have Y:=x1.trans x2;refine⟨g,_,lb,_,cs,Steps.one d0,⟨b6,am8 I x2.next,?_,hc.mono Y.mono (p2.lt I)⟩,Y⟩;refine⟨hf.fn,hf.kind,hf.tz,hf.defers.mono Y.mono,hf.mode,hf.round.mono Y.mono,fun _=>?_,fun h=>absurd rfl h⟩;unfold gK;dsimp only;exact⟨rfl,_,_,rfl,J.mono Y.mono,h1,fun _=>rfl,⟨ph,hd⟩,fun h=>by cases h⟩
end
end
section
section
variable {P:Program} {g g':Gh} {h h':ai} {w w':World} {lb ub:Nat} {aD:sN} {b b':bE} {f:Frame} {bs:List bE} {cs:List Frame}
def agB (a8:P.follows .mixedOrders=true){s s':av}(hs:Q4 P aD g w lb s f cs)(e:fX P s=some s'):ib P aD g s.h w s' (lone f cs w):=by
 obtain⟨⟨bfn,benv,btodo,bds,O,bkd,bro⟩,bs,h⟩:=s;obtain⟨hr,J,hf,hc⟩:=hs;obtain⟨fn,tmps,ftodo,ds,V,kd,ro⟩:=f;dsimp only at hr J hf hc ⊢
 by_cases U:O= .run
 case neg=>
  have e':BB P {fn:=bfn,dw:=benv,todo:=btodo,defers:=bds,mode:=O,kind:=bkd,roundOf:=bro} bs h=some s':=by
   unfold fX at e
   cases O<;>first|exact absurd rfl U|exact e
  have hu:=ZZ hr J hf U hc e';have Z:=hf.mode;refine ib.CQ ?_;have:stepG P true {frame:={fn:=fn,tmps:=tmps,todo:=ftodo,defers:=ds,mode:=V,kind:=kd,roundOf:=ro},callers:=cs,status:= .running,dying:=none} w=
   unwind P true {fn:=fn,tmps:=tmps,todo:=ftodo,defers:=ds,mode:=V,kind:=kd,roundOf:=ro} cs none w:=by
   dsimp only at Z
   cases O with
   |run=>exact absurd rfl U
   |returning=>simp only[r7]at Z;subst Z;simp[stepG]
  rw[this];exact hu
 case pos=>
  subst U;have Z:V= .run:=hf.mode;subst Z;have a7:∀i k,btodo=i::k->(∀d,i≠ .js d)->ay P g w benv tmps.toList/\cM g (i::k) ftodo:=by
   intro i k hb a6;have hrun:=hf.run rfl;unfold gK at hrun
   split at hrun
   ·rename_i d k' ht
    dsimp only at ht;rw[hb]at ht
    cases ht
    exact absurd rfl (a6 d)
   dsimp only at hrun;rw[hb]at hrun;exact hrun
  cases btodo with
  |nil=>have hrun:=hf.run rfl;unfold gK at hrun;dsimp only at hrun;obtain⟨A,hi⟩:=hrun;simp only[cM]at hi;subst hi;simp only[fX]at e;refine Bk hr J hf A hc e (fun b1 _=>?_);subst b1;simp[stepG,stepG.exec]
  |cons i k=>
   by_cases a6:∀d,i≠ .js d
   case neg=>have:∃d,i= .js d:=anq fun hn=>a6 fun d hd=>hn ⟨d,hd⟩;obtain⟨d,rfl⟩:=this;exact agu hr J hf hc e
   case pos=>
    obtain⟨A,hi⟩:=a7 i k rfl a6;simp only[cM]at hi;obtain⟨it,ir,rfl,I,Y⟩:=hi
    cases i with
    |js d=>exact absurd rfl (a6 d)
    |code c=>simp only[kY]at I;subst I;exact agt a8 hr J hf hc A Y e
    |inBlock l=>simp only[kY]at I;subst I;simp only[fX]at e;cases e;exact XV hr J hf hc A Y abF
    |inLoop c=>simp only[kY]at I;subst I;simp only[fX]at e;cases e;exact XV hr J hf hc A (btodo':= .code c:: .inLoop c::k) ⟨_,_,rfl,rfl,_,_,rfl,rfl,Y⟩ ad3
    |inScope c=>simp only[kY]at I;subst I;simp only[fX]at e;cases e;exact XV hr J hf hc A Y abG
    |inRegion aZ todo=>
     simp only[kY]at I;subst I
     cases todo with
     |nil=>simp only[fX]at e;cases e;exact XV hr J hf hc A Y MK
     |cons i rest=>exact ZY hr J hf hc A Y e
end
end
section
noncomputable section
structure EG (w w':World):Prop where
 size:w.heap.size<=w'.heap.size
 heap:∀c,c<w.heap.size->w'.heap[c]?=w.heap[c]?
 os:w'.os=w.os
 output:w'.output=w.output
 tape:w'.tape=w.tape
def EG.below {w w':World}(h:EG w w'):_root_.Go.RowKit.Below w.heap.size w w':=⟨h.os,h.tape,h.output,h.size,h.heap⟩
def EG.refl (w:World):EG w w:=⟨amG _,fun _ _=>rfl,rfl,rfl,rfl⟩
def Rh:List (Nat×aE)->Tr aE->Tr aE
 | [],t=>t
 | (b,o)::r,t=>Rh r (Tr.Hf (b+1) t b (some o))
section
variable {P:Program} {g g':Gh} {h h':ai} {w w':World} {lb ub:Nat} {f:Frame} {cs c0:List Frame}
def bq.acn (I:bq P g h w)(A:EG w w'):bq P g h w'/\mO g h w g h w':=by
 have V:iL g w g w':=⟨fun _ _ e=>e,fun _ e=>e,fun c hc=>A.heap c (I.oU c hc),fun c s hs=>by
  have J:c<w.heap.size:=by
   unfold World.shape? at hs
   by_cases hc:c<w.heap.size
   ·exact hc
   have:w.heap[c]?=none:=(by simp;omega);rw[this]at hs;cases hs
  rw[kE (w:=w) (A.heap c J)];exact hs,fun _ _ _ e=>e⟩
 refine⟨I.nm.UH (fun l x y e=>amX (I.rV l x y e) A.size) I.rW ?_ (fun c hc=>amX (I.oU c hc) A.size),
  ⟨V,A.size,fun c hc _=>A.heap c hc,fun _ _ e=>e,fun _ _ h=> .inl h,amG _,A.os,A.output,A.tape⟩⟩
 intro l o aS aD h1 U;obtain⟨n,o',ho,O⟩:=I.vL _ _ _ _ h1 U;exact⟨n,o',(A.heap aS (I.rV _ _ _ U)).trans ho,O.mono V⟩
def PQ {U:FuncId}{as:List BV}{b:bE}{top:Bool}(e:fj P U as .normal=some b)(hf:oR P g h w lb ub top b f):∃Y:Array Value,ay P g w as Y.toList/\f=Frame.enter P U Y .normal:=by
 unfold fj at e
 split at e
 ·rename_i fn b4
  split at e
  ·rename_i c hb
   cases e
   obtain⟨b1,A,ftodo,d0,V,J,a7⟩:=f;have h1:U=b1:=hf.fn;have h2:CallKind.normal=J:=hf.kind;have h3:V= .run:=hf.mode;have h4:a7=none:=hf.round.2;have h5:=hf.defers;simp only[mL]at h5;have h6:=hf.run rfl;unfold gK at h6;dsimp only at h6;obtain⟨I,Z⟩:=h6;simp only[cM,kY]at Z;obtain⟨it,ir,ht,hi,rfl⟩:=Z;subst h1 h2 h3 h4 h5 hi ht;have a6:=I.length;simp only[ams,anH]at a6;refine⟨(A.toList.take as.length).toArray,?_,?_⟩
   ·have:=I.take as.length;simpa using this
   have O:A.toList.drop as.length=List.replicate (fn.ntmps-as.length) undef:=by
    have hd:=I.drop as.length;rw[List.drop_left]at hd;apply aoY;intro i;rw[anQ]
    by_cases hi:i<fn.ntmps-as.length
    ·rw[amu hi];obtain⟨v,h1,h2⟩:=hd.get (i:=i) (b:=BV.undef) (by rw[anQ,amu hi]);rw[h1];simp only[BV.undef,aw]at h2;obtain⟨vs,rfl,h3⟩:=h2;simp only[ay]at h3;have:vs=#[]:=(by apply aoF;simpa using h3);rw[this];rfl
    rw[amt hi];have:=hd.length;simp only[anH]at this;rw[anV];omega
   have b6:A=(A.toList.take as.length).toArray++Array.replicate (fn.ntmps-(A.toList.take as.length).toArray.size) undef:=(by apply aoF;rw[aow,aoW];have a8:(A.toList.take as.length).toArray.size=as.length:=(by simp;rw[<-aov];omega);rw[a8,<-O];simp);unfold Frame.enter;simp only[b4,amH,anI,anT,hb];rw[<-b6]
  cases e
 cases e
def Yu {s:av}(h:s.ended=true):s.cs=[]/\s.fr.mode= .returning/\s.fr.defers=[]:=by
 simp only[av.ended,amo,ao8]at h;obtain⟨⟨h1,h2⟩,I⟩:=h;refine⟨h1,?_,I⟩
 cases A:s.fr.mode<;>rw[A]at h2<;>first|rfl| (cases h2;done)
def RI {n:Nat}(I:0<n):∃i A,i<n/\(choose (.mapNext n)).run P w= .ok i A/\A.heap=w.heap/\(A.os=w.os/\A.output=w.output/\A.tape=w.tape):=by
 by_cases h1:n<=1
 ·exact⟨0,w,by omega,by simp[choose,Sem.run,Question.forced,h1],rfl,rfl,rfl,rfl⟩
 refine⟨w.tape w.drawn (.mapNext n) % n,{w with drawn:=w.drawn+1},ap9 _ I,?_,rfl,rfl,rfl,rfl⟩;have:Question.forced (.mapNext n)=false:=by simp[Question.forced];omega
 simp[choose,Sem.run,this,Question.cut]
def QL {ks:List D}{st:List Nat}{k:D}(hl:st.length=ks.length)(J:ks.Nodup)(I:k∈ks):∃i:Nat,ks[i]?=some k/\st[i]?=some (D.kP ks st k):=by
 obtain⟨i,hi⟩:=anL I;have A:i<st.length:=by rw[hl];exact(amw.1 hi).1
 have hs:=amr A;exact⟨i,hi,by rw[D.Ar J hi hs];exact hs⟩
def adw (hr:bq P g h w){ty:TypeId}{r m:Nat}{ks:List D}{st:List Nat}{ck:Nat}{seen:List D}{kt:TypeId}{vk:VK}{l:List (D×D)}{st':List Nat}{ck':Nat}{e2:Value}
 (hb:h.get r=some (.nb m ks st ck seen))(h8:h.get m=some (.cd kt vk l st' ck'))(I:xR l st' ck' ks st ck=true)(hi:aw P g w (.ie r 0) e2):
 ((∀k∈ks,k∈seen)/\mN P g h w (.tuple [.bool false]) h ((Instr.next e2 false ty).run P w))\/
 ∃k,k∈ks/\k∉seen/\(∀p,Bz P m kt vk l k=some p->mN P g h w (.tuple [.bool true,p.1,p.2]) (h.put r (some (.nb m ks st ck (k::seen)))) ((Instr.next e2 false ty).run P w)):=by
 have I:D.fh l=ks/\st'=st/\ck'=ck:=by unfold xR at I;simpa using I
 obtain⟨Y,rfl,rfl⟩:=I;simp only[aw]at hi;obtain⟨aS,aD,hm,rfl⟩:=hi;obtain⟨o',hw,ho⟩:=hr.ak3 hb hm;simp only[fO]at ho;obtain⟨rfl,A,e0,d0,rfl⟩:=ho;obtain⟨_,es,g1,hrel⟩:=hr.SV h8 e0;have e8:st'.length=ks.length:=by rw[<-Y,D.Bj,hrel.sl]
 have e9:ks.Nodup:=by rw[<-Y];exact hrel.nd
 have d3:(getObj aS).run P w= .ok (.mapIter (some A) ck' (seen.reverse.map (D.kP ks st')).toArray ck') w:=by simp[getObj,Sem.run,hw]
 have b4:=vw (P:=P) g1;have Z:∀d,d∈es->∃(i:Nat) (p:D×D),l[i]?=some p/\es.toList[i]?=some d/\d.born=D.kP ks st' p.1/\st'[i]?=some d.born:=fun d hd=>by
  obtain⟨i,hi⟩:=anL (show d∈es.toList by simpa using hd);have b6:i<l.length:=by have:=(amw.1 hi).1;rw[hrel.len]at this;exact this
  have hp:=amr b6;have hs:=amr (show i<st'.length by rw[hrel.sl];exact b6);have O:=hrel.born i _ d hs hi;have:=D.Ar (st:=st') hrel.nd (D.xF hp) hs;rw[Y]at this;exact⟨i,_,hp,hi,by rw[this,O],by rw[O];exact hs⟩
 have e4:∀k,k∈ks->((seen.reverse.map (D.kP ks st')).contains (D.kP ks st' k)=true↔k∈seen):=by
  intro k hk;simp only[ao5,anh,List.mem_reverse];constructor
  ·rintro⟨j,hj,he⟩;obtain⟨i1,a1,a2⟩:=QL e8 e9 (d0 j hj);obtain⟨i2,b1,b2⟩:=QL e8 e9 hk;rw[he]at a2;have:i1=i2:=(ao0 (amw.1 a2).1 hrel.snd).1 (a2.trans b2.symm);subst this;rw[a1]at b1;cases b1;exact hj
  intro g3;exact⟨k,g3,rfl⟩
 have d7:∀(i:Nat) p,l[i]?=some p->p.1∈ks:=fun i p hp=>by rw[<-Y];exact amn (D.xF hp)
 have a7:(!(seen.reverse.map (D.kP ks st')).toArray.isEmpty&&!es.isEmpty&&es.all fun e=>decide (e.born≥ck'))=false:=by
  by_cases h0:es.isEmpty=true
  ·simp[h0]
  have f9:es.all (fun e=>decide (e.born≥ck'))=false:=by
   rw[apv];intro hc;rw[aom]at hc;have U:0<es.size:=by
    rcases aoT es.size with h|h
    ·exact absurd (by rw[aox];exact h) h0
    exact h
   have h1:=hc es[0] (Array.getElem_mem U);obtain⟨i,p,_,_,_,h4⟩:=Z es[0] (Array.getElem_mem U);have h2:=hrel.Ny _ (amn h4);simp at h1;omega
  simp[f9]
 generalize d2:((es.filter fun e=>!(seen.reverse.map (D.kP ks st')).toArray.contains e.born).filter fun e=>decide (e.born<ck'))=J;generalize d9:((es.filter fun e=>!(seen.reverse.map (D.kP ks st')).toArray.contains e.born).filter fun e=>decide (e.born≥ck'))=N';have g5:N'=#[]:=by rw[<-d9,Array.filter_eq_empty_iff];intro x hx;have h3:x∈es:=(aoL.1 hx).1;obtain⟨i,p,_,_,_,h4⟩:=Z x h3;have:=hrel.Ny _ (amn h4);simp;omega
 subst g5;have g8:∀d,d∈J->∃(i:Nat) (p:D×D),l[i]?=some p/\es.toList[i]?=some d/\d.born=D.kP ks st' p.1/\p.1∉seen:=by
  intro d hd;rw[<-d2]at hd;have g4:=(aoL.1 hd).1;have e3:=aoL.1 g4;obtain⟨i,p,k1,k2,k3,_⟩:=Z d e3.1;refine⟨i,p,k1,k2,k3,fun hk=>?_⟩;have h5:=e3.2;have h6:=(e4 p.1 (d7 i p k1)).2 hk;rw[k3]at h5;simp only[apM,h6]at h5
  cases h5
 have g6:J.isEmpty=true->∀k∈ks,k∈seen:=by
  intro h0 k hk;obtain⟨i,hi⟩:=anL hk;rw[<-Y]at hi;obtain⟨p,hp,h7⟩:=D.SC hi;have b6:=(amw.1 hp).1;obtain⟨d,hd⟩:∃d,es.toList[i]?=some d:=⟨_,amr (show i<es.toList.length by rw[hrel.len];exact b6)⟩;have g2:d∈es:=by simpa using amn hd
  have hs:=amr (show i<st'.length by rw[hrel.sl];exact b6);have O:=hrel.born i _ d hs hd;have e7:=D.Ar (st:=st') hrel.nd (D.xF hp) hs;rw[Y,h7]at e7;apply anq;intro e1;have d1:d∈J:=by
   rw[<-d2,aoL,aoL];refine⟨⟨g2,?_⟩,?_⟩
   ·rw[O,<-e7];have:=fun h=>e1 ((e4 k hk).1 h);simp only[apM]
    cases hc:(seen.reverse.map (D.kP ks st')).contains (D.kP ks st' k)with
    |true=>exact absurd hc this
    |false=>rfl
   have:=hrel.Ny _ (amn hs);rw[O];simpa using this
  have i3:J=#[]:=ao6 (by rw[aox]at h0;exact h0);rw[i3]at d1;simp at d1
 let C:Array (Option MapEntry):=(if J.isEmpty then #[none]else #[])++(J++#[]).map some
 have U:0<C.size:=by
  by_cases h0:J.isEmpty=true
  ·simp only[C,h0,am5,Array.size_append];exact amX (by decide:0<1) (Nat.le_add_right 1 _)
  have:J.size≠0:=fun h=>h0 (by rw[aox];exact h);simp[C,h0];omega
 obtain⟨i,w1,hi,hrun,a8,h9⟩:=RI (P:=P) (w:=w) U;obtain⟨e5,x1⟩:=hr.same a8 h9;have V:C[i]?=some C[i]:=am0 hi
 cases d8:C[i]with
 |none=>
  have h0:J.isEmpty=true:=by
   by_cases h0:J.isEmpty=true
   ·exact h0
   exfalso;have hmm:none∈C:=Array.mem_of_getElem? (by rw[V,d8]);simp only[C,h0,ann,amp]at hmm;simp at hmm
  rw[d8]at V;left;refine⟨g6 h0,.tuple #[.bool false],g,w1,?_,e5,x1,Ph.refl _ _,by simp only[aw];exact⟨_,rfl,ay.cons (by simp[aw]) ay.nil⟩⟩;simp only[Instr.next,anN,Sem.run_bind,d3,b4,Result.andThen_ok,a7,amp,ann,d2,d9];rw[show (if J.isEmpty=true then #[none]else #[])++Array.map some (J++#[])=C from rfl,hrun];simp only[Result.andThen_ok,V,Sem.run_pure]
 |some d=>
  rw[d8]at V;have d1:d∈J:=by
   have hmm:some d∈C:=(by rw[Array.mem_iff_getElem?];exact⟨i,V⟩);simp only[C]at hmm;rw[Array.mem_append]at hmm;rcases hmm with hmm|hmm
   ·split at hmm<;>simp at hmm
   simpa using hmm
  obtain⟨j,p,hj,hd,O,e1⟩:=g8 d d1;right;refine⟨p.1,d7 j p hj,e1,fun q hq=>?_⟩;have d5:w1.heap[aS]?=some (.mapIter (some A) ck' (seen.reverse.map (D.kP ks st')).toArray ck'):=by rw[a8];exact hw
  have d4:=e5.XS (o':= .nb m ks st' ck' (p.1::seen)) (co':= .mapIter (some A) ck' ((seen.reverse.map (D.kP ks st')).toArray.push d.born) ck') hb hm d5 (w':=w1.iI aS (.mapIter (some A) ck' ((seen.reverse.map (D.kP ks st')).toArray.push d.born) ck')) rfl ⟨rfl,rfl,rfl⟩
   (fun s hs=>by simp[World.shape?,d5]at hs) (fun d6=>by
     simp only[fO];refine⟨trivial,A,d6.mm _ _ e0,fun k hk=>?_,by simp[O]⟩;rcases amz.1 hk with hk|hk
     ·subst hk;exact d7 j p hj
     exact d0 k hk)
  have hx:=x1.trans d4.2;refine⟨.tuple #[.bool true,d.key,d.val],g,w1.iI aS (.mapIter (some A) ck' ((seen.reverse.map (D.kP ks st')).toArray.push d.born) ck'),?_,d4.1,hx,Ph.put hm _,?_⟩
  ·simp only[Instr.next,anN,Sem.run_bind,d3,b4,Result.andThen_ok,a7,amp,ann,d2,d9];rw[show (if J.isEmpty=true then #[none]else #[])++Array.map some (J++#[])=C from rfl,hrun];simp only[Result.andThen_ok,V];simp[setObj,Sem.run,d5,World.iI]
  have g0:=hrel.key j p d hj hd;have g9:=hrel.val j p d hj hd;have hv:D.val l p.1=p.2:=by unfold D.val;rw[D.Ov hrel.nd (show l[j]?=some (p.1,p.2)from hj)];rfl
  unfold Bz at hq
  split at hq
  ·have e6:=aw.mono hx.mono _ _ g0;have a6:=g9.mono hx.mono;unfold E1 at a6;simp only[aw]
   cases vk with
   |data et=>
    dsimp only at hq a6
    split at hq
    ·cases hq
     exact⟨_,rfl,ay.cons (by simp[aw]) (ay.cons e6 (ay.cons (by rw[hv];exact a6) ay.nil))⟩
    cases hq
   |Oq=>cases hq
   |dD f et=>
    dsimp only at hq a6
    cases hq
    obtain⟨x,g7,x2⟩:=a6;refine⟨_,rfl,ay.cons (by simp[aw]) (ay.cons e6 (ay.cons ?_ ay.nil))⟩;simp only[aw];exact⟨x.1,x.2,g7,x2,_,hx.mono.mm _ _ e0⟩
  cases hq
end
end
end
end Go.PB
end
