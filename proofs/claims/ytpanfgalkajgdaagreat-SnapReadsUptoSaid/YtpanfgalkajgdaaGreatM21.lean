import Derived.WalkKit
import Derived.ProofKit
import Derived.OpenShut
import Derived.Lib.ConvBytes
import Derived.Test.YtpanfgalkajgdaaGreatM11
import Derived.Test.YtpanfgalkajgdaaGreatM17
set_option linter.all false
noncomputable section
namespace Go.Proofs
open Go Go.PB Go.ChangeShapes Go.WideShapes Go.ChangeAt Go.RowKit Go.Op
def nO (c:UInt8):Bool:=decide (97<=c.toNat)&&decide (c.toNat<=122)
def wt (c:UInt8):Bool:=decide (48<=c.toNat)&&decide (c.toNat<=57)
def cC (s:List UInt8):Bool:=decide (0<s.length)&&decide (s.length<=32)&&nO (s.getD 0 0)&&s.all fun c=>nO c||wt c
def Yd (w:World)(e:TypeId)(s:ByteArray):EG w (Go.Lib.bytesWorld w e s):=by
 refine⟨by rw[Go.Lib.bytesWorld_size];omega,fun c hc=>Go.Lib.bytesWorld_at_old w e s c hc,?_,?_,?_⟩<;>rfl
def IA (s:ByteArray):∀(n i:Nat) (r:List UInt8),s.size-i=n->r.length<=(ByteArray.toList.loop s i r).length:=by
 intro n
 induction n with
 |zero=>intro i r h;unfold ByteArray.toList.loop;rw[ifN];simp
 |succ n A=>intro i r h;unfold ByteArray.toList.loop;rw[ifP];have:=A (i+1) (s.get! i::r) (by omega);simp only[amB]at this;omega
def R0 {s:ByteArray}(h:s.toList=[]):s.size=0:=by
 rcases aoT s.size with h0|h0
 ·exact h0
 have h1:s.toList=ByteArray.toList.loop s 1 [s.get! 0]:=by show ByteArray.toList.loop s 0 []=_;rw[ByteArray.toList.loop,amu h0]
 have:=IA s (s.size-1) 1 [s.get! 0] rfl;rw[<-h1,h]at this;simp at this
def MM {s:ByteArray}(h:s.size=0):s=ByteArray.empty:=aoR (ao6 h)
set_option maxRecDepth 20000
def VZ (s:ByteArray)(w:World)(hs:s.size<=maxLen):
 Calls pg 293 #[.string s] w fun e w'=>e= .returned (.bool (cC s.data.toList))/\EG w w':=by
 unfold maxLen at hs;have U:s.data.toList.length=s.size:=rfl;have h0:∀h:0<s.size,s.data.toList.getD 0 0=s[0]:=fun h=>by simp only[List.getD,ans];rw[am0 h];rfl
 go_enter Tryz.func293,Tryz.ntmps293
 go_wp2
 ·rename_i h
  go_ret
  refine⟨?_,EG.refl w⟩;have h:s=ByteArray.empty:=MM (R0 h);subst h;rfl
 ·rename_i h1 h2 V h4
  go_ret
  refine⟨?_,EG.refl w⟩;have:¬(s[0].toNat<=122):=by
   rcases h4 with ((h4|h4)|h4)|h4
   ·have:=R0 (ao8.1 h4);omega
   ·omega
   ·omega
   omega
  have e:cC s.data.toList=false:=by unfold cC;rw[h0 h2];simp[nO,this]
  rw[e];rfl
 ·rw[Go.Lib.run_convert_string_bytes w 9 117 5 s (u:= .string) (by kernel_rfl) (by kernel_rfl) (by kernel_rfl)];have hk:=Yd w 5 s;have I:∀j,j<s.size->(Go.Lib.bytesWorld w 5 s).cell? ⟨w.heap.size,j,none⟩=some (.int .u8 (s.data.toList.getD j 0).toNat):=fun j hj=>Go.Lib.bytesWorld_cell w 5 s j hj;generalize Go.Lib.bytesWorld w 5 s=w1 at hk I ⊢
  go_wp2
  go_loop [25] (fun i=>∃k:Nat,k<=s.size/\i= .int .i64 k/\(s.data.toList.take k).all (fun c=>nO c||wt c)=true) (fun i=>s.size-(intOf i).toNat)
  case atStart=>exact⟨0,anX _,rfl,rfl⟩
  case round=>
   obtain⟨k,a7,rfl,A⟩:=hrel
   by_cases J:k<s.size
   ·have hc:=I k J;have hat:s.data.toList.getD k 0=s.data[k]:=(by simp only[List.getD,ans];rw[am0 J];rfl);have Z:s.data.toList.take (k+1)=s.data.toList.take k++[s.data[k]]:=(by rw[aoq (by simpa using J)];rfl);have Y:s.data[k]∈s.data.toList:=(by simp);have go:(nO s.data[k]||wt s.data[k])=true->(∃O,O<=s.size/\Value.int IntKind.i64 ((k:Int)+1)=Value.int IntKind.i64 ((O:Nat):Int)/\((s.data.toList.take O).all fun c=>nO c||wt c)=true)/\
     s.size-(intOf (Value.int IntKind.i64 ((k:Int)+1))).toNat<s.size-(intOf (Value.int IntKind.i64 (k:Int))).toNat:=fun h=>by
     refine⟨⟨k+1,by omega,rfl,?_⟩,by simp[intOf];omega⟩;rw[Z,aod,A];simpa using h
    have pc:(nO s.data[k]||wt s.data[k])=false->cC s.data.toList=false:=fun h=>by have:(s.data.toList.all fun c=>nO c||wt c)=false:=(by rw[aoX];exact⟨_,Y,by simp[h]⟩);unfold cC;rw[this];simp
    simp only[nO,wt,anZ,amo,aml]at go;simp only[nO,wt,apb,ant,amk]at pc
    go_wp2
    all_goals first
     |exact go (by omega)
     | (go_ret;refine⟨?_,hk⟩;rw[pc (by omega)];rfl)
   have a6:k=s.size:=(by omega);have e:cC s.data.toList=true:=by rw[a6,amv (by rw[U];exact amG _)]at A;have q3:0<s.size:=(by assumption);unfold cC;rw[A,h0 q3];simp[nO,U];omega
   go_wp2
   go_ret
   exact⟨by first|rfl| (rw[e];rfl),hk⟩
 ·rename_i h1 h2 V h4
  go_ret
  refine⟨?_,EG.refl w⟩;have:¬97<=s[0].toNat:=by omega
  have e:cC s.data.toList=false:=by unfold cC;rw[h0 V];simp[nO,this]
  rw[e];rfl
 ·rename_i K h1 h2 V
  have h4:s=ByteArray.empty:=MM (by omega);subst h4;have h5:ByteArray.empty.toList=[]:=by unfold ByteArray.toList ByteArray.toList.loop;rw[amt (by decide)];rfl
  exact absurd h5 (by assumption)
 rename_i h1 h2
 go_ret
 refine⟨?_,EG.refl w⟩;have V:¬s.size<=32:=by omega
 have e:cC s.data.toList=false:=by unfold cC;rw[U];simp[V]
 rw[e];rfl
def kX (s:List UInt8)(hs:s.length<=maxLen):dZ pg dj [aq] [.s s] [aj] (·= .b (cC s)):=by
 intro fz w A I O;have V:AB pg [aq] [.s s]=[.ax s]:=by kernel_rfl
 have U:∀b,K0 pg [aj] (.b b)= .bool b:=fun b=>by kernel_rfl
 rw[V]at O;obtain⟨v,h1,h2⟩:=ay.one O;simp only[aw]at h2;subst h2;obtain⟨l⟩:=A;have h1:l=[.string ⟨s.toArray⟩]:=h1;subst h1;refine(VZ ⟨s.toArray⟩ w (show s.toArray.size<=maxLen by simpa using hs)).mono ?_;rintro Y w' ⟨rfl,J⟩;exact⟨_,fz,_,rfl,J,fun _ h=>h,fun c h=>amX (I c h) J.size,fun c h _=>h,by rw[U];simp[aw],rfl⟩
end Go.Proofs
namespace Go.Proofs
open Go Go.PB
def Bx (s:List UInt8)(hs:s.length<2^63):dZ pg dz [aq] [.s s] [aj] (·= .b (cC s)):=by
 have loop:∀(rest:List UInt8) (i:Nat),s.drop i=rest->(0<i->nO (s.getD 0 0)=true)->((s.take i).all fun c=>nO c||wt c)=true->
  aC pg dz [aj] (.cY (·= .b (cC s))) (mV (.s s) i):=by
  intro rest
  induction rest with
  |nil=>
   intro i hd h0 A;have hi:=drop_nil hd;rw[amv hi]at A;refine CW ?_;simp only[rk,D.dS,aml,amk];refine⟨fun h=>by omega,fun _=>⟨fun h=>?_,fun h=>?_⟩⟩
   ·have hl:0<s.length:=(by omega);have Y:nO (s.getD 0 0)=true:=h0 (by omega);unfold cC;rw[A,Y];simp[hl];omega
   have hl:¬0<s.length:=(by omega);unfold cC;simp[hl]
  |cons c rest ih=>
   intro i hd h0 A;obtain⟨O,Z,V⟩:=aF hd;have hat:s.getD i 0=c:=(by simp[List.getD,O]);have I:=amn O;have no:nO c=false->(wt c=false\/i=0)->D.b false=D.b (cC s):=fun h1 h2=>by
    rcases h2 with h2|h2
    ·have:s.all (fun c=>nO c||wt c)=false:=(by rw[aoX];exact⟨c,I,by simp[h1,h2]⟩);unfold cC;rw[this];simp
    subst h2;unfold cC;rw[hat,h1];simp
   have J:(nO c=true\/wt c=true/\i≠0)->aC pg dz [aj] (.cY (·= .b (cC s))) (mV (.s s) (IntKind.i64.wrap ((i:Int)+1))):=fun h=>by
    rw[bL V];refine ih (i+1) Z (fun _=>?_) ?_
    ·by_cases hi:i=0
     ·subst hi;rw[hat];rcases h with h|h
      ·exact h
      exact absurd rfl h.2
     exact h0 (by omega)
    rw[bH O,aod,A];rcases h with h|h
    ·simp[h]
    simp[h.1]
   have hc:=c.toNat_lt;simp only[nO,wt,amo,aml,ant,amk]at no J;refine CW ?_;simp only[rk,D.dS,amq,hat,aR V,amJ,amP,aml,amk,amY,amF];refine⟨fun _=>⟨fun _=>⟨fun a1=>⟨fun U=>⟨fun a3=>⟨fun a4=>no (by omega) (by omega),fun a4=>⟨fun a5=>no (by omega) (by omega),fun a5=>J (by omega)⟩⟩,fun a3=>J (by omega)⟩,fun U=>by omega⟩,fun a1=>⟨fun U=>⟨fun a3=>no (by omega) (by omega),fun a3=>⟨fun a5=>no (by omega) (by omega),fun a5=>J (by omega)⟩⟩,fun U=>no (by omega) (by omega)⟩⟩,fun h=>by simp at h⟩,fun h=>by omega⟩
 exact Rp (loop s 0 rfl (by omega) rfl)
namespace Ex
def kI (v:Ex):Bool:=
 if v.k=1 then v.s==[]&&v.l.length==0
 else if v.k=2 then v.n==0&&decide (v.s.length<=256)&&v.l.length==0
 else if v.k=3 then v.n==0&&v.s==[]
 else if v.k=4 then v.n==0&&cC v.s&&v.l.length==0
 else false
mutual
def lH:Ex->Bool
 | .mk k n s l=>iF l&&kI (.mk k n s l)
def iF:List Ex->Bool
 | []=>true
 |v::r=>lH v&&iF r
end
mutual
def oT:Ex->Nat
 | .mk k _ _ l=>if k=3 then jc l+1 else 0
def jc:List Ex->Nat
 | []=>0
 |v::r=>max (oT v) (jc r)
end
def Fw (v:Ex):v.lH=(iF v.l&&v.kI):=by cases v;rfl
def Sn (v:Ex):v.oT=if v.k=3 then jc v.l+1 else 0:=by cases v;rfl
mutual
def M3:∀v:Ex,v.oT<=v.size
 | .mk k n s l=>by have:=JS l;simp only[oT,size];split<;>omega
def JS:∀l:List Ex,jc l<=bA l
 | []=>by simp[jc]
 |v::r=>by have:=M3 v;have:=JS r;simp only[jc,bA];omega
end
def DI {v:Ex}(h:v.kI=true)(I:v.k≠3):v.l=[]:=by
 unfold kI at h
 by_cases h1:v.k=1
 ·rw[amu h1]at h;simp at h;exact h.2
 rw[amt h1]at h
 by_cases h2:v.k=2
 ·rw[amu h2]at h;simp at h;exact h.2
 rw[amt h2,amt I]at h
 by_cases A:v.k=4
 ·rw[amu A]at h;simp at h;exact h.2
 rw[amt A]at h;cases h
mutual
def Sy:∀v:Ex,v.lH=true->v.ht<=v.oT
 | .mk k n s l,h=>by
   simp only[lH,amo]at h;have:=PX l h.1;simp only[ht,oT]
   by_cases A:k=3
   ·rw[amu A];exact this
   rw[amt A];have hl:l=[]:=DI h.2 A;rw[hl];simp[Ln]
def PX:∀l:List Ex,iF l=true->Ln l<=jc l+1
 | [],_=>by simp[Ln]
 |v::r,h=>by simp only[iF,amo]at h;have:=Sy v h.1;have:=PX r h.2;simp only[Ln,jc];omega
end
def fE (v:Ex):Bool:=decide (v.size<=512)&&decide (v.oT<=16)&&v.lH
end Ex
def adk (v:Ex):∀k:Int,0<=k->k<=17->v.ok->v.size<2^40->dZ pg jQ [aI,ah] [v.ar,.z k] [ah] (fun d=>d= .z (D.int d)/\xX v.size v.ht k (D.int d)):=by
 induction v using Ex.ind with|h v ih=>
 intro k h0 h1 Y hs;have a7:=v.fN;have loop:∀(rest:List Ex) (i:Nat) (n:Int),k<=16->v.l.drop i=rest->1<=n->n+513*Ex.bA rest<=513*v.size->(n+Ex.bA rest=v.size/\n<=512/\k+v.ht<=16/\v.size<=512\/¬(k+v.ht<=16/\v.size<=512)/\(n<=512->n+Ex.bA rest>512\/k+Ex.Ln rest>16))->
  aC pg jQ [ah] (.cY fun d=>d= .z (D.int d)/\xX v.size v.ht k (D.int d)) (su v.ar (.z k) n i):=by
  intro rest
  induction rest with
  |nil=>intro i n V hd h1 h2 I;have:=drop_nil hd;refine Es ?_;simp only[Ex.bA,Ex.Ln]at h2 I;simp[this,xX];omega
  |cons x rest U=>intro i n V hd a6 O A;obtain⟨h1,h2,I⟩:=aF hd;have J:=amn h1;have a8:=Ex.fW J;have Z:=Ex.YE J;have b1:=v.aa2;refine Es ?_;simp only[Ex.bA,Ex.Ln]at O A;simp[-exists_and_left,I,aR,bC h1,bL I Y.len];refine⟨fun hn=>?_,fun hn=>by simp only[xX];omega⟩;rw[bM];refine⟨_,_,_,rfl,ih x J (k+1) (by omega) (by omega) (Y.mem J) (by omega),?_⟩;rintro d ⟨_,hq⟩;obtain⟨q1,q2,q3,q4⟩:=hq;rw[bM];refine U _ _ V h2 (by omega) (by omega) ?_;rw[show ((max (x.ht+1) (Ex.Ln rest):Nat):Int)=max ((x.ht:Int)+1) (Ex.Ln rest)by omega]at A;omega
 refine WN ?_;simp;refine⟨fun h=>by simp only[xX];have:=v.fN;omega,fun h=>loop v.l 0 1 h rfl (by omega) (by omega) ?_⟩;have:=v.aa2;omega
def af9 (v:Ex):v.ok->v.size<2^40->dZ pg mo [aI] [v.ar] [ah] (·= .z v.oT):=by
 induction v using Ex.ind with|h v ih=>
 intro U hs;have Y:=v.fN;have loop:∀(rest:List Ex) (i:Nat) (n:Int),v.l.drop i=rest->0<=n->n<2^40->aC pg mo [ah] (.cY (·= .z (max n (Ex.jc rest)+1))) (uQ v.ar n i):=by
  intro rest
  induction rest with
  |nil=>intro i n hd A Z;have:=drop_nil hd;refine FZ ?_;simp[this,Ex.jc,apH A];exact⟨by omega,bM⟩
  |cons x rest J=>intro i n hd A Z;obtain⟨h1,h2,O⟩:=aF hd;have I:=amn h1;have a6:=Ex.fW I;have V:=x.M3;refine FZ ?_;simp[-exists_and_left,-gt_iff_lt,O,aR,bC h1,bL O U.len];refine⟨_,_,_,rfl,ih x I (U.mem I) (by omega),?_⟩;rintro d hd;rw[TQ];subst hd;have e:=J (i+1) (max n x.oT) h2 (by omega) (by omega);rw[show max (max n (x.oT:Int)) (Ex.jc rest)=max n (Ex.jc (x::rest))by rw[show Ex.jc (x::rest)=max x.oT (Ex.jc rest)from rfl];omega]at e;exact e
 have e:=loop v.l 0 0 rfl (by omega) (by omega);rw[show max (0:Int) (Ex.jc v.l)+1=((Ex.jc v.l+1:Nat):Int)by omega]at e;refine Y7 ?_;rw[v.Sn];simp;exact⟨fun h=>by rw[amt h];rfl,fun h=>by rw[amu h];exact e⟩
def ZE (v:Ex):v.ok->dZ pg iQ [aI] [v.ar] [aj] (·= .b v.lH):=by
 induction v using Ex.ind with|h v ih=>
 intro Z;have hf:=v.Fw;have a6:v.s.length<2^63:=by have:=(Ex.fe v).1 Z;omega
 have loop:∀(rest:List Ex) (i:Nat),v.l.drop i=rest->(Ex.iF rest=Ex.iF v.l)->aC pg iQ [aj] (.cY (·= .b v.lH)) (ss v.ar i):=by
  intro rest
  induction rest with
  |nil=>
   intro i hd O;have:=drop_nil hd;refine Er ?_;simp only[rk,Ex.ek,Ex.jP,Ex.pR,Ex.hI,amm,aml,amk,amY,amF,an3];have Y:v.lH=v.kI:=(by rw[hf,<-O];simp[Ex.iF]);rw[Y];have V:(((v.l.length:Nat):Int)==0)=(v.l.length==0):=(by rw[amW];simp);unfold Ex.kI;refine⟨fun h=>by omega,fun _=>⟨fun J=>⟨fun a=>?_,fun a=>?_⟩,fun J=>⟨fun A=>⟨fun a=>⟨fun b=>?_,fun b=>?_⟩,fun a=>?_⟩,fun A=>⟨fun U=>⟨fun a=>?_,fun a=>?_⟩,fun U=>⟨fun I=>⟨fun a=>⟨_,_,_,rfl,Bx v.s ?_,?_⟩,fun a=>?_⟩,fun I=>?_⟩⟩⟩⟩⟩
   ·simp[J,a,V]
   ·simp[J,a]
   ·have b:v.s.length<=256:=(by omega);simp[A,a,b,V]
   ·have b:¬v.s.length<=256:=(by omega);simp[A,a,b]
   ·simp[A,a]
   ·simp[U,a]
   ·simp[U,a]
   ·exact a6
   ·rintro _ rfl;simp only[D.bV];exact⟨fun b=>by simp[I,a,b,V],fun b=>by simp[I,a,b]⟩
   ·simp[I,a]
   simp[J,A,U,I]
  |cons x rest a7=>
   intro i hd O;obtain⟨h1,h2,h3⟩:=aF hd;have hx:=amn h1;refine Er ?_;simp[-exists_and_left,h3,aR,bC h1,bL h3 Z.len];refine⟨_,_,_,rfl,ih x hx (Z.mem hx),?_⟩;rintro _ rfl;simp only[D.bV];refine⟨fun h=>?_,fun h=>?_⟩
   ·rw[hf,<-O];simp[Ex.iF,h]
   refine a7 _ h2 ?_;rw[<-O];simp[Ex.iF,h]
 exact Ui (loop v.l 0 rfl rfl)
def Xa (v:Ex)(A:v.ok)(hs:v.size<2^40):dZ pg oG [aI] [v.ar] [aj] (·= .b v.fE):=by
 refine Ro ?_;simp only[rk,Ex.re,aml,amk];refine⟨_,_,_,rfl,adk v 0 (by omega) (by omega) A hs,?_⟩;rintro d ⟨_,J⟩;simp only[xX]at J;obtain⟨V,Z,Y,U⟩:=J;refine⟨fun h=>⟨_,_,_,rfl,af9 v A hs,?_⟩,fun h=>?_⟩
 ·rintro _ rfl;simp only[D.bu];have I:v.size<=512:=by omega
  refine⟨fun h2=>⟨_,_,_,rfl,ZE v A,?_⟩,fun h2=>?_⟩
  ·rintro _ rfl;have h2:v.oT<=16:=(by omega);simp[Ex.fE,I,h2]
  have h2:¬v.oT<=16:=by omega
  simp[Ex.fE,h2]
 cases hf:v.lH with
 |false=>simp[Ex.fE,hf]
 |true=>
  have:=v.Sy hf;have O:¬(v.size<=512/\v.oT<=16):=by omega
  have:(decide (v.size<=512)&&decide (v.oT<=16))=false:=by simpa using O
  simp[Ex.fE,this]
def SL (l:List cg)(hl:l.length<2^62):dZ pg fJ [fY] [.r (zi l)] [aj] (·= .b (!decide l.Nodup)):=by
 have V:l.Nodup↔∀i j (hi:i<l.length) (hj:j<l.length),i<j->l[i]≠l[j]:=by rw[List.Nodup,List.pairwise_iff_getElem]
 have hat:∀i (h:i<l.length),D.at (zi l) i= .s l[i]:=fun i h=>bC (f:=D.s) (amr h);have U:∀(m i:Nat),m+i=l.length->(∀a b (A:a<l.length) (hb:b<l.length),a<b->b<i->l[a]≠l[b])->aC pg fJ [aj] (.cY (·= .b (!decide l.Nodup))) (uP (.r (zi l)) i):=by
  intro m
  induction m with
  |zero=>intro i hm hp;refine FY ?_;simp only[rk,D.aK,amm,aml,amk];refine⟨fun h=>by omega,fun _=>?_⟩;have:l.Nodup:=V.2 fun a b A hb J=>hp a b A hb J (by omega);simp[this]
  |succ m ih=>
   intro i hm hp;have hi:i<l.length:=(by omega);have O:∀(q k:Nat),q+k=i->(∀a (A:a<l.length),a<k->l[a]≠l[i])->aC pg fJ [aj] (.cY (·= .b (!decide l.Nodup))) (qJ (.r (zi l)) i k):=by
    intro q
    induction q with
    |zero=>
     intro k hq Y;refine CX ?_;simp only[rk,aml,amk];refine⟨fun h=>by omega,fun _=>?_⟩;rw[bL hi];refine ih (i+1) (by omega) fun a b A hb J a7=>?_
     by_cases e:b=i
     ·subst e;exact Y a A (by omega)
     exact hp a b A hb J (by omega)
    |succ q Z=>
     intro k hq Y;have I:k<l.length:=(by omega);refine CX ?_;simp only[rk,D.aK,amm,aml,amk,amq,aR hi,aR I,hat i hi,hat k I,D.dS,amY,amF];refine⟨fun _=>⟨fun _=>⟨fun _=>⟨fun h=>?_,fun h=>?_⟩,fun h=>by simp at h⟩,fun h=>by simp at h⟩,fun h=>by omega⟩
     ·have:¬l.Nodup:=fun n=>V.1 n k i I hi (by omega) h.symm;simp[this]
     rw[bL I];refine Z (k+1) (by omega) fun a A a6=>?_
     by_cases e:a=k
     ·subst e;exact fun e2=>h e2.symm
     exact Y a A (by omega)
   refine FY ?_;simp only[rk,D.aK,amm,aml,amk];exact⟨fun _=>O i 0 (by omega) (by intro a A h;omega),fun h=>by omega⟩
 exact WM (U l.length 0 (by omega) (by intro a b A hb h1 h2;omega))
def gx (l:List fx):Bool:=decide (l.length<=64)&&l.all (fun n=>cC n.nm&&n.v.fE)&&decide (l.map fx.nm).Nodup
def Ux (l:List fx)(hl:l.length<2^62)(Z:∀n∈l,n.ok):dZ pg iZ [fw] [.r (l.map fx.ar)] [aj] (·= .b (gx l)):=by
 have loop:∀(rest:List fx) (i:Nat),l.length<=64->i<=l.length->l.drop i=rest->((l.take i).all fun n=>cC n.nm&&n.v.fE)=true->
  aC pg iZ [aj] (.cY (·= .b (gx l))) (nK (.r (l.map fx.ar)) i i (zi ((l.take i).map fx.nm))):=by
  intro rest
  induction rest with
  |nil=>intro i J O hd A;have hi:=drop_nil hd;have Y:i=l.length:=(by omega);rw[amv hi]at A ⊢;subst Y;refine Al ?_;simp only[rk,D.aK,amm,aml,amk];refine⟨fun h=>by omega,fun _=>⟨fun _=>⟨_,_,_,rfl,SL (l.map fx.nm) (by simpa using hl),?_⟩,fun h=>absurd trivial h⟩⟩;rintro _ rfl;simp[gx,J,A]
  |cons n rest ih=>
   intro i J O hd A;obtain⟨U,g2,g3⟩:=aF hd;have I:=amn U;obtain⟨V,a6⟩:=Z n I;have no:(cC n.nm&&n.v.fE)=false->D.b false=D.b (gx l):=fun h=>by have:l.all (fun n=>cC n.nm&&n.v.fE)=false:=(by rw[aoX];exact⟨n,I,by rw[h];simp⟩);simp only[gx,this];simp
   refine Al ?_;simp only[rk,D.aK,amm,aml,amk,amq,bC U,fx.sT,fx.pS,eN,aR g3];refine⟨fun _=>⟨fun _=>⟨_,_,_,rfl,Bx n.nm V,?_⟩,fun h=>by simp at h⟩,fun h=>by omega⟩;rintro _ rfl;simp only[D.bV,amJ,amP];refine⟨fun h=>no (by simp[h]),fun h1=>⟨_,_,_,rfl,Mq n.v a6,?_⟩⟩;rintro _ rfl;simp only[D.bV,amJ,amP];refine⟨fun h=>no (by simp[h]),fun h2=>⟨fun _=>?_,fun h=>?_⟩⟩
   ·rw[bL g3];have e:=ih (i+1) J (by omega) g2 (by rw[bH U,aod,A];simp[h1,h2]);rw[bH U]at e;simpa using e
   simp[bh]at h;omega
 refine Qj ?_;simp only[rk,D.aK,amm,aml,amk];refine⟨fun h=>?_,fun h=>loop l 0 (by omega) (by omega) rfl rfl⟩;have:¬l.length<=64:=by omega
 simp[gx,this]
def agc (v:aA):v.ok->v.size<2^30->v.gX=true->dZ pg mu [ak] [v.ar] [dH] (·= .r (aY v.jA)):=by
 induction v using aA.ind with|h v ih=>
 intro U hs hf;have a6:=v.fN;have A:=v.UG;have Z:=aA.C7 v;have loop:∀(rest:List aA) (i:Nat) (o:List Int),v.l.drop i=rest->o++aA.dF rest=v.jA->aC pg mu [dH] (.cY (·= .r (aY v.jA))) (uU v.ar o.length i (aY o)):=by
  intro rest
  induction rest with
  |nil=>intro i o hd ho;have:=drop_nil hd;refine F0 ?_;simp only[aA.dF,ana]at ho;subst ho;simp[this];omega
  |cons x rest O=>intro i o hd ho;obtain⟨V,g2,Y⟩:=aF hd;have I:=amn V;have a7:=aA.fW I;have J:=amZ List.length ho;simp only[aA.dF,ams]at J;refine F0 ?_;simp[-exists_and_left,-List.map_append,Y,aR,bC V,bL Y U.len];refine⟨_,_,_,rfl,ih x I (U.mem I) (by omega) (U.af hf I),?_⟩;rintro _ rfl;simp only[D.aK,amm];refine⟨fun _=>?_,by simp[bh];omega⟩;have e:=O (i+1) (o++x.jA) g2 (by simpa [aA.dF]using ho);simpa using e
 refine Zc ?_;simp;refine⟨fun h=>?_,fun h=>?_⟩
 ·have:v.l=[]:=by rw[aA.qA]at hf;simp only[aA.field,h,amo]at hf;simp at hf;exact hf.2.1.2
  simp[A,h,this,aA.dF]
 exact loop v.l 0 [] rfl (by simp[A,h])
def D.aeJ (k:D):D.Ht k k=true:=by simp[D.Ht]
def D.akO (a b:cg):D.Ht (.s a) (.s b)=decide (a=b):=by
 unfold D.Ht
 by_cases h:a=b
 ·subst h;simp
 simp[h]
def D.acw (m:List (D×D))(k v:D):D.ia (D.mC m k v) k=(D.ia m k).map fun _=>v:=by
 induction m with
 |nil=>rfl
 |cons p q A=>
  cases h:D.Ht p.1 k with
  |true=>simp only[D.mC,h,D.ia];rfl
  |false=>simp only[D.mC,h,D.ia];exact A
def D.acx {m:List (D×D)}{k v:D}(h:D.ia m k=none):D.ia (m++[(k,v)]) k=some v:=by
 induction m with
 |nil=>simp only[an0,D.ia,D.aeJ]
 |cons p q A=>
  cases e:D.Ht p.1 k with
  |true=>simp only[D.ia,e]at h;cases h
  |false=>simp only[D.ia,e]at h;simp only[anM,D.ia,e];exact A h
def V3 (l:List cg):List (D×D):=l.map fun s=>(D.s s,D.z 1)
def afd (l:List cg)(s:cg):D.ia (V3 l) (.s s)=if s∈l then some (.z 1)else none:=by
 induction l with
 |nil=>rfl
 |cons a r A=>
  simp only[V3,anb,D.ia,D.akO]at A ⊢
  by_cases h:a=s
  ·simp[h]
  have:¬s=a:=fun e=>h e.symm;simp only[h,ani,amz,this,aqk];exact A
def aa4 (l:List cg)(hl:l.length<2^62):dZ pg oF [fY] [.r (zi l)] [aj] (·= .b (!decide l.Nodup)):=by
 have loop:∀(rest:List cg) (i:Nat) (st:List Nat) (c:Nat),l.drop i=rest->(l.take i).Nodup->aC pg oF [aj] (.cY (·= .b (!decide l.Nodup))) (uH (.r (zi l)) i (V3 (l.take i)) st c):=by
  intro rest
  induction rest with
  |nil=>intro i st c hd V;have hi:=drop_nil hd;rw[amv hi]at V;refine KB ?_;simp only[rk,D.aK,amm,aml,amk];exact⟨fun h=>by omega,fun _=>by simp[V]⟩
  |cons s rest ih=>
   intro i st c hd V;obtain⟨U,g2,Z⟩:=aF hd;have A:=afd (l.take i) s;refine KB ?_;simp only[rk,D.aK,amm,aml,amk,amq,bC (f:=D.s) U,D.dS,aR Z];refine⟨fun _=>⟨fun _=>⟨fun h=>?_,fun h=>?_⟩,fun h=>by simp at h⟩,fun h=>by omega⟩
   ·have O:s∈l.take i:=by
     by_cases e:s∈l.take i
     ·exact e
     rw[amt e]at A;simp[D.i7,A]at h
    rw[amu O]at A;have hv:D.val (V3 (l.take i)) (.s s)= .z 1:=(by simp[D.val,A]);have h2:D.ia (D.mC (V3 (l.take i)) (.s s) (.z 2)) (.s s)=some (.z 2):=(by rw[D.acw,A];rfl);have hw:IntKind.i64.wrap ((1:Int)+1)=2:=(by rfl);rw[hv,D.bu,hw];have hno:¬l.Nodup:=fun n=>by have Y:(l.take (i+1)).Nodup:=n.sublist (List.take_sublist _ _);rw[bH U,aop]at Y;exact Y.2.2 s O s (by simp) rfl
    refine⟨fun _=>⟨fun _=>by simp[hno],fun J=>?_⟩,fun J=>?_⟩
    ·simp[D.val,h2]at J
    simp[D.i7,h2]at J
   have I:¬s∈l.take i:=fun e=>by rw[amu e]at A;simp[D.i7,A]at h
   rw[amt I]at A;have h2:=D.acx (v:= .z 1) A
   have e:=ih (i+1) (st++[c]) (c+1) g2 (by
    rw[bH U,aop]
    exact⟨V,by simp,fun a ha b hb=>by simp only[amQ]at hb;subst hb;exact fun e=>I (e▸ha)⟩)
   have e3:V3 (l.take (i+1))=V3 (l.take i)++[(.s s,.z 1)]:=(by rw[bH U];simp[V3]);rw[e3]at e;rw[bL Z];refine⟨fun _=>⟨fun J=>?_,fun _=>e⟩,fun J=>?_⟩
   ·simp[D.val,h2]at J
   simp[D.i7,h2]at J
 exact acM (loop l 0 [] 0 rfl (by simp))
def YJ (l:List fx)(hl:l.length<2^62)(Y:∀n∈l,n.ok):dZ pg lA [fw] [.r (l.map fx.ar)] [aj] (·= .b (gx l)):=by
 have loop:∀(rest:List fx) (i:Nat),l.length<=64->i<=l.length->l.drop i=rest->((l.take i).all fun n=>cC n.nm&&n.v.fE)=true->
  aC pg lA [aj] (.cY (·= .b (gx l))) (qH (.r (l.map fx.ar)) i i (zi ((l.take i).map fx.nm))):=by
  intro rest
  induction rest with
  |nil=>intro i J O hd A;have hi:=drop_nil hd;have V:i=l.length:=(by omega);rw[amv hi]at A ⊢;subst V;refine CU ?_;simp only[rk,D.aK,amm,aml,amk];refine⟨fun h=>by omega,fun _=>⟨fun _=>⟨_,_,_,rfl,aa4 (l.map fx.nm) (by simpa using hl),?_⟩,fun h=>absurd trivial h⟩⟩;rintro _ rfl;simp[gx,J,A]
  |cons n rest ih=>
   intro i J O hd A;obtain⟨U,g2,g3⟩:=aF hd;have I:=amn U;obtain⟨a6,Z⟩:=Y n I;have no:(cC n.nm&&n.v.fE)=false->D.b false=D.b (gx l):=fun h=>by have:l.all (fun n=>cC n.nm&&n.v.fE)=false:=(by rw[aoX];exact⟨n,I,by rw[h];simp⟩);simp only[gx,this];simp
   refine CU ?_;simp only[rk,D.aK,amm,aml,amk,amq,bC U,fx.sT,fx.pS,eN,aR g3];refine⟨fun _=>⟨fun _=>⟨_,_,_,rfl,kX n.nm (by unfold maxLen;omega),?_⟩,fun h=>by simp at h⟩,fun h=>by omega⟩;rintro _ rfl;simp only[D.bV,amJ,amP];refine⟨fun h=>no (by simp[h]),fun h1=>⟨_,_,_,rfl,QR n.v Z,?_⟩⟩;rintro _ rfl;simp only[D.bV,amJ,amP];refine⟨fun h=>no (by simp[h]),fun h2=>⟨fun _=>?_,fun h=>?_⟩⟩
   ·rw[bL g3];have e:=ih (i+1) J (by omega) g2 (by rw[bH U,aod,A];simp[h1,h2]);rw[bH U]at e;simpa using e
   simp[bh]at h;omega
 refine Ua ?_;simp only[rk,D.aK,amm,aml,amk];refine⟨fun h=>?_,fun h=>loop l 0 (by omega) (by omega) rfl rfl⟩;have:¬l.length<=64:=by omega
 simp[gx,this]
def AW (x:Ex)(m k:Int):Prop:=x.lH=true/\(x.size:Int)<=m/\(x.oT:Int)<=k
def PR (l:List Ex)(m k:Int):Prop:=Ex.iF l=true/\(Ex.bA l:Int)<=m/\(Ex.jc l:Int)<=k
def U6 (x:Ex)(m k:Int)(d:D):Prop:=((d.af 0).bool=true↔AW x m k)/\(AW x m k->(d.af 1).int=m-x.size)
def ajO {x:Ex}{m k:Int}{b:Bool}{n:Int}(h1:b=true↔AW x m k)(h2:AW x m k->n=m-x.size):
 ∃d,T.dV (BV.bool b,[(0,aE.cells [.int .i64 n] ah false)]) (T.ret (BV.bool (d.af 0).bool,[(0,aE.cells [.int .i64 (d.af 1).int] ah false)]))/\U6 x m k d:=⟨.r [.b b,.z n],.ret,h1,h2⟩
def Lt (l:List Ex)(m k:Int)(b:Bool)(n:Int):Prop:=(b=false↔PR l m (k-1))/\(PR l m (k-1)->n=m-Ex.bA l)
def acm (x:Ex):∀m k:Int,x.ok->x.size<2^30->0<=m->m<=600->0<=k->k<=16->
 PH nh (sM x.ar m k) (sQ x.ar m k) 1 gr (U6 x m k):=by
 induction x using Ex.ind with|h x ih=>
 intro m k hx hs h0 h1 h2 h3;have U:=x.fN;have a7:=x.Sn;have I:=x.Fw;have d4:=(Ex.fe x).1 hx;have loop:∀(J:Int) (rest:List Ex) (i:Nat) (n:Int),0<k->0<=n->n<=600->x.l.drop i=rest->
  aC pg jD [ah] (.bK 3 (q8 (jC (x.l.map Ex.ar) J k) (eC (x.l.map Ex.ar) J k)) fun d=>Lt rest n k (decide (0<=(d.af 0).int)) (d.af 1).int) (jL (x.l.map Ex.ar) J k i n):=by
  intro J rest
  induction rest with
  |nil=>intro i n Y b4 hn hd;have:=drop_nil hd;refine vn ?_;simp only[rk,amm];refine⟨fun h=>by simp at h;omega,fun _=>⟨rfl,.r [.z (-1),.z n],.ret,?_⟩⟩;simp[Lt,PR,Ex.bA,Ex.jc,Ex.iF,D.af,D.at];omega
  |cons y rest b6=>
   intro i n Y b4 hn hd;obtain⟨g1,g2,g3⟩:=aF hd;have hy:=amn g1;have d1:=Ex.fW hy;have d0:0<y.size:=(by have:=y.fN;omega);refine vn ?_;simp[-exists_and_left,g3,aR,bC g1,bL g3 hx.len];rw[bM (x:=k-1)];refine⟨_,_,rfl,ih y hy n (k-1) (hx.mem hy) (by omega) b4 (by omega) (by omega) (by omega),?_⟩;rintro d ⟨q1,q2⟩;have a6:∀a b,Lt (y::rest) n k a b↔((a=false↔((y.lH&&Ex.iF rest)=true/\((y.size+Ex.bA rest:Nat):Int)<=n/\((max y.oT (Ex.jc rest):Nat):Int)<=k-1))/\(((y.lH&&Ex.iF rest)=true/\((y.size+Ex.bA rest:Nat):Int)<=n/\((max y.oT (Ex.jc rest):Nat):Int)<=k-1)->b=n-((y.size+Ex.bA rest:Nat):Int))):=fun a b=>Iff.rfl;refine⟨fun hb=>⟨rfl,.r [.z i,.z (d.af 1).int],.ret,?_⟩,fun hb=>?_⟩
   ·have hno:¬AW y n (k-1):=fun h=>by rw[q1.2 h]at hb;cases hb
    rw[a6];simp only[AW,amo]at hno ⊢;have e0:decide (0<=D.int (D.af (.r [.z (i:Int),.z (d.af 1).int]) 0))=true:=(by show decide (0<=(i:Int))=true;simp);rw[e0];exact⟨⟨fun a=>by simp at a,fun a=>(hno ⟨a.1.1,by omega,by omega⟩).elim⟩,fun a=>(hno ⟨a.1.1,by omega,by omega⟩).elim⟩
   have O:=q1.1 hb;have e:=q2 O;simp only[AW]at O;have:=b6 (i+1) (d.af 1).int Y (by omega) (by omega) g2;refine aC.Ah ?_ this;intro d2 Z;rw[a6];simp only[Lt,PR,amo]at Z ⊢;rw[e]at Z;refine⟨Z.1.trans ⟨fun a=>⟨⟨O.1,a.1⟩,by omega,by omega⟩,fun a=>⟨a.1.2,by omega,by omega⟩⟩,fun a=>by have:=Z.2 ⟨a.1.2,by omega,by omega⟩;omega⟩
 have a8:∀J:Int,0<k->0<=J->J<=600->PH eK (jC (x.l.map Ex.ar) J k) (eC (x.l.map Ex.ar) J k) 3 hC
  (fun d=>Lt x.l J k (d.af 0).bool (d.af 1).int):=by
  intro J Y a b;refine DY ?_;simp only[rk];refine⟨_,_,rfl,G9 (loop J x.l 0 J Y a b rfl),?_⟩;intro d hd;exact⟨rfl,.r [.b _,.z _],.ret,hd⟩
 have d3:=Ex.fv x.l;refine WE ?_;rw[bM (x:=m-1)];simp only[rk,Ex.ek,Ex.jP,Ex.pR,Ex.hI,amm,aml,amk];refine⟨fun h=>⟨rfl,ajO ?_ ?_⟩,fun hm=>?_⟩
 ·simp only[AW,amp,false_iff];omega
 ·simp only[AW];omega
 have bz:∀b:Bool,(b=true↔AW x m k)->(b=true->x.k≠3)->tj.bK=some 1/\∃d,T.dV (BV.bool b,[(0,aE.cells [.int .i64 (m-1)] ah false)]) (gr (sM x.ar m k) (sQ x.ar m k) d)/\U6 x m k d:=fun b h e=>⟨rfl,ajO h fun g=>by
  have hl:x.l=[]:=Ex.DI (by have:=g.1;rw[I,amo]at this;exact this.2) (e (h.2 g))
  rw[hl]at U;simp only[Ex.bA]at U;omega⟩
 have A:x.k≠3->∀b:Bool,b=x.kI->tj.bK=some 1/\∃d,T.dV (BV.bool b,[(0,aE.cells [.int .i64 (m-1)] ah false)]) (gr (sM x.ar m k) (sQ x.ar m k) d)/\U6 x m k d:=fun Y b hb=>bz b (by
  rw[hb];constructor
  ·intro g;have hl:x.l=[]:=Ex.DI g Y;rw[amt Y]at a7;rw[hl]at U I;simp only[Ex.bA]at U;refine⟨?_,by omega,by omega⟩;rw[I,g];rfl
  intro g;have:=g.1;rw[I,amo]at this
  exact this.2) (fun _=>Y)
 by_cases k1:x.k=1
 ·have hf:x.kI=(x.s==[]&&x.l.length==0):=by simp[Ex.kI,k1]
  simp[k1];exact⟨fun a=>A (by omega) _ (by rw[hf];simp;intro _ e;simp[e]at a),fun a=>⟨fun b=>A (by omega) _ (by simp[hf,b]),fun b=>A (by omega) _ (by simp[hf,a,b])⟩⟩
 by_cases k2:x.k=2
 ·have hf:x.kI=(x.n==0&&decide (x.s.length<=256)&&x.l.length==0):=by simp[Ex.kI,k2]
  simp[k2];exact⟨fun a=>A (by omega) _ (by simp[hf,a]),fun a=>⟨fun b=>A (by omega) _ (by rw[hf];simp;intro _ _ e;simp[e]at b),fun b=>A (by omega) _ (by simp[hf,a,b];omega)⟩⟩
 by_cases V:x.k=3
 ·have hf:x.kI=(x.n==0&&x.s==[]):=by simp[Ex.kI,V]
  rw[amu V]at a7;simp[-exists_and_left,V];have no:¬AW x m k->tj.bK=some 1/\∃d,T.dV (BV.bool false,[(0,aE.cells [.int .i64 (m-1)] ah false)]) (gr (sM x.ar m k) (sQ x.ar m k) d)/\U6 x m k d:=fun h=>bz false (by simp[h]) (by simp);refine⟨fun a=>no ?_,fun a=>⟨fun b=>no ?_,fun b=>⟨fun c=>⟨_,_,rfl,a8 (m-1) c (by omega) (by omega),?_⟩,fun c=>no ?_⟩⟩⟩
  ·intro g;have:=g.1;rw[I,hf]at this;simp[a]at this
  ·intro g;have:=g.1;rw[I,hf]at this;simp[b]at this
  ·intro d Z;have b1:x.lH=Ex.iF x.l:=(by rw[I,hf];simp[a,b]);simp only[Lt,PR]at Z;refine⟨rfl,ajO ?_ ?_⟩
   ·rw[amJ,Z.1];simp only[AW,b1];exact⟨fun g=>⟨g.1,by omega,by omega⟩,fun g=>⟨g.1,by omega,by omega⟩⟩
   intro g;simp only[AW,b1]at g;have:=Z.2 ⟨g.1,by omega,by omega⟩;omega
  intro g;have:=g.2.2;omega
 by_cases k4:x.k=4
 ·have hf:x.kI=(x.n==0&&cC x.s&&x.l.length==0):=by simp[Ex.kI,k4]
  simp[-exists_and_left,k4];refine⟨fun a=>A (by omega) _ (by simp[-exists_and_left,hf,a]),fun a=>⟨fun b=>A (by omega) _ (by rw[hf];simp;intro _ _ e;simp[-exists_and_left,e]at b),fun b=>⟨_,_,_,rfl,kX x.s (by unfold maxLen;omega),?_⟩⟩⟩;rintro _ rfl;exact A (by omega) _ (by simp[hf,a,b])
 have hf:x.kI=false:=by simp[Ex.kI,k1,k2,V,k4]
 simp[k1,k2,V,k4];exact⟨fun a=>A V _ (by simp[hf]),fun a=>⟨fun b=>A V _ (by simp[hf]),fun b=>⟨fun c=>A V _ (by simp[hf]),fun c=>A V _ (by simp[hf])⟩⟩⟩
def qS (x:Ex)(A:x.ok)(hs:x.size<2^30):dZ pg eL [aI] [x.ar] [aj] (·= .b x.fE):=by
 refine Wv ?_;simp only[rk];refine⟨_,_,rfl,acm x 512 16 A hs (by omega) (by omega) (by omega) (by omega),?_⟩;rintro d ⟨q,_⟩;congr 1;rw[amW,q];simp only[AW,Ex.fE,amo,aml];exact⟨fun g=>⟨⟨by omega,by omega⟩,g.1⟩,fun g=>⟨g.2,by omega,by omega⟩⟩
noncomputable def aaH:cK:=({f:=jI,rs:=[ah],bK:=none,cj:=[],bJ:=[],bB:=[]}:cK)
def als (n:Nat)(h:n<64):dZ pg jI [Lp] [.z n] [ah] (·= .z (Qp n)):=by
 rcases n with _|n
 ·exact dZ.om (C:=aaH) M9 600 (.lit .all) (t:= .ret (.z (Qp 0))) (by kernel_rfl) (by kernel_rfl) (by kernel_rfl) rfl
 iterate 63 (rcases n with _|n;· exact dZ.om (C:=aaH) M9 600 (.lit .all) (t:= .ret (.z (Qp _))) (by kernel_rfl) (by kernel_rfl) (by kernel_rfl) rfl)
 omega
def NT (a:Int):Bool:=a==1||a==2||a==4||a==8||a==16||a==32
def afw:∀n:Nat,n<64->(decide ((Qp n:Int)=1))=NT n:=by decide
def akx (a:Int)(h0:0<=a)(h1:a<256):dZ pg Og [ot] [.z a] [aj] (·= .b (NT a)):=by
 refine ahW ?_;simp only[rk,D.bu];refine⟨_,_,_,rfl,aau a h0 h1,?_⟩;rintro _ rfl;simp only[D.bV,aml,amk];obtain⟨n,rfl⟩:=aoc h0;refine⟨fun h=>⟨_,_,_,rfl,als n (by omega),?_⟩,fun h=>?_⟩
 ·rintro _ rfl;have:=afw n (by omega);rw[<-this,D.bu];congr 1
 have:NT n=false:=by simp[NT];omega
 rw[this]
def aie (a:Int)(h0:0<=a)(h1:a<256):dZ pg tq [ot] [.z a] [aj] (·= .b (NT a)):=by
 have loop:∀m k:Nat,m+k=6->(∀j<k,a≠2^j)->aC pg tq [aj] (.cY (·= .b (NT a))) (yP (.z a) k):=by
  intro m
  induction m with
  |zero=>intro k I hp;have:k=6:=(by omega);subst this;refine KF ?_;have a0:=hp 0 (by omega);have U:=hp 1 (by omega);have V:=hp 2 (by omega);have a3:=hp 3 (by omega);have a4:=hp 4 (by omega);have a5:=hp 5 (by omega);have:NT a=false:=(by simp[NT];omega);simp[this]
  |succ m J=>
   intro k I hp;refine KF ?_;have A:k<6:=(by omega);have e:IntKind.u8.wrap ((1:Int)*2^(min k 8))=2^k:=by rcases k with _|_|_|_|_|_|k<;>first|rfl|omega
   simp only[rk,D.bu,amq,e,amY,amF,aml,amk];refine⟨fun _=>⟨fun _=>⟨fun h=>?_,fun h=>?_⟩,fun h=>by omega⟩,fun h=>by omega⟩
   ·subst h;have:NT (2^k)=true:=by rcases k with _|_|_|_|_|_|k<;>first|rfl|omega
    rw[this]
   rw[bL A];refine J (k+1) (by omega) fun j O=>?_
   by_cases e:j=k
   ·subst e;exact h
   exact hp j (by omega)
 exact acR (loop 6 0 rfl (by omega))
namespace Ex
def zero:Ex:= .mk 0 0 [] []
def none (e:Ex):Bool:=e.k==0&&(e.n==0&&(e.s==[]&&e.l.length==0))
def XX (e:Ex):Bool:=e.none||e.fE
def Wc {e:Ex}(h:e.none=true):e.fE=false:=by
 simp only[none,amo,amY]at h;have:e.lH=false:=by rw[e.Fw];simp[kI,h.1]
 simp[fE,this]
def acy:zero.none=true:=rfl
end Ex
def L0 (e:Ex):dZ pg pT [aI] [e.ar] [aj] (·= .b e.none):=by
 refine afK ?_;simp only[rk,Ex.ek,Ex.jP,Ex.pR,Ex.hI,amm];refine⟨fun a=>⟨fun b=>⟨fun c=>?_,fun c=>?_⟩,fun b=>?_⟩,fun a=>?_⟩
 ·have:(((e.l.length:Nat):Int)==0)=(e.l.length==0):=by rw[amW];simp
  simp[Ex.none,a,b,c,this]
 ·simp[Ex.none,c]
 ·simp[Ex.none,b]
 simp[Ex.none,a]
def CI (e:Ex)(h:e.ok)(hs:e.size<2^30):dZ pg iB [aI] [e.ar] [aj] (·= .b e.XX):=by
 refine Y2 ?_;simp only[rk,Ex.re];refine⟨_,_,_,rfl,L0 e,?_⟩;rintro _ rfl;simp only[D.bV];refine⟨fun a=>by simp[Ex.XX,a],fun a=>⟨_,_,_,rfl,qS e h hs,?_⟩⟩;rintro _ rfl;simp[Ex.XX,a]
def EJ (l:List cg)(hl:l.length<2^62)(A:∀s∈l,s.length<2^63):PH kH (j9 (zi l)) [] 0 bg (·= .b (!l.all cC)):=by
 have loop:∀(rest:List cg) (i:Nat),l.drop i=rest->aC pg gh [ah] (.bK 0 (dy (j9 (zi l)) []) fun d=>decide (0<=D.int d)=!rest.all cC) (kJ (zi l) i):=by
  intro rest
  induction rest with
  |nil=>intro i hd;have:=drop_nil hd;refine vR ?_;simp only[rk,amm];exact⟨fun h=>by simp at h;omega,fun _=>⟨rfl,.z (-1),.ret,rfl⟩⟩
  |cons s rest U=>
   intro i hd;obtain⟨I,O,J⟩:=aF hd;refine vR ?_;simp only[rk,amm,amq,bC (f:=D.s) I,D.dS,aR J,amJ,amP];refine⟨fun _=>⟨fun _=>⟨_,_,_,rfl,kX s (by have:=A s (amn I);unfold maxLen;omega),?_⟩,fun h=>by simp at h⟩,fun h=>by simp at h;omega⟩;rintro _ rfl;simp only[D.bV];refine⟨fun a=>⟨rfl,.z i,.ret,?_⟩,fun a=>?_⟩
   ·simp[a]
   rw[bL J];exact(U _ O).Ah fun d h=>by simp[h,a]
 refine EN ?_;simp only[rk];refine⟨_,_,rfl,I2 (loop l 0 rfl),?_⟩;intro d h;refine⟨rfl,.b _,.ret,?_⟩;show D.b (decide (0<=D.int d))=_;rw[h]
section
namespace St
def fD (s:St):Prop:=s.ok/\s.esz<2^30/\s.wi.length<2^62/\∀w∈s.wi,w.length<2^63
def OT (s:St):St:= .mk 0 s.nm [] 0 0 s.a .zero [] [] [] []
def aaw (s:St):St:= .mk 0 s.nm [] s.ab 0 s.a s.b [] [] [] []
def aax (s:St):St:= .mk 0 s.nm [] 0 0 s.a s.b [] [] [] []
def aay (s:St):St:= .mk 0 [] [] 0 0 s.a s.b s.th s.el [] []
def aaz (s:St):St:= .mk 0 [] [] s.ab 0 s.a .zero s.th s.el [] []
def aaA (s:St):St:= .mk 0 [] [] 0 0 s.a .zero [] [] [] []
def Ve (s:St):St:= .mk 0 [] [] 0 0 .zero .zero [] [] [] []
def Vf (s:St):St:=
 if s.wh=1 then .mk 0 s.nm [] 0 s.wh s.a .zero [] [] [] []
 else if s.wh=14 then .mk 0 s.nm [] s.ab s.wh s.a .zero [] [] [] []
 else if s.wh=15\/s.wh=16 then .mk 0 s.nm s.sc 0 s.wh s.a .zero [] [] [] []
 else if s.wh=5\/s.wh=10 then .mk 0 s.nm s.sc 0 s.wh .zero .zero [] [] [] []
 else if s.wh=12 then .mk 0 s.nm [] 0 s.wh .zero .zero [] [] s.co s.wi
 else .mk 0 s.nm [] 0 s.wh .zero .zero [] [] [] []
def ok1 (s:St):Bool:=cC s.nm&&s.a.XX
def ok2 (s:St):Bool:=cC s.nm&&NT s.ab&&s.a.fE&&s.b.XX&&(s.b.none||(s.ab !=1&&s.ab !=32))
def ok3 (s:St):Bool:=cC s.nm&&s.a.fE&&s.b.fE
def ok4 (s:St):Bool:=s.a.XX&&s.b.XX
def ok5 (s:St):Bool:=s.a.fE&&decide (s.ab<64)
def ok8 (s:St):Bool:=cC s.nm&&s.a.fE
def okM (s:St):Bool:=
 if s.wh=1 then cC s.nm&&s.a.XX
 else if s.wh=2\/s.wh=3\/s.wh=4\/s.wh=8 then cC s.nm
 else if s.wh=14 then cC s.nm&&s.a.fE&&decide (s.ab<64)
 else if s.wh=15\/s.wh=16 then cC s.nm&&s.a.fE&&cC s.sc&&!(s.sc==s.nm)
 else if s.wh=5\/s.wh=10 then cC s.nm&&cC s.sc&&!(s.sc==s.nm)
 else if s.wh=12 then cC s.nm&&decide (s.wi.length<=64)&&s.wi.all cC&&decide s.wi.Nodup
 else false
def tR (s t:St):Bool:=s.nm==t.nm&&s.sc==t.sc&&s.ab==t.ab&&s.wh==t.wh&&(t.a.none==s.a.none)&&(t.b.none==s.b.none)&&t.th.length==s.th.length&&t.el.length==s.el.length&&t.co.length==s.co.length&&t.wi.length==s.wi.length
def fm (s:St):Option (St×Bool):=
 if s.op=1 then some (s.OT,s.ok1)else if s.op=2 then some (s.aaw,s.ok2)else if s.op=3 then some (s.Vf,s.okM)
 else if s.op=4 then some (s.aax,s.ok3)else if s.op=5 then some (s.aay,s.ok4)else if s.op=6 then some (s.aaz,s.ok5)
 else if s.op=7 then some (s.aaA,s.a.XX)else if s.op=8 then some (s.Ve,true)else if s.op=9 then some (s.OT,s.ok8)else none
def ya (s:St):Bool:=match s.fm with|some (t,b)=>b&&s.tR t|none=>false
end St
section
variable (s:St) (h:s.fD)
include h
theorem St.fD.b:s.nm.length<=maxLen/\s.sc.length<=maxLen/\s.a.ok/\s.b.ok/\s.a.size<2^30/\s.b.size<2^30/\0<=s.ab/\s.ab<256:=by
 obtain⟨o1,o2,V,Z,I,O,Y,U,J,A,_⟩:=(St.fe s).1 h.1;have e:=s.x7;have:=h.2.1;unfold maxLen;exact⟨by omega,by omega,J,A,by omega,by omega,I,O⟩
end
def fmD (t:St)(b:Bool):D:= .r [t.ar,.b b]
attribute [local go_sem] fmD D.bV anf aog anJ apk aqb apa apC aoD
def acd (s:St)(h:s.fD):dZ pg AZ [aJ] [s.ar] [aJ,aj] (·=fmD s.OT s.ok1):=by
 obtain⟨I,V,A,hb,J,O,a0,U⟩:=h.b;refine Ww ?_;simp only[rk,St.sT,St.CB,Ex.re];refine⟨_,_,_,rfl,kX _ I,?_⟩;rintro _ rfl;simp only[D.bV];refine⟨fun a=>⟨_,_,_,rfl,CI _ A J,?_⟩,fun a=>?_⟩
 ·rintro _ rfl
  (simp only[go_sem,St.ok1,a];rw[St.az];rfl)
 (simp only[go_sem,St.ok1,a];rw[St.az];rfl)
def ace (s:St)(h:s.fD):dZ pg A0 [aJ] [s.ar] [aJ,aj] (·=fmD s.aaw s.ok2):=by
 obtain⟨O,V,I,hb,U,A,a0,J⟩:=h.b;refine Wx ?_;simp only[rk,St.sT,St.CB,St.JV,St.IN,Ex.re];refine⟨_,_,_,rfl,kX _ O,?_⟩;rintro _ rfl;simp only[D.bV];refine⟨fun a=>⟨_,_,_,rfl,akx _ a0 J,?_⟩,fun a=>(by simp only[go_sem,St.ok2,a];rw[St.az];rfl)⟩;rintro _ rfl;simp only[D.bV];refine⟨fun b=>⟨_,_,_,rfl,qS _ I U,?_⟩,fun b=>(by simp only[go_sem,St.ok2,a,b];rw[St.az];rfl)⟩;rintro _ rfl;simp only[D.bV];refine⟨fun c=>⟨_,_,_,rfl,CI _ hb A,?_⟩,fun c=>(by simp only[go_sem,St.ok2,a,b,c];rw[St.az];rfl)⟩;rintro _ rfl;simp only[D.bV];refine⟨fun d=>⟨_,_,_,rfl,L0 _,?_⟩,fun d=>(by simp only[go_sem,St.ok2,a,b,c,d];rw[St.az];rfl)⟩;rintro _ rfl;simp only[D.bV];refine⟨fun e=>(by simp only[go_sem,St.ok2,a,b,c,d,e];rw[St.az];rfl),fun e=>⟨fun f=>(by simp only[go_sem,St.ok2,a,b,c,d,e,f];rw[St.az];rfl),fun f=>(by simp only[go_sem,St.ok2,a,b,c,d,e,f];rw[St.az];rfl)⟩⟩
def acf (s:St)(h:s.fD):dZ pg A1 [aJ] [s.ar] [aJ,aj] (·=fmD s.aax s.ok3):=by
 obtain⟨J,V,I,hb,O,A,a0,U⟩:=h.b;refine Wy ?_;simp only[rk,St.sT,St.CB,St.JV,Ex.re];refine⟨_,_,_,rfl,kX _ J,?_⟩;rintro _ rfl;simp only[D.bV];refine⟨fun a=>⟨_,_,_,rfl,qS _ I O,?_⟩,fun a=>(by simp only[go_sem,St.ok3,a];rw[St.az];rfl)⟩;rintro _ rfl;simp only[D.bV];refine⟨fun b=>⟨_,_,_,rfl,qS _ hb A,?_⟩,fun b=>(by simp only[go_sem,St.ok3,a,b];rw[St.az];rfl)⟩;rintro _ rfl
 (simp only[go_sem,St.ok3,a,b];rw[St.az];rfl)
def acg (s:St)(h:s.fD):dZ pg A2 [aJ] [s.ar] [aJ,aj] (·=fmD s.aay s.ok4):=by
 obtain⟨U,V,I,hb,J,A,a0,O⟩:=h.b;refine Wz ?_;simp only[rk,St.sT,St.CB,St.JV,St.gD,St.BO,Ex.re];refine⟨_,_,_,rfl,CI _ I J,?_⟩;rintro _ rfl;simp only[D.bV];refine⟨fun a=>⟨_,_,_,rfl,CI _ hb A,?_⟩,fun a=>(by simp only[go_sem,St.ok4,a];rw[St.az];rfl)⟩;rintro _ rfl
 (simp only[go_sem,St.ok4,a];rw[St.az];rfl)
def ach (s:St)(h:s.fD):dZ pg A3 [aJ] [s.ar] [aJ,aj] (·=fmD s.aaz s.ok5):=by
 obtain⟨U,V,A,hb,J,O,a0,I⟩:=h.b;refine WA ?_;simp only[rk,St.CB,St.IN,St.gD,St.BO,Ex.re];refine⟨_,_,_,rfl,qS _ A J,?_⟩;rintro _ rfl;simp only[D.bV];refine⟨fun a=>⟨_,_,_,rfl,aau _ a0 I,?_⟩,fun a=>(by simp only[go_sem,St.ok5,a];rw[St.az];rfl)⟩;rintro _ rfl
 (simp only[go_sem,St.ok5,a];rw[St.az];rfl)
def aci (s:St)(h:s.fD):dZ pg A4 [aJ] [s.ar] [aJ,aj] (·=fmD s.aaA s.a.XX):=by
 obtain⟨U,V,A,hb,I,J,a0,O⟩:=h.b;refine WB ?_;simp only[rk,St.CB,Ex.re];refine⟨_,_,_,rfl,CI _ A I,?_⟩;rintro _ rfl
 (simp only[go_sem,St.ok1];rw[St.az];rfl)
def acj (s:St):dZ pg xy [aJ] [s.ar] [aJ,aj] (·=fmD s.Ve true):=by
 refine WC ?_;simp only[rk]
 (simp only[go_sem,St.ok1];rw[St.az];rfl)
def ack (s:St)(h:s.fD):dZ pg A5 [aJ] [s.ar] [aJ,aj] (·=fmD s.OT s.ok8):=by
 obtain⟨I,V,A,hb,J,O,a0,U⟩:=h.b;refine WD ?_;simp only[rk,St.sT,St.CB,Ex.re];refine⟨_,_,_,rfl,kX _ I,?_⟩;rintro _ rfl;simp only[D.bV];refine⟨fun a=>⟨_,_,_,rfl,qS _ A J,?_⟩,fun a=>(by simp only[go_sem,St.ok8,a];rw[St.az];rfl)⟩;rintro _ rfl
 (simp only[go_sem,St.ok8,a];rw[St.az];rfl)
end
section
attribute [local go_sem] fmD St.Vf St.okM D.bV anf aog anJ apk aqb apa apC aoD am5 ann or_true true_or or_false aqk am2 ani
def ahy (s:St)(h:s.fD):dZ pg GF [aJ] [s.ar] [aJ,aj] (·=fmD s.Vf s.okM):=by
 obtain⟨n1,O,J,hb,A,zb,a0,a1⟩:=h.b;refine acL ?_;simp only[rk,St.sT,St.PM,St.CB,St.JV,St.IN,St.PO,St.BQ,St.iz,Ex.re,amm,amY,amF,an3,aml,amk,amJ,amP];refine⟨_,_,_,rfl,kX _ n1,?_⟩;rintro _ rfl;simp only[D.bV];refine⟨fun w=>⟨fun a=>⟨_,_,_,rfl,CI _ J A,?_⟩,fun a=>(by simp only[go_sem,Int.reduceEq,w,a];rw[St.az];rfl)⟩,fun w1=>⟨fun w=>(by simp only[go_sem,Int.reduceEq,w];rw[St.az];rfl),fun w2=>⟨fun w=>(by simp only[go_sem,Int.reduceEq,w];rw[St.az];rfl),fun w3=>⟨fun w=>(by simp only[go_sem,Int.reduceEq,w];rw[St.az];rfl),fun w4=>⟨fun w=>(by simp only[go_sem,Int.reduceEq,w];rw[St.az];rfl),fun w8=>⟨fun w=>⟨fun a=>⟨_,_,_,rfl,qS _ J A,?_⟩,fun a=>(by simp only[go_sem,Int.reduceEq,w,a];rw[St.az];rfl)⟩,fun Y=>⟨fun w=>⟨fun a=>⟨_,_,_,rfl,qS _ J A,?_⟩,fun a=>(by simp only[go_sem,Int.reduceEq,w,a];rw[St.az];rfl)⟩,fun V=>⟨fun w=>⟨fun a=>⟨_,_,_,rfl,qS _ J A,?_⟩,fun a=>(by simp only[go_sem,Int.reduceEq,w,a];rw[St.az];rfl)⟩,fun U=>⟨fun w=>⟨fun a=>⟨_,_,_,rfl,kX _ O,?_⟩,fun a=>(by simp only[go_sem,Int.reduceEq,w,a];rw[St.az];rfl)⟩,fun w5=>⟨fun w=>⟨fun a=>⟨_,_,_,rfl,kX _ O,?_⟩,fun a=>(by simp only[go_sem,Int.reduceEq,w,a];rw[St.az];rfl)⟩,fun a6=>⟨fun w=>⟨fun a=>⟨fun b=>⟨_,_,rfl,EJ _ h.2.2.1 h.2.2.2,?_⟩,fun b=>?_⟩,fun a=>(by simp only[go_sem,Int.reduceEq,w,a];rw[St.az];rfl)⟩,fun Z=>?_⟩⟩⟩⟩⟩⟩⟩⟩⟩⟩⟩
 ·rintro _ rfl
  (simp only[go_sem,Int.reduceEq,w,a];rw[St.az];rfl)
 ·rintro _ rfl;simp only[D.bV];refine⟨fun b=>⟨_,_,_,rfl,aau _ a0 a1,?_⟩,fun b=>(by simp only[go_sem,Int.reduceEq,w,a,b];rw[St.az];rfl)⟩;rintro _ rfl
  (simp only[go_sem,Int.reduceEq,w,a,b];rw[St.az];rfl)
 ·rintro _ rfl;simp only[D.bV];refine⟨fun b=>⟨_,_,_,rfl,kX _ O,?_⟩,fun b=>(by simp only[go_sem,Int.reduceEq,w,a,b];rw[St.az];rfl)⟩;rintro _ rfl;simp only[D.bV];exact⟨fun c=>(by simp only[go_sem,Int.reduceEq,w,a,b,c];rw[St.az];rfl),fun c=>(by simp only[go_sem,Int.reduceEq,w,a,b,c];rw[St.az];rfl)⟩
 ·rintro _ rfl;simp only[D.bV];refine⟨fun b=>⟨_,_,_,rfl,kX _ O,?_⟩,fun b=>(by simp only[go_sem,Int.reduceEq,w,a,b];rw[St.az];rfl)⟩;rintro _ rfl;simp only[D.bV];exact⟨fun c=>(by simp only[go_sem,Int.reduceEq,w,a,b,c];rw[St.az];rfl),fun c=>(by simp only[go_sem,Int.reduceEq,w,a,b,c];rw[St.az];rfl)⟩
 ·rintro _ rfl;simp only[D.bV];exact⟨fun c=>(by simp only[go_sem,Int.reduceEq,w,a,c];rw[St.az];rfl),fun c=>(by simp only[go_sem,Int.reduceEq,w,a,c];rw[St.az];rfl)⟩
 ·rintro _ rfl;simp only[D.bV];exact⟨fun c=>(by simp only[go_sem,Int.reduceEq,w,a,c];rw[St.az];rfl),fun c=>(by simp only[go_sem,Int.reduceEq,w,a,c];rw[St.az];rfl)⟩
 ·rintro _ rfl;simp only[D.bV];have I:s.wi.length<=64:=by omega
  refine⟨fun c=>⟨_,_,_,rfl,aa4 _ h.2.2.1,?_⟩,fun c=>?_⟩
  ·rintro _ rfl;simp only[amP]at c;simp only[D.bV,Bool.not_not]
   (simp only[go_sem,Int.reduceEq,w,a,I,c];rw[St.az];rfl)
  simp only[amJ]at c
  (simp only[go_sem,Int.reduceEq,w,a,I,c];rw[St.az];rfl)
 ·have I:¬s.wi.length<=64:=by omega
  (simp only[go_sem,Int.reduceEq,w,a,I];rw[St.az];rfl)
 (simp only[go_sem,Int.reduceEq,w1,w2,w3,w4,w8,Y,V,U,w5,a6,Z];rw[St.az];rfl)
end
end Go.Proofs
end
