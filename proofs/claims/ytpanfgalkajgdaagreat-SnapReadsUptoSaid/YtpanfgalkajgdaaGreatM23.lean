import Derived.ChangeArms
import Derived.WideShapes
import Derived.Deep.Strs
import Derived.Test.YtpanfgalkajgdaaGreatM20
import Derived.Test.YtpanfgalkajgdaaGreatM22
set_option linter.all false
noncomputable section
namespace Go.Proofs
open Go Go.PB
section
abbrev BW (l:List Int)(v:D):List (D×D):=l.map fun r=>(D.z r,v)
def Wf (l:List Int)(v:D)(r:Int):D.ia (BW l v) (.z r)=if r∈l then some v else none:=by
 induction l with
 |nil=>rfl
 |cons a q A=>
  simp only[BW,anb,D.L6,D.aiY]
  by_cases h:a=r
  ·simp[h]
  simp only[h,ani,amz,Ne.symm h,aqk];exact A
@[simp] def CR (l:List Int)(v:D)(r:Int):D.i7 (BW l v) (.z r)=decide (r∈l):=by
 simp only[D.i7,Wf];by_cases h:r∈l<;>simp[h]
def FK {l:List Int}{r:Int}(v:D)(h:r∈l):D.val (BW l v) (.z r)=v:=by simp[D.val,Wf,h]
def SF (l:List Int)(v:D)(r:Int):BW l v++[(.z r,v)]=BW (l++[r]) v:=by simp[BW]
def afh {m:List (D×D)}{k v:D}(h:D.i7 m k=true):D.i7 (D.mC m k v) k=true:=by
 have:=D.qe (v:=v) m h;simp[D.i7,this]
def afi {m:List (D×D)}{k v:D}(h:D.i7 m k=true):D.val (D.mC m k v) k=v:=by
 have:=D.qe (v:=v) m h;simp[D.val,this]
structure Su.vN (s:Su):Prop where
 ok:s.ok
 co:St.ml s.co<2^30
 ns:s.ns.length<2^30
 se:s.se.length<2^30
 sz:∀n∈s.ns,n.v.size<2^30
 nz:aA.bA (s.ns.map fx.v)+1<2^30
def Wl.EI (x:Wl)(s:Su)(r:Int):Bool:=(x.aL.get r).isSome&&decide (r∈s.se)
def Wl.fE (x:Wl)(s:Su):Bool:=
 decide (0<=s.si/\s.si<=x.pa.length)&&y7 s.co&&gx s.ns&&(decide s.se.Nodup&&s.se.all fun r=>decide (1<=r/\r<=x.la))&&s.ns.all fun n=>n.v.jA.all (x.EI s)
def Wl.fM (x:Wl)(s:Su):x.fE s=true↔(0<=s.si/\s.si<=x.pa.length)/\y7 s.co=true/\gx s.ns=true/\(s.se.Nodup/\∀r∈s.se,1<=r/\r<=x.la)/\∀n∈s.ns,∀r∈n.v.jA,x.EI s r=true:=by
 simp only[Wl.fE,amo,aml,ang,apY]
def P2 {l:List fx}(h:gx l=true):∀n∈l,n.v.fE=true:=fun n A=>by
 simp only[gx,amo,ang]at h;exact(h.1.2 n A).2
def aA.YP {v:aA}(h:v.fE=true):v.gX=true:=by simp only[aA.fE,amo]at h;exact h.2
def V2 {l:List Int}{i:Nat}{a:Int}(h:l[i]?=some a)(O:l.Nodup):a∉l.take i:=by
 intro J;obtain⟨j,A⟩:=apP.1 J;have I:=(amw.1 A).1;rw[amI]at I;rw[ane,ifP]at A;have hi:=(amw.1 h).1;have h1:l[i]?=l[j]?:=by rw[h,A]
 have:=(ao0 hi O).1 h1;omega
def Ki {l:List Int}{i:Nat}{a:Int}(h:l[i]?=some a)(A:a∈l.take i):¬l.Nodup:=fun I=>V2 h I A
section
variable {W:WS} {w:Wo} (hW:Lj W w)
include hW
theorem aka (h:w.ma.length≠0):PH JZ (bG W) (Wm W) 3 cA (fun d=>D.bool d=false):=by
 refine afT ?_;simp only[rk];refine⟨_,_,rfl,AH hW,?_⟩;intro d hd;exact⟨rfl,BT (by rw[hd];exact beq_false_of_ne (by omega))⟩
theorem akb (s:Int):PH J0 (oQ W s) (Wm W) 3 cA (fun d=>D.bool d=decide (0<=s/\s<w.ma.length)):=by
 refine afU ?_;simp only[rk,aml,amk];refine⟨fun h=>⟨_,_,rfl,AH hW,?_⟩,fun h=>⟨rfl,BT (by simp;omega)⟩⟩;intro d hd;exact⟨rfl,BT (by rw[hd];simp;omega)⟩
end
section
variable {W:WS} {R:RS} {x:Wl} {f:nT} (hi:x.Inv) (hla:∀e∈x.th,e.r<=x.la)
include hi hla
theorem aiI (hW:Lj W (x.wo f))(s:Su)(hs:s.vN):PH eT (mK W s.ar) (Wm W) 3 aG (fun d=>D.int d=if x.fE s then 0 else 190):=by
 have a6:=hs.ok;have e7:=hs.ns;have e5:=hs.se;have b1:∀r,(x.aL.get r).isSome=true->r<=x.la:=fun r h=>by
  obtain⟨y,hy⟩:=amR.1 h;have:=bm.uw hy;simp only[Wl.aL,anh]at this;obtain⟨e,he,h1⟩:=this
  cases h1;exact hla e he
 have no:¬x.fE s=true->wm.bK=some 3/\∃d,T.dV (BV.int .i64 190,Wm W) (aG (mK W s.ar) (Wm W) d)/\D.int d=if x.fE s then 0 else 190:=fun h=>⟨rfl,G7 (by rw[amt h])⟩;have is:=fun r=>Lw hW r;have b4:∀(n:fx) (j:Nat) (st:List Nat) (c:Nat),s.ns[j]?=some n->j<s.ns.length->n.v.jA.length<2^40->
  ((∀r∈n.v.jA,x.EI s r=true)->aC pg eT [bn] (.bK 3 (aG (mK W s.ar) (Wm W)) fun d=>D.int d=if x.fE s then 0 else 190) (rU W s.ar (BW s.se (.z 1)) st c ((j+1:Nat):Int)))->
  ∀(rest:List Int) (i:Nat),n.v.jA.drop i=rest->(∀r∈n.v.jA.take i,x.EI s r=true)->
  aC pg eT [bn] (.bK 3 (aG (mK W s.ar) (Wm W)) fun d=>D.int d=if x.fE s then 0 else 190) (qR W s.ar n.v.jA.length n.v.jA.length (aY n.v.jA) (BW s.se (.z 1)) st c i j):=by
  intro n j st c hj d8 d6 done rest
  induction rest with
  |nil=>intro i hd A;have U:=drop_nil hd;rw[amv U]at A;refine C6 ?_;have hn:¬(i:Int)<(n.v.jA.length:Int):=(by omega);simp only[rk,hn,ani,amp,amy,amA,am1,bL d8];exact done A
  |cons a rest ih=>
   intro i hd A;obtain⟨J,g2,g3⟩:=aF hd;refine C6 ?_;have V:(i:Int)<(n.v.jA.length:Int):=(by omega);have hat:D.at (aY n.v.jA) i= .z a:=bC J;simp only[rk,V,hat,aR g3,D.bu,amq,amm,g3,am2,amA,amx,amy,amS,CR,bL g3];refine⟨_,_,rfl,is a,?_⟩;intro d hd;rw[hd];have pc:x.EI s a=false->¬x.fE s=true:=fun Y O=>by have:=((x.fM s).1 O).2.2.2.2 n (amn hj) a (amn J);rw[Y]at this;cases this
   refine⟨fun h=>no (pc ?_),fun h=>⟨fun h2=>⟨fun h3=>?_,fun h3=>?_⟩,fun h2=>no (pc ?_)⟩⟩
   ·simp only[Wl.EI];simp at h;simp[h]
   ·rw[FK _ (by simpa using h2)]at h3;simp at h3
   ·refine ih (i+1) g2 fun r hr=>?_;rw[bH J]at hr;rcases amO.1 hr with hr|hr
    ·exact A r hr
    rw[amQ]at hr;subst hr;simp at h h2;simp[Wl.EI,h,h2]
   simp only[Wl.EI];simp at h2;simp[h2]
 have d4:∀(rest:List fx) (j:Nat) (st:List Nat) (c:Nat),(0<=s.si/\s.si<=x.pa.length)->y7 s.co=true->gx s.ns=true->(s.se.Nodup/\∀r∈s.se,1<=r/\r<=x.la)->s.ns.drop j=rest->(∀n∈s.ns.take j,∀r∈n.v.jA,x.EI s r=true)->
  aC pg eT [bn] (.bK 3 (aG (mK W s.ar) (Wm W)) fun d=>D.int d=if x.fE s then 0 else 190) (rU W s.ar (BW s.se (.z 1)) st c j):=by
  intro rest
  induction rest with
  |nil=>intro j st c k1 k2 k3 k4 hd A;have U:=drop_nil hd;rw[amv U]at A;refine Ii ?_;have hn:¬(j:Int)<(s.ns.length:Int):=(by omega);simp only[rk,Su.hZ,amm,hn,ani,amp,amy,amA,am1];exact⟨rfl,G7 (by rw[amu ((x.fM s).2 ⟨k1,k2,k3,k4,A⟩)])⟩
  |cons n rest ih=>
   intro j st c k1 k2 k3 k4 hd A;obtain⟨J,g2,g3⟩:=aF hd;have O:=amn J;refine Ii ?_;have V:(j:Int)<(s.ns.length:Int):=(by omega);have hat:D.at (s.ns.map fx.ar) j=n.ar:=bC J;have e4:=P2 k3 n O;simp only[rk,Su.hZ,amm,V,hat,fx.pS,aR g3,amq,am2,amA,amx,amy,amS];refine⟨_,_,rfl,US n.v (a6.2.2.2.2.2.1 n O).2,?_⟩;intro d hd;rw[amu e4]at hd;rw[hd];have d6:n.v.jA.length<2^40:=by have:=aA.C7 n.v;have:=hs.sz n O;omega
   simp only[amm];refine b4 n j st c J g3 d6 (fun Y=>ih (j+1) st c k1 k2 k3 k4 g2 fun n' hn'=>?_) n.v.jA 0 rfl (by simp);rw[bH J]at hn';rcases amO.1 hn' with hn'|hn'
   ·exact A n' hn'
   rw[amQ]at hn';subst hn';exact Y
 have d5:∀(rest:List Int) (i:Nat) (st:List Nat) (c:Nat),(0<=s.si/\s.si<=x.pa.length)->y7 s.co=true->gx s.ns=true->s.se.drop i=rest->((s.se.take i).Nodup/\∀r∈s.se.take i,1<=r/\r<=x.la)->
  aC pg eT [bn] (.bK 3 (aG (mK W s.ar) (Wm W)) fun d=>D.int d=if x.fE s then 0 else 190) (oM W s.ar i (BW (s.se.take i) (.z 1)) st c):=by
  intro rest
  induction rest with
  |nil=>intro i st c k1 k2 k3 hd A;have U:=drop_nil hd;rw[amv U]at A ⊢;refine Ih ?_;have hn:¬(i:Int)<(s.se.length:Int):=(by omega);simp only[rk,Su.tY,amm,hn,ani,amp,amy,amA,am1];exact d4 s.ns 0 st c k1 k2 k3 A rfl (by simp)
  |cons a rest ih=>
   intro i st c k1 k2 k3 hd A;obtain⟨J,g2,g3⟩:=aF hd;have O:=amn J;refine Ih ?_;have V:(i:Int)<(s.se.length:Int):=(by omega);have hat:D.at (aY s.se) i= .z a:=bC J;have pc:a∈s.se.take i->¬x.fE s=true:=fun Y b6=>Ki J Y ((x.fM s).1 b6).2.2.2.1.1;have a8:¬(1<=a/\a<=x.la)->¬x.fE s=true:=fun Y b6=>Y (((x.fM s).1 b6).2.2.2.1.2 a O);simp only[rk,Su.tY,amm,V,hat,aR g3,D.bu,amq,am2,amA,amx,amy,amS,CR,aml,amk,bL g3];refine⟨fun I=>⟨fun _=>no (pc I),fun _=>⟨_,_,rfl,is a,?_⟩⟩,fun I=>⟨fun h1=>no (a8 (by omega)),fun h1=>⟨_,_,rfl,is a,?_⟩⟩⟩
   ·intro d hd;have Y:D.i7 (BW (s.se.take i) (.z 1)) (.z a)=true:=(CR _ _ _).trans (anm I);simp only[afh Y,afi Y,FK _ I,D.bu,amA,amx,amy,amS];have e2:IntKind.i64.wrap ((1:Int)+1)=2:=(by rw[bM];rfl);rw[e2];refine⟨fun _=>⟨_,_,rfl,Ix hi (aoG _) hW,?_⟩,fun _=>⟨fun _=>no (pc I),fun h=>absurd h (by omega)⟩⟩;intro d2 Z;exact⟨fun _=>no (pc I),fun _=>⟨fun _=>no (pc I),fun h=>absurd h (by omega)⟩⟩
   intro d hd;have e1:BW (s.se.take i) (.z 1)++[(D.z a,D.z 1)]=BW (s.se.take (i+1)) (.z 1):=(by rw[bH J];exact SF _ _ _);have a7:a∈s.se.take (i+1):=(by rw[bH J];simp);simp only[e1,CR,a7,FK _ a7,D.bu,am2,amA,amx,amy,amS,apx,apZ,not_false_eq_true,am1];have go:a<=x.la->aC pg eT [bn] (.bK 3 (aG (mK W s.ar) (Wm W)) fun d=>D.int d=if x.fE s then 0 else 190) (oM W s.ar ((i+1:Nat):Int) (BW (s.se.take (i+1)) (.z 1)) (st++[c]) (c+1)):=fun e3=>by
    refine ih (i+1) _ _ k1 k2 k3 g2 ?_;rw[bH J];refine⟨aop.2 ⟨A.1,by simp,fun p hp q hq=>?_⟩,fun r hr=>?_⟩
    ·rw[amQ]at hq;subst hq;rintro rfl;exact I hp
    rcases amO.1 hr with hr|hr
    ·exact A.2 r hr
    rw[amQ]at hr;subst hr;exact⟨by omega,e3⟩
   refine⟨fun hb=>⟨_,_,rfl,Ix hi (aoG _) hW,?_⟩,fun hb=>go (b1 a (by rw[<-hd];simpa using hb))⟩;intro d2 Z;subst Z;rw[Wl.q9];exact⟨fun h2=>no (a8 (by omega)),fun h2=>go (by omega)⟩
 have e6:=hi.DS;refine ac9 ?_;simp only[rk,Su.PN,Su.iz,Su.hZ];refine⟨_,_,rfl,aka hW (by show x.ma.length≠0;omega),?_⟩;intro d0 e0;rw[e0];refine⟨fun h=>(by cases h),fun _=>⟨_,_,rfl,akb hW s.si,?_⟩⟩;intro d1 d9;rw[d9];refine⟨fun h=>no fun O=>?_,fun h=>⟨_,_,_,rfl,ak4 s.co ⟨a6.2.2.1,a6.2.2.2.1⟩ hs.co,?_⟩⟩
 ·have:=((x.fM s).1 O).1;simp at h;omega
 intro d2 Z;subst Z;refine⟨fun h2=>no fun O=>?_,fun h2=>⟨_,_,_,rfl,YJ s.ns (by omega) a6.2.2.2.2.2.1,?_⟩⟩
 ·have:=((x.fM s).1 O).2.1;simp[this]at h2
 intro d3 d7;subst d7;refine⟨fun h3=>no fun O=>?_,fun h3=>?_⟩
 ·have:=((x.fM s).1 O).2.2.1;simp[this]at h3
 refine d5 s.se 0 [] 0 ?_ (by simpa using h2) (by simpa using h3) rfl (by simp);simp at h;omega
end
end
end Go.Proofs
namespace Go.PB
open Go
mutual
def D.bZ:D->Nat
 |D.z _=>1
 |D.b _=>1
 |D.s l=>l.length+1
 |D.r l=>D.bw l+1
def D.bw:List D->Nat
 | []=>0
 |d::q=>D.bZ d+D.bw q
end
def dX (P:Program):Nat->TypeId->D->Prop
 |0,_,_=>False
 |n+1,t,d=>match P.underlying t with
  |some (.int k)=>∃a,d= .z a/\k.min<=a/\a<=k.max
  |some .bool=>∃a,d= .b a
  |some .string=>∃a,d= .s a/\a.length<2^63
  |some (.slice e)=>∃l,d= .r l/\l.length<2^63/\∀x∈l,dX P n e x
  |some (.struct fs)=>∃l,d= .r l/\l.length=fs.toList.length/\∀(i:Nat) (f:Field) (x:D),fs.toList[i]?=some f->l[i]?=some x->dX P n f.type x
  |_=>False
def aa6 (P:Program):List Field->Nat->Nat->Bool
 | [],n,m=>Nat.beq n m
 |f::r,n,m=>Nat.beq f.offset n&&aa6 P r (n+P.cellsOf f.type) m
def af4 (P:Program)(S:List TypeId):Bool:=S.all fun t=>match P.underlying t with
 |some (.int _)=>true
 |some .bool=>true
 |some .string=>true
 |some (.slice e)=>S.contains e&&decide (0<P.cellsOf e)
 |some (.struct fs)=>fs.toList.all (fun f=>S.contains f.type)&&aa6 P fs.toList 0 (P.cellsOf t)
 |_=>false
structure adR {H:Type}(ub:DataW H->Nat)(uba:List (DataW H)->Nat):Prop where
 ax:∀b,ub (.lit (.string b))=b.length+1
 int:∀k n,ub (.lit (.int k n))=1
 bool:∀b,ub (.lit (.bool b))=1
 nil:ub .nil=1
 slice:∀e s,ub (.slice e s)=uba e+uba s+1
 agg:∀p,ub (.agg p)=uba p+1
 cS:uba []=0
 cons:∀d r,uba (d::r)=ub d+uba r
def OV {H:Type}{ub:DataW H->Nat}{uba:List (DataW H)->Nat}(hb:adR ub uba):∀(l:List D) (m:List (DataW H)),l.length=m.length->(∀(i:Nat) d x,l[i]?=some d->m[i]?=some x->D.bZ d<=ub x)->D.bw l<=uba m
 | [],[],_,_=>by simp[D.bw]
 | [],_::_,h,_=>by simp at h
 |_::_,[],h,_=>by simp at h
 |d::l,x::m,h,hi=>by rw[hb.cons,D.bw];have h1:=hi 0 d x rfl rfl;have h2:=OV hb l m (by simpa using h) fun i d x A I=>hi (i+1) d x (by simpa using A) (by simpa using I);omega
def aeZ (P:Program)(cs:List Value):∀(fs:List Field) (n:Nat),aa6 P fs n cs.length=true->(fs.map fun f:Field=>(cs.drop f.offset).take (P.cellsOf f.type)).flatten=cs.drop n:=by
 intro fs
 induction fs with
 |nil=>intro n h;have:=amC h;simp[this]
 |cons f r A=>intro n h;simp only[aa6,amo]at h;have h1:=amC h.1;rw[anb,aoZ,A _ h.2,h1,<-an4,aoj]
def OC {H:Type}{ar:TypeId×Value->H}{P:Program}{w:World}{SX:Nat->Bool}{EI:Bool}{S:List TypeId}(hS:af4 P S=true){ub:DataW H->Nat}{uba:List (DataW H)->Nat}(hb:adR ub uba):
 ∀(Z:Nat) (t:TypeId) (cs:List Value) (x:DataW H×List MemPlace),t∈S->DataW.trod ar P w 0 SX EI Z t cs=some x->
  ∃d:D,qk P (fun c=>c<w.heap.size) w t d cs/\dX P Z t d/\D.bZ d<=ub x.1:=by
 intro Z
 induction Z with
 |zero=>intro t cs x _ h;simp[DataW.trod]at h
 |succ n ih=>
  intro t cs x ht h;have hp:=ang.1 hS t ht
  cases J:P.underlying t with
  |none=>rw[J]at hp;cases hp
  |some td=>
   rw[J]at hp
   cases td<;>try (cases hp;done)
   case int k=>obtain⟨a,rfl,rfl,hw⟩:=DataW.trod_int J h;simp only[Lit.wf,amo,aml]at hw;refine⟨.z a,.int (d:= .z a) J,?_,by rw[hb.int];simp[D.bZ]⟩;unfold dX;rw[J];exact⟨a,rfl,hw⟩
   case bool=>obtain⟨a,rfl,rfl⟩:=DataW.trod_bool J h;refine⟨.b a,.bool (d:= .b a) J,?_,by rw[hb.bool];simp[D.bZ]⟩;unfold dX;rw[J];exact⟨a,rfl⟩
   case string=>obtain⟨a,rfl,rfl,hl⟩:=DataW.trod_string J h;obtain⟨⟨a⟩⟩:=a;refine⟨.s a,.ax (d:= .s a) J,?_,by rw[hb.ax];simp[D.bZ]⟩;unfold dX;rw[J];refine⟨a,rfl,?_⟩;have:a.length<=maxLen:=hl;unfold maxLen at this;omega
   case slice e=>
    simp only[amo,ao5,aml]at hp;obtain⟨he,a6⟩:=hp;rcases DataW.trod_slice J h with ⟨rfl,rfl⟩| ⟨a,len,cap,I,rest,m,Y,rfl,rfl,_,g5,d3,e7,hat,_,_⟩
    ·refine⟨.r [],.cS J rfl,?_,by rw[hb.nil];simp[D.bZ,D.bw]⟩;unfold dX;rw[J];exact⟨[],rfl,by simp,by simp⟩
    injection Y with Y;subst Y;have key:∀i:Fin len,∃d:D,∃A,∃U,w.cells? 0 (a.add (i.1*P.cellsOf e)) (P.cellsOf e)=some A/\I[i.1]?=some U/\qk P (fun c=>c<w.heap.size) w e d A/\dX P n e d/\D.bZ d<=ub U.1:=fun i=>by have d5:=hat i.1 i.2;have e0:I[i.1]?=some (I[i.1]'(by have:=i.2;omega)):=amr (by have:=i.2;omega);rw[e0]at d5;obtain⟨A,hc,e8⟩:=apA.1 d5;obtain⟨d,h1,h2,h3⟩:=ih e A _ he e8;exact⟨d,A,_,hc,e0,h1,h2,h3⟩
    let f:=fun i=>(key i).choose
    have hf:=fun i=>(key i).choose_spec
    change ∀i:Fin len,∃A U,w.cells? 0 (a.add (i.1*P.cellsOf e)) (P.cellsOf e)=some A/\I[i.1]?=some U/\qk P (fun c=>c<w.heap.size) w e (f i) A/\dX P n e (f i)/\D.bZ (f i)<=ub U.1 at hf
    have a8:(List.ofFn f).length=len:=List.length_ofFn;have O:∀(i:Nat) (y:D),(List.ofFn f)[i]?=some y->∃hi:i<len,y=f ⟨i,hi⟩:=fun i y e1=>by rw[amw]at e1;obtain⟨h1,h2⟩:=e1;rw[List.getElem_ofFn]at h2;exact⟨by simpa using h1,h2.symm⟩
    have d8:dX P (n+1) t (.r (List.ofFn f)):=(by unfold dX;rw[J];refine⟨_,rfl,by rw[a8];unfold maxLen at d3;omega,fun y hy=>?_⟩;obtain⟨i,hi⟩:=apP.1 hy;obtain⟨h1,rfl⟩:=O i y hi;obtain⟨_,_,_,_,_,h2,_⟩:=hf ⟨i,h1⟩;exact h2);have e3:D.bZ (.r (List.ofFn f))<=ub (.slice (I.map (·.1)) (rest.map (·.1))):=by
     rw[hb.slice,D.bZ];have:=OV hb (List.ofFn f) (I.map (·.1)) (by simp[e7]) fun i y z e1 e2=>by
      obtain⟨h1,rfl⟩:=O i y e1;obtain⟨_,U,_,g2,_,_,g3⟩:=hf ⟨i,h1⟩;rw[anw,g2]at e2
      cases e2;exact g3
     omega
    refine⟨.r (List.ofFn f),?_,d8,e3⟩
    by_cases e5:len=0
    ·subst e5;exact .empty J (by simp[D.ae]) a cap
    obtain⟨b,off,b1⟩:=a;obtain⟨h4,x0,d9,_⟩:=hf ⟨0,by omega⟩;obtain⟨_,g9,a7⟩:=World.cells?_some d9;have hz:=a7 0 a6;have b4:b1=none:=by
     cases b1 with
     |none=>rfl
     |some y=>
      exfalso;rw[amr (by omega)]at hz;simp only[Addr.add,aph,am5,World.cell?]at hz
      split at hz<;>simp at hz
    subst b4;have g6:b<w.heap.size:=by
     rcases Nat.lt_or_ge b w.heap.size with d0|hge
     ·exact d0
     exfalso;rw[amr (by omega)]at hz;simp[Addr.add,World.cell?,aoV hge]at hz
    have V:∀(i:Fin len) (j:Nat),j<P.cellsOf e->∃A U,(w.cells? 0 (Addr.add ⟨b,off,none⟩ (i.1*P.cellsOf e)) (P.cellsOf e)=some A/\I[i.1]?=some U/\qk P (fun c=>c<w.heap.size) w e (f i) A/\dX P n e (f i)/\D.bZ (f i)<=ub U.1)/\A.length=P.cellsOf e/\w.cell? ⟨b,off+(i.1*P.cellsOf e+j),none⟩=A[j]?:=fun i j hj=>by obtain⟨A,U,g⟩:=hf i;obtain⟨_,e9,g8⟩:=World.cells?_some g.1;have:=g8 j hj;rw[Go.Deep.add_add,Go.WideShapes.add_plain]at this;exact⟨A,U,g,e9,this⟩
    have d2:(D.ae (.r (List.ofFn f))).length=len:=a8;rw[show (Value.slice (some ⟨b,off,none⟩) len cap)=Value.slice (some ⟨b,off,none⟩) (D.ae (.r (List.ofFn f))).length cap by rw[d2]];have d1:∀k,k<len*P.cellsOf e->∃v,w.cell? ⟨b,off+k,none⟩=some v:=fun k hk=>by have hi:k/P.cellsOf e<len:=Nat.div_lt_of_lt_mul (by rw[Nat.mul_comm];exact hk);obtain⟨A,_,_,g2,g3⟩:=V ⟨k/P.cellsOf e,hi⟩ (k % P.cellsOf e) (ap9 _ a6);have e1:k/P.cellsOf e*P.cellsOf e+k % P.cellsOf e=k:=(by rw[Nat.mul_comm];exact Nat.div_add_mod k _);dsimp only at g3;rw[e1,amr (by rw[g2];exact ap9 _ a6)]at g3;exact⟨_,g3⟩
    refine .slice J b off cap ((List.range (len*P.cellsOf e)).map fun k=>(w.cell? ⟨b,off+k,none⟩).getD (.tuple #[])) g6 (by rw[d2];exact g5) (by simp[d2]) (fun i y hy=>?_) (fun k v hv=>?_)
    ·obtain⟨h1,rfl⟩:=O i y hy;obtain⟨A,_,g1,g2,_⟩:=V ⟨i,h1⟩ 0 a6;have:(List.drop (i*P.cellsOf e) ((List.range (len*P.cellsOf e)).map fun k=>(w.cell? ⟨b,off+k,none⟩).getD (.tuple #[]))).take (P.cellsOf e)=A:=by
      apply aoY;intro j
      by_cases hj:j<P.cellsOf e
      ·obtain⟨g0,_,k1,k2,k3⟩:=V ⟨i,h1⟩ j hj;have e2:g0=A:=(by have:=k1.1;rw[g1.1]at this;cases this;rfl);subst e2;have d0:i*P.cellsOf e+j<len*P.cellsOf e:=(by have h5:(i+1)*P.cellsOf e<=len*P.cellsOf e:=anF _ h1;rw[an2,aoz]at h5;omega);rw[ane,amu hj,anG,anw,ap0 d0];dsimp only at k3;simp only[amH,k3];rw[amr (by omega)];rfl
      rw[ane,amt hj,anu (by omega)]
     rw[this];exact g1.2.2.1
    rw[anw,am9]at hv;obtain⟨k',e6,rfl⟩:=hv;obtain⟨d7,d6⟩:=amw.1 e6;rw[List.getElem_range]at d6;rw[List.length_range]at d7;subst d6;obtain⟨v,hv⟩:=d1 k d7;rw[hv];rfl
   case struct fs=>
    simp only[amo,ang,ao5]at hp;obtain⟨g4,e4⟩:=hp;obtain⟨xs,m,Y,rfl,d4,b6,g7⟩:=DataW.trod_struct J h;injection Y with Y;subst Y;have key:∀i:Fin fs.toList.length,∃d:D,∃U,xs[i.1]?=some U/\qk P (fun c=>c<w.heap.size) w (fs.toList[i.1]).type d ((cs.drop (fs.toList[i.1]).offset).take (P.cellsOf (fs.toList[i.1]).type))/\dX P n (fs.toList[i.1]).type d/\D.bZ d<=ub U.1:=fun i=>by have f9:fs[i.1]?=some (fs.toList[i.1]):=(by rw[<-ans];exact amr i.2);have h1:=g7 i.1 _ f9;have h2:xs[i.1]?=some (xs[i.1]'(by rw[b6,<-aov];exact i.2)):=amr (by rw[b6,<-aov];exact i.2);rw[h2]at h1;obtain⟨d,g1,g2,g3⟩:=ih _ _ _ (g4 _ (apz _)) h1;exact⟨d,_,h2,g1,g2,g3⟩
    let f:=fun i=>(key i).choose
    have hf:=fun i=>(key i).choose_spec
    change ∀i:Fin fs.toList.length,∃U,xs[i.1]?=some U/\qk P (fun c=>c<w.heap.size) w (fs.toList[i.1]).type (f i) ((cs.drop (fs.toList[i.1]).offset).take (P.cellsOf (fs.toList[i.1]).type))/\dX P n (fs.toList[i.1]).type (f i)/\D.bZ (f i)<=ub U.1 at hf
    have a8:(List.ofFn f).length=fs.toList.length:=List.length_ofFn;have O:∀(i:Nat) (y:D),(List.ofFn f)[i]?=some y->∃hi:i<fs.toList.length,y=f ⟨i,hi⟩:=fun i y e1=>by rw[amw]at e1;obtain⟨h1,h2⟩:=e1;rw[List.getElem_ofFn]at h2;exact⟨by simpa using h1,h2.symm⟩
    refine⟨.r (List.ofFn f),?_,?_,?_⟩
    ·have e1:cs=(fs.toList.map fun f=>(cs.drop f.offset).take (P.cellsOf f.type)).flatten:=(by rw[aeZ P cs fs.toList 0 (by rw[d4];exact e4)];rfl);have:qk P (fun c=>c<w.heap.size) w t (.r (List.ofFn f)) (fs.toList.map fun f=>(cs.drop f.offset).take (P.cellsOf f.type)).flatten:=
      .struct J _ (by simp) fun i fd A h1 h2=>by
       rw[anw,h1]at h2
       cases h2
       obtain⟨hi,h3⟩:=amw.1 h1;obtain⟨U,g1,g2,_⟩:=hf ⟨i,hi⟩;have e2:D.af (.r (List.ofFn f)) i=f ⟨i,hi⟩:=(by simp only[D.af,D.ae,D.at,List.getD,List.getElem?_ofFn,hi,dif_pos,anI]);rw[e2];dsimp only at g2;rw[h3]at g2;exact g2
     rw[<-e1]at this;exact this
    ·unfold dX;rw[J];refine⟨_,rfl,a8,fun i fd y h1 h2=>?_⟩;obtain⟨hi,rfl⟩:=O i y h2;obtain⟨_,_,_,g3,_⟩:=hf ⟨i,hi⟩;obtain⟨_,h3⟩:=amw.1 h1;dsimp only at g3;rw[h3]at g3;exact g3
    rw[hb.agg,D.bZ];have:=OV hb (List.ofFn f) (xs.map (·.1)) (by simp[b6]) fun i y z e1 e2=>by
     obtain⟨hi,rfl⟩:=O i y e1;obtain⟨U,g1,_,_,g3⟩:=hf ⟨i,hi⟩;rw[anw,g1]at e2
     cases e2;exact g3
    omega
end Go.PB
namespace Go.Proofs
open Go Go.PB
section
abbrev Pa (α:Type):=cg->Option (α×cg)
namespace Pa
variable {α β:Type}
def bind (p:Pa α)(f:α->Pa β):Pa β:=fun s=>match p s with|none=>none|some (a,r)=>f a r
def ret (a:α):Pa α:=fun s=>some (a,s)
def bind_some {p:Pa α}{f:α->Pa β}{s r:cg}{a:α}(h:p s=some (a,r)):p.bind f s=f a r:=by simp[bind,h]
def cw {p:Pa α}{f:α->Pa β}{s:cg}(h:p s=none):p.bind f s=none:=by simp[bind,h]
def bN {p:Pa α}{f:α->Pa β}{s t:cg}{b:β}(h:p.bind f s=some (b,t)):∃a r,p s=some (a,r)/\f a r=some (b,t):=by
 unfold bind at h
 split at h
 ·cases h
 exact⟨_,_,by assumption,h⟩
end Pa
def jN (s:cg):Nat:=s.foldl (fun a c=>a*256+c.toNat) 0
def px (n:Int):Pa cg:=fun s=>if 0<=n/\n<=s.length then some (s.take n.toNat,s.drop n.toNat)else none
def cT (k:Nat):Pa Int:=(px k).bind fun t=> .ret (jN t:Int)
def Ai:Pa Int:=(cT 8).bind fun n=> .ret (n-2^63)
def Bq:Pa cg:=(cT 4).bind fun n=>px n
def rep {α:Type}(p:Pa α):Nat->Pa (List α)
 |0=> .ret []
 |n+1=>p.bind fun a=>(rep p n).bind fun l=> .ret (a::l)
def cQ {α:Type}(p:Pa α):Pa (List α):=(cT 4).bind fun n=>rep p n.toNat
def pEx:Nat->Pa Ex
 |0=>fun _=>none
 |f+1=>(cT 1).bind fun k=>Ai.bind fun n=>Bq.bind fun s=>(cQ (pEx f)).bind fun l=> .ret (.mk k n s l)
def GW:Nat->Pa St
 |0=>fun _=>none
 |f+1=>(cT 1).bind fun op=>Bq.bind fun nm=>Bq.bind fun sc=>(cT 1).bind fun ab=>(cT 1).bind fun wh=>(pEx f).bind fun a=>(pEx f).bind fun b=>(cQ (GW f)).bind fun th=>(cQ (GW f)).bind fun el=>(cQ (GW f)).bind fun co=>(cQ Bq).bind fun wi=> .ret (.mk op nm sc ab wh a b th el co wi)
def q6 (p:Nat->Pa aA):Nat->Nat->Pa (List aA)
 |0,_=> .ret []
 |n+1,A=>(p A).bind fun v=>(q6 p n (A-v.size)).bind fun l=> .ret (v::l)
def ja:Nat->Nat->Pa aA
 |d,A=>fun s=>if A=0 then none else ((cT 1).bind fun k=>
  if k=0 then .ret (.mk 0 0 [] [] 0)
  else if k=1 then Ai.bind fun n=> .ret (.mk 1 n [] [] 0)
  else if k=2 then (cT 2).bind fun n=>if n<=256 then (px n).bind fun t=> .ret (.mk 2 0 t [] 0)else fun _=>none
  else if k=3 then (cT 2).bind fun n=>match d with
   |0=>fun _=>none
   |d+1=>if n<A then (q6 (ja d) n.toNat (A-1)).bind fun l=> .ret (.mk 3 0 [] l 0)else fun _=>none
  else if k=4 then (cT 4).bind fun n=>if n=0 then fun _=>none else .ret (.mk 4 0 [] [] n)
  else fun _=>none) s
abbrev pV:Pa aA:=ja 16 512
def Wn:Pa fx:=Bq.bind fun t=>pV.bind fun v=> .ret ⟨t,v⟩
def Wq:Pa Bool:=(cT 1).bind fun n=>if n<=1 then .ret (n==1)else fun _=>none
def Wh.pw (k:Int)(h:Int):Wh:=⟨k,h,.mk 0 0 [] [] 0,[],0,0,0,0,0,false,[],[]⟩
def Qb (f:Nat)(k:Int):Pa Wh:=
 if k=14 then (cT 4).bind fun o=>(cT 1).bind fun s=> .ret {Wh.pw k 0 with of:=o,set:=s}
 else if 1<=k/\k<=16 then (cT 4).bind fun h=>
  if k=1 then pV.bind fun v=> .ret {Wh.pw k h with v:=v}
  else if k=2\/k=4 then (cQ pV).bind fun l=> .ret {Wh.pw k h with vs:=l}
  else if k=3 then Ai.bind fun n=> .ret {Wh.pw k h with n:=n}
  else if k=5 then .ret (Wh.pw k h)
  else if k=6\/k=11 then (cT 4).bind fun o=> .ret {Wh.pw k h with of:=o}
  else if k=7 then (cT 4).bind fun o=>pV.bind fun v=> .ret {Wh.pw k h with of:=o,v:=v}
  else if k=8 then Ai.bind fun n=>Ai.bind fun l=> .ret {Wh.pw k h with n:=n,lo:=l}
  else if k=9 then (cT 4).bind fun o=>Ai.bind fun n=> .ret {Wh.pw k h with of:=o,n:=n}
  else if k=10 then Wq.bind fun b=>pV.bind fun v=> .ret {Wh.pw k h with Ae:=b,v:=v}
  else if k=12 then (cQ (GW f)).bind fun c=>(cQ Wn).bind fun l=> .ret {Wh.pw k h with co:=c,ns:=l}
  else if k=13 then Wq.bind fun b=>(cT 4).bind fun o=> .ret {Wh.pw k h with Ae:=b,of:=o}
  else (cT 4).bind fun o=>(cT 4).bind fun b=> .ret {Wh.pw k h with of:=o,tD:=b}
 else fun _=>none
def pEn (f:Nat):Pa En:=(cT 4).bind fun r=>(cT 1).bind fun k=>(Qb f k).bind fun w=> .ret ⟨r,w⟩
def Lo (f:Nat):Pa Wl:=(cQ (cT 4)).bind fun p=>(cQ (cT 4)).bind fun c=>(cT 4).bind fun l=>(cQ (cT 4)).bind fun m=>(cQ (pEn f)).bind fun t=> .ret ⟨p,c,t,l,m⟩
def pSu (f:Nat):Pa Su:=(cT 4).bind fun s=>(cQ (GW f)).bind fun c=>(cQ Wn).bind fun n=>(cQ (cT 4)).bind fun l=> .ret ⟨s,c,n,l⟩
end
end Go.Proofs
end
