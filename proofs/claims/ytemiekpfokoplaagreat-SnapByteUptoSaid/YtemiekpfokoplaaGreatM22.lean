import Derived.ChangeArms
import Derived.WideShapes
import Derived.Deep.Strs
import Derived.Test.YtemiekpfokoplaaGreatM13
import Derived.Test.YtemiekpfokoplaaGreatM21
set_option linter.all false
noncomputable section
namespace Go.PB
open Go
mutual
def D.bX:D->Nat
 |D.z _=>1
 |D.b _=>1
 |D.s l=>l.length+1
 |D.r l=>D.bm l+1
def D.bm:List D->Nat
 | []=>0
 |d::q=>D.bX d+D.bm q
end
def cR (P:Program):Nat->TypeId->D->Prop
 |0,_,_=>False
 |n+1,t,d=>match P.underlying t with
  |some (.int k)=>∃a,d= .z a/\k.min<=a/\a<=k.max
  |some .bool=>∃a,d= .b a
  |some .string=>∃a,d= .s a/\a.length<2^63
  |some (.slice e)=>∃l,d= .r l/\l.length<2^63/\∀x∈l,cR P n e x
  |some (.struct fs)=>∃l,d= .r l/\l.length=fs.toList.length/\∀(i:Nat) (f:Field) (x:D),fs.toList[i]?=some f->l[i]?=some x->cR P n f.type x
  |_=>False
def Sj (P:Program):List Field->Nat->Nat->Bool
 | [],n,m=>Nat.beq n m
 |f::r,n,m=>Nat.beq f.offset n&&Sj P r (n+P.cellsOf f.type) m
def Xu (P:Program)(S:List TypeId):Bool:=S.all fun t=>match P.underlying t with
 |some (.int _)=>true
 |some .bool=>true
 |some .string=>true
 |some (.slice e)=>S.contains e&&decide (0<P.cellsOf e)
 |some (.struct fs)=>fs.toList.all (fun f=>S.contains f.type)&&Sj P fs.toList 0 (P.cellsOf t)
 |_=>false
structure U4 {H:Type}(ub:DataW H->Nat)(uba:List (DataW H)->Nat):Prop where
 bj:∀b,ub (.lit (.string b))=b.length+1
 int:∀k n,ub (.lit (.int k n))=1
 bool:∀b,ub (.lit (.bool b))=1
 nil:ub .nil=1
 slice:∀e s,ub (.slice e s)=uba e+uba s+1
 agg:∀p,ub (.agg p)=uba p+1
 bJ:uba []=0
 cons:∀d r,uba (d::r)=ub d+uba r
def I7 {H:Type}{ub:DataW H->Nat}{uba:List (DataW H)->Nat}(hb:U4 ub uba):∀(l:List D) (m:List (DataW H)),l.length=m.length->(∀(i:Nat) d x,l[i]?=some d->m[i]?=some x->D.bX d<=ub x)->D.bm l<=uba m
 | [],[],_,_=>by simp[D.bm]
 | [],_::_,h,_=>by simp at h
 |_::_,[],h,_=>by simp at h
 |d::l,x::m,h,hi=>by
  rw[hb.cons,D.bm]
  have h1:=hi 0 d x rfl rfl
  have h2:=I7 hb l m (by simpa using h) fun i d x e1 e2=>hi (i+1) d x (by simpa using e1) (by simpa using e2)
  omega
def Wj (P:Program)(cs:List Value):∀(fs:List Field) (n:Nat),Sj P fs n cs.length=true->(fs.map fun f:Field=>(cs.drop f.offset).take (P.cellsOf f.type)).flatten=cs.drop n:=by
 intro fs
 induction fs with
 |nil=>
  intro n h
  have:=ae8 h
  simp[this]
 |cons f r ih=>
  intro n h
  simp only[Sj,aeV]at h
  have h1:=ae8 h.1
  rw[afP,ahn,ih _ h.2,h1,<-agk,agW]
def Sx {H:Type}{az:TypeId×Value->H}{P:Program}{w:World}{Lr:Nat->Bool}{Jt:Bool}{S:List TypeId}(hS:Xu P S=true){ub:DataW H->Nat}{uba:List (DataW H)->Nat}(hb:U4 ub uba):
 ∀(fuel:Nat) (t:TypeId) (cs:List Value) (x:DataW H×List MemPlace),t∈S->DataW.trod az P w 0 Lr Jt fuel t cs=some x->
  ∃d:D,mW P (fun c=>c<w.heap.size) w t d cs/\cR P fuel t d/\D.bX d<=ub x.1:=by
 intro fuel
 induction fuel with
 |zero=>intro t cs x _ h;simp[DataW.trod]at h
 |succ n ih=>
  intro t cs x ht h
  have hp:=afK.1 hS t ht
  cases hu:P.underlying t with
  |none=>rw[hu]at hp;cases hp
  |some td=>
   rw[hu]at hp
   cases td<;>try (cases hp;done)
   case int k=>
    obtain⟨a,rfl,rfl,hw⟩:=DataW.trod_int hu h
    simp only[Lit.wf,aeV,aeT]at hw
    refine⟨.z a,.int (d:= .z a) hu,?_,by rw[hb.int];simp[D.bX]⟩
    unfold cR;rw[hu];exact⟨a,rfl,hw⟩
   case bool=>
    obtain⟨a,rfl,rfl⟩:=DataW.trod_bool hu h
    refine⟨.b a,.bool (d:= .b a) hu,?_,by rw[hb.bool];simp[D.bX]⟩
    unfold cR;rw[hu];exact⟨a,rfl⟩
   case string=>
    obtain⟨a,rfl,rfl,hl⟩:=DataW.trod_string hu h
    obtain⟨⟨a⟩⟩:=a
    refine⟨.s a,.bj (d:= .s a) hu,?_,by rw[hb.bj];simp[D.bX]⟩
    unfold cR;rw[hu]
    refine⟨a,rfl,?_⟩
    have:a.length<=maxLen:=hl
    unfold maxLen at this;omega
   case slice e=>
    simp only[aeV,ahv,aeT]at hp
    obtain⟨he,hc0⟩:=hp
    rcases DataW.trod_slice hu h with ⟨rfl,rfl⟩| ⟨a,len,cap,elems,rest,m,hfm,rfl,rfl,_,hlc,hcap,hel,hat,_,_⟩
    ·refine⟨.r [],.bJ hu rfl,?_,by rw[hb.nil];simp[D.bX,D.bm]⟩
     unfold cR;rw[hu]
     exact⟨[],rfl,by simp,by simp⟩
    ·injection hfm with hfm;subst hfm
     have key:∀i:Fin len,∃d:D,∃cs',∃x',w.cells? 0 (a.add (i.1*P.cellsOf e)) (P.cellsOf e)=some cs'/\elems[i.1]?=some x'/\mW P (fun c=>c<w.heap.size) w e d cs'/\cR P n e d/\D.bX d<=ub x'.1:=fun i=>by
      have hi1:=hat i.1 i.2
      have he2:elems[i.1]?=some (elems[i.1]'(by have:=i.2;omega)):=aeY (by have:=i.2;omega)
      rw[he2]at hi1
      obtain⟨cs',hc,ht'⟩:=ahi.1 hi1
      obtain⟨d,h1,h2,h3⟩:=ih e cs' _ he ht'
      exact⟨d,cs',_,hc,he2,h1,h2,h3⟩
     let f:=fun i=>(key i).choose
     have hf:=fun i=>(key i).choose_spec
     change ∀i:Fin len,∃cs' x',w.cells? 0 (a.add (i.1*P.cellsOf e)) (P.cellsOf e)=some cs'/\elems[i.1]?=some x'/\mW P (fun c=>c<w.heap.size) w e (f i) cs'/\cR P n e (f i)/\D.bX (f i)<=ub x'.1 at hf
     have hfl:(List.ofFn f).length=len:=List.length_ofFn
     have hget:∀(i:Nat) (y:D),(List.ofFn f)[i]?=some y->∃hi:i<len,y=f ⟨i,hi⟩:=fun i y e1=>by
      rw[ae1]at e1
      obtain⟨h1,h2⟩:=e1
      rw[List.getElem_ofFn]at h2
      exact⟨by simpa using h1,h2.symm⟩
     have hcan:cR P (n+1) t (.r (List.ofFn f)):=by
      unfold cR;rw[hu]
      refine⟨_,rfl,by rw[hfl];unfold maxLen at hcap;omega,fun y hy=>?_⟩
      obtain⟨i,hi⟩:=aid.1 hy
      obtain⟨h1,rfl⟩:=hget i y hi
      obtain⟨_,_,_,_,_,h2,_⟩:=hf ⟨i,h1⟩
      exact h2
     have hblk:D.bX (.r (List.ofFn f))<=ub (.slice (elems.map (·.1)) (rest.map (·.1))):=by
      rw[hb.slice,D.bX]
      have:=I7 hb (List.ofFn f) (elems.map (·.1)) (by simp[hel]) fun i y z e1 e2=>by
       obtain⟨h1,rfl⟩:=hget i y e1
       obtain⟨_,x',_,g2,_,_,g3⟩:=hf ⟨i,h1⟩
       rw[afE,g2]at e2
       cases e2;exact g3
      omega
     refine⟨.r (List.ofFn f),?_,hcan,hblk⟩
     by_cases hl0:len=0
     ·subst hl0
      exact .empty hu (by simp[D.aa]) a cap
     ·obtain⟨b,off,spot⟩:=a
      obtain⟨cs0,x0,hc0',_⟩:=hf ⟨0,by omega⟩
      obtain⟨_,hl0',hcell0⟩:=World.cells?_some hc0'
      have hz:=hcell0 0 hc0
      have hspot:spot=none:=by
       cases spot with
       |none=>rfl
       |some y=>
        exfalso
        rw[aeY (by omega)]at hz
        simp only[Addr.add,ahH,afq,World.cell?]at hz
        split at hz<;>simp at hz
      subst hspot
      have hb':b<w.heap.size:=by
       rcases Nat.lt_or_ge b w.heap.size with hlt|hge
       ·exact hlt
       ·exfalso
        rw[aeY (by omega)]at hz
        simp[Addr.add,World.cell?,ahY hge]at hz
      have hcellk:∀(i:Fin len) (j:Nat),j<P.cellsOf e->∃cs' x',(w.cells? 0 (Addr.add ⟨b,off,none⟩ (i.1*P.cellsOf e)) (P.cellsOf e)=some cs'/\elems[i.1]?=some x'/\mW P (fun c=>c<w.heap.size) w e (f i) cs'/\cR P n e (f i)/\D.bX (f i)<=ub x'.1)/\cs'.length=P.cellsOf e/\w.cell? ⟨b,off+(i.1*P.cellsOf e+j),none⟩=cs'[j]?:=fun i j hj=>by
       obtain⟨cs',x',g⟩:=hf i
       obtain⟨_,hl1,hc1⟩:=World.cells?_some g.1
       have:=hc1 j hj
       rw[Go.Deep.add_add,Go.WideShapes.add_plain]at this
       exact⟨cs',x',g,hl1,this⟩
      have hDl:(D.aa (.r (List.ofFn f))).length=len:=hfl
      rw[show (Value.slice (some ⟨b,off,none⟩) len cap)=Value.slice (some ⟨b,off,none⟩) (D.aa (.r (List.ofFn f))).length cap by rw[hDl]]
      have hsome:∀k,k<len*P.cellsOf e->∃v,w.cell? ⟨b,off+k,none⟩=some v:=fun k hk=>by
       have hi:k/P.cellsOf e<len:=Nat.div_lt_of_lt_mul (by rw[ah1];exact hk)
       obtain⟨cs',_,_,g2,g3⟩:=hcellk ⟨k/P.cellsOf e,hi⟩ (k % P.cellsOf e) (ahy _ hc0)
       have e1:k/P.cellsOf e*P.cellsOf e+k % P.cellsOf e=k:=by rw[ah1];exact Nat.div_add_mod k _
       dsimp only at g3
       rw[e1,aeY (by rw[g2];exact ahy _ hc0)]at g3
       exact⟨_,g3⟩
      refine .slice hu b off cap ((List.range (len*P.cellsOf e)).map fun k=>(w.cell? ⟨b,off+k,none⟩).getD (.tuple #[])) hb' (by rw[hDl];exact hlc) (by simp[hDl]) (fun i y hy=>?_) (fun k v hv=>?_)
      ·obtain⟨h1,rfl⟩:=hget i y hy
       obtain⟨cs',_,g1,g2,_⟩:=hcellk ⟨i,h1⟩ 0 hc0
       have:(List.drop (i*P.cellsOf e) ((List.range (len*P.cellsOf e)).map fun k=>(w.cell? ⟨b,off+k,none⟩).getD (.tuple #[]))).take (P.cellsOf e)=cs':=by
        apply agY
        intro j
        by_cases hj:j<P.cellsOf e
        ·obtain⟨cs2,_,k1,k2,k3⟩:=hcellk ⟨i,h1⟩ j hj
         have e2:cs2=cs':=by have:=k1.1;rw[g1.1]at this;cases this;rfl
         subst e2
         have hlt:i*P.cellsOf e+j<len*P.cellsOf e:=by
          have h5:(i+1)*P.cellsOf e<=len*P.cellsOf e:=afR _ h1
          rw[agi,agP]at h5;omega
         rw[afA,aeZ hj,afZ,afE,aip hlt]
         dsimp only at k3
         simp only[afb,k3]
         rw[aeY (by omega)];rfl
        ·rw[afA,aeX hj,afH (by omega)]
       rw[this];exact g1.2.2.1
      ·rw[afE,afz]at hv
       obtain⟨k',hk',rfl⟩:=hv
       obtain⟨hk1,hk2⟩:=ae1.1 hk'
       rw[List.getElem_range]at hk2
       rw[List.length_range]at hk1
       subst hk2
       obtain⟨v,hv⟩:=hsome k hk1
       rw[hv];rfl
   case struct fs=>
    simp only[aeV,afK,ahv]at hp
    obtain⟨hfs,hlay⟩:=hp
    obtain⟨xs,m,hfm,rfl,hlen,hxl,hxi⟩:=DataW.trod_struct hu h
    injection hfm with hfm;subst hfm
    have key:∀i:Fin fs.toList.length,∃d:D,∃x',xs[i.1]?=some x'/\mW P (fun c=>c<w.heap.size) w (fs.toList[i.1]).type d ((cs.drop (fs.toList[i.1]).offset).take (P.cellsOf (fs.toList[i.1]).type))/\cR P n (fs.toList[i.1]).type d/\D.bX d<=ub x'.1:=fun i=>by
     have hfi:fs[i.1]?=some (fs.toList[i.1]):=by rw[<-afM];exact aeY i.2
     have h1:=hxi i.1 _ hfi
     have h2:xs[i.1]?=some (xs[i.1]'(by rw[hxl,<-agL];exact i.2)):=aeY (by rw[hxl,<-agL];exact i.2)
     rw[h2]at h1
     obtain⟨d,g1,g2,g3⟩:=ih _ _ _ (hfs _ (List.getElem_mem _)) h1
     exact⟨d,_,h2,g1,g2,g3⟩
    let f:=fun i=>(key i).choose
    have hf:=fun i=>(key i).choose_spec
    change ∀i:Fin fs.toList.length,∃x',xs[i.1]?=some x'/\mW P (fun c=>c<w.heap.size) w (fs.toList[i.1]).type (f i) ((cs.drop (fs.toList[i.1]).offset).take (P.cellsOf (fs.toList[i.1]).type))/\cR P n (fs.toList[i.1]).type (f i)/\D.bX (f i)<=ub x'.1 at hf
    have hfl:(List.ofFn f).length=fs.toList.length:=List.length_ofFn
    have hget:∀(i:Nat) (y:D),(List.ofFn f)[i]?=some y->∃hi:i<fs.toList.length,y=f ⟨i,hi⟩:=fun i y e1=>by
     rw[ae1]at e1
     obtain⟨h1,h2⟩:=e1
     rw[List.getElem_ofFn]at h2
     exact⟨by simpa using h1,h2.symm⟩
    refine⟨.r (List.ofFn f),?_,?_,?_⟩
    ·have e1:cs=(fs.toList.map fun f=>(cs.drop f.offset).take (P.cellsOf f.type)).flatten:=by
      rw[Wj P cs fs.toList 0 (by rw[hlen];exact hlay)];rfl
     have:mW P (fun c=>c<w.heap.size) w t (.r (List.ofFn f)) (fs.toList.map fun f=>(cs.drop f.offset).take (P.cellsOf f.type)).flatten:=
      .struct hu _ (by simp) fun i fd cs' h1 h2=>by
       rw[afE,h1]at h2
       cases h2
       obtain⟨hi,h3⟩:=ae1.1 h1
       obtain⟨x',g1,g2,_⟩:=hf ⟨i,hi⟩
       have e2:D.ae (.r (List.ofFn f)) i=f ⟨i,hi⟩:=by
        simp only[D.ae,D.aa,D.at,List.getD,List.getElem?_ofFn,hi,dif_pos,af1]
       rw[e2]
       dsimp only at g2
       rw[h3]at g2
       exact g2
     rw[<-e1]at this;exact this
    ·unfold cR;rw[hu]
     refine⟨_,rfl,hfl,fun i fd y h1 h2=>?_⟩
     obtain⟨hi,rfl⟩:=hget i y h2
     obtain⟨_,_,_,g3,_⟩:=hf ⟨i,hi⟩
     obtain⟨_,h3⟩:=ae1.1 h1
     dsimp only at g3
     rw[h3]at g3;exact g3
    ·rw[hb.agg,D.bX]
     have:=I7 hb (List.ofFn f) (xs.map (·.1)) (by simp[hxl]) fun i y z e1 e2=>by
      obtain⟨hi,rfl⟩:=hget i y e1
      obtain⟨x',g1,_,_,g3⟩:=hf ⟨i,hi⟩
      rw[afE,g1]at e2
      cases e2;exact g3
     omega
end Go.PB
namespace Go.Proofs
open Go Go.PB
def inn:D->Nat
 | .s l=>l.length
 | .r l=>D.bm l
 |_=>0
def eg (d:D):D.bX d=inn d+1:=by cases d<;>rfl
def Ad (d:D):(D.bj d).length<=inn d:=by cases d<;>simp[D.bj,inn]
def fR (d:D):D.bm (D.aa d)<=inn d:=by cases d<;>simp[D.aa,inn,D.bm]
def db (l:List D):l.length<=D.bm l:=by
 induction l with
 |nil=>simp[D.bm]
 |cons d r ih=>have:=eg d;simp only[ae9,D.bm];omega
def EM {l:List D}{x:D}(h:x∈l):D.bX x<=D.bm l:=by
 induction l with
 |nil=>cases h
 |cons d r ih=>
  rw[D.bm]
  rcases ae5.1 h with rfl|h
  ·omega
  ·have:=ih h;omega
def Fi (y:D):Nat->Nat
 |0=>0
 |n+1=>Fi y n+inn (y.ae n)
def xx (y:D)(n:Nat):Fi y n<=inn y:=by
 refine afw ?_ (fR y)
 have h:∀(l:List D) (k:Nat),(∀i,(l.getD i (.z 0))=y.ae (k+i))->∀n,Fi y (k+n)<=Fi y k+D.bm l:=by
  intro l
  induction l with
  |nil=>
   intro k h n
   induction n with
   |zero=>simp
   |succ n ih=>
    have:=h n
    simp only[List.getD_nil]at this
    rw[<-agj,Fi,<-this]
    simpa [inn]using ih
  |cons d r ih=>
   intro k h n
   cases n with
   |zero=>simp
   |succ n=>
    have h0:=h 0
    have h1:=ih (k+1) (fun i=>by rw[agj,agR 1 i];exact h (i+1)) n
    have h2:=eg d
    simp only[af4,af6]at h0
    rw[show k+(n+1)=k+1+n by omega]
    rw[Fi,<-h0]at h1
    rw[D.bm];omega
 have:=h (D.aa y) 0 (fun i=>by simp[D.ae,D.at]) n
 simpa [Fi]using this
def X9 {R:D->T (BV×List (Nat×ax))}(hR:∀d,R d= .ret (.aV 0 (D.aa d).length true,[(0,.an mn (D.aa d) true)])){Q:D->Prop}{l':List D}{k:Nat}(hk:k=l'.length)(h:Q (.r l')):
 ∃d,T.dm (BV.aV 0 k true,[(0,ax.an mn l' true)]) (R d)/\Q d:=⟨.r l',by rw[hR,hk];exact .ret,h⟩
def qT {R:D->T (BV×List (Nat×ax))}(hR:∀d,R d= .ret (.tuple [],Lm (D.aa d))){Q:D->Prop}{l':List D}{k:Nat}(hk:k=l'.length)(h:Q (.r l')):
 ∃d,T.dm (BV.tuple [],[(0,ax.cells [.aV 1 k true] br false),(1,.an mn l' true)]) (R d)/\Q d:=⟨.r l',by rw[hR,hk];exact .ret,h⟩
def wv {l:List D}{i:Nat}{x:D}(h:l[i]?=some x):D.at l i=x:=by simp[D.at,List.getD,h]
def aaE:∀(n:Nat) (y:D),D.bX y<=n->∀l:List D,l.length+9*D.bX y<2^40->PH lq (yr l y) (yw l y) 0 rN (fun d=>(D.aa d).length<=l.length+9*D.bX y):=by
 intro n
 induction n with
 |zero=>intro y h;have:=eg y;omega
 |succ n ih=>
 intro y hn l hl
 have hR:∀d,rN (yr l y) (yw l y) d= .ret (.aV 0 (D.aa d).length true,[(0,.an mn (D.aa d) true)]):=fun _=>rfl
 have hb:=eg y
 have hf:=xx y 4
 simp only[Fi]at hf
 have hs:=Ad (y.ae 2)
 have hi:=fR (y.ae 3)
 have hlen:=db (D.aa (y.ae 3))
 have loop:∀(rest:List D) (i:Nat) (l2:List D),(D.aa (y.ae 3)).drop i=rest->l2.length+9*D.bm rest<=l.length+9*D.bX y->aC pg lq [Rr] (.bu 0 (rN (yr l y) (yw l y)) (fun d=>(D.aa d).length<=l.length+9*D.bX y)) (oW l y l2.length l2 i):=by
  intro rest
  induction rest with
  |nil=>
   intro i l2 hd h
   have:=drop_nil hd
   refine AO ?_
   simp only[rk,aeT,aeS]
   exact⟨fun h=>by omega,fun _=>⟨rfl,X9 hR rfl (by simpa [D.bm]using h)⟩⟩
  |cons x rest ihr=>
   intro i l2 hd h
   obtain⟨k1,k2,k3⟩:=aI hd
   have hx:=EM (aeU k1)
   rw[D.bm]at h
   refine AO ?_
   simp only[rk,aeT,aeS,ae2,wv k1,aY k3]
   refine⟨fun _=>⟨fun _=>⟨_,_,rfl,ih x (by omega) l2 (by omega),fun d hd2=>?_⟩,fun h=>by cases h⟩,fun h=>by omega⟩
   rw[bO k3 (by omega)]
   exact ihr (i+1) (D.aa d) k2 (by omega)
 have hr:bg 1 (l.length+1)=true:=xM (by omega)
 have e1:l.length+1=(l++[D.z (D.int (y.ae 0))]).length:=by simp
 refine Uc ?_
 simp only[rk,aft,afB,hr,afv,afd,agq]
 refine⟨fun _=>⟨fun h1=>?_,fun h1=>⟨fun h2=>?_,fun h2=>⟨fun h3=>?_,fun h3=>⟨fun h4=>?_,fun h4=>?_⟩⟩⟩⟩,fun h=>by cases h⟩
 ·rw[e1]
  exact⟨_,_,rfl,MY _ _ 8 (by omega) (by simp;omega),fun d hd=>⟨rfl,X9 hR rfl (by rw[D.bP,hd];simp[cG];omega)⟩⟩
 ·rw[e1]
  refine⟨_,_,rfl,MY _ _ 2 (by omega) (by simp;omega),fun d hd=>?_⟩
  have hdl:=afg List.length hd
  simp only[ae4,cG,ae9,afX]at hdl
  simp only[gn]
  rw[xM (by omega)]
  exact⟨fun _=>⟨rfl,X9 hR (by simp[gn]) (by simp[gn];omega)⟩,fun h=>by cases h⟩
 ·rw[e1]
  refine⟨_,_,rfl,MY _ _ 2 (by omega) (by simp;omega),fun d hd=>?_⟩
  have hdl:=afg List.length hd
  simp only[ae4,cG,ae9,afX]at hdl
  exact loop (D.aa (y.ae 3)) 0 _ rfl (by omega)
 ·rw[e1]
  exact⟨_,_,rfl,MY _ _ 4 (by omega) (by simp;omega),fun d hd=>⟨rfl,X9 hR rfl (by rw[D.bP,hd];simp[cG];omega)⟩⟩
 ·exact⟨rfl,X9 hR (by simp) (by simp;omega)⟩
def Tl (l:List D)(hl:l.length<2^63):PH cv (j8 l) [] 0 eX (fun _=>True):=by
 have loop:∀(rest:List D) (i:Nat),l.drop i=rest->
  aC pg hJ [ah] (.bu 0 (pk (j8 l) []) (fun _=>True)) (ig l i):=by
  intro rest
  induction rest with
  |nil=>
   intro i hd
   have:=drop_nil hd
   refine ry ?_
   simp only[rk,aeT,aeS]
   exact⟨fun h=>by omega,fun _=>⟨rfl,.z (-1),.ret,trivial⟩⟩
  |cons x rest ih=>
   intro i hd
   obtain⟨k1,k2,k3⟩:=aI hd
   refine ry ?_
   simp only[rk,aeT,aeS,aY k3]
   refine⟨fun _=>⟨fun _=>⟨fun hx=>⟨rfl,.z i,.ret,trivial⟩,fun hx=>?_⟩,fun h=>by cases h⟩,fun h=>by omega⟩
   rw[bO k3 hl]
   exact ih (i+1) k2
 exact D0 (loop l 0 rfl)
def LX (l:List D)(hl:l.length<2^63):PH cz (rj l) [] 0 fi (fun _=>True):=by
 refine AX ?_
 simp only[rk]
 exact⟨_,_,rfl,Tl l hl,fun d hd=>⟨rfl,.b _,.ret,trivial⟩⟩
def Xv {f:FuncId}{xs:List BV}{e:TypeId}{R:D->T (BV×List (Nat×ax))}{Q:D->Prop}(h:pj pg f (.aV 0 0 true::xs) [(0,.an e [] true)] 0 R Q):pj pg f (.bJ::xs) [] 0 R Q:=by
 intro g w as' hr ha
 obtain⟨k1,k2⟩:=hr.Kp (.an e [] true)
 have hg:∀b,(hL [(0,.an e [] true)]).get b=((hL []).new (.an e [] true)).get b:=fun _=>rfl
 have k3:aR pg g (hL [(0,.an e [] true)]) w:=k1.congr hg (by show 1<=2;omega)
 have hown:∀c,nX g (hL [(0,.an e [] true)]) c->nX g ((hL []).new (.an e [] true)) c:=fun c ⟨l,o,au,h1,h2⟩=>⟨l,o,au,by rw[<-af.I4 hg l];exact h1,h2⟩
 obtain⟨v,vr,h1,h2,h3⟩:=ha
 refine(h g w as' k3 ⟨v,vr,h1,?_,h3⟩).mono ?_
 ·simp only[ai]at h2 ⊢
  exact .inl ⟨⟨trivial,trivial⟩,.inl h2⟩
 ·rintro ed w' ⟨v',g',d,x,m1,m2,m3,m4,m5,m6,m7⟩
  exact⟨v',g',d,x,m1,m2,⟨m3.size,fun c hc ho=>m3.AV c hc fun h=>ho (k2.gH c hc (hown c h)),m3.fz,fun c hc hf=>(m3.PA c hc hf).imp id fun h=>k2.gH c hc (hown c h),m3.lF,fun c hc ho=>k2.gH c hc (hown c (m3.gH c hc ho)),m3.ms,m3.os⟩,m4,m5,m6,m7⟩
def gY (l:List D):(bA l).length=l.length:=by simp[bA]
def aaD (v:aJ)(hv:v.ok)(hs:9*D.bX v.az<2^40):iq pg yW [ao] [v.az] [bG,aX] (fun d=>((d.ae 0).bj).length<=9*D.bX v.az):=by
 refine Ub ?_
 simp only[rk,ml,aft,ae6,afc,afe,afm]
 refine⟨_,_,_,rfl,HQ v hv,?_⟩
 rintro _ rfl
 refine⟨fun _=>by simp[D.ae,D.at,D.bj],fun _=>⟨_,_,rfl,Ka v hv,fun d1 hd1=>?_⟩⟩
 simp only[D.bP]
 refine⟨_,_,rfl,LX _ ?_,fun d2 _=>⟨fun _=>by simp[D.ae,D.at,D.bj],fun _=>⟨_,_,rfl,Xv (aaE _ v.az (afa _) [] (by simpa using hs)),fun d3 hd3=>⟨fun _=>?_,fun h=>by simp at h⟩⟩⟩⟩
 ·rw[hd1]
  have:=v.B3
  split
  ·rename_i h
   have:=((aJ.im v).1 h).1
   rw[aeW];omega
  ·simp
 ·simpa [D.ae,D.at,D.bj,ae7,gY]using hd3
def ZP (v:aJ)(hv:v.ok)(l:List D)(hl:l.length+9*D.bX v.az<2^40):PH cd (sj l v.az) (xY l v.az) 1 jh (fun d=>(D.aa d).length<=l.length+9*D.bX v.az):=by
 refine Ku ?_
 simp only[rk,ml]
 refine⟨_,_,_,rfl,aaD v hv (by omega),fun d hd=>?_⟩
 simp only[aft,afB,xM (show l.length+(cH (d.ae 0).bj).length<2^41 by rw[gn];omega)]
 exact⟨fun _=>⟨rfl,qT (fun _=>rfl) (by simp) (by simp[gn];omega)⟩,fun h=>by cases h⟩
def zj {f:FuncId}{xs:List BV}{L:List (Nat×ax)}{p:Nat}{R:D->T (BV×List (Nat×ax))}{Q Q':D->Prop}(h:pj pg f xs L p R Q)(hq:∀d,Q d->Q' d):pj pg f xs L p R Q':=by
 intro g w as' hr ha
 refine(h g w as' hr ha).mono ?_
 rintro ed w' ⟨v',g',d,x,m1,m2,m3,m4,m5,m6,m7⟩
 exact⟨v',g',d,x,m1,m2,m3,m4,m5,m6,hq d m7⟩
def Qy (ys l:List D)(H:∀y∈ys,∀l':List D,l'.length+4*D.bX y<2^40->pj pg aw [.aG 0 0,.int .i64 (D.int y)] (Lm l') 1 (bV [.aG 0 0,.int .i64 (D.int y)] (Lm l')) (fun d=>(D.aa d).length<=l'.length+4*D.bX y))(hl:l.length+4+4*D.bm ys<2^40):
 PH dF (lM l ys) (lW l ys) 1 iN (fun d=>(D.aa d).length<=l.length+4+4*D.bm ys/\(ys=[]->D.aa d=l++mg 4 0)):=by
 have hlen:=db ys
 have loop:∀(rest:List D) (i:Nat) (l2:List D),ys.drop i=rest->l2.length+4*D.bm rest<=l.length+4+4*D.bm ys->(ys=[]->l2=l++mg 4 0)->aC pg dF [] (.bu 1 (iN (lM l ys) (lW l ys)) (fun d=>(D.aa d).length<=l.length+4+4*D.bm ys/\(ys=[]->D.aa d=l++mg 4 0))) (i5 l ys l2.length l2 i):=by
  intro rest
  induction rest with
  |nil=>
   intro i l2 hd h h0
   have:=drop_nil hd
   refine tM ?_
   simp only[rk,aeT,aeS]
   exact⟨fun h=>by omega,fun _=>⟨rfl,qT (fun _=>rfl) rfl ⟨by simpa [D.bm]using h,h0⟩⟩⟩
  |cons x rest ih=>
   intro i l2 hd h h0
   obtain⟨k1,k2,k3⟩:=aI hd
   have hx:=aeU k1
   rw[D.bm]at h
   refine tM ?_
   simp only[rk,aeT,aeS,ae2,wv k1,aY k3]
   refine⟨fun _=>⟨fun _=>⟨_,_,rfl,H x hx l2 (by omega),fun d hd2=>?_⟩,fun h=>by cases h⟩,fun h=>by omega⟩
   rw[bO k3 (by omega)]
   exact ih (i+1) (D.aa d) k2 (by omega) fun h=>by rw[h]at hx;cases hx
 refine FF ?_
 simp only[rk]
 refine⟨_,_,rfl,kD l _ (by omega),fun d hd=>?_⟩
 have hdl:=afg List.length hd
 simp only[ae4,cG]at hdl
 exact loop ys 0 _ rfl (by omega) fun h=>by rw[hd,h];rfl
def Tn (ys l:List D)(H:∀y∈ys,∀l':List D,l'.length+4*D.bX y<2^40->pj pg aw [.aG 0 0,.int .i64 (D.int y)] (Lm l') 1 (bV [.aG 0 0,.int .i64 (D.int y)] (Lm l')) (fun d=>(D.aa d).length<=l'.length+4*D.bX y))(hl:l.length+4+4*D.bm ys<2^40):
 PH dZ (mX l ys) (na l ys) 1 jD (fun d=>(D.aa d).length<=l.length+4+4*D.bm ys/\(ys=[]->D.aa d=l++mg 4 0)):=by
 have hlen:=db ys
 have loop:∀(rest:List D) (i:Nat) (l2:List D),ys.drop i=rest->l2.length+4*D.bm rest<=l.length+4+4*D.bm ys->(ys=[]->l2=l++mg 4 0)->aC pg dZ [] (.bu 1 (jD (mX l ys) (na l ys)) (fun d=>(D.aa d).length<=l.length+4+4*D.bm ys/\(ys=[]->D.aa d=l++mg 4 0))) (jx l ys l2.length l2 i):=by
  intro rest
  induction rest with
  |nil=>
   intro i l2 hd h h0
   have:=drop_nil hd
   refine uG ?_
   simp only[rk,aeT,aeS]
   exact⟨fun h=>by omega,fun _=>⟨rfl,qT (fun _=>rfl) rfl ⟨by simpa [D.bm]using h,h0⟩⟩⟩
  |cons x rest ih=>
   intro i l2 hd h h0
   obtain⟨k1,k2,k3⟩:=aI hd
   have hx:=aeU k1
   rw[D.bm]at h
   refine uG ?_
   simp only[rk,aeT,aeS,ae2,wv k1,aY k3]
   refine⟨fun _=>⟨fun _=>⟨_,_,rfl,H x hx l2 (by omega),fun d hd2=>?_⟩,fun h=>by cases h⟩,fun h=>by omega⟩
   rw[bO k3 (by omega)]
   exact ih (i+1) (D.aa d) k2 (by omega) fun h=>by rw[h]at hx;cases hx
 refine GO ?_
 simp only[rk]
 refine⟨_,_,rfl,kD l _ (by omega),fun d hd=>?_⟩
 have hdl:=afg List.length hd
 simp only[ae4,cG]at hdl
 exact loop ys 0 _ rfl (by omega) fun h=>by rw[hd,h];rfl
def cS (ys:List D):List D:=ys.flatMap fun y=>mg 4 (D.int y)
def Lb (ys l:List D)(hl:l.length+4+4*ys.length<2^40):
 PH dq (mY l ys) (nb l ys) 1 jE (fun d=>D.aa d=l++(mg 4 ys.length++cS ys)):=by
 have hcl:∀zs:List D,(cS zs).length=4*zs.length:=fun zs=>by
  induction zs with
  |nil=>rfl
  |cons z r ih=>simp only[cS,ahS,ae4,cG,ae9]at ih ⊢;omega
 have loop:∀(rest:List D) (i:Nat) (l2:List D),ys.drop i=rest->l2++cS rest=l++(mg 4 ys.length++cS ys)->aC pg dq [] (.bu 1 (jE (mY l ys) (nb l ys)) (fun d=>D.aa d=l++(mg 4 ys.length++cS ys))) (jy l ys l2.length l2 i):=by
  intro rest
  induction rest with
  |nil=>
   intro i l2 hd h
   have:=drop_nil hd
   refine uH ?_
   simp only[rk,aeT,aeS]
   exact⟨fun h=>by omega,fun _=>⟨rfl,qT (fun _=>rfl) rfl (by simpa [cS]using h)⟩⟩
  |cons x rest ih=>
   intro i l2 hd h
   obtain⟨k1,k2,k3⟩:=aI hd
   have hlen:=afg List.length h
   simp only[ae4,hcl,cG,ae9]at hlen
   refine uH ?_
   simp only[rk,aeT,aeS,ae2,wv k1,aY k3]
   refine⟨fun _=>⟨fun _=>⟨_,_,rfl,kD l2 (D.int x) (by omega),fun d hd2=>?_⟩,fun h=>by cases h⟩,fun h=>by omega⟩
   rw[bO k3 (by omega)]
   exact ih (i+1) (D.aa d) k2 (by rw[hd2,<-h];simp[cS])
 refine GP ?_
 simp only[rk]
 refine⟨_,_,rfl,kD l _ (by omega),fun d hd=>?_⟩
 exact loop ys 0 _ rfl (by rw[hd];simp)
def Mb (ys l:List D)(H:∀y∈ys,∀l':List D,l'.length+5*D.bX y<2^40->pj pg cA [.aG 0 0,.bj (D.bj y)] (Lm l') 1 (gx [.aG 0 0,.bj (D.bj y)] (Lm l')) (fun d=>(D.aa d).length<=l'.length+5*D.bX y))(hl:l.length+4+5*D.bm ys<2^40):
 PH cY (js l ys) (jt l ys) 1 gr (fun d=>(D.aa d).length<=l.length+4+5*D.bm ys/\(ys=[]->D.aa d=l++mg 4 0)):=by
 have hlen:=db ys
 have loop:∀(rest:List D) (i:Nat) (l2:List D),ys.drop i=rest->l2.length+5*D.bm rest<=l.length+4+5*D.bm ys->(ys=[]->l2=l++mg 4 0)->aC pg cY [] (.bu 1 (gr (js l ys) (jt l ys)) (fun d=>(D.aa d).length<=l.length+4+5*D.bm ys/\(ys=[]->D.aa d=l++mg 4 0))) (gG l ys l2.length l2 i):=by
  intro rest
  induction rest with
  |nil=>
   intro i l2 hd h h0
   have:=drop_nil hd
   refine qX ?_
   simp only[rk,aeT,aeS]
   exact⟨fun h=>by omega,fun _=>⟨rfl,qT (fun _=>rfl) rfl ⟨by simpa [D.bm]using h,h0⟩⟩⟩
  |cons x rest ih=>
   intro i l2 hd h h0
   obtain⟨k1,k2,k3⟩:=aI hd
   have hx:=aeU k1
   rw[D.bm]at h
   refine qX ?_
   simp only[rk,aeT,aeS,ae2,wv k1,aY k3]
   refine⟨fun _=>⟨fun _=>⟨_,_,rfl,H x hx l2 (by omega),fun d hd2=>?_⟩,fun h=>by cases h⟩,fun h=>by omega⟩
   rw[bO k3 (by omega)]
   exact ih (i+1) (D.aa d) k2 (by omega) fun h=>by rw[h]at hx;cases hx
 refine C1 ?_
 simp only[rk]
 refine⟨_,_,rfl,kD l _ (by omega),fun d hd=>?_⟩
 have hdl:=afg List.length hd
 simp only[ae4,cG]at hdl
 exact loop ys 0 _ rfl (by omega) fun h=>by rw[hd,h];rfl
def Qx (ys l:List D)(H:∀y∈ys,∀l':List D,l'.length+17*D.bX y<2^40->PH dO (zp l' y) (Lm l') 1 qk (fun d=>(D.aa d).length<=l'.length+17*D.bX y))(hl:l.length+4+17*D.bm ys<2^40):
 PH dE (lK l ys) (lP l ys) 1 iM (fun d=>(D.aa d).length<=l.length+4+17*D.bm ys/\(ys=[]->D.aa d=l++mg 4 0)):=by
 have hlen:=db ys
 have loop:∀(rest:List D) (i:Nat) (l2:List D),ys.drop i=rest->l2.length+17*D.bm rest<=l.length+4+17*D.bm ys->(ys=[]->l2=l++mg 4 0)->aC pg dE [] (.bu 1 (iM (lK l ys) (lP l ys)) (fun d=>(D.aa d).length<=l.length+4+17*D.bm ys/\(ys=[]->D.aa d=l++mg 4 0))) (iY l ys l2.length l2 i):=by
  intro rest
  induction rest with
  |nil=>
   intro i l2 hd h h0
   have:=drop_nil hd
   refine tK ?_
   simp only[rk,aeT,aeS]
   exact⟨fun h=>by omega,fun _=>⟨rfl,qT (fun _=>rfl) rfl ⟨by simpa [D.bm]using h,h0⟩⟩⟩
  |cons x rest ih=>
   intro i l2 hd h h0
   obtain⟨k1,k2,k3⟩:=aI hd
   have hx:=aeU k1
   rw[D.bm]at h
   refine tK ?_
   simp only[rk,aeT,aeS,ae2,wv k1,aY k3]
   refine⟨fun _=>⟨fun _=>⟨_,_,rfl,H x hx l2 (by omega),fun d hd2=>?_⟩,fun h=>by cases h⟩,fun h=>by omega⟩
   rw[bO k3 (by omega)]
   exact ih (i+1) (D.aa d) k2 (by omega) fun h=>by rw[h]at hx;cases hx
 refine FD ?_
 simp only[rk]
 refine⟨_,_,rfl,kD l _ (by omega),fun d hd=>?_⟩
 have hdl:=afg List.length hd
 simp only[ae4,cG]at hdl
 exact loop ys 0 _ rfl (by omega) fun h=>by rw[hd,h];rfl
def Hr (ys l:List D)(H:∀y∈ys,∀l':List D,l'.length+9*D.bX y<2^40->PH cd (sj l' y) (Lm l') 1 jh (fun d=>(D.aa d).length<=l'.length+9*D.bX y))(hl:l.length+4+9*D.bm ys<2^40):
 PH cT (ka l ys) (kf l ys) 1 gX (fun d=>(D.aa d).length<=l.length+4+9*D.bm ys/\(ys=[]->D.aa d=l++mg 4 0)):=by
 have hlen:=db ys
 have loop:∀(rest:List D) (i:Nat) (l2:List D),ys.drop i=rest->l2.length+9*D.bm rest<=l.length+4+9*D.bm ys->(ys=[]->l2=l++mg 4 0)->aC pg cT [] (.bu 1 (gX (ka l ys) (kf l ys)) (fun d=>(D.aa d).length<=l.length+4+9*D.bm ys/\(ys=[]->D.aa d=l++mg 4 0))) (il l ys l2.length l2 i):=by
  intro rest
  induction rest with
  |nil=>
   intro i l2 hd h h0
   have:=drop_nil hd
   refine rB ?_
   simp only[rk,aeT,aeS]
   exact⟨fun h=>by omega,fun _=>⟨rfl,qT (fun _=>rfl) rfl ⟨by simpa [D.bm]using h,h0⟩⟩⟩
  |cons x rest ih=>
   intro i l2 hd h h0
   obtain⟨k1,k2,k3⟩:=aI hd
   have hx:=aeU k1
   rw[D.bm]at h
   refine rB ?_
   simp only[rk,aeT,aeS,ae2,wv k1,aY k3]
   refine⟨fun _=>⟨fun _=>⟨_,_,rfl,H x hx l2 (by omega),fun d hd2=>?_⟩,fun h=>by cases h⟩,fun h=>by omega⟩
   rw[bO k3 (by omega)]
   exact ih (i+1) (D.aa d) k2 (by omega) fun h=>by rw[h]at hx;cases hx
 refine D3 ?_
 simp only[rk]
 refine⟨_,_,rfl,kD l _ (by omega),fun d hd=>?_⟩
 have hdl:=afg List.length hd
 simp only[ae4,cG]at hdl
 exact loop ys 0 _ rfl (by omega) fun h=>by rw[hd,h];rfl
def Jx (ys l:List D)(H:∀y∈ys,∀l':List D,l'.length+20*D.bX y<2^40->PH fD (zq l' y) (Lm l') 1 uP (fun d=>(D.aa d).length<=l'.length+20*D.bX y))(hl:l.length+4+20*D.bm ys<2^40):
 PH cN (lL l ys) (lQ l ys) 1 fV (fun d=>(D.aa d).length<=l.length+4+20*D.bm ys/\(ys=[]->D.aa d=l++mg 4 0)):=by
 have hlen:=db ys
 have loop:∀(rest:List D) (i:Nat) (l2:List D),ys.drop i=rest->l2.length+20*D.bm rest<=l.length+4+20*D.bm ys->(ys=[]->l2=l++mg 4 0)->aC pg cN [] (.bu 1 (fV (lL l ys) (lQ l ys)) (fun d=>(D.aa d).length<=l.length+4+20*D.bm ys/\(ys=[]->D.aa d=l++mg 4 0))) (iZ l ys l2.length l2 i):=by
  intro rest
  induction rest with
  |nil=>
   intro i l2 hd h h0
   have:=drop_nil hd
   refine tL ?_
   simp only[rk,aeT,aeS]
   exact⟨fun h=>by omega,fun _=>⟨rfl,qT (fun _=>rfl) rfl ⟨by simpa [D.bm]using h,h0⟩⟩⟩
  |cons x rest ih=>
   intro i l2 hd h h0
   obtain⟨k1,k2,k3⟩:=aI hd
   have hx:=aeU k1
   rw[D.bm]at h
   refine tL ?_
   simp only[rk,aeT,aeS,ae2,wv k1,aY k3]
   refine⟨fun _=>⟨fun _=>⟨_,_,rfl,H x hx l2 (by omega),fun d hd2=>?_⟩,fun h=>by cases h⟩,fun h=>by omega⟩
   rw[bO k3 (by omega)]
   exact ih (i+1) (D.aa d) k2 (by omega) fun h=>by rw[h]at hx;cases hx
 refine FE ?_
 simp only[rk]
 refine⟨_,_,rfl,kD l _ (by omega),fun d hd=>?_⟩
 have hdl:=afg List.length hd
 simp only[ae4,cG]at hdl
 exact loop ys 0 _ rfl (by omega) fun h=>by rw[hd,h];rfl
def sa (ys l:List D)(H:∀y∈ys,∀l':List D,l'.length+61*D.bX y<2^40->PH de (zr l' y) (Lm l') 1 uQ (fun d=>(D.aa d).length<=l'.length+61*D.bX y))(hl:l.length+4+61*D.bm ys<2^40):
 PH bM (lO l ys) (lX l ys) 1 dA (fun d=>(D.aa d).length<=l.length+4+61*D.bm ys/\(ys=[]->D.aa d=l++mg 4 0)):=by
 have hlen:=db ys
 have loop:∀(rest:List D) (i:Nat) (l2:List D),ys.drop i=rest->l2.length+61*D.bm rest<=l.length+4+61*D.bm ys->(ys=[]->l2=l++mg 4 0)->aC pg bM [] (.bu 1 (dA (lO l ys) (lX l ys)) (fun d=>(D.aa d).length<=l.length+4+61*D.bm ys/\(ys=[]->D.aa d=l++mg 4 0))) (i6 l ys l2.length l2 i):=by
  intro rest
  induction rest with
  |nil=>
   intro i l2 hd h h0
   have:=drop_nil hd
   refine tN ?_
   simp only[rk,aeT,aeS]
   exact⟨fun h=>by omega,fun _=>⟨rfl,qT (fun _=>rfl) rfl ⟨by simpa [D.bm]using h,h0⟩⟩⟩
  |cons x rest ih=>
   intro i l2 hd h h0
   obtain⟨k1,k2,k3⟩:=aI hd
   have hx:=aeU k1
   rw[D.bm]at h
   refine tN ?_
   simp only[rk,aeT,aeS,ae2,wv k1,aY k3]
   refine⟨fun _=>⟨fun _=>⟨_,_,rfl,H x hx l2 (by omega),fun d hd2=>?_⟩,fun h=>by cases h⟩,fun h=>by omega⟩
   rw[bO k3 (by omega)]
   exact ih (i+1) (D.aa d) k2 (by omega) fun h=>by rw[h]at hx;cases hx
 refine FG ?_
 simp only[rk]
 refine⟨_,_,rfl,kD l _ (by omega),fun d hd=>?_⟩
 have hdl:=afg List.length hd
 simp only[ae4,cG]at hdl
 exact loop ys 0 _ rfl (by omega) fun h=>by rw[hd,h];rfl
def NQ (ys l:List D)(H:∀y∈ys,∀l':List D,l'.length+61*D.bX y<2^40->PH fE (sh l' y) (Lm l') 1 od (fun d=>(D.aa d).length<=l'.length+61*D.bX y))(hl:l.length+4+61*D.bm ys<2^40):
 PH dh (j9 l ys) (ke l ys) 1 gW (fun d=>(D.aa d).length<=l.length+4+61*D.bm ys/\(ys=[]->D.aa d=l++mg 4 0)):=by
 have hlen:=db ys
 have loop:∀(rest:List D) (i:Nat) (l2:List D),ys.drop i=rest->l2.length+61*D.bm rest<=l.length+4+61*D.bm ys->(ys=[]->l2=l++mg 4 0)->aC pg dh [] (.bu 1 (gW (j9 l ys) (ke l ys)) (fun d=>(D.aa d).length<=l.length+4+61*D.bm ys/\(ys=[]->D.aa d=l++mg 4 0))) (ik l ys l2.length l2 i):=by
  intro rest
  induction rest with
  |nil=>
   intro i l2 hd h h0
   have:=drop_nil hd
   refine rA ?_
   simp only[rk,aeT,aeS]
   exact⟨fun h=>by omega,fun _=>⟨rfl,qT (fun _=>rfl) rfl ⟨by simpa [D.bm]using h,h0⟩⟩⟩
  |cons x rest ih=>
   intro i l2 hd h h0
   obtain⟨k1,k2,k3⟩:=aI hd
   have hx:=aeU k1
   rw[D.bm]at h
   refine rA ?_
   simp only[rk,aeT,aeS,ae2,wv k1,aY k3]
   refine⟨fun _=>⟨fun _=>⟨_,_,rfl,H x hx l2 (by omega),fun d hd2=>?_⟩,fun h=>by cases h⟩,fun h=>by omega⟩
   rw[bO k3 (by omega)]
   exact ih (i+1) (D.aa d) k2 (by omega) fun h=>by rw[h]at hx;cases hx
 refine D2 ?_
 simp only[rk]
 refine⟨_,_,rfl,kD l _ (by omega),fun d hd=>?_⟩
 have hdl:=afg List.length hd
 simp only[ae4,cG]at hdl
 exact loop ys 0 _ rfl (by omega) fun h=>by rw[hd,h];rfl
def Km (ys l:List D)(H:∀y∈ys,∀l':List D,l'.length+91*D.bX y<2^40->PH dP (tY l' y) (Lm l') 1 oF (fun d=>(D.aa d).length<=l'.length+91*D.bX y))(hl:l.length+4+91*D.bm ys<2^40):
 PH cO (iK l ys) (iL l ys) 1 fH (fun d=>(D.aa d).length<=l.length+4+91*D.bm ys/\(ys=[]->D.aa d=l++mg 4 0)):=by
 have hlen:=db ys
 have loop:∀(rest:List D) (i:Nat) (l2:List D),ys.drop i=rest->l2.length+91*D.bm rest<=l.length+4+91*D.bm ys->(ys=[]->l2=l++mg 4 0)->aC pg cO [] (.bu 1 (fH (iK l ys) (iL l ys)) (fun d=>(D.aa d).length<=l.length+4+91*D.bm ys/\(ys=[]->D.aa d=l++mg 4 0))) (gh l ys l2.length l2 i):=by
  intro rest
  induction rest with
  |nil=>
   intro i l2 hd h h0
   have:=drop_nil hd
   refine pW ?_
   simp only[rk,aeT,aeS]
   exact⟨fun h=>by omega,fun _=>⟨rfl,qT (fun _=>rfl) rfl ⟨by simpa [D.bm]using h,h0⟩⟩⟩
  |cons x rest ih=>
   intro i l2 hd h h0
   obtain⟨k1,k2,k3⟩:=aI hd
   have hx:=aeU k1
   rw[D.bm]at h
   refine pW ?_
   simp only[rk,aeT,aeS,ae2,wv k1,aY k3]
   refine⟨fun _=>⟨fun _=>⟨_,_,rfl,H x hx l2 (by omega),fun d hd2=>?_⟩,fun h=>by cases h⟩,fun h=>by omega⟩
   rw[bO k3 (by omega)]
   exact ih (i+1) (D.aa d) k2 (by omega) fun h=>by rw[h]at hx;cases hx
 refine BP ?_
 simp only[rk]
 refine⟨_,_,rfl,kD l _ (by omega),fun d hd=>?_⟩
 have hdl:=afg List.length hd
 simp only[ae4,cG]at hdl
 exact loop ys 0 _ rfl (by omega) fun h=>by rw[hd,h];rfl
def VH (y:D)(l':List D)(h:l'.length+4*D.bX y<2^40):pj pg aw [.aG 0 0,.int .i64 (D.int y)] (Lm l') 1 (bV [.aG 0 0,.int .i64 (D.int y)] (Lm l')) (fun d=>(D.aa d).length<=l'.length+4*D.bX y):=
 zj (kD l' (D.int y) (by have:=eg y;omega)) fun d hd=>by have:=eg y;rw[hd];simp[cG];omega
def acw (y:D)(l':List D)(h:l'.length+5*D.bX y<2^40):pj pg cA [.aG 0 0,.bj (D.bj y)] (Lm l') 1 (gx [.aG 0 0,.bj (D.bj y)] (Lm l')) (fun d=>(D.aa d).length<=l'.length+5*D.bX y):=
 zj (WN l' (D.bj y) (by have:=eg y;have:=Ad y;omega)) fun d hd=>by have:=eg y;have:=Ad y;rw[hd];simp[cG,gn];omega
def Sn (l:List D)(s:nh)(hl:l.length+4+s.length<2^41):PH cA (zt l s) (zx l s) 1 gx (fun d=>(D.aa d).length=l.length+4+s.length):=
 zj (WN l s hl) fun d hd=>by rw[hd];simp[cG,gn];omega
def jq (l:List D)(n:Int)(hl:l.length+4<2^41):PH aw (xT l n) (xW l n) 1 bV (fun d=>(D.aa d).length=l.length+4):=
 zj (kD l n hl) fun d hd=>by rw[hd];simp[cG]
def N9 (l:List D)(n:Int)(hl:l.length+8<2^41):PH ca (p9 l n) (qd l n) 1 fC (fun d=>(D.aa d).length=l.length+8):=
 zj (Mj l n hl) fun d hd=>by rw[hd];simp[cG]
def WG:∀(n:Nat) (y:D),D.bX y<=n->∀l:List D,l.length+17*D.bX y<2^40->PH dO (zp l y) (Ey l y) 1 qk (fun d=>(D.aa d).length<=l.length+17*D.bX y):=by
 intro n
 induction n with
 |zero=>intro y h;have:=eg y;omega
 |succ n ih=>
 intro y hn l hl
 have hb:=eg y
 have hf:=xx y 4
 simp only[Fi]at hf
 have hs:=Ad (y.ae 2)
 have hi:=fR (y.ae 3)
 have e1:l.length+1=(l++[D.z (D.int (y.ae 0))]).length:=by simp
 refine Mz ?_
 simp only[rk,aft,afB,xM (show l.length+1<2^41 by omega)]
 refine⟨fun _=>?_,fun h=>by cases h⟩
 rw[e1]
 refine⟨_,_,rfl,N9 _ _ (by simp;omega),fun d0 h0=>?_⟩
 rw[<-e1]at h0
 refine⟨_,_,rfl,Sn _ _ (by omega),fun d1 h1=>?_⟩
 refine⟨_,_,rfl,Qx _ _ (fun x hx l' hl'=>ih x (by have:=EM hx;omega) l' hl') (by omega),fun d2 h2=>?_⟩
 exact⟨rfl,qT (fun _=>rfl) rfl (by have:=h2.1;simp only[D.bP];omega)⟩
def WM:∀(n:Nat) (y:D),D.bX y<=n->∀l:List D,l.length+61*D.bX y<2^40->PH de (zr l y) (EA l y) 1 uQ (fun d=>(D.aa d).length<=l.length+61*D.bX y):=by
 intro n
 induction n with
 |zero=>intro y h;have:=eg y;omega
 |succ n ih=>
 intro y hn l hl
 have hb:=eg y
 have hf:=xx y 11
 simp only[Fi]at hf
 have hs1:=Ad (y.ae 1)
 have hs2:=Ad (y.ae 2)
 have b5:=eg (y.ae 5)
 have b6:=eg (y.ae 6)
 have i7:=fR (y.ae 7)
 have i8:=fR (y.ae 8)
 have i9:=fR (y.ae 9)
 have i10:=fR (y.ae 10)
 have e1:l.length+1=(l++[D.z (D.int (y.ae 0))]).length:=by simp
 refine MB ?_
 simp only[rk,aft,afB,xM (show l.length+1<2^41 by omega)]
 refine⟨fun _=>?_,fun h=>by cases h⟩
 rw[e1]
 refine⟨_,_,rfl,Sn _ _ (by simp;omega),fun d0 h0=>?_⟩
 rw[<-e1]at h0
 refine⟨_,_,rfl,Sn _ _ (by omega),fun d1 h1=>?_⟩
 simp only[xM (show (D.aa d1).length+1<2^41 by omega),xM (show (D.aa d1).length+1+1<2^41 by omega),ae4,ae9,afX,afT,aft,afB]
 refine⟨fun _=>⟨fun _=>?_,fun h=>by cases h⟩,fun h=>by cases h⟩
 have e2:(D.aa d1).length+1+1=(D.aa d1++[D.z (D.int (y.ae 3))]++[D.z (D.int (y.ae 4))]).length:=by simp
 rw[e2]
 refine⟨_,_,rfl,WG _ _ (afa _) _ (by rw[<-e2];omega),fun d2 h2=>?_⟩
 rw[<-e2]at h2
 refine⟨_,_,rfl,WG _ _ (afa _) _ (by omega),fun d3 h3=>?_⟩
 refine⟨_,_,rfl,sa _ _ (fun x hx l' hl'=>ih x (by have:=EM hx;omega) l' hl') (by omega),fun d4 h4=>?_⟩
 obtain⟨h4,-⟩:=h4
 refine⟨_,_,rfl,sa _ _ (fun x hx l' hl'=>ih x (by have:=EM hx;omega) l' hl') (by omega),fun d5 h5=>?_⟩
 obtain⟨h5,-⟩:=h5
 refine⟨_,_,rfl,sa _ _ (fun x hx l' hl'=>ih x (by have:=EM hx;omega) l' hl') (by omega),fun d6 h6=>?_⟩
 obtain⟨h6,-⟩:=h6
 refine⟨_,_,rfl,Mb _ _ (fun x hx l' hl'=>acw x l' hl') (by omega),fun d7 h7=>?_⟩
 exact⟨rfl,qT (fun _=>rfl) rfl (by have:=h7.1;simp only[D.bP];omega)⟩
def vOK (d:D):Prop:=∃v:aJ,v.ok/\d=v.az
def JE {y:D}(h:vOK y)(l:List D)(hl:l.length+9*D.bX y<2^40):PH cd (sj l y) (xY l y) 1 jh (fun d=>(D.aa d).length<=l.length+9*D.bX y):=by
 obtain⟨v,hv,rfl⟩:=h
 exact ZP v hv l hl
def WH (y:D)(h:vOK (y.ae 1))(l:List D)(hl:l.length+20*D.bX y<2^40):PH fD (zq l y) (Ez l y) 1 uP (fun d=>(D.aa d).length<=l.length+20*D.bX y):=by
 have hb:=eg y
 have hf:=xx y 2
 simp only[Fi]at hf
 have hs:=Ad (y.ae 0)
 have b1:=eg (y.ae 1)
 refine MA ?_
 simp only[rk]
 refine⟨_,_,rfl,Sn _ _ (by omega),fun d0 h0=>?_⟩
 refine⟨_,_,rfl,JE h _ (by omega),fun d1 h1=>?_⟩
 exact⟨rfl,qT (fun _=>rfl) rfl (by simp only[D.bP];omega)⟩
def tOK (y:D):Prop:=0<=D.int ((y.ae 1).ae 0)/\D.int ((y.ae 1).ae 0)<=16/\vOK ((y.ae 1).ae 2)/\(∀x∈D.aa ((y.ae 1).ae 3),vOK x)/\∀x∈D.aa ((y.ae 1).ae 11),vOK (x.ae 1)
def sOK (y:D):Prop:=∀x∈D.aa (y.ae 2),vOK (x.ae 1)
def wOK (y:D):Prop:=∀x∈D.aa (y.ae 2),tOK x
def ZO (y:D)(h:tOK y)(l:List D)(hl:l.length+61*D.bX y<2^40):PH fE (sh l y) (xX l y) 1 od (fun d=>(D.aa d).length<=l.length+61*D.bX y):=by
 obtain⟨k0,k1,t2,t3,t11⟩:=h
 have hb:=eg y
 have hf0:=xx y 2
 have hf:=xx (y.ae 1) 12
 simp only[Fi]at hf hf0
 have b2:=eg ((y.ae 1).ae 2)
 have i3:=fR ((y.ae 1).ae 3)
 have i10:=fR ((y.ae 1).ae 10)
 have i11:=fR ((y.ae 1).ae 11)
 refine Kt ?_
 simp only[rk,aft,afB,afv,afd,agq]
 refine⟨_,_,rfl,jq _ _ (by omega),fun d0 h0=>?_⟩
 rw[xM (show (D.aa d0).length+1<2^41 by omega)]
 have e1:(D.aa d0).length+1=(D.aa d0++[D.z (D.int ((y.ae 1).ae 0))]).length:=by simp
 generalize hL:D.aa d0++[D.z (D.int ((y.ae 1).ae 0))]=L at e1 ⊢
 rw[e1]
 have h1:L.length=l.length+5:=by omega
 have fin_:∀d:D,(D.aa d).length<=l.length+61*D.bX y->∃d',T.dm (BV.tuple [],Lm (D.aa d)) (od (sh l y) (xX l y) d')/\(D.aa d').length<=l.length+61*D.bX y:=fun d h=>qT (fun _=>rfl) rfl (by simpa using h)
 refine⟨fun _=>⟨fun _=>⟨rfl,qT (fun _=>rfl) rfl (by simp only[D.bP];omega)⟩,fun _=>?_⟩,fun h=>by cases h⟩
 refine⟨fun _=>⟨_,_,rfl,jq _ _ (by omega),fun d h2=>⟨_,_,rfl,JE t2 _ (by omega),fun d h3=>⟨rfl,fin_ d (by omega)⟩⟩⟩,fun _=>?_⟩
 refine⟨fun _=>⟨_,_,rfl,jq _ _ (by omega),fun d h2=>⟨_,_,rfl,Hr _ _ (fun x hx l' hl'=>JE (t3 x hx) l' hl') (by omega),fun d h3=>⟨rfl,fin_ d (by have:=h3.1;omega)⟩⟩⟩,fun _=>?_⟩
 refine⟨fun _=>⟨_,_,rfl,jq _ _ (by omega),fun d h2=>⟨_,_,rfl,N9 _ _ (by omega),fun d h3=>⟨rfl,fin_ d (by omega)⟩⟩⟩,fun _=>?_⟩
 refine⟨fun _=>⟨_,_,rfl,jq _ _ (by omega),fun d h2=>⟨_,_,rfl,Hr _ _ (fun x hx l' hl'=>JE (t3 x hx) l' hl') (by omega),fun d h3=>⟨rfl,fin_ d (by have:=h3.1;omega)⟩⟩⟩,fun _=>?_⟩
 refine⟨fun _=>⟨_,_,rfl,jq _ _ (by omega),fun d h2=>⟨rfl,fin_ d (by omega)⟩⟩,fun _=>?_⟩
 refine⟨fun _=>⟨_,_,rfl,jq _ _ (by omega),fun d h2=>⟨_,_,rfl,jq _ _ (by omega),fun d h3=>⟨rfl,fin_ d (by omega)⟩⟩⟩,fun _=>?_⟩
 refine⟨fun _=>⟨_,_,rfl,jq _ _ (by omega),fun d h2=>⟨_,_,rfl,jq _ _ (by omega),fun d h3=>⟨_,_,rfl,JE t2 _ (by omega),fun d h4=>⟨rfl,fin_ d (by omega)⟩⟩⟩⟩,fun _=>?_⟩
 refine⟨fun _=>⟨_,_,rfl,jq _ _ (by omega),fun d h2=>⟨_,_,rfl,N9 _ _ (by omega),fun d h3=>⟨_,_,rfl,N9 _ _ (by omega),fun d h4=>⟨rfl,fin_ d (by omega)⟩⟩⟩⟩,fun _=>?_⟩
 refine⟨fun _=>⟨_,_,rfl,jq _ _ (by omega),fun d h2=>⟨_,_,rfl,jq _ _ (by omega),fun d h3=>⟨_,_,rfl,N9 _ _ (by omega),fun d h4=>⟨rfl,fin_ d (by omega)⟩⟩⟩⟩,fun _=>?_⟩
 have Ip:∀(d:D) (b:Int),(D.aa d).length=l.length+9->bg 1 ((D.aa d).length+1)=true/\(D.aa d).length+1=(D.aa d++[D.z b]).length/\(D.aa d++[D.z b]).length=l.length+10:=fun d b h=>⟨xM (by omega),by simp,by simp;omega⟩
 refine⟨fun _=>⟨_,_,rfl,jq _ _ (by omega),fun d h2=>?_⟩,fun _=>?_⟩
 ·have y1:=Ip d 1 (by omega)
  have y0:=Ip d 0 (by omega)
  rw[y1.1]
  refine⟨fun _=>⟨fun _=>?_,fun h=>by cases h⟩,fun _=>⟨fun _=>?_,fun h=>by cases h⟩⟩
  ·rw[y1.2.1]
   exact⟨_,_,rfl,JE t2 _ (by omega),fun d h3=>⟨rfl,fin_ d (by omega)⟩⟩
  ·rw[y0.2.1]
   exact⟨_,_,rfl,JE t2 _ (by omega),fun d h3=>⟨rfl,fin_ d (by omega)⟩⟩
 refine⟨fun _=>⟨_,_,rfl,jq _ _ (by omega),fun d h2=>⟨_,_,rfl,jq _ _ (by omega),fun d h3=>⟨rfl,fin_ d (by omega)⟩⟩⟩,fun _=>?_⟩
 refine⟨fun _=>⟨_,_,rfl,jq _ _ (by omega),fun d h2=>⟨_,_,rfl,sa _ _ (fun x hx l' hl'=>WM _ x (afa _) l' hl') (by omega),fun d h3=>⟨_,_,rfl,Jx _ _ (fun x hx l' hl'=>WH x (t11 x hx) l' hl') (by have:=h3.1;omega),fun d h4=>⟨rfl,fin_ d (by have:=h3.1;have:=h4.1;omega)⟩⟩⟩⟩,fun _=>?_⟩
 refine⟨fun _=>⟨_,_,rfl,jq _ _ (by omega),fun d h2=>?_⟩,fun _=>?_⟩
 ·have y1:=Ip d 1 (by omega)
  have y0:=Ip d 0 (by omega)
  rw[y1.1]
  refine⟨fun _=>⟨fun _=>?_,fun h=>by cases h⟩,fun _=>⟨fun _=>?_,fun h=>by cases h⟩⟩
  ·rw[y1.2.1]
   exact⟨_,_,rfl,jq _ _ (by omega),fun d h3=>⟨rfl,fin_ d (by omega)⟩⟩
  ·rw[y0.2.1]
   exact⟨_,_,rfl,jq _ _ (by omega),fun d h3=>⟨rfl,fin_ d (by omega)⟩⟩
 refine⟨fun _=>⟨_,_,rfl,jq _ _ (by omega),fun d h2=>?_⟩,fun _=>?_⟩
 ·rw[xM (show (D.aa d).length+1<2^41 by omega)]
  exact⟨fun _=>⟨rfl,qT (fun _=>rfl) (by simp) (by simp;omega)⟩,fun h=>by cases h⟩
 refine⟨fun _=>⟨_,_,rfl,jq _ _ (by omega),fun d h2=>⟨_,_,rfl,jq _ _ (by omega),fun d h3=>⟨_,_,rfl,jq _ _ (by omega),fun d h4=>⟨rfl,fin_ d (by omega)⟩⟩⟩⟩,fun _=>?_⟩
 refine⟨fun _=>⟨_,_,rfl,jq _ _ (by omega),fun d h2=>⟨_,_,rfl,jq _ _ (by omega),fun d h3=>⟨_,_,rfl,jq _ _ (by omega),fun d h4=>⟨rfl,fin_ d (by omega)⟩⟩⟩⟩,fun _=>?_⟩
 omega
def TF (y:D)(h:sOK y)(l:List D)(hl:l.length+91*D.bX y<2^40):PH dP (tY l y) (Av l y) 1 oF (fun d=>(D.aa d).length<=l.length+91*D.bX y):=by
 have hb:=eg y
 have hf:=xx y 4
 simp only[Fi]at hf
 have i1:=fR (y.ae 1)
 have i2:=fR (y.ae 2)
 have i3:=fR (y.ae 3)
 refine Ic ?_
 simp only[rk]
 refine⟨_,_,rfl,jq _ _ (by omega),fun d0 h0=>⟨_,_,rfl,sa _ _ (fun x hx l' hl'=>WM _ x (afa _) l' hl') (by omega),fun d1 h1=>?_⟩⟩
 obtain⟨h1,-⟩:=h1
 refine⟨_,_,rfl,Jx _ _ (fun x hx l' hl'=>WH x (h x hx) l' hl') (by omega),fun d2 h2=>?_⟩
 obtain⟨h2,-⟩:=h2
 refine⟨_,_,rfl,Tn _ _ (fun x hx l' hl'=>VH x l' hl') (by omega),fun d3 h3=>?_⟩
 exact⟨rfl,qT (fun _=>rfl) rfl (by have:=h3.1;simp only[D.bP];omega)⟩
def Qc (y:D):Prop:=D.aa (y.ae 0)=[]/\D.aa (y.ae 1)=[]/\D.int (y.ae 3)=0/\D.aa (y.ae 4)=[.z 0]/\D.aa (y.ae 2)=[]
def Yd:List D:=[.z 0,.z 0,.z 0,.z 0,.z 0,.z 0,.z 0,.z 0,.z 0,.z 0,.z 0,.z 0,.z 0,.z 0,.z 0,.z 1,.z 0,.z 0,.z 0,.z 0,.z 0,.z 0,.z 0,.z 0]
def Sp (y:D)(h:wOK y)(l:List D)(hl:l.length+61*D.bX y<2^40):PH jl (C7 l y) (C8 l y) 1 so (fun d=>(D.aa d).length<=l.length+61*D.bX y/\(Qc y->D.aa d=l++Yd)):=by
 have hb:=eg y
 have hf:=xx y 5
 simp only[Fi]at hf
 have i0:=fR (y.ae 0)
 have i1:=fR (y.ae 1)
 have i2:=fR (y.ae 2)
 have i4:=fR (y.ae 4)
 have l1:=db (D.aa (y.ae 1))
 have l4:=db (D.aa (y.ae 4))
 have hcl:∀zs:List D,(cS zs).length=4*zs.length:=fun zs=>by
  induction zs with
  |nil=>rfl
  |cons z r ih=>simp only[cS,ahS,ae4,cG,ae9]at ih ⊢;omega
 refine Kv ?_
 simp only[rk]
 refine⟨_,_,rfl,Qy _ _ (fun x hx l' hl'=>VH x l' hl') (by omega),fun d0 h0=>?_⟩
 obtain⟨h0,g0⟩:=h0
 refine⟨_,_,rfl,Lb _ _ (by omega),fun d1 g1=>?_⟩
 have h1:=afg List.length g1
 simp only[ae4,cG,hcl]at h1
 refine⟨_,_,rfl,kD _ _ (by omega),fun d2 g2=>?_⟩
 have h2:=afg List.length g2
 simp only[ae4,cG]at h2
 refine⟨_,_,rfl,Lb _ _ (by omega),fun d3 g3=>?_⟩
 have h3:=afg List.length g3
 simp only[ae4,cG,hcl]at h3
 refine⟨_,_,rfl,NQ _ _ (fun x hx l' hl'=>ZO x (h x hx) l' hl') (by omega),fun d4 h4=>?_⟩
 obtain⟨h4,g4⟩:=h4
 refine⟨rfl,qT (fun _=>rfl) rfl ⟨by simp only[D.bP];omega,fun e=>?_⟩⟩
 obtain⟨e0,e1,e2,e3,e4⟩:=e
 rw[D.bP,g4 e4,g3,g2,g1,g0 e0,e1,e2,e3]
 simp only[ahm]
 rfl
end Go.Proofs
end
