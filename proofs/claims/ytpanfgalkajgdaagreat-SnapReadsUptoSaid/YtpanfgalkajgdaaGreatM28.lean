import Derived.WalkKit
import Derived.ProofKit
import Derived.WalkLawsBesides
import Derived.Recover
import Derived.Test.YtpanfgalkajgdaaGreatM27
set_option linter.all false
noncomputable section
open Go.IntKind renaming wrap→wp
namespace Go.Proofs
open Go Go.PB Go.ChangeShapes Go.WideShapes Go.ChangeAt Go.RowKit Go.Op
set_option maxRecDepth 20000
set_option maxHeartbeats 4000000
def wB:U7 pg ni aX 270 bn:=by
 show U7 pg 130 197 270 46;intro q w w' Z I;obtain⟨x,hc⟩:=amR.1 Z;have Y:w.frozen? q=false/\w'=w.setCell q (.int .i64 270):=by
  simp[Instr.storeAt,go_sem,hc]at I
  split at I
  ·cases I
  rename_i V
  exact⟨apv.2 V,by simpa using I.symm⟩
 obtain⟨O,U⟩:=Y;have hb:q.block<w.heap.size:=by apply anq;intro V;simp[World.cell?,aoV (Nat.le_of_not_lt V)]at hc
 have hp:(w.alloc (Obj.cells #[.int .i64 270] 197)).heap=w.heap.push (Obj.cells #[.int .i64 270] 197):=rfl;have h1:(w.alloc (Obj.cells #[.int .i64 270] 197)).cell? q=some x:=by
  have e:(w.alloc (Obj.cells #[.int .i64 270] 197)).heap[q.block]?=w.heap[q.block]?:=by rw[hp,apB hb,am0 hb]
  simp only[World.cell?,e]at hc ⊢;exact hc
 have h2:(w.alloc (Obj.cells #[.int .i64 270] 197)).frozen? q=false:=(frozen?_alloc_cells _ _ _ _).trans O;have hk:EG (w.setCell q (.int .i64 270)) ((w.alloc (Obj.cells #[.int .i64 270] 197)).setCell q (.int .i64 270)):=by
  refine⟨?_,fun c A=>?_,rfl,rfl,rfl⟩
  ·show (w.heap.modify _ _).size<=((w.heap.push _).modify _ _).size;rw[apt,apt,Array.size_push];omega
  have A:c<(w.heap.modify q.block _).size:=A;rw[apt]at A;show ((w.heap.push _).modify _ _)[c]?=(w.heap.modify _ _)[c]?;rw[aoh,aoh,apB A,am0 A]
 have a6:∀w:World,(Instr.typeAssert (.iface 197 (.agg #[.int .i64 270])) 20 197 true).run pg w= .ok (.tuple #[.agg #[.int .i64 270],.bool true]) w:=fun w=>by kernel_rfl
 subst U;clear I Z hp hb hc O;refine callsD_of_wpS Tryz.func130 rfl fun J cs hu=>?_;apply wpS_seq;apply wpS_region;simp[wpOpsS,go_sem,recoverD,hu,Tryz.ntmps130,Exit.thenS];apply wpS_seq;apply wpS_seq;apply wpS_region;simp[wpOpsS,go_sem,Exit.thenS];refine wpS_cond (t:=false) (by simp[Act.eval,Array.replicate]) ?_;simp only[amp,ann];refine wpS_of_wp ?_
 go_wp2
 simp only[Exit.thenS];refine wpS_of_wp ?_
 go_wp2
 cases J
 simp_all [bodyPostS,results,Tryz.results130]
end Go.Proofs
namespace Go.Proofs
open Go Go.PB
def hd8:cg:=[112,111,115,116,101,114,110,10]
def Ax (c:UInt8)(s:cg):Int:=
 if s.length>67108864 then 4 else if s.length<17 then 270 else if s.take 8≠hd8 then 270 else if s.getD 8 0≠c then 270
 else if (jN (s.drop (s.length-8)):Int)≠Ll (s.take (s.length-8))then 271 else 0
def eW (s:cg):cg:=(s.take (s.length-8)).drop 9
def i9 {α:Type}(c:UInt8)(p:Pa α)(s:cg):Int×Option α:=
 if Ax c s≠0 then (Ax c s,none)else match p (eW s)with|some (v,[])=>(0,some v)|_=>(270,none)
def xp {α:Type}{c:UInt8}{p:Pa α}{s:cg}(h:Ax c s≠0):i9 c p s=(Ax c s,none):=amu h
def AJ {α:Type}{c:UInt8}{p:Pa α}{s:cg}{v:α}(h:Ax c s=0)(hp:p (eW s)=some (v,[])):i9 c p s=(0,some v):=by
 rw[i9,amt (by simp[h]),hp]
def qu {α:Type}{c:UInt8}{p:Pa α}{s:cg}(h:Ax c s=0)(hp:p (eW s)=none):i9 c p s=(270,none):=by
 rw[i9,amt (by simp[h]),hp]
def wb {α:Type}{c:UInt8}{p:Pa α}{s:cg}{v:α}{r:cg}(h:Ax c s=0)(hp:p (eW s)=some (v,r))(A:r≠[]):i9 c p s=(270,none):=by
 rw[i9,amt (by simp[h]),hp]
 cases r with
 |nil=>exact absurd rfl A
 |cons a r=>rfl
def sI {c:UInt8}{s:cg}(h:Ax c s=0):17<=s.length/\s.length<=67108864:=by
 unfold Ax at h
 split at h
 ·cases h
 split at h
 ·cases h
 omega
def pG {c:UInt8}{s:cg}(h:Ax c s=0):(eW s).length+17=s.length:=by
 have:=sI h;simp only[eW,anz,amI];omega
def ahJ {k:Nat}{t:cg}(h:t.length=k):cT k t=some ((jN t:Int),[]):=by
 refine I0 ?_;rw[Aj (by omega) (by omega),amq,<-h,ano,List.drop_length]
def Mr {C:cK}{G:vJ}(L:Int->RT)(X:D->RT)(K:RT)(c:UInt8)(s:cg){m:Int}{n:Nat}(hm:17<=s.length->0<=m)(Z:17<=s.length->n=s.length-8)(hs:rp C.bJ cv=some fR)(U:EF C.cj je=some ([aq],[dA]))(a6:s.length<2^40)
 (hL:Ax c s≠0->rk pg C G (L (Ax c s)))(hK:Ax c s=0->rk pg C G K):
 rk pg C G (.ite (decide ((s.length:Int)>67108864)) (L 4) (.ite (decide ((s.length:Int)<17)) (L 270) (.ite (decide (0<=8)&&decide (8<=s.length)) (.ite (!(List.drop 0 (List.take 8 s)==[{toBitVec:=112#8},{toBitVec:=111#8},{toBitVec:=115#8},{toBitVec:=116#8},{toBitVec:=101#8},{toBitVec:=114#8},{toBitVec:=110#8},{toBitVec:=10#8}])) (L 270)
  (.ite (di 8 s.length) (.ite ((((s.getD 8 0).toNat:Nat):Int)!=(c.toNat:Int)) (L 270)
    (.ite (decide (0<=m)) (.ite (decide (n<=s.length)&&decide (s.length<=s.length)) (.ite (decide (0<=n)&&decide (n<=s.length))
      (.au cv [.ie 0 0] (Ms (List.drop n (List.take s.length s))) 1 fun O=> .ite (O.af 0).bool (X O)
        (.call je [D.s (List.drop 0 (List.take n s))] fun d1=> .ite ((O.af 1).int !=D.int d1) (L 271)
          (.ite (decide (9<=n)&&decide (n<=s.length)) K .bT))) .bT) .bT) .bT)) .bT)) .bT))):=by
 have pc:∀e:Int,Ax c s=e->e≠0->rk pg C G (L e):=fun e h1 h2=>by subst h1;exact hL h2
 refine⟨fun h=>pc 4 ?_ (by decide),fun h=>⟨fun h2=>pc 270 ?_ (by decide),fun h2=>⟨fun _=>⟨fun I=>pc 270 ?_ (by decide),fun I=>⟨fun _=>⟨fun J=>pc 270 ?_ (by decide),fun J=>?_⟩,fun h=>?_⟩⟩,fun h=>?_⟩⟩⟩
 ·rw[Ax,amu (by have:=amU h;omega)]
 ·rw[Ax,amt (by have:=amE h;omega),amu (by have:=amU h2;omega)]
 ·rw[Ax,amt (by have:=amE h;omega),amt (by have:=amE h2;omega),amu];intro e;rw[anx,e]at I;exact absurd I (by decide)
 ·rw[Ax,amt (by have:=amE h;omega),amt (by have:=amE h2;omega)]
  split
  ·rfl
  rw[amu];intro e;rw[e]at J;simp at J
 ·have h:=amE h;have h2:=amE h2;have I:s.take 8=hd8:=by rw[anx]at I;have:(List.take 8 s==hd8)=true:=(by simpa [hd8]using I);exact eq_of_beq this
  have J:s.getD 8 0=c:=by have J:(((s.getD 8 0).toNat:Nat):Int)=(c.toNat:Int):=(by simpa using J);exact UInt8.toNat_inj.1 (by omega)
  have A:17<=s.length:=by omega
  have w:=Z A;subst w;have V:Ax c s=if (jN (s.drop (s.length-8)):Int)≠Ll (s.take (s.length-8))then 271 else 0:=by rw[Ax,ifN,ifN,amt (fun h=>h I),amt fun h=>h J]
  rw[z7];refine⟨fun _=>⟨fun _=>⟨fun _=>⟨_,_,hs,SQ _,fun O hd=>?_⟩,fun h=>?_⟩,fun h=>?_⟩,fun h=>?_⟩
  ·have hl:(s.drop (s.length-8)).length=8:=(by rw[anz];omega);have hp:=ahJ (k:=8) hl;obtain⟨g0,Y,-⟩:=Rq.fD hp hd;refine⟨fun g=>tf (g.symm.trans g0),fun _=>⟨_,_,_,U,V8 _ (by rw[anz,amI];omega),?_⟩⟩;rintro _ rfl;simp only[rk];rw[Y,D.bu,D.bu,anx];refine⟨fun g=>pc 271 ?_ (by decide),fun g=>⟨fun _=>hK ?_,fun g=>?_⟩⟩
   ·rw[V,amu (by simpa using g)]
   ·rw[V,amt (by simpa using g)]
   simp at g;omega
  ·first| (simp at h;done)| (simp at h;omega)
  ·first| (simp at h;done)| (simp at h;omega)
  have:=amE h;exact this (hm A)
 ·simp[di]at h;have:=amE h2;omega
 simp at h;have:=amE h2;omega
def Qa (F:Nat):Pa (Wl×List Su):=(Lo F).bind fun x=>(cQ (pSu F)).bind fun l=> .ret (x,l)
def Wl.z:Wl:=⟨[],[],[],0,[]⟩
def Aq {α:Type}(e:α->D->Prop)(r:Int×Option α)(d:D):Prop:=(d.af 0).int=r.1/\∀v,r.2=some v->e v d
def Aq.err {α:Type}{e:α->D->Prop}{r:Int×Option α}{n:Int}{l:List D}(h:r=(n,none)):Aq e r (.r (.z n::l)):=by subst h;exact⟨rfl,fun v h=>by cases h⟩
def Aq.ok {α:Type}{e:α->D->Prop}{r:Int×Option α}{n:Int}{v:α}{l:List D}(h:r=(n,some v))(A:e v (.r (.z n::l))):Aq e r (.r (.z n::l)):=by
 subst h;exact⟨rfl,fun w h=>by cases h;exact A⟩
def ai3 (s:cg)(c e:Int)(x:D)(l:List D):T.dV (BV.int .i64 e,[(0,.cells (aH pg aM x) aM false),(1,.cells [.bx aV l] br false)]) (gp (B4 s c) (Ca s c) (.r [.z e,x,.r l])):= .ret
def aeA {s:cg}{n:Nat}(h:n=s.length-8):List.drop 9 (List.take n s)=eW s:=by subst h;rfl
def GU {s:cg}(h:s.length<2^40)(A:17<=s.length):(wp .i64 ((s.length:Int)-8)).toNat=s.length-8:=by rw[bM];omega
def ajR {s:cg}(h:s.length<2^40)(A:17<=s.length):0<=wp .i64 ((s.length:Int)-8):=by rw[bM];omega
abbrev W0:List BV:=[.bx cq (D.ae (D.r [])),.bx ah (D.ae (D.r [])),.bx bF (D.ae (D.r [])),.int .i64 0,.bx ah (D.ae (D.r []))]
def ae0 (s:cg)(c e:Int):T.dV (BV.int .i64 e,[(0,.cells W0 aM false),(1,.cells [.bx aV (D.ae (D.r []))] br false)]) (gp (B4 s c) (Ca s c) (.r [.z e,Wl.z.ar,.r []])):=by
 have:=ai3 s c e Wl.z.ar [];rw[Xq]at this;exact this
def YL (s:cg)(c e:Int)(x:Wl)(l:List D):T.dV (BV.int .i64 e,[(0,.cells [.bx cq (aY x.pa),.bx ah (aY x.cu),.bx bF (x.th.map En.ar),.int .i64 x.la,.bx ah (aY x.ma)] aM false),(1,.cells [.bx aV l] br false)]) (gp (B4 s c) (Ca s c) (.r [.z e,x.ar,.r l])):=by
 have:=ai3 s c e x.ar l;rw[Xq]at this;exact this
def ait (s:cg)(hs:s.length<2^40):PH kS (B4 s 112) (Ca s 112) 2 gp (Aq (fun v d=>D.af d 1=v.1.ar/\(d.af 2).ae=v.2.map Su.ar) (i9 112 (Qa s.length) s)):=by
 refine acO (s:=s) (c:=112) (Mr (fun e=> .aT (.int .i64 e) [(0,.cells W0 aM false),(1,.cells [.bx aV (D.ae (D.r []))] br false)]) _ _ 112 s (ajR hs) (GU hs) rfl rfl hs (fun h=>⟨rfl,_,ae0 _ _ _,Aq.err (xp h)⟩) fun h=>?_);have hb:=pG h;obtain⟨J,U⟩:=sI h;rw[aeA (GU hs J)];refine⟨_,_,rfl,agr s.length (eW s) (by omega) (by omega),fun d hd=>?_⟩
 cases hp:Lo s.length (eW s)with
 |none=>exact⟨fun _=>⟨wB,rfl,_,ae0 _ _ _,Aq.err (qu h (Pa.cw hp))⟩,fun g=>tf (g.symm.trans (Rq.pc hp hd)).symm⟩
 |some y=>
  obtain⟨x,r⟩:=y;obtain⟨V,d1,Y⟩:=Rq.fD hp hd;have hl:=(U0 _ _ _ _ (by omega) hp).1;have O:Qa s.length (eW s)=((cQ (pSu s.length)).bind fun l=> .ret (x,l)) r:=Pa.bind_some hp;refine⟨fun g=>tf (g.symm.trans V),fun _=>?_⟩;rw[d1,Y];refine⟨_,_,rfl,RG s.length r (by omega) (by omega),fun d hd=>?_⟩;simp only[Wl.iW,Wl.tX,Wl.gD,Wl.q9,Wl.nD]
  cases A:cQ (pSu s.length) r with
  |none=>exact⟨fun _=>⟨wB,rfl,_,YL _ _ _ _ _,Aq.err (qu h (O.trans (Pa.cw A)))⟩,fun g=>tf (g.symm.trans (Rq.pc A hd)).symm⟩
  |some z=>
   obtain⟨l,t⟩:=z;obtain⟨Z,e1,e2⟩:=Rq.fD A hd;have I:Qa s.length (eW s)=some ((x,l),t):=O.trans (Pa.bind_some A);refine⟨fun g=>tf (g.symm.trans Z),fun _=>?_⟩;rw[e1,e2,D.aK];refine⟨fun _=>⟨fun g=>⟨_,_,rfl,ve,fun _ _=>⟨wB,rfl,_,YL _ _ _ _ _,Aq.err (wb h I ?_)⟩⟩,fun g=>?_⟩,fun g=>absurd (amE g) (by simp)⟩
   ·intro h;subst h;exact absurd g (by decide)
   have ht:t=[]:=(by simpa using g);subst ht;exact⟨rfl,_,YL _ _ _ _ _,Aq.ok (AJ h I) ⟨rfl,D.aK _⟩⟩
def ae1 (s:cg)(c e:Int):T.dV (BV.int .i64 e,[(0,.cells W0 aM false)]) (gp (ql s c) (qo s c) (.r [.z e,Wl.z.ar])):=by
 have:T.dV (BV.int .i64 e,[(0,.cells (aH pg aM Wl.z.ar) aM false)]) (gp (ql s c) (qo s c) (.r [.z e,Wl.z.ar])):= .ret;rw[Xq]at this;exact this
def ae2 (s:cg)(c e:Int)(x:Wl):T.dV (BV.int .i64 e,[(0,.cells [.bx cq (aY x.pa),.bx ah (aY x.cu),.bx bF (x.th.map En.ar),.int .i64 x.la,.bx ah (aY x.ma)] aM false)]) (gp (ql s c) (qo s c) (.r [.z e,x.ar])):=by
 have:T.dV (BV.int .i64 e,[(0,.cells (aH pg aM x.ar) aM false)]) (gp (ql s c) (qo s c) (.r [.z e,x.ar])):= .ret;rw[Xq]at this;exact this
def aiu (s:cg)(hs:s.length<2^40):PH kS (ql s 119) (qo s 119) 1 gp (Aq (fun v d=>D.af d 1=v.ar) (i9 119 (Lo s.length) s)):=by
 refine Ue (s:=s) (c:=119) (Mr (fun e=> .aT (.int .i64 e) [(0,.cells W0 aM false)]) _ _ 119 s (ajR hs) (GU hs) rfl rfl hs (fun h=>⟨rfl,_,ae1 _ _ _,Aq.err (xp h)⟩) fun h=>?_);have hb:=pG h;obtain⟨A,I⟩:=sI h;rw[aeA (GU hs A)];refine⟨_,_,rfl,agr s.length (eW s) (by omega) (by omega),fun d hd=>?_⟩
 cases hp:Lo s.length (eW s)with
 |none=>exact⟨fun _=>⟨wB,rfl,_,ae1 _ _ _,Aq.err (qu h hp)⟩,fun g=>tf (g.symm.trans (Rq.pc hp hd)).symm⟩
 |some y=>
  obtain⟨x,r⟩:=y;obtain⟨J,U,O⟩:=Rq.fD hp hd;refine⟨fun g=>tf (g.symm.trans J),fun _=>?_⟩;rw[U,O];simp only[Wl.iW,Wl.tX,Wl.gD,Wl.q9,Wl.nD];refine⟨fun g=>⟨_,_,rfl,ve,fun _ _=>⟨wB,rfl,_,ae2 _ _ _ _,Aq.err (wb h hp ?_)⟩⟩,fun g=>?_⟩
  ·intro h;subst h;exact absurd g (by decide)
  have ht:r=[]:=by simpa using g
  subst ht;exact⟨rfl,_,ae2 _ _ _ _,Aq.ok (AJ h hp) rfl⟩
def aa8 (s:cg)(c e:Int)(l:List D):T.dV (BV.int .i64 e,[(0,.cells [.hY 1 l.length true] aQ false),(1,.bY aJ l true)]) (gp (yx s c) (yA s c) (.r [.z e,.r l])):=by
 have:T.dV (BV.int .i64 e,[(0,.cells [.hY 1 (D.ae (.r l)).length true] aQ false),(1,.bY aJ (D.ae (.r l)) true)]) (gp (yx s c) (yA s c) (.r [.z e,.r l])):= .ret
 rwa [D.aK]at this
def ais (s:cg)(hs:s.length<2^40):PH kS (yx s 99) (yA s 99) 1 gp (Aq (fun v d=>(d.af 1).ae=v.map St.ar) (i9 99 (cQ (GW s.length)) s)):=by
 refine Uf (s:=s) (c:=99) (Mr (fun e=> .aT (.int .i64 e) [(0,.cells [.hY 1 0 true] aQ false),(1,.bY aJ [] true)]) _ _ 99 s (ajR hs) (GU hs) rfl rfl hs (fun h=>⟨rfl,_,aa8 _ _ _ [],Aq.err (xp h)⟩) fun h=>?_);have hb:=pG h;obtain⟨A,I⟩:=sI h;rw[aeA (GU hs A)];refine⟨_,_,rfl,wC s.length (eW s) (by omega) (fun s' h=>agp _ s' (by omega) (by omega)),fun d hd=>?_⟩
 cases hp:cQ (GW s.length) (eW s)with
 |none=>exact⟨fun _=>⟨wB,rfl,_,aa8 _ _ _ [],Aq.err (qu h hp)⟩,fun g=>tf (g.symm.trans (Rq.pc hp hd)).symm⟩
 |some y=>
  obtain⟨x,r⟩:=y;obtain⟨J,U,O⟩:=Rq.fD hp hd;refine⟨fun g=>tf (g.symm.trans J),fun _=>?_⟩;rw[U,O,D.aK];refine⟨fun g=>⟨_,_,rfl,ve,fun _ _=>⟨wB,rfl,_,aa8 _ _ _ _,Aq.err (wb h hp ?_)⟩⟩,fun g=>?_⟩
  ·intro h;subst h;exact absurd g (by decide)
  have ht:r=[]:=by simpa using g
  subst ht;exact⟨rfl,_,aa8 _ _ _ _,Aq.ok (AJ h hp) (D.aK _)⟩
def Vv (l:List D)(h:l.length<2^30):PH uc (mg l) (xW l) 1 Dg (fun d=>D.ae d=l):=by
 have I:bh 1 (0+l.length)=true:=by simp[bh];omega
 refine NU ?_;have A:∀l':List D,l'=l->∃d,T.dV (BV.hY 1 (0+l'.length) true,[(0,aE.bY aj l true),(1,aE.bY aj ([]++l') true)]) (Ee (mg l) (xW l) d)/\D.ae d=l:=by intro l' h;rw[h,anr,an0];exact⟨.r l,.ret,rfl⟩
 simp only[rk,I,anJ,amA,amp,amx,amy,amS,ano,amG,am2];refine⟨fun he=>⟨⟨rfl,.r l,?_,rfl⟩,rfl,A l rfl⟩,fun _=>⟨rfl,A l rfl⟩⟩;have:l=[]:=by simpa using he
 subst this;exact .ret
def SB (v:Ex):v.ok->v.size<2^30->dZ pg iY [aI] [v.ar] [aI] (·=v.ar):=by
 induction v using Ex.ind with|h v Y=>
 intro V hs;have a6:=v.fN;have a7:v.l.length<=Ex.bA v.l:=by
  generalize v.l=l
  induction l with
  |nil=>simp
  |cons a r Y=>have:=a.fN;simp only[Ex.bA,amB];omega
 have loop:∀(rest:List Ex) (i:Nat) (l:List D),v.l.drop i=rest->l.length=v.l.length->l.take i=(v.l.take i).map Ex.ar->l.drop i=(v.l.drop i).map Ex.ar->aC pg iY [aI] (.cY (·=v.ar)) (uG v.ar v.l.length v.l.length v.l.length l i):=by
  intro rest
  induction rest with
  |nil=>intro i l hd hl ht A;have:=drop_nil hd;refine FT ?_;rw[amv (by omega),amv (by omega)]at ht;simp[this,hl,ht];exact(v.az).symm
  |cons x rest U=>
   intro i l hd hl ht A;obtain⟨I,g2,Z⟩:=aF hd;have J:=amn I;have O:x.size<2^30:=(by have:=Ex.fW J;omega);have hat:D.at l i=x.ar:=by have:l[i]?=some x.ar:=(by have:=amZ (·[0]?) A;simpa [I]using this);exact Vc this
   refine FT ?_;simp[-exists_and_left,Z,aR,hat,bL Z V.len,hl];refine⟨_,_,_,rfl,Y x J (V.mem J) O,?_⟩;rintro _ rfl;rw[Ex.re];exact U _ _ g2 (by simpa using hl) (by rw[xT (by omega),bH I,ht];simp) (by rw[aoe (show i<i+1 by omega),<-an4,A];simp)
 refine WG ?_;simp only[rk,D.aK,Ex.hI];refine⟨_,_,rfl,Pt (v.l.map Ex.ar) (by simp;omega),?_⟩;intro d hd;rw[hd];have e:=loop v.l 0 (v.l.map Ex.ar) rfl (by simp) (by simp) (by simp);simpa using e
def ak7 (l:List St):St.vl l->St.dq l<2^30->St.ml l<2^30->dZ pg sg [aQ] [.r (l.map St.ar)] [aQ] (·= .r (l.map St.ar)):=by
 induction l using St.NS with|h l ih=>
 intro hl hc he;have a6:=St.AT l;have one:∀x∈l,dZ pg A7 [aJ] [x.ar] [aJ] (·=x.ar):=by intro x I;obtain⟨o1,o2,o3,oa,ob,ow⟩:=hl.th I;obtain⟨i1,Z,i3⟩:=ih x I;have e1:=x.Fl;have e2:=St.GA I;have e3:=x.x7;have e4:=St.Du I;refine WH ?_;simp only[rk,St.CB,St.JV,St.gD,St.BO,St.iz,St.BQ,Ex.re,D.aK,am2,amx,amy,amA,amS];refine⟨_,_,_,rfl,SB _ oa (by omega),?_⟩;rintro _ rfl;refine⟨_,_,_,rfl,SB _ ob (by omega),?_⟩;rintro _ rfl;refine⟨_,_,_,rfl,i1 o1 (by omega) (by omega),?_⟩;rintro _ rfl;refine⟨_,_,_,rfl,Z o2 (by omega) (by omega),?_⟩;rintro _ rfl;refine⟨_,_,_,rfl,i3 o3 (by omega) (by omega),?_⟩;rintro _ rfl;refine⟨_,_,rfl,JN (zi x.wi) (by simp;omega),?_⟩;intro d6 O;simp only[Ex.re,D.aK,O,St.Yt,St.sT,St.PM,St.IN,St.PO];exact(x.az).symm
 have loop:∀(rest:List St) (i:Nat) (m:List D),l.drop i=rest->m.length=l.length->m.take i=(l.take i).map St.ar->m.drop i=(l.drop i).map St.ar->
  aC pg sg [aQ] (.cY (·= .r (l.map St.ar))) (DN (.r (l.map St.ar)) l.length l.length l.length m i):=by
  intro rest
  induction rest with
  |nil=>intro i m hd J ht A;have:=drop_nil hd;refine Qr ?_;rw[amv (by omega),amv (by omega)]at ht;simp[this,J,ht]
  |cons x rest V=>
   intro i m hd J ht A;obtain⟨U,g2,Y⟩:=aF hd;have I:=amn U;have hat:D.at m i=x.ar:=by have:m[i]?=some x.ar:=(by have:=amZ (·[0]?) A;simpa [U]using this);exact Vc this
   refine Qr ?_;simp[-exists_and_left,-List.map_append,Y,aR,hat,bL Y hl.1,J];refine⟨_,_,_,rfl,one x I,?_⟩;rintro _ rfl;rw[St.re];exact V _ _ g2 (by simpa using J) (by rw[xT (by omega),bH U,ht];simp) (by rw[aoe (show i<i+1 by omega),<-an4,A];simp)
 refine ah0 ?_;simp only[rk,D.aK];refine⟨_,_,rfl,Pu (l.map St.ar) (by simp;omega),?_⟩;intro d hd;rw[hd];have e:=loop l 0 (l.map St.ar) rfl (by simp) (by simp) (by simp);simpa using e
def ak5 (l:List St)(hl:St.vl l)(hc:St.dq l<2^30)(he:St.ml l<2^30):dZ pg Oi [aQ] [.r (l.map St.ar)] [aQ,bn] (fun d=>(d.af 0).ae=(if (TB l).2=0 then l else []).map St.ar):=by
 refine ahY ?_;simp only[rk,D.aK];refine⟨_,_,_,rfl,aa3 l hl he,?_⟩;rintro _ rfl;simp only[D.bu,aot,an3,anE];refine⟨fun h=>by rw[amt h];rfl,fun h=>⟨_,_,_,rfl,ak7 l hl hc he,?_⟩⟩;rintro _ rfl;rw[amu h];rfl
def alw (v:aA)(A:v.ok):dZ pg Ol [ak] [v.ar] [ak] (·=v.ar):=by
 refine ah4 ?_;simp only[rk,eN];refine⟨_,_,_,rfl,abv v A,?_⟩;rintro _ rfl
 cases v.fE with
 |true=>simp only[am5];exact⟨fun _=>eN v,fun h=>by simp[D.af,D.at,D.int]at h⟩
 |false=>simp only[amp,ann];exact⟨fun h=>by simp[D.af,D.at,D.int]at h,fun _=>trivial⟩
def ah2 (l:List fx)(hl:l.length<2^30)(I:∀n∈l,n.ok):dZ pg tp [fw] [.r (l.map fx.ar)] [fw] (·= .r (l.map fx.ar)):=by
 have loop:∀(rest:List fx) (i:Nat),i<=l.length->l.drop i=rest->aC pg tp [fw] (.cY (·= .r (l.map fx.ar))) (yO (.r (l.map fx.ar)) i i ((l.take i).map fx.ar)):=by
  intro rest
  induction rest with
  |nil=>intro i hi hd;have:=drop_nil hd;refine KE ?_;rw[amv this];simp only[rk,D.aK,amm,aml,amk];exact⟨fun h=>by omega,fun _=>⟨fun _=>trivial,fun h=>by omega⟩⟩
  |cons x rest Y=>intro i hi hd;obtain⟨A,V,J⟩:=aF hd;have U:=amn A;refine KE ?_;have O:bh 80 (i+1)=true:=(by simp[bh];omega);simp only[rk,D.aK,amm,aml,amk,amq,bC A,aR J,fx.pS,fx.sT,eN,amI,anS hi,am2,anf,O,amx,amy,amS,amA,bL J];refine⟨fun _=>⟨_,_,_,rfl,alw x.v (I x U).2,?_⟩,fun h=>by omega⟩;rintro _ rfl;rw[eN];have e:=Y (i+1) (by omega) V;rw[<-rZ (f:=fx.ar) A]at e;rw[<-x.az];exact e
 refine acP ?_;exact loop l 0 (by omega) rfl
def Su.nf (s:Su):Su:={s with co:=if (TB s.co).2=0 then s.co else []}
def I7 (l:List Su)(hl:l.length<2^30)(hs:∀s∈l,s.ok/\St.dq s.co<2^30/\St.ml s.co<2^30/\s.ns.length<2^30/\s.se.length<2^30):dZ pg gR [br] [.r (l.map Su.ar)] [br] (·= .r (l.map fun s=>s.nf.ar)):=by
 have loop:∀(rest:List Su) (i:Nat),i<=l.length->l.drop i=rest->aC pg gR [br] (.cY (·= .r (l.map fun s=>s.nf.ar))) (sq (.r (l.map Su.ar)) i i ((l.take i).map fun s=>s.nf.ar)):=by
  intro rest
  induction rest with
  |nil=>intro i hi hd;have:=drop_nil hd;refine Eo ?_;rw[amv this];simp only[rk,D.aK,amm,aml,amk];exact⟨fun h=>by omega,fun _=>⟨fun _=>trivial,fun h=>by omega⟩⟩
  |cons x rest Y=>intro i hi hd;obtain⟨A,V,I⟩:=aF hd;have U:=amn A;obtain⟨o,c1,J,c3,c4⟩:=hs x U;refine Eo ?_;have O:bh 80 (i+1)=true:=(by simp[bh];omega);simp only[rk,D.aK,amm,aml,amk,amq,bC A,aR I,Su.PN,Su.iz,Su.hZ,Su.tY,amI,anS hi,am2,anf,O,amx,amy,amS,amA,bL I];refine⟨fun _=>⟨_,_,_,rfl,ak5 x.co ⟨o.2.2.1,o.2.2.2.1⟩ c1 J,fun Z h0=>⟨_,_,_,rfl,ah2 x.ns c3 o.2.2.2.2.2.1,?_⟩⟩,fun h=>by omega⟩;rintro _ rfl;refine⟨_,_,rfl,abS (aY x.se) (by simp;omega),fun d2 h2=>?_⟩;have e:=Y (i+1) (by omega) V;rw[<-rZ (f:=fun s=>Su.ar (Su.nf s)) A]at e;rw[h0,h2];exact e
 refine Uh ?_;exact loop l 0 (by omega) rfl
section
noncomputable def Ys (V:WS):D:= .r [.r V.pa,.r V.cu,VB V.th,VC V.st,.z V.ck,VB V.fa,VC V.sf,.z V.cf,.z V.la,.r V.ma]
def JR (V:WS):G4 (Ys V)=V:=by
 simp only[G4,Ys,D.af,D.aK,D.at,anB,an5,xr,JQ,JP,D.bu]
def bm.met (t:bm)(l:List Int):bm:=l.reverse.map fun r=>(r,t.at r)
def bm.afe (t:bm)(l:List Int):(t.met l).map (·.1)=l.reverse:=by simp[bm.met,Function.comp_def]
def bm.V5 (t:bm){l:List Int}{n:Int}(h:n∉l):((t.met l).get n).isSome=false:=by
 cases e:((t.met l).get n).isSome with
 |false=>rfl
 |true=>rw[bm.pY,bm.afe,List.mem_reverse]at e;exact absurd e h
def bm.V4 (t:bm)(n:Int)(l:List Int):t.met (n::l)=t.met l++[(n,t.at n)]:=by simp[bm.met]
def bm.aff {t:bm}(h1:t.one){l:List Int}(O:l.Nodup)(hs:∀q∈l,q∈t.map (·.1))(A:∀p∈t,p.1∈l):(t.met l).Perm t:=by
 have hp:l.reverse.Perm (t.map (·.1)):=(List.reverse_perm l).trans ((aoI O h1).2 fun q=>⟨hs q,fun h=>by
  obtain⟨p,hp,rfl⟩:=anh.1 h
  exact A p hp⟩)
 have h2:=hp.map fun r=>(r,t.at r);have I:(t.map (·.1)).map (fun r=>(r,t.at r))=t:=by
  rw[apF]
  conv=>rhs;rw[<-aqf t]
  refine aoO fun p hp=>?_;have J:=(bm.wL h1).2 (show (p.1,p.2)∈t from hp);simp[bm.at,J]
 rw[I]at h2;exact h2
section
variable {W:WS} {x:Wl} {t:bm} {f:nT} (hi:x.Inv) (ht:t.Perm x.aL)
include hi ht
theorem ajY {n:Int}{y:Wh}(h:t.get n=some y):y.ok/\y.sz<2^30/\∀v∈y.aN,v.fE=true:=by
 have A:=ht.mem_iff.1 (bm.uw h);simp only[Wl.aL,anh]at A;obtain⟨e,he,h2⟩:=A
 cases h2
 exact hi.w e he
theorem X1 (I:Lj W (x.wp t f)):PH nY (bG W) (Wm W) 3 xn (fun d=>∃U f',U.Perm x.aL/\Lj (G4 d) (x.wp U f')):=by
 have h1:=Qn ht hi.one;have b1:=hi.DS;have b6:=hi.par;have b4:(jO x.pa.length x.cu).length=x.pa.length+1:=by simp
 have loop:∀(O:List Nat) (c8:Nat) (f':nT) (A:List Nat) (J:Nat),aC pg nY [cy] (.bK 3 (xn (bG W) (Wm W)) fun d=>∃U f',U.Perm x.aL/\Lj (G4 d) (x.wp U f'))
  (uD W W.pa W.cu.length W.ma.length W.cu W.ma (aY []) (bm.ar (t.met [])) O c8 f'.ar A J):=by
  refine wA (M:=fun l=>∀(O:List Nat) (c8:Nat) (f':nT) (A:List Nat) (J:Nat),aC pg nY [cy] (.bK 3 (xn (bG W) (Wm W)) fun d=>∃U f',U.Perm x.aL/\Lj (G4 d) (x.wp U f'))
   (uD W W.pa W.cu.length W.ma.length W.cu W.ma (aY l) (bm.ar (t.met l)) O c8 f'.ar A J)) (t.map (·.1)) fun l hl a8 ih=>?_
  intro O c8 f' A J;refine Uq (DZ I (fun Z=>?_) fun n Y V=>?_)
  ·refine⟨rfl,Ys (WS.mk W.pa W.cu (bm.ar (t.met l)) O c8 f'.ar A J W.la W.ma),?_,t.met l,f',(bm.aff h1 a8 hl Z).trans ht,?_⟩
   ·simp only[xn,JR];exact .ret
   rw[JR];exact⟨I.pa,I.cu,rfl,rfl,I.la,I.ma⟩
  obtain⟨y,hy⟩:=amR.1 (bm.pY.2 Y);obtain⟨w1,w2,w3⟩:=ajY hi ht hy;have hat:t.at n=y:=by simp[bm.at,hy]
  simp only[rk,I.th,bm.i7,hy,anD,bm.val hy,Wh.re,D.bu,bm.V5 t V,amA,amx,amp,amy,amS,am1];refine⟨_,_,_,rfl,MD y w1 w2 w3,?_⟩;rintro _ rfl;rw[Wh.re];have hm:bm.ar (t.met l)++[(D.z n,y.ar)]=bm.ar (t.met (n::l)):=by rw[bm.V4,hat];simp[bm.ar]
  rw[hm];have a7:Lj (WS.mk W.pa W.cu (bm.ar (t.met (n::l))) (O++[c8]) (c8+1) f'.ar A J W.la W.ma) (x.wp (t.met (n::l)) f'):=⟨I.pa,I.cu,rfl,rfl,I.la,I.ma⟩;have hg:(t.met (n::l)).get n=some y:=by rw[bm.V4,hat,bm.DK];have:=bm.V5 t V;rw[apo,aps]at this;simp[this,bm.get]
  refine⟨_,_,rfl,aar a7 n y hg,fun d2 a6=>?_⟩;rw[a6];exact ih n Y V _ _ _ _ _
 refine afD ?_;simp only[rk,D.aK,am2,amA,amx,amy,amS];refine⟨_,_,rfl,IK _ (by rw[I.pa];simp;omega),fun d0 h0=>?_⟩;refine⟨_,_,rfl,Vv _ (by rw[I.cu];simp;omega),fun d1 h1=>?_⟩;refine⟨_,_,rfl,Pv _ (by rw[I.ma];simp;omega),fun d2 h2=>?_⟩;rw[h0,h1,h2];exact loop [] 0 [] [] 0
end
end
section
def OW (a b:List D):bO (a++b)=bO a++bO b:=by simp[bO]
def hd (c:Int):List D:=[D.z 112,D.z 111,D.z 115,D.z 116,D.z 101,D.z 114,D.z 110,D.z 10]++[D.z c]
def z8:cg:=bO (hd 119++agT)
def akX {M:List (Nat×aE)}{Q:D->Prop}{s:cg}{e:Int}(h:Q (.r [.s s,.z e])):∃d,T.dV (BV.tuple [.ax s,.int .i64 e],M) (T.ret (BV.tuple [.ax (d.af 0).ax,.int .i64 (d.af 1).int],M))/\Q d:=⟨.r [.s s,.z e],.ret,h⟩
section
variable {W:WS} {x:Wl} {t:bm} {f:nT} (hi:x.Inv) (ht:t.Perm x.aL) (he:Yp x.ar)
include hi ht he
theorem ahH (I:Lj W (x.wp t f)):PH GG (bG W) (Wm W) 3 Lu (fun d=>(d.af 1).int=0/\(d.af 0).ax=z8++bO (yg 8 (Ll z8))):=by
 have Z:=hi.DS;refine acN ?_;simp only[rk];refine⟨_,_,rfl,AH I,fun U h0=>?_⟩;have h0:D.int U=x.ma.length:=h0;simp only[amY,amF,an3];refine⟨fun h=>by omega,fun _=>⟨_,_,rfl,Ix hi ht I,?_⟩⟩;rintro _ rfl;refine⟨_,_,rfl,afl he (hd 119) (by decide),fun A O=>?_⟩;have l2:=amZ List.length O;simp only[hd,agT,ams,amB,amM]at l2;simp only[ano,amG,am2,amA,amx,amy,amS];refine⟨_,_,_,rfl,V8 (bO (D.ae A)) (by simp only[eY];omega),?_⟩;rintro _ rfl;refine⟨_,_,rfl,afk (D.ae A) (Ll (bO (D.ae A))) (by omega),fun V J=>?_⟩;have Y:=amZ List.length J;simp only[ams,nA]at Y;simp only[aml,amk];refine⟨fun hl=>by omega,fun hl=>⟨rfl,akX ⟨rfl,?_⟩⟩⟩;show bO (D.ae V)=_;rw[J,OW,O];rfl
end
section
variable {W:WS} {x:Wl} {f:nT} (hi:x.Inv) (hla:∀e∈x.th,e.r<=x.la)
include hi hla
def xH (x:Wl)(l:List Su):Int:=if l.length>32 then 4 else if l.all x.fE then 0 else 190
def ajf (x:Wl)(l:List Su)(d:D):Prop:=(d.af 0).bool=decide (xH x l=0)/\(xH x l≠0->(d.af 1).int=xH x l)/\(xH x l=0->∃t f,t.Perm x.aL/\Lj (G4 (D.af d 3)) (x.wp t f)/\(d.af 5).ae=l.map fun s=>s.nf.ar)
theorem alv (U:Lj W (x.wo f))(l:List Su)(hl:l.length<2^30)(hs:∀s∈l,s.vN/\St.dq s.co<2^30):PH wK (Jl W (l.map Su.ar)) (Wm W) 3 Gu (ajf x l):=by
 have hp:x.aL.Perm x.aL:=aoG _;have J:∀s∈l,s.ok/\St.dq s.co<2^30/\St.ml s.co<2^30/\s.ns.length<2^30/\s.se.length<2^30:=fun s h=>⟨(hs s h).1.ok,(hs s h).2,(hs s h).1.co,(hs s h).1.ns,(hs s h).1.se⟩;have no:∀e:Int,e≠0->xH x l=e->JH.bK=some 3/\∃d,T.dV (BV.tuple [.gF,.int .i64 e],Wm W) (Gu (Jl W (l.map Su.ar)) (Wm W) d)/\ajf x l d:=fun e he h=>⟨rfl,.r [.b false,.z e],.ff rfl .ret,by rw[h];exact(decide_eq_false he).symm,fun _=>h.symm,fun h2=>absurd (h.symm.trans h2) he⟩;have loop:∀(rest:List Su) (i:Nat),¬l.length>32->(l.take i).all x.fE=true->l.drop i=rest->aC pg wK [np,bn] (.bK 3 (Gu (Jl W (l.map Su.ar)) (Wm W)) (ajf x l)) (Bf W (l.map Su.ar) i):=by
  intro rest
  induction rest with
  |nil=>intro i I A hd;have:=drop_nil hd;rw[amv this]at A;refine Ni ?_;simp only[rk,amm,aml,amk];refine⟨fun h=>by omega,fun _=>⟨_,_,rfl,X1 hi hp U,fun d1 h1=>⟨_,_,rfl,X1 hi hp U,fun d2 h2=>⟨_,_,_,rfl,I7 l hl J,?_⟩⟩⟩⟩;rintro _ rfl;refine⟨_,_,_,rfl,I7 l hl J,?_⟩;rintro _ rfl;have h0:xH x l=0:=(by rw[xH,amt I,amu A]);refine⟨rfl,.r [.b true,.z 0,d1,d2,.r (l.map fun s=>s.nf.ar),.r (l.map fun s=>s.nf.ar)],.tt rfl .ret,by rw[h0];rfl,fun h=>absurd h0 h,fun _=>?_⟩;obtain⟨t,f',g1,g2⟩:=h2;exact⟨t,f',g1,g2,rfl⟩
  |cons s rest ih=>
   intro i I A hd;obtain⟨Y,k2,Z⟩:=aF hd;have hm:=amn Y;refine Ni ?_;simp only[rk,amm,aml,amk,amq,bC Y,aR Z,aot,an3,anE];refine⟨fun _=>⟨fun _=>⟨_,_,rfl,aiI hi hla U s (hs s hm).1,fun d V=>?_⟩,fun h=>by cases h⟩,fun h=>by omega⟩;rw[V]
   cases O:x.fE s with
   |false=>exact⟨fun _=>no 190 (by decide) (by rw[xH,amt I,amt];intro h;have:=ang.1 h s hm;rw[O]at this;cases this),fun h=>absurd h (by decide)⟩
   |true=>refine⟨fun h=>absurd rfl h,fun _=>?_⟩;rw[bL Z];refine ih (i+1) I ?_ k2;rw[bH Y,aod,A];simp[O]
 refine ah3 ?_;simp only[rk,amm,amY,amF,an3,aml,amk];have:=hi.DS;exact⟨_,_,rfl,AH U,fun d0 h0=>⟨fun h=>by have h0:D.int d0=x.ma.length:=h0;omega,fun _=>⟨fun h=>no 4 (by decide) (by rw[xH,ifP]),fun h=>loop l 0 (by omega) (by simp) rfl⟩⟩⟩
end
end
section
def ajQ (l:List St):St.vl l->St.dq l<2^40->dZ pg oc [aQ] [.r (l.map St.ar)] [ah] (fun d=>d= .z (D.int d)/\tI 0 (St.dq l) (D.int d)):=by
 induction l using St.NS with|h l ih=>
 intro hl hc;refine afN ?_;have loop:∀(rest:List St) (i:Nat) (n:Int),l.drop i=rest->0<=n->n+St.dq rest<=St.dq l->(n<=512->n+St.dq rest=St.dq l)->(512<n->512<St.dq l)->
  aC pg oc [ah] (.cY fun d=>d= .z (D.int d)/\tI 0 (St.dq l) (D.int d)) (tx (.r (l.map St.ar)) n i):=by
  intro rest
  induction rest with
  |nil=>intro i n hd h0 h1 h2 h3;have:=drop_nil hd;refine Nh ?_;simp only[St.dq]at h1 h2;simp[this,tI];omega
  |cons x rest A=>
   intro i n hd h0 h1 h2 h3;obtain⟨Z,O,g3⟩:=aF hd;have V:=amn Z;obtain⟨o1,o2,o3,_⟩:=hl.th V;obtain⟨i1,i2,i3⟩:=ih x V;have a7:=x.Fl;have a6:=St.GA V;simp only[St.dq]at h1 h2;refine Nh ?_;simp[g3,aR,bC Z,bL g3 hl.1];refine⟨fun hn=>by simp only[tI];omega,fun hn=>?_⟩;refine⟨_,_,rfl,_,i1 o1 (by omega),?_⟩;rintro I ⟨_,q1⟩;simp only[tI]at q1;rw[bM (x:=1+D.int I),bM (x:=n+(1+D.int I))];refine⟨fun J=>?_,fun J=>?_⟩
   ·refine⟨_,_,rfl,_,i2 o2 (by omega),?_⟩;rintro Y ⟨_,q2⟩;simp only[tI]at q2;rw[bM (x:=n+(1+D.int I)+D.int Y)];refine⟨fun U=>?_,fun U=>?_⟩
    ·refine⟨_,_,rfl,_,i3 o3 (by omega),?_⟩;rintro d3 ⟨_,q3⟩;simp only[tI]at q3;rw[bM (x:=n+(1+D.int I)+D.int Y+D.int d3)];exact A _ _ O (by omega) (by omega) (by omega) (by omega)
    exact A _ _ O (by omega) (by omega) (by omega) (by omega)
   exact A _ _ O (by omega) (by omega) (by omega) (by omega)
 exact loop l 0 0 rfl (by omega) (by simp) (by intro;simp) (by omega)
def UE {F:Nat}{s r:cg}{l:List St}(h:cQ (GW F) s=some (l,r))(hs:s.length<=67108864):St.vl l/\St.dq l+St.ml l<2^30/\l.length<2^30:=by
 obtain⟨h1,h2,I,J⟩:=dR (vB F) (by omega) h;have O:=K6 l;have A:=eF (l.map St.ar);rw[amm]at A;exact⟨⟨by omega,I⟩,by omega,by omega⟩
def KW {F:Nat}{s r:cg}{x:Wl}(h:Lo F s=some (x,r))(hs:s.length<=67108864):x.vN/\D.bZ x.ar<2^30:=by
 obtain⟨h1,h2,A⟩:=U0 F _ _ _ (by omega) h;exact⟨Wl.C9 A (by omega),by omega⟩
def Cy (r:Int×Option (List St)):Int×List St:=match r with| (e,none)=>(e,[])| (_,some l)=>if St.dq l>512 then (2,[])else (0,l)
def wa {α:Type}(c:UInt8)(p:Pa α)(s:cg):(∃e,e≠0/\i9 c p s=(e,none))\/∃v,i9 c p s=(0,some v)/\Ax c s=0/\p (eW s)=some (v,[]):=by
 by_cases h:Ax c s=0
 ·cases hp:p (eW s)with
  |none=>exact .inl ⟨270,by decide,qu h hp⟩
  |some y=>
   obtain⟨v,r⟩:=y
   by_cases A:r=[]
   ·subst A;exact .inr ⟨v,AJ h hp,h,rfl⟩
   exact .inl ⟨270,by decide,wb h hp A⟩
 exact .inl ⟨_,h,xp h⟩
def P4 (s:cg)(hs:s.length<2^40):PH jJ (bX s) [] 0 tL (fun d=>(d.af 0).int=(Cy (i9 99 (cQ (GW s.length)) s)).1/\(d.af 1).ae=(Cy (i9 99 (cQ (GW s.length)) s)).2.map St.ar):=by
 have leaf:∀(e:Int) (l:List St),Cy (i9 99 (cQ (GW s.length)) s)=(e,l)->rk pg yG (.bK 0 (tL (bX s) []) fun d=>(d.af 0).int=(Cy (i9 99 (cQ (GW s.length)) s)).1/\(d.af 1).ae=(Cy (i9 99 (cQ (GW s.length)) s)).2.map St.ar)
  (.aT (.tuple [.hY 0 (l.map St.ar).length true,.int .i64 e]) [(0,.bY aJ (l.map St.ar) true)]):=fun e l h=>by
  refine⟨rfl,.r [.z e,.r (l.map St.ar)],?_,by rw[h];rfl,by rw[h];rfl⟩;have:T.dV (BV.tuple [.hY 0 (D.ae (.r (l.map St.ar))).length true,.int .i64 e],[(0,aE.bY aJ (D.ae (.r (l.map St.ar))) true)]) (tL (bX s) [] (.r [.z e,.r (l.map St.ar)])):= .ret
  rwa [D.aK]at this
 refine Uc (s:=s) ?_;refine⟨_,_,rfl,ais s hs,fun d hd=>?_⟩;obtain⟨h1,h2⟩:=hd;rcases wa 99 (cQ (GW s.length)) s with ⟨e,he,A⟩| ⟨l,A,ho,hp⟩
 ·rw[A]at h1;simp only[rk];rw[h1];exact⟨fun _=>leaf e [] (by rw[A];rfl),fun h=>absurd h (by simpa using he)⟩
 have h2:=h2 l (by rw[A]);rw[A]at h1;simp only[rk];rw[h1,h2];have hb:=pG ho;have U:=sI ho;obtain⟨J,Y,-⟩:=UE hp (by omega);refine⟨fun h=>absurd h (by simp),fun _=>⟨fun _=>⟨_,_,_,rfl,ajQ l J (by omega),fun V I=>?_⟩,fun h=>absurd (amE h) (by simp)⟩⟩;obtain⟨-,O⟩:=I;simp only[tI]at O;refine⟨fun h=>leaf 2 [] ?_,fun h=>leaf 0 l ?_⟩
 ·have:=amU h;rw[A];exact ifP
 have:=amE h;rw[A];exact ifN
open Classical in
noncomputable def vG (r:Int×Option Wl):Int×Option Wl:=match r with| (e,none)=>(e,none)| (_,some x)=>if x.sO then (0,some x)else (71,none)
def U1 (c:UInt8)(F:Nat)(s:cg):(∃e,e≠0/\vG (i9 c (Lo F) s)=(e,none))\/∃x,vG (i9 c (Lo F) s)=(0,some x)/\x.sO/\x.vN/\D.bZ x.ar<2^30:=by
 rcases wa c (Lo F) s with ⟨e,he,A⟩| ⟨x,A,ho,hp⟩
 ·exact .inl ⟨e,he,by rw[A];rfl⟩
 have hb:=pG ho;have O:=sI ho;obtain⟨J,U⟩:=KW hp (by omega)
 by_cases I:x.sO
 ·exact .inr ⟨x,by rw[A];exact amu I,I,J,U⟩
 exact .inl ⟨71,by decide,by rw[A];exact amt I⟩
def aby (x:Wl)(hs:x.vN):xm pg fy [.agg [.bx cq (aY x.pa),.bx ah (aY x.cu),.bx bF (x.th.map En.ar),.int .i64 x.la,.bx ah (aY x.ma)]] [] 0 (kb [.agg [.bx cq (aY x.pa),.bx ah (aY x.cu),.bx bF (x.th.map En.ar),.int .i64 x.la,.bx ah (aY x.ma)]] []) (Js x):=by
 have h:=akh x hs;rw[show dg x.ar=[.agg (aH pg aM x.ar)]from rfl,Xq]at h;exact h
def QRW (r:Int×Option Wl)(d:D):Prop:=(d.af 0).bool=r.2.isNone/\(r.2=none->(d.af 1).int=r.1)/\∀x,r.2=some x->∃f,Lj (G4 (D.af d 2)) (x.wo f)
def ajN (s:cg)(W:WS):T.dV (BV.tuple [.ie 0 0,.int .i64 0],Wmf 6 W) (mh (bX s) [] (.r [.b false,.z 0,Ys W])):=by
 have:T.dV (BV.tuple [.ie 0 0,.int .i64 0],Wmf 6 (G4 (Ys W))) (mh (bX s) [] (.r [.b false,.z 0,Ys W])):= .ff rfl .ret
 rwa [JR]at this
def FH (s:cg)(hs:s.length<2^40):PH iN (bX s) [] 0 mh (QRW (vG (i9 119 (Lo s.length) s))):=by
 have no:∀e:Int,vG (i9 119 (Lo s.length) s)=(e,none)->rk pg wE (.bK 0 (mh (bX s) []) (QRW (vG (i9 119 (Lo s.length) s)))) (.aT (.tuple [.gF,.int .i64 e]) []):=fun e h=>by rw[h];exact⟨rfl,.r [.b true,.z e],.tt rfl .ret,rfl,fun _=>rfl,fun x h=>by cases h⟩
 refine Rk (s:=s) ?_;refine⟨_,_,rfl,aiu s hs,fun d hd=>?_⟩;obtain⟨h1,h2⟩:=hd;rcases wa 119 (Lo s.length) s with ⟨e,he,I⟩| ⟨x,I,ho,hp⟩
 ·rw[I]at h1;simp only[rk];rw[h1];exact⟨fun _=>no e (by rw[I];rfl),fun h=>absurd h (by simpa using he)⟩
 have h2:=h2 x (by rw[I]);rw[I]at h1;have hb:=pG ho;have Y:=sI ho;obtain⟨O,w2⟩:=KW hp (by omega);simp only[rk];rw[h1,h2];simp only[Wl.iW,Wl.tX,Wl.gD,Wl.q9,Wl.nD,D.aK,D.bu];refine⟨fun h=>absurd h (by simp),fun _=>⟨_,_,rfl,aby x O,fun A g3=>?_⟩⟩;obtain⟨J,U⟩:=g3;refine⟨fun h=>?_,fun h=>?_⟩
 ·have fD:=J.1 h;obtain⟨f,-,a1,a2,a3,a4,a5,a6⟩:=U fD;have e:vG (i9 119 (Lo s.length) s)=(0,some x):=by rw[I];exact amu fD
  rw[e];refine⟨rfl,_,ajN s ⟨(A.af 1).ae,(A.af 2).ae,oS (D.af A 5),pC (D.af A 6),pB (D.af A 7),oS (D.af A 8),pC (D.af A 9),pB (D.af A 10),(A.af 3).int,(A.af 4).ae⟩,rfl,fun h=>(by cases h),fun x' hx=>?_⟩
  cases hx
  have V:Lj (WS.mk (A.af 1).ae (A.af 2).ae (oS (D.af A 5)) (pC (D.af A 6)) (pB (D.af A 7)) (oS (D.af A 8)) (pC (D.af A 9)) (pB (D.af A 10)) (A.af 3).int (A.af 4).ae) (x.wo f):=⟨a1,a2,a5,a6,a3,a4⟩;refine⟨f,?_⟩;have Z:∀W:WS,G4 (D.af (D.r [D.b false,D.z 0,Ys W]) 2)=W:=fun W=>JR W;rw[Z];exact V
 have pc:¬x.sO:=fun g=>by rw[J.2 g]at h;cases h
 have e:vG (i9 119 (Lo s.length) s)=(71,none):=by rw[I];exact amt pc
 exact no 71 e
end
def fB (b:BitVec 64)(c:UInt8):BitVec 64:=(b ^^^ BitVec.ofNat 64 c.toNat)*1099511628211#64
def alO (x:Int):IntKind.u64.wrap x=((BitVec.ofInt 64 x).toNat:Int):=by
 rw[IntKind.wrap_u64];simp only[an8];omega
def ahp (b:BitVec 64)(c:UInt8):M8 (b.toNat:Int) c=((fB b c).toNat:Int):=by
 unfold M8 fB;simp only[alO];have A:∀b:BitVec 64,BitVec.ofInt 64 (b.toNat:Int)=b:=fun b=>by simp
 have I:BitVec.ofInt 64 (((BitVec.ofInt 64 (c.toNat:Int)).toNat:Nat):Int)=BitVec.ofNat 64 c.toNat:=by simp
 rw[A,I,A,BitVec.ofInt_mul,A];rfl
def akW (s:cg)(b:BitVec 64):s.foldl M8 (b.toNat:Int)=((s.foldl fB b).toNat:Int):=by
 induction s generalizing b with
 |nil=>rfl
 |cons c r A=>rw[aol,ahp,A,aol]
def aaY (s:cg):∃b:BitVec 64,Ll s=(b.toNat:Int):=⟨s.foldl fB 14695981039346656037#64,akW s 14695981039346656037#64⟩
def num (n:Nat)(s:cg):Nat:=s.foldl (fun n c=>n*256+c.toNat) n
def ahL:∀(s t:cg) (n m:Nat),s.length=t.length->num n s=num m t->n=m/\s=t:=by
 intro s
 induction s with
 |nil=>intro t n m hl h;cases t with|nil=>exact⟨h,rfl⟩|cons _ _=>simp at hl
 |cons c r I=>
  intro t n m hl h
  cases t with
  |nil=>simp at hl
  |cons d q=>have hc:=UInt8.toNat_lt c;have hd:=UInt8.toNat_lt d;obtain⟨A,J⟩:=I q _ _ (by simpa using hl) h;subst J;have A:n*256+c.toNat=m*256+d.toNat:=A;have:c=d:=UInt8.toNat_inj.1 (by omega);exact⟨by omega,by rw[this]⟩
def aef (m:Nat):∀w:Nat,num (m/2^(8*w)) (bO (yg w (m:Int)))=m:=by
 intro w
 induction w with
 |zero=>simp[yg,bO,num]
 |succ w J=>
  have A:(m:Int).fdiv (2^(8*w))=((m/2^(8*w):Nat):Int):=by
   rw[Int.fdiv_eq_ediv_of_nonneg _ (by exact_mod_cast anX (2^(8*w)))]
   norm_cast
  have O:(UInt8.ofNat (IntKind.u8.wrap ((m/2^(8*w):Nat):Int)).toNat).toNat=m/2^(8*w) % 256:=by rw[IntKind.wrap_u8];simp only[UInt8.toNat_ofNat'];omega
  have I:m/2^(8*(w+1))=m/2^(8*w)/256:=by rw[Nat.mul_succ,Nat.pow_add,Nat.div_div_eq_div_mul]
  have U:bO (yg (w+1) (m:Int))=UInt8.ofNat (IntKind.u8.wrap ((m:Int).fdiv (2^(8*w)))).toNat::bO (yg w (m:Int)):=rfl;rw[U,num,aol,A,O,I,<-num,show m/2^(8*w)/256*256+m/2^(8*w) % 256=m/2^(8*w)by omega];exact J
def x0:Wl:=⟨[],[],[],0,[0]⟩
def BN:cg:=z8++bO (yg 8 (Ll z8))
def IM:BN.length=41:=by rw[BN,ams,eY,nA];rfl
def U2 (r:Int)(y:Wh):x0.aL.get r≠some y:=by
 intro h;cases h
def aiK:x0.sO where
 par:=by decide
 DS:=rfl
 cut:=by intro c hc;cases hc
 Q8:=by intro i a b h;cases h
 mb:=by
  intro m hm;have:m=0:=by simpa [x0]using hm
  omega
 la0:=by decide
 la1:=by decide
 rb:=by intro e he;cases he
 RF:=by intro i a b h;cases h
 G6:=by intro e he;cases he
 IT:=by
  intro i m h;have hm:m∈x0.ma:=amn h;have:m=0:=by simpa [x0]using hm
  subst this;simp[LL,x0]
 agC:=⟨fun r y h=>absurd h (U2 r y),fun r q y z h=>absurd h (U2 r y),fun r y h=>absurd h (U2 r y)⟩
 SX:=by decide
def acz (c:UInt8)(b:cg)(h1:9<=b.length)(h2:b.length+8<=67108864)(U:b.take 8=hd8)(O:b.getD 8 0=c):Ax c (b++bO (yg 8 (Ll b)))=0/\eW (b++bO (yg 8 (Ll b)))=b.drop 9:=by
 have hl:(b++bO (yg 8 (Ll b))).length=b.length+8:=by rw[ams,eY,nA]
 have I:(b++bO (yg 8 (Ll b))).take (b.length+8-8)=b:=by rw[apn];exact List.take_left
 have V:(b++bO (yg 8 (Ll b))).drop (b.length+8-8)=bO (yg 8 (Ll b)):=by rw[apn];exact List.drop_left
 obtain⟨m,A⟩:=aaY b;have J:jN (bO (yg 8 (Ll b)))=m.toNat:=by rw[A];have:=aef m.toNat 8;rw[Nat.div_eq_of_lt m.isLt]at this;exact this
 constructor
 ·rw[Ax,hl,I,V,ifN,ifN,amt,amt,amt]
  ·intro h;apply h;rw[J,A]
  ·intro h;apply h;rw[anR,an7 (by omega),<-anR];exact O
  intro h;apply h;rw[anW (by omega)];exact U
 rw[eW,hl,I]
def Yq:vG (i9 119 (Lo BN.length) BN)=(0,some x0):=by
 obtain⟨h1,h2⟩:=acz 119 z8 (by decide) (by decide) (by decide) (by decide);have A:Lo BN.length (eW BN)=some (x0,[]):=by rw[IM,show eW BN=z8.drop 9 from h2];kernel_rfl
 have h1:Ax 119 BN=0:=h1;rw[AJ h1 A];exact amu aiK
def SK {f:FuncId}{ags A:List BV}{L I:List (Nat×aE)}{p:Nat}{R:RH}{Q:D->Prop}(h1:ags=A)(h2:L=I)(h:PH f A I p R Q):PH f ags L p R Q:=by
 subst h1 h2;exact h
def adh {f:FuncId}{a:BV}{e:TypeId}{xs:List BV}{L:List (Nat×aE)}{p:Nat}{R:D->T (BV×List (Nat×aE))}{Q:D->Prop}(h:xm pg f (a:: .bx e []::xs) L p R Q):xm pg f (a:: .cS::xs) L p R Q:=by
 intro g w A O Z;obtain⟨v,V,h1,h2,U,I,Y,J,h5⟩:=Z;refine h g w A O ⟨v,V,h1,h2,U,I,Y,?_,h5⟩;simp only[aw]at J ⊢;exact .inl ⟨trivial,.inl J⟩
def afj:PH GH (Jk) (Jp) 0 Lv (fun d=>(d.af 1).int=1):=by
 refine Ud ?_;simp only[rk];exact⟨rfl,.r [.s [],.z 1],.ret,rfl⟩
def ahg:dZ pg nG [kG,kG] [.r [],.r []] [aj] (·= .b true):=by
 refine T9 ?_;simp only[rk,D.aK];refine⟨fun h=>by simp at h,fun _=>N6 ?_⟩;simp only[rk,D.aK];exact⟨fun h=>by simp at h,fun _=>trivial⟩
def aeI (l:List Int)(hl:l.length<2^30):dZ pg lx [jW,jW] [.r (aY l),.r (aY l)] [aj] (·= .b true):=by
 have loop:∀(rest:List Int) (i:Nat),l.drop i=rest->aC pg lx [aj] (.cY (·= .b true)) (uy (.r (aY l)) (.r (aY l)) i):=by
  intro rest
  induction rest with
  |nil=>intro i hd;have:=drop_nil hd;refine FR ?_;simp only[rk,D.aK,amm,aml,amk];exact⟨fun h=>by omega,fun _=>trivial⟩
  |cons x rest J=>intro i hd;obtain⟨O,I,A⟩:=aF hd;refine FR ?_;simp only[rk,D.aK,amm,aml,amk,aR A,anA,amp,amy,amA,am1,amS,amx,bL A];exact⟨fun _=>J (i+1) I,fun h=>by omega⟩
 refine Wt ?_;simp only[rk,D.aK,anA,amp,amy,amA,am1];exact loop l 0 rfl
def aeH:PH gN (tF [] []) [] 0 bg (fun d=>D.bool d=true):=by
 refine Km ?_;simp only[rk];refine⟨fun h=>by simp at h,fun _=>FQ ?_⟩;simp only[rk];exact⟨fun h=>by simp at h,fun _=>⟨rfl,.b true,.ret,rfl⟩⟩
def aak:x0.Inv where
 par:=by decide
 DS:=rfl
 cut:=by intro c hc;cases hc
 Q8:=by intro i a b h;cases h
 th:=by decide
 RF:=by intro i a b h;cases h
 w:=by intro e he;cases he
def agR:Yp x0.ar:=⟨rfl,rfl,rfl,rfl,rfl⟩
noncomputable def Wz0:WS:=⟨[],List.replicate 1 (.b false),[],[],0,[],[],0,0,List.replicate 1 (.z 0)⟩
def aat:Lj Wz0 (x0.wp [] []):=⟨rfl,rfl,rfl,rfl,rfl,rfl⟩
def alV:Ll []=14695981039346656037:=rfl
def qY:List D:=hd 99++yg 4 0
def Vd:PH tn MH MI 0 bg (fun d=>D.bool d=true):=by
 have pn:([]:bm).Perm x0.aL:=aoG _;refine WI ?_;simp only[rk];refine⟨_,_,rfl,ajd [] (by decide),fun d0 h0=>?_⟩;rw[h0];refine⟨fun _=>?_,fun h=>absurd h (by decide)⟩;refine⟨_,_,rfl,SK rfl (by kernel_rfl) (ahH aak pn agR aat),fun d1 h1=>?_⟩;obtain⟨s1,s2⟩:=h1;have s2:(d1.af 0).ax=BN:=s2;rw[s1,s2];refine⟨_,_,rfl,FH BN (by rw[IM];decide),fun d2 h2=>?_⟩;rw[Yq]at h2;obtain⟨r1,-,r2⟩:=h2;obtain⟨f2,r2⟩:=r2 x0 rfl;rw[r1];refine⟨fun h=>(by cases h),fun _=>?_⟩;refine⟨_,_,rfl,adh (VO (hd 99) (by decide)),fun Z a6=>?_⟩;have c1:D.ae Z=qY:=a6;rw[c1];simp only[ano,amG,am2,amA,amx,amy,amS];refine⟨_,_,_,rfl,V8 (bO qY) (by decide),?_⟩;rintro _ rfl;refine⟨_,_,rfl,afk qY (Ll (bO qY)) (by decide),fun b4 U=>?_⟩;rw[U];have Y:qY.length=13:=rfl;have J:(qY++yg 8 (Ll (bO qY))).length=21:=by rw[ams,nA,Y]
 rw[J];refine⟨fun h=>absurd h (by decide),fun _=>?_⟩;have es:bO (qY++yg 8 (Ll (bO qY)))=bO qY++bO (yg 8 (Ll (bO qY))):=OW _ _;have hl:(bO (qY++yg 8 (Ll (bO qY)))).length=21:=by rw[eY,J]
 have b1:(bO qY).length=13:=rfl;have h9:(bO (qY++yg 8 (Ll (bO qY)))).getD 8 0=99:=by rw[es];rfl
 refine⟨_,_,rfl,FH _ (by rw[hl];decide),fun b6 I=>?_⟩;have A:Ax 119 (bO (qY++yg 8 (Ll (bO qY))))=270:=by rw[Ax,hl,amt (by decide),amt (by decide),amt (by rw[es];exact fun h=>h rfl),amu (by rw[h9];decide)]
 have V:vG (i9 119 (Lo (bO (qY++yg 8 (Ll (bO qY)))).length) (bO (qY++yg 8 (Ll (bO qY)))))=(270,none):=by rw[xp (by rw[A];decide),A];rfl
 rw[V]at I;obtain⟨t1,O,-⟩:=I;have O:=O rfl;rw[t1,O,hl,h9];refine⟨fun _=>?_,fun h=>by cases h⟩;refine⟨_,_,rfl,afj,fun d3 a7=>?_⟩;rw[a7,IM];refine⟨fun _=>⟨fun _=>?_,fun h=>absurd h (by decide)⟩,fun h=>absurd h (by decide)⟩;refine⟨_,_,rfl,Ix aak (aoG _) r2,?_⟩;rintro _ rfl;refine⟨_,_,rfl,SK rfl (by kernel_rfl) (Ix aak pn aat),?_⟩;rintro _ rfl;refine⟨_,_,_,rfl,ahg,?_⟩;rintro _ rfl;refine⟨fun _=>?_,fun h=>by cases h⟩;refine⟨_,_,_,rfl,aeI [] (by decide),?_⟩;rintro _ rfl;refine⟨fun _=>⟨fun _=>?_,fun h=>absurd h (by simp)⟩,fun h=>by cases h⟩;refine⟨_,_,_,rfl,aeI [0] (by decide),?_⟩;rintro _ rfl;refine⟨fun _=>?_,fun h=>by cases h⟩;refine⟨_,_,rfl,aeH,fun d4 a8=>?_⟩;rw[a8];refine⟨fun _=>⟨fun _=>⟨fun _=>⟨fun _=>⟨fun _=>⟨fun _=>?_,fun h=>absurd h (by decide)⟩,fun h=>absurd h (by decide)⟩,fun h=>absurd h (by decide)⟩,fun h=>absurd h (by decide)⟩,fun h=>absurd h (by decide)⟩,fun h=>by cases h⟩;refine⟨_,_,_,rfl,V8 [] (by decide),?_⟩;rintro _ rfl;rw[D.bu,alV];refine⟨fun _=>?_,fun h=>absurd h (by decide)⟩;refine⟨_,_,_,rfl,V8 _ (by decide),?_⟩;rintro _ rfl;exact⟨rfl,.b _,.ret,by rw[D.bV];decide⟩
end Go.Proofs
end
