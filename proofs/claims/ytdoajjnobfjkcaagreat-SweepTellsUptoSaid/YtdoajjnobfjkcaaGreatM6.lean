import Derived.Test.YtdoajjnobfjkcaaGreatM5
set_option linter.all false
noncomputable section
namespace Go.PB
open Go
section
noncomputable section
def xN (g:Gh)(bs:List Nat)(c:Nat):Prop:=g.fz c\/∃b∈bs,∃az,g.m b=some (c,az)
def Um (F:TypeId->List BV->T (D×List BV×List Nat)):List Field->List BV->T (List D×List BV×List Nat)
 | [],cs=> .ret ([],cs,[])
 |f::r,cs=>(F f.type cs).bind fun x=>(Um F r x.2.1).bind fun y=> .ret (x.1::y.1,y.2.1,x.2.2++y.2.2)
def Vh (P:Program)(h:aj):Nat->TypeId->List BV->T (D×List BV×List Nat)
 |0,_,_=> .bG
 |n+1,t,cs=>
  match P.underlying t with
  |some (.int k)=>(match cs with| .int k' m::r=>if k=k' then .ret (.z m,r,[])else .bG|_=> .bG)
  |some .bool=>(match cs with| .bool b::r=> .ret (.b b,r,[])|_=> .bG)
  |some .string=>(match cs with| .b8 s::r=> .ret (.s s,r,[])|_=> .bG)
  |some (.slice e)=>(match cs with
   | .bw e' l::r=>if Nat.beq e e' then .ret (.r l,r,[])else .bG
   | .Fi e' l::r=>if Nat.beq e e' then .ret (.r l,r,[])else .bG
   | .cX::r=> .ret (.r [],r,[])
   | .kR::r=> .ret (.r [],r,[])
   | .aZ b n vt::r=>(match h.get b with|some (.ak e' l vt')=>if Nat.beq e e'&&(vt==vt')then .ite (decide (n=l.length)) (.ret (.r l,r,[b])) .bG else .bG|_=> .bG)
   |_=> .bG)
  |some (.struct fs)=>(Um (Vh P h n) fs.toList cs).bind fun x=> .ret (.r x.1,x.2.1,x.2.2)
  |_=> .bG
def abk (P:Program)(h:aj)(t:TypeId)(cs:List BV):T (D×List Nat):=(Vh P h 8 t cs).bind fun x=>match x.2.1 with| []=> .ret (x.1,x.2.2)|_=> .bG
def Sk (P:Program)(h:aj)(t:TypeId)(v:BV):T (D×List Nat):=
 match cQ P t,il P t with
 |true,some true=>(match v with| .agg cs=>abk P h t cs|_=> .bG)
 |true,some false=>abk P h t [v]
 |_,_=> .bG
def I1 (P:Program)(h:aj):List TypeId->List BV->T (List D×List Nat)
 | [],[]=> .ret ([],[])
 |t::ts,v::vs=>(Sk P h t v).bind fun x=>(I1 P h ts vs).bind fun y=> .ret (x.1::y.1,x.2++y.2)
 |_,_=> .bG
def xO (P:Program):List TypeId->List D->List BV
 |t::ts,d::ds=>cj P t d::xO P ts ds
 |_,_=>[]
def Pw:List TypeId->Nat->D->List D
 | [],_,_=>[]
 |_::ts,i,d=>d.aa i::Pw ts (i+1) d
def Ye {l:List D}:∀(ts:List TypeId) (i:Nat),i+ts.length=l.length->Pw ts i (.r l)=l.drop i:=by
 intro ts
 induction ts with
 |nil=>intro i h;simp at h;simp[Pw,h]
 |cons t ts ih=>
  intro i h
  simp only[ahv]at h
  have hi:i<l.length:=by omega
  simp only[Pw]
  rw[ih (i+1) (by omega),aiG hi]
  simp[D.aa,D.ae,D.at,List.getD,ag7 hi]
def Hp (P:Program)(ts:List TypeId)(d:D):BV:=
 match ts with
 | [t]=>cj P t d
 |ts=> .tuple (xO P ts (Pw ts 0 d))
def D9 (P:Program)(t:TypeId):Bool:=
 match P.underlying t with
 |some (.int _)=>true
 |some .bool=>true
 |some .string=>true
 |_=>false
def abm (P:Program)(h:aj)(ts:List TypeId)(v:BV):T (D×List Nat):=
 match ts with
 | [t]=>Sk P h t v
 |ts=>(match v with| .tuple vs=>(I1 P h ts vs).bind fun x=> .ret (.r x.1,x.2)|_=> .bG)
section
variable {P:Program} {g g':Gh} {h h':aj} {w w':World}
def CO {bs bs':List Nat}(hs:∀b∈bs,b∈bs')(c:Nat)(h:xN g bs c):xN g bs' c:=by
 rcases h with h| ⟨b,hb,az,hm⟩
 ·exact .inl h
 ·exact .inr ⟨b,hs b hb,az,hm⟩
def LD (g:Gh)(h:aj)(bs:List Nat):Prop:=∀b∈bs,g.m b=none->r8 (h.get b)=true
def LD.nil:LD g h []:=fun b hb=>by simp at hb
def LD.append {as bs:List Nat}(a:LD g h as)(b:LD g h bs):LD g h (as++bs):=fun x hx=>by
 rcases ahd.1 hx with hx|hx
 ·exact a x hx
 ·exact b x hx
structure Frz (P:Program)(g:Gh)(h:aj)(w:World)(t:TypeId)(cs:List BV)(d:D)(r:List BV)(bs:List Nat):Prop where
 get:∀b∈bs,∃o,h.get b=some o/\o.nC=some o
 M0:∃c1,cs=c1++r/\∀vs,aq P g w c1 vs->nG P (xN g bs) w t d vs/\LD g h bs
def nG.up {bs bs':List Nat}{t:TypeId}{d:D}{vs:List Value}(hs:∀b∈bs,b∈bs')(hd:nG P (xN g bs) w t d vs):nG P (xN g bs') w t d vs:=
 hd.mono (fun c=>CO hs c) fun _ _=>rfl
def cI.up {bs:List Nat}{t:TypeId}{l:List D}{vs:List Value}(hd:cI P g.fz w t l vs):cI P (xN g bs) w t l vs:=
 hd.mono (fun _ hc=> .inl hc) fun _ _=>rfl
def aef {n:Nat}(ih:∀{t:TypeId} {cs:List BV} {x:D×List BV×List Nat},T.dy x (Vh P h n t cs)->Frz P g h w t cs x.1 x.2.1 x.2.2):
 ∀(fs:List Field) {cs:List BV} {x:List D×List BV×List Nat},T.dy x (Um (Vh P h n) fs cs)->(∀b∈x.2.2,∃o,h.get b=some o/\o.nC=some o)/\∃cc:List (List BV),cs=cc.flatten++x.2.1/\cc.length=fs.length/\
  (∀j f c,fs[j]?=some f->cc[j]?=some c->∀vs,aq P g w c vs->nG P (xN g x.2.2) w f.type (D.at x.1 j) vs)/\∀vs,aq P g w cc.flatten vs->LD g h x.2.2:=by
 intro fs
 induction fs with
 |nil=>intro cs x e;rw[<-T.bm e];exact⟨fun b hb=>by simp at hb,[],by simp,rfl,fun j f c hj=>by simp at hj,fun _ _=>LD.nil⟩
 |cons f fr ihr=>
  intro cs x e
  simp only[Um]at e
  obtain⟨x1,e1,e⟩:=T.bI e
  obtain⟨x2,e2,e⟩:=T.bI e
  rw[<-T.bm e]
  obtain⟨g1,c1,k1,k2⟩:=ih e1
  obtain⟨g2,cc,m1,m2,m3,m4⟩:=ihr e2
  refine⟨fun b hb=>?_,c1::cc,by rw[k1,m1];simp,by simp[m2],fun j f' c hj hc vs hv=>?_,fun vs hv=>?_⟩
  ·rcases ahd.1 hb with hb|hb
   ·exact g1 b hb
   ·exact g2 b hb
  ·cases j with
   |zero=>simp at hj hc;subst hj;subst hc;exact(k2 vs hv).1.up fun b hb=>ahP _ hb
   |succ j=>exact(m3 j f' c (by simpa using hj) (by simpa using hc) vs hv).up fun b hb=>aih _ hb
  ·rw[ajA]at hv
   obtain⟨us,xs,rfl,h1,h2⟩:=hv.HA
   exact(k2 us h1).2.append (m4 xs h2)
def abn (hr:bc P g h w):∀(n:Nat) {t:TypeId} {cs:List BV} {x:D×List BV×List Nat},T.dy x (Vh P h n t cs)->Frz P g h w t cs x.1 x.2.1 x.2.2:=by
 intro n
 induction n with
 |zero=>intro t cs x e;exact(T.aR e).elim
 |succ n ih=>
  intro t cs x e
  simp only[Vh]at e
  cases hu:P.underlying t with
  |none=>simp only[hu]at e;exact(T.aR e).elim
  |some td=>
   simp only[hu]at e
   have one:∀{v:BV} {r:List BV} {d:D},(∀v',ao P g w v v'->nG P (xN g []) w t d [v'])->Frz P g h w t (v::r) d r []:=fun {v r d} hv=>
    ⟨fun b hb=>by simp at hb,[v],rfl,fun vs hvs=>by obtain⟨v',rfl,h1⟩:=hvs.one;exact⟨hv v' h1,LD.nil⟩⟩
   cases td with
   |int k=>
    simp only at e
    split at e
    ·split at e
     ·rename_i hk;subst hk;rw[<-T.bm e]
      exact one fun v' hv=>by simp only[ao]at hv;subst hv;exact .int (d:= .z _) hu
     ·exact(T.aR e).elim
    ·exact(T.aR e).elim
   |bool=>
    simp only at e
    split at e
    ·rw[<-T.bm e]
     exact one fun v' hv=>by simp only[ao]at hv;subst hv;exact .bool (d:= .b _) hu
    ·exact(T.aR e).elim
   |string=>
    simp only at e
    split at e
    ·rw[<-T.bm e]
     exact one fun v' hv=>by simp only[ao]at hv;subst hv;exact .b8 (d:= .s _) hu
    ·exact(T.aR e).elim
   |slice el=>
    simp only at e
    have bw:∀{l:List D} {v':Value},ao P g w (.bw el l) v'->nG P (xN g []) w t (.r l) [v']:=fun {l v'} hv=>by
     simp only[ao]at hv
     rcases hv with ⟨h0,rfl| ⟨a,c,rfl⟩⟩| ⟨aL,off,c,rfl,hc,hb,vs,hrv,hat⟩
     ·exact .cX (d:= .r l) hu h0
     ·exact .empty (d:= .r l) hu h0 a c
     ·exact .slice (d:= .r l) hu aL off c vs (.inl hb) hc hrv.1 (hrv.up (bs:=[])).2 hat
    split at e
    ·split at e
     ·rename_i he;have he:=ahh he;subst he;rw[<-T.bm e];exact one fun v' hv=>bw hv
     ·exact(T.aR e).elim
    ·split at e
     ·rename_i he;have he:=ahh he;subst he;rw[<-T.bm e];exact one fun v' hv=>bw hv.NP
     ·exact(T.aR e).elim
    ·rw[<-T.bm e];exact one fun v' hv=>by simp only[ao]at hv;subst hv;exact .cX (d:= .r []) hu rfl
    ·rw[<-T.bm e];exact one fun v' hv=>by simp only[ao]at hv;obtain⟨a,c,rfl⟩:=hv;exact .empty (d:= .r []) hu rfl a c
    ·rename_i b n vt r
     split at e
     ·rename_i e' l vt' hb
      split at e
      ·rename_i he
       simp only[ag2,aht]at he
       obtain⟨he,hvt⟩:=he
       have he:=ahh he
       subst he
       obtain⟨h1,h2⟩:=T.fD e
       have h1:=aiw h1
       subst h1
       rw[<-T.bm h2]
       refine⟨fun b' hb'=>by simp at hb';subst hb';exact⟨_,hb,rfl⟩,[.aZ b l.length vt],rfl,fun vs hvs=>?_⟩
       obtain⟨v',rfl,hv⟩:=hvs.one
       simp only[ao]at hv
       have hvirt:vt=true->LD g h [b]:=fun h1 b1 hb1 _=>by simp at hb1;subst hb1;rw[hb];subst hvt;exact h1
       rcases hv with ⟨⟨hv1,h0⟩,rfl| ⟨a,rfl⟩⟩| ⟨aL,az,c,hm,rfl,hc,_⟩
       ·exact⟨.cX (d:= .r l) hu (ahy.1 h0),hvirt hv1⟩
       ·exact⟨.empty (d:= .r l) hu (ahy.1 h0) a 0,hvirt hv1⟩
       ·obtain⟨cc,ws,hw,hrv,_,hat⟩:=hr.ak hb hm
        exact⟨.slice (d:= .r l) hu aL az c ws (.inr ⟨b,by simp,az,hm⟩) hc hrv.1 (hrv.up (bs:=[b])).2 hat,fun b1 hb1 hn=>by simp at hb1;subst hb1;rw[hm]at hn;cases hn⟩
      ·exact(T.aR e).elim
     ·exact(T.aR e).elim
    ·exact(T.aR e).elim
   |struct fs=>
    simp only at e
    obtain⟨x1,e1,e⟩:=T.bI e
    rw[<-T.bm e]
    obtain⟨k0,cc,k1,k2,k3,k4⟩:=aef ih _ e1
    refine⟨k0,cc.flatten,k1,fun vs hv=>?_⟩
    have hph:=k4 vs hv
    obtain⟨vv,rfl,m1,m2⟩:=hv.M7
    refine⟨?_,hph⟩
    refine .struct (d:= .r x1.1) hu vv (m1.trans k2) fun j f c hj hc=>?_
    have hjlt:j<cc.length:=by rw[<-m1];exact(aha.1 hc).1
    exact k3 j f _ hj (ag7 hjlt) c (m2 j _ c (ag7 hjlt) hc)
   |_=>exact(T.aR e).elim
def Py (hr:bc P g h w){t:TypeId}{cs:List BV}{x:D×List Nat}(e:T.dy x (abk P h t cs)):(∀b∈x.2,∃o,h.get b=some o/\o.nC=some o)/\∀vs,aq P g w cs vs->nG P (xN g x.2) w t x.1 vs/\LD g h x.2:=by
 unfold abk at e
 obtain⟨y,e1,e⟩:=T.bI e
 obtain⟨k1,c1,k2,k3⟩:=abn hr 8 e1
 split at e
 ·rename_i hn
  rw[<-T.bm e]
  rw[hn,ahM]at k2
  subst k2
  exact⟨k1,k3⟩
 ·exact(T.aR e).elim
def Xk (P:Program)(fz:Nat->Prop)(w:World)(t:TypeId)(d:D)(v:Value):Prop:=ao P ⟨fun _=>none,fz,fun _ _=>none⟩ w (cj P t d) v
def CN (hr:bc P g h w){t:TypeId}{v:BV}{x:D×List Nat}(e:T.dy x (Sk P h t v)):(∀b∈x.2,∃o,h.get b=some o/\o.nC=some o)/\∀v',ao P g w v v'->Xk P (xN g x.2) w t x.1 v'/\LD g h x.2:=by
 unfold Sk at e
 split at e
 ·rename_i hd ha
  split at e
  ·rename_i cs
   obtain⟨k1,k2⟩:=Py hr e
   refine⟨k1,fun v' hv=>?_⟩
   simp only[ao]at hv
   obtain⟨vs,rfl,hv⟩:=hv
   refine⟨?_,(k2 _ hv).2⟩
   simp only[Xk,cj,ha,ao]
   exact⟨vs,rfl,nG.yU (g:=⟨fun _=>none,xN g x.2,fun _ _=>none⟩) hd (k2 _ hv).1⟩
  ·exact(T.aR e).elim
 ·rename_i hd ha
  obtain⟨k1,k2⟩:=Py hr e
  refine⟨k1,fun v' hv=>?_⟩
  have hk:=k2 [v'] (aq.cons hv aq.nil)
  have:=nG.yU (g:=⟨fun _=>none,xN g x.2,fun _ _=>none⟩) hd hk.1
  refine⟨?_,hk.2⟩
  simp only[Xk,cj,ha]
  split
  ·rename_i y hy
   rw[hy]at this
   obtain⟨u,hu,h1⟩:=this.one
   cases hu;exact h1
  ·rename_i hno
   simp only[ao]
 ·exact(T.aR e).elim
def MK (hr:bc P g h w):∀{ts:List TypeId} {vs:List BV} {x:List D×List Nat},T.dy x (I1 P h ts vs)->(∀b∈x.2,∃o,h.get b=some o/\o.nC=some o)/\∀vs',aq P g w vs vs'->aq P ⟨fun _=>none,xN g x.2,fun _ _=>none⟩ w (xO P ts x.1) vs'/\LD g h x.2:=by
 intro ts
 induction ts with
 |nil=>
  intro vs x e
  cases vs with
  |nil=>rw[<-T.bm e];exact⟨fun b hb=>by simp at hb,fun vs' hv=>⟨by simpa [xO,aq]using hv,LD.nil⟩⟩
  |cons v vs=>exact(T.aR e).elim
 |cons t ts ih=>
  intro vs x e
  cases vs with
  |nil=>exact(T.aR e).elim
  |cons v vs=>
   simp only[I1]at e
   obtain⟨x1,e1,e⟩:=T.bI e
   obtain⟨x2,e2,e⟩:=T.bI e
   rw[<-T.bm e]
   obtain⟨k1,k2⟩:=CN hr e1
   obtain⟨m1,m2⟩:=ih e2
   refine⟨fun b hb=>?_,fun vs' hv=>?_⟩
   ·rcases ahd.1 hb with hb|hb
    ·exact k1 b hb
    ·exact m1 b hb
   ·simp only[aq]at hv
    obtain⟨u,ur,rfl,h1,h2⟩:=hv
    refine⟨?_,(k2 u h1).2.append (m2 ur h2).2⟩
    simp only[xO]
    refine aq.cons ?_ ?_
    ·exact ao.mono (g:=⟨fun _=>none,xN g x1.2,fun _ _=>none⟩) (w:=w) ⟨fun b x h=>(by cases h),fun c=>CO (fun b hb=>ahP _ hb) c,fun _ _=>rfl,fun _ _ h=>h,fun _ _ _ h=>(by first|exact h|cases h)⟩ _ _ (k2 u h1).1
    ·exact aq.mono (g:=⟨fun _=>none,xN g x2.2,fun _ _=>none⟩) (w:=w) ⟨fun b x h=>(by cases h),fun c=>CO (fun b hb=>aih _ hb) c,fun _ _=>rfl,fun _ _ h=>h,fun _ _ _ h=>(by first|exact h|cases h)⟩ _ _ (m2 ur h2).1
def NY:∀{ts:List TypeId} {vs:List BV} {x:List D×List Nat},T.dy x (I1 P h ts vs)->x.1.length=ts.length:=by
 intro ts
 induction ts with
 |nil=>
  intro vs x e
  cases vs with
  |nil=>rw[<-T.bm e];rfl
  |cons v vs=>exact(T.aR e).elim
 |cons t ts ih=>
  intro vs x e
  cases vs with
  |nil=>exact(T.aR e).elim
  |cons v vs=>
   simp only[I1]at e
   obtain⟨x1,e1,e⟩:=T.bI e
   obtain⟨x2,e2,e⟩:=T.bI e
   rw[<-T.bm e]
   simp[ih e2]
def Yj (hr:bc P g h w){ts:List TypeId}{v:BV}{x:D×List Nat}(e:T.dy x (abm P h ts v)):(∀b∈x.2,∃o,h.get b=some o/\o.nC=some o)/\∀v',ao P g w v v'->ao P ⟨fun _=>none,xN g x.2,fun _ _=>none⟩ w (Hp P ts x.1) v'/\LD g h x.2:=by
 unfold abm at e
 split at e
 ·exact CN hr e
 ·rename_i AA
  split at e
  ·rename_i vs
   obtain⟨y,e1,e⟩:=T.bI e
   rw[<-T.bm e]
   obtain⟨k1,k2⟩:=MK hr e1
   refine⟨k1,fun v' hv=>?_⟩
   simp only[ao]at hv
   obtain⟨us,rfl,hv⟩:=hv
   have:Hp P ts (D.r y.1)= .tuple (xO P ts y.1):=by
    unfold Hp
    split
    ·rename_i t;exact absurd rfl (AA t)
    ·rw[Ye ts 0 (by rw[ah2];exact(NY e1).symm)];rfl
   rw[this]
   refine⟨?_,(k2 _ hv).2⟩
   simp only[ao]
   exact⟨us,rfl,(k2 _ hv).1⟩
  ·exact(T.aR e).elim
def dA (h:aj):List Nat->aj
 | []=>h
 |b::r=>(dA h r).put b none
def zR (h:aj):∀(bs:List Nat) (b:Nat),(dA h bs).get b=if b∈bs then none else h.get b:=by
 intro bs
 induction bs with
 |nil=>intro b;simp[dA]
 |cons x r ih=>
  intro b
  simp only[dA,aj.fe,ih]
  by_cases hb:b=x
  ·simp[hb]
  ·simp[hb]
def kP (h:aj):∀bs:List Nat,(dA h bs).next=h.next:=by
 intro bs
 induction bs with
 |nil=>rfl
 |cons x r ih=>simp[dA,ih]
def Ps {bs:List Nat}(hp:LD g h bs)(lb:Nat):sr lb g h {g with fz:=xN g bs} (dA h bs):=fun b _ hm hv=>⟨hm,by
 rw[zR,ag4]
 intro hb;rw[hp b hb hm]at hv;cases hv⟩
def bc.grow {w2:World}(hr:bc P g h w2)(hx:hJ g h w g h w2){fz':Nat->Prop}(hf:∀c,g.fz c->fz' c)(hlt:∀c,fz' c->c<w2.heap.size)(hn:∀c,fz' c->c<w.heap.size->g.fz c)
 (himg:∀l aL az,g.at l=some (aL,az)->aL<w.heap.size):bc P {g with fz:=fz'} h w2/\hJ g h w {g with fz:=fz'} h w2:=by
 have hmono:eC g w2 {g with fz:=fz'} w2:=⟨fun _ _ e=>e,hf,fun _ _=>rfl,fun _ _ e=>e,fun _ _ _ e=>e⟩
 have hat:∀l,({g with fz:=fz'}:Gh).at l=g.at l:=fun l=>by cases l<;>rfl
 have hnm:Jq {g with fz:=fz'} h:=⟨hr.Jt,hr.lt,hr.FJ,hr.BF,hr.fu,hr.sk,hr.al⟩
 refine⟨hnm.M0 (fun l x y e=>hr.nv l x y (hat l▸e)) (fun l l' aL az base' o o' h1 h2 m1 m2=>hr.nw l l' aL az base' o o' h1 h2 (hat l▸m1) (hat l'▸m2)) ?_ hlt,⟨⟨fun _ _ e=>e,hf,hx.mono.mc,hx.mono.ms,fun _ _ _ e=>e⟩,hx.size,hx.oR,fun c hc ho=>(by
  obtain⟨l,o,az,h1,m1⟩:=ho
  exact⟨l,o,az,h1,hat l▸m1⟩),fun c hc h1=> .inl (hn c h1 hc),aho _,hx.os⟩⟩
 intro l o aL az h1 m1
 rw[hat]at m1
 obtain⟨n1,o',ho,hr'⟩:=hr.qJ l o aL az h1 m1
 exact⟨fun h2=>n1 (hn _ h2 (himg _ _ _ m1)),o',ho,hr'.mono hmono⟩
def ao.UM {fz:Nat->Prop}{t:TypeId}{d:D}{v:Value}(hs:D9 P t=true)(hv:ao P ⟨fun _=>none,fz,fun _ _=>none⟩ w (cj P t d) v):ao P g w (cj P t d) v:=by
 unfold D9 at hs
 cases hu:P.underlying t with
 |none=>simp[hu]at hs
 |some td=>
  simp only[hu]at hs
  cases td<;>simp at hs
  all_goals
   simp only[cj,il,hu,ahm,aK,dM]at hv ⊢
   simpa [ao]using hv
def ao.ack {fz:Nat->Prop}:∀{ts:List TypeId} {ds:List D} {vs:List Value},ts.all (D9 P)=true->aq P ⟨fun _=>none,fz,fun _ _=>none⟩ w (xO P ts ds) vs->aq P g w (xO P ts ds) vs:=by
 intro ts
 induction ts with
 |nil=>intro ds vs _ hv;simpa [xO,aq]using hv
 |cons t ts ih=>
  intro ds vs hs hv
  simp only[akw,ag2]at hs
  cases ds with
  |nil=>simpa [xO,aq]using hv
  |cons d ds=>
   simp only[xO,aq]at hv ⊢
   obtain⟨u,ur,rfl,h1,h2⟩:=hv
   exact⟨u,ur,rfl,h1.UM hs.1,ih hs.2 h2⟩
def ao.aex {fz:Nat->Prop}{ts:List TypeId}{d:D}{v:Value}(hs:ts.all (D9 P)=true)(hv:ao P ⟨fun _=>none,fz,fun _ _=>none⟩ w (Hp P ts d) v):ao P g w (Hp P ts d) v:=by
 unfold Hp at hv ⊢
 split at hv
 ·exact hv.UM (by simpa using hs)
 ·simp only[ao]at hv ⊢
  obtain⟨vs,rfl,hv⟩:=hv
  exact⟨vs,rfl,ao.ack hs hv⟩
def bc.Fm (hr:bc P g h w){bs:List Nat}(hb:∀b∈bs,∃o,h.get b=some o/\o.nC=some o):bc P {g with fz:=xN g bs} (dA h bs) w/\hJ g h w {g with fz:=xN g bs} (dA h bs) w:=by
 have hmono:eC g w {g with fz:=xN g bs} w:=⟨fun _ _ e=>e,fun _ e=> .inl e,fun _ _=>rfl,fun _ _ e=>e,fun _ _ _ e=>e⟩
 have hget:∀b o,(dA h bs).get b=some o->b∉bs/\h.get b=some o:=fun b o e=>by
  rw[zR]at e
  split at e
  ·cases e
  ·rename_i hn;exact⟨hn,e⟩
 have hgat:∀l,({g with fz:=xN g bs}:Gh).at l=g.at l:=fun l=>by cases l<;>rfl
 have hat:∀l o,(dA h bs).at l=some o->h.at l=some o/\∀b∈bs,l≠ .aL b:=fun l o e=>by
  cases l with
  |aL b=>
   obtain⟨e1,e2⟩:=aj.wR e
   obtain⟨h1,h2⟩:=hget _ _ e1
   exact⟨aj.fO h2 e2,fun b' hb' e=>by cases e;exact h1 hb'⟩
  |el b f k=>
   obtain⟨y,e1,e2⟩:=aj.Kl e
   exact⟨aj.BB (hget _ _ e1).2 e2,fun b' hb' e=>by cases e⟩
 have hnm:Jq {g with fz:=xN g bs} (dA h bs):=⟨fun b o e=>by rw[kP];exact hr.Jt b o (hget b o e).2,fun b x e=>by rw[kP];exact hr.lt b x e,fun f k x e=>by rw[kP];exact hr.FJ f k x e,
  fun b o f e1 e2=>by rw[kP];exact hr.BF b o f (hget _ _ e1).2 e2,fun b b' o o' f e1 e2=>hr.fu b b' o o' f (hget _ _ e1).2 (hget _ _ e2).2,fun b o f k x e1=>hr.sk b o f k x (hget _ _ e1).2,fun b b' f k e1=>hr.al b b' f k (hget _ _ e1).2⟩
 refine⟨hnm.M0 (fun l x y e=>hr.nv l x y (hgat l▸e)) ?_ ?_ ?_,⟨hmono,aho _,fun _ _ _=>rfl,?_,?_,by rw[kP];exact aho _,⟨rfl,rfl,rfl⟩⟩⟩
 ·intro l l' aL az base' o o' h1 h2 m1 m2
  exact hr.nw l l' aL az base' o o' (hat _ _ h1).1 (hat _ _ h2).1 (hgat l▸m1) (hgat l'▸m2)
 ·intro l o aL az h1 m1
  rw[hgat]at m1
  obtain⟨h2,hn⟩:=hat _ _ h1
  obtain⟨n1,o',ho,hr'⟩:=hr.qJ l o aL az h2 m1
  refine⟨?_,o',ho,hr'.mono hmono⟩
  rintro(hf| ⟨b1,hb1,base1,hm1⟩)
  ·exact n1 hf
  ·obtain⟨o1,h3,h4⟩:=hb b1 hb1
   exact hn b1 hb1 (hr.nw l (.aL b1) aL az base1 o o1 h2 (aj.fO h3 h4) m1 hm1)
 ·rintro c (hf| ⟨b1,hb1,base1,hm1⟩)
  ·exact hr.mE c hf
  ·exact hr.Xd b1 c base1 hm1
 ·rintro c _ ⟨l,o,az,h1,m1⟩
  exact⟨l,o,az,(hat _ _ h1).1,hgat l▸m1⟩
 ·rintro c _ (hf| ⟨b1,hb1,base1,hm1⟩)
  ·exact .inl hf
  ·obtain⟨o1,h3,h4⟩:=hb b1 hb1
   exact .inr ⟨.aL b1,o1,base1,aj.fO h3 h4,hm1⟩
end
def fk (P:Program)(f:FuncId)(ts:List TypeId)(ds:List D)(rs:List TypeId)(Q:D->Prop):Prop:=
 ∀(fz:Nat->Prop) (w:World) (as':Array Value),(∀c,fz c->c<w.heap.size)->aq P ⟨fun _=>none,fz,fun _ _=>none⟩ w (xO P ts ds) as'.toList->
  Calls P f as' w fun ed w'=>∃(v':Value) (fz':Nat->Prop) (d:D),ed= .returned v'/\Eh w w'/\(∀c,fz c->fz' c)/\(∀c,fz' c->c<w'.heap.size)/\(∀c,fz' c->c<w.heap.size->fz c)/\
   ao P ⟨fun _=>none,fz',fun _ _=>none⟩ w' (Hp P rs d) v'/\Q d
def fk.mono {P:Program}{f:FuncId}{ts rs:List TypeId}{ds:List D}{Q Q':D->Prop}(hp:fk P f ts ds rs Q)(hq:∀d,Q d->Q' d):fk P f ts ds rs Q':=by
 intro fz w as' hfz ha
 refine(hp fz w as' hfz ha).mono ?_
 rintro ed w' ⟨v',fz',d,h1,h2,h3,h4,h5,h6,h7⟩
 exact⟨v',fz',d,h1,h2,h3,h4,h5,h6,hq d h7⟩
structure Cn (g:Gh)(h:aj)(w:World)(g':Gh)(h':aj)(w':World):Prop where
 size:w.heap.size<=w'.heap.size
 oR:∀c,c<w.heap.size->¬qO g h c->w'.heap[c]?=w.heap[c]?
 fz:∀c,g.fz c->g'.fz c
 Sl:∀c,c<w.heap.size->g'.fz c->g.fz c\/qO g h c
 mE:∀c,g'.fz c->c<w'.heap.size
 nC:∀c,c<w.heap.size->qO g' h' c->qO g h c
 ms:∀c s,w.shape? c=some s->w'.shape? c=some s
 os:w'.os=w.os/\w'.output=w.output/\w'.tape=w.tape
structure RC (p:Nat)(g g':Gh):Prop where
 m:∀i,i<p->∀x,g.m i=some x->g'.m i=some x
 s:∀i,i<p->∀k x,g.s i k=some x->g'.s i k=some x
def RC.G1 {p:Nat}{g g1 g':Gh}{w w1:World}(hm:eC g w g1 w1)(h:RC p g1 g'):RC p g g':=⟨fun i hi x hx=>h.m i hi x (hm.mm _ _ hx),fun i hi k x hx=>h.s i hi k x (hm.mse _ _ _ hx)⟩
def RC.zero (g g':Gh):RC 0 g g':=⟨fun i hi=>absurd hi (akf _),fun i hi=>absurd hi (akf _)⟩
def T.Sm {α:Type}{a b:α}:∀{t:T α},T.dy a t->T.dy b t->a=b:=by
 intro t
 induction t with
 |ret x=>intro h1 h2;cases h1;cases h2;rfl
 |bG=>intro h1;cases h1
 |ite c t e iht ihe=>
  intro h1 h2
  cases h1 with
  |tt hc k=>cases h2 with
   |tt _ k2=>exact iht k k2
   |ff hc2 k2=>rw[hc]at hc2;cases hc2
  |ff hc k=>cases h2 with
   |tt hc2 k2=>rw[hc]at hc2;cases hc2
   |ff _ k2=>exact ihe k k2
 |same u v t ih=>
  intro h1 h2
  cases h1 with
  |same _ k=>cases h2 with
   |same _ k2=>exact ih k k2
def hL (L:List (Nat×aI)):aj:=⟨2*L.length,LL L .leaf⟩
def BZ (P:Program)(f:FuncId)(as:List BV)(L:List (Nat×aI))(p:Nat)(R:D->T (BV×List (Nat×aI)))(Q:D->Prop):Prop:=
 ∀(g:Gh) (w:World) (as':Array Value),bc P g (hL L) w->aq P g w as as'.toList->
  Calls P f as' w fun ed w'=>∃(v':Value) (g':Gh) (d:D) (x:BV×List (Nat×aI)),ed= .returned v'/\T.dy x (R d)/\Cn g (hL L) w g' (hL x.2) w'/\RC p g g'/\bc P g' (hL x.2) w'/\ao P g' w' x.1 v'/\Q d
inductive mR where
 |dQ (Q:D->Prop)
 |bx (p:Nat) (R:D->T (BV×List (Nat×aI))) (Q:D->Prop)
def mR.p:mR->Nat
 | .dQ _=>0
 | .bx p _ _=>p
def mR.E (P:Program)(rs:List TypeId):mR->Gh->aj->World->Value->Prop
 | .dQ Q,g,_,w,v=>∃d,ao P ⟨fun _=>none,g.fz,fun _ _=>none⟩ w (Hp P rs d) v/\Q d
 | .bx _ R Q,g,h,w,v=>∃d x,T.dy x (R d)/\h=hL x.2/\bc P g h w/\ao P g w x.1 v/\Q d
def ay (P:Program)(f:FuncId)(rs:List TypeId)(G:mR)(s:au):Prop:=
 ∀(c0:List Frame) (g:Gh) (w:World) (lb:Nat) (fr:Frame) (cs:List Frame),Nl P (sg.of c0) g w lb s fr cs->
  ∃(w':World) (fr':Frame) (v':Value) (g':Gh) (h':aj),Steps P (lone fr cs w) (lone fr' c0 w')/\fr'.fn=f/\fr'.leaving P w' (.returned v')/\Cn g s.h w g' h' w'/\RC G.p g g'/\G.E P rs g' h' w' v'
section
variable {P:Program} {g g':Gh} {h h':aj} {w w':World} {f:FuncId} {rs:List TypeId} {G:mR} {Q:D->Prop}
def Cn.Fv {g1:Gh}{h1:aj}{w1:World}(a:hJ g h w g1 h1 w1)(b:Cn g1 h1 w1 g' h' w'):Cn g h w g' h' w' where
 size:=ahD a.size b.size
 oR:=fun c hc ho=>(b.oR c (ahC hc a.size) fun h=>ho (a.nC c hc h)).trans (a.oR c hc ho)
 fz:=fun c hc=>b.fz c (a.mono.mf c hc)
 Sl:=fun c hc hf=>by
  rcases b.Sl c (ahC hc a.size) hf with h1|h1
  ·exact a.Sl c hc h1
  ·exact .inr (a.nC c hc h1)
 mE:=b.mE
 nC:=fun c hc ho=>a.nC c hc (b.nC c (ahC hc a.size) ho)
 ms:=fun c s hs=>b.ms c s (a.mono.ms c s hs)
 os:=⟨b.os.1.trans a.os.1,b.os.2.1.trans a.os.2.1,b.os.2.2.trans a.os.2.2⟩
def ay.Af {s s':au}(hs:∀(c0:List Frame) (g:Gh) (w:World) (lb:Nat) (fr:Frame) (cs:List Frame),Nl P (sg.of c0) g w lb s fr cs->dN P (sg.of c0) g s.h w s' (lone fr cs w))
 (he:ay P f rs G s'):ay P f rs G s:=by
 intro c0 g w lb fr cs hr
 obtain⟨g1,w1,lb1,fr1,cs1,k1,k2,k3⟩:=hs c0 g w lb fr cs hr
 obtain⟨w',fr',v',g',h',m1,m2,m3,m4,m5,m6⟩:=he c0 g1 w1 lb1 fr1 cs1 k2
 exact⟨w',fr',v',g',h',k1.trans m1,m2,m3,.Fv k3 m4,.G1 k3.mono m5,m6⟩
def ay.step (hmix:P.follows .mixedOrders=true){s s':au}(e:dm P s=some s')(he:ay P f rs G s'):ay P f rs G s:=
 ay.Af (fun _ _ _ _ _ _ hr=>ZZ hmix hr e) he
def ay.pick {s s0:au}{ks seen:List D}{k:D->au}(hp:acy P s ks seen s0 k)(h0:(∀d∈ks,d∈seen)->ay P f rs G s0)(h1:∀d,d∈ks->d∉seen->ay P f rs G (k d)):ay P f rs G s:=by
 obtain⟨bfn,benv,aX,i,ah,kk,bds,bkd,bro,bs,h,o,it,r,m,st,ck,kt,vk,l,st',ck',rfl,ho,hop,hw,hit,hb,hb2,hsame,⟨p,hpp⟩,rfl,rfl⟩:=hp.ex
 intro c0 g w lb fr cs hs
 have hch:∃s',dN P (sg.of c0) g h w s' (lone fr cs w)/\ay P f rs G s':=by
  obtain⟨hr,hlb,hf,hc⟩:=hs
  obtain⟨fn,tmps,ftodo,ds,fmode,kd,ro⟩:=fr
  dsimp only at hr hlb hf hc ⊢
  have hfm:fmode= .run:=hf.mode
  subst hfm
  have hrun:=hf.run rfl
  unfold cZ at hrun
  dsimp only at hrun
  obtain⟨henv,hi⟩:=hrun
  simp only[bS]at hi
  obtain⟨it',ir,rfl,hit',hir⟩:=hi
  simp only[eZ]at hit'
  subst hit'
  have hw':Region.wanted o (yielded aX tmps)=true:=
   IG (P:=P) (g:=g) (w:=w) (fun j b' _ t _=>by
    cases hb:benv[t]? with
    |none=>
     left
     refine⟨rfl,?_⟩
     have:tmps.toList[t]?=none:=by rw[ahS];have:=henv.length;have:=ait.1 hb;omega
     simpa using this
    |some y=>
     obtain⟨v,h1,h2⟩:=henv.get hb
     exact .inr ⟨y,v,rfl,by simpa using h1,h2⟩) hw
  have hiv:=Gz henv (rf fn tmps (.inRegion aX (i::ah)::ir) ds kd ro) rfl it
  rw[hit]at hiv
  have go:∀(v:BV) (h2:aj),iU P g h w v h2 ((Instr.next ((rf fn tmps (.inRegion aX (i::ah)::ir) ds kd ro).eval it) false o.type).run P w)->
   dN P (sg.of c0) g h w ⟨⟨bfn,vo benv o.dst v,.inRegion aX ah::kk,bds,.run,bkd,bro⟩,bs,h2⟩ (lone (rf fn tmps (.inRegion aX (i::ah)::ir) ds kd ro) cs w):=fun v h2 hends=>by
   have hd:kE P g h w (.value v) h2 ((execOp (rf fn tmps (.inRegion aX (i::ah)::ir) ds kd ro).eval o).run P w):=by
    have:=kE.yJ hends
    simp only[execOp,hop]
    exact this
   have hap:=Eb (f:=rf fn tmps (.inRegion aX (i::ah)::ir) ds kd ro) hr hlb (hf.with (btodo':= .inRegion aX (i::ah)::kk) henv ⟨_,_,rfl,rfl,hir⟩) rfl hc hd
    (s':={fr:=bf bfn (vo benv o.dst v) (.inRegion aX ah::kk) bds bkd bro,cs:=bs,h:=h2})
    (by simp[qR,q9,ho])
   refine dN.xB ?_
   rw[No ho hw' (.inr fun c hc=>by rw[hop]at hc;cases hc)]
   exact hap
  rcases WR (ty:=o.type) hr hb hb2 hsame hiv with ⟨a1,a2⟩| ⟨d,a1,a2,a3⟩
  ·exact⟨_,go _ _ a2,h0 a1⟩
  ·obtain⟨q,hq⟩:=WG (d':=d) hpp
   refine⟨_,go _ _ (a3 q hq),?_⟩
   have:=h1 d a1 a2
   dsimp only at this
   rw[hq]at this
   exact this
 obtain⟨s',⟨g1,w1,lb1,fr1,cs1,k1,k2,k3⟩,he⟩:=hch
 obtain⟨w',fr',v',g',h',m1,m2,m3,m4,m5,m6⟩:=he c0 g1 w1 lb1 fr1 cs1 k2
 exact⟨w',fr',v',g',h',k1.trans m1,m2,m3,.Fv k3 m4,.G1 k3.mono m5,m6⟩
def ay.HN {s s1 s2:au}(ha:aff s s1 s2)(h1:ay P f rs G s1)(h2:ay P f rs G s2):ay P f rs G s:=by
 obtain⟨bfn,cx,aX,todo,kk,bds,bkd,bro,bs,h,j,rfl,hj0,rfl,rfl⟩:=ha.ex
 intro c0 g w lb fr cs hs
 obtain⟨hr,hlb,hf,hc⟩:=hs
 have hrun:=hf.run rfl
 unfold cZ at hrun
 dsimp only at hrun
 obtain⟨x,hj⟩:∃x,cx[j]?=some x:=by rcases hj0 with ⟨e,hj⟩| ⟨b,vt,hj⟩<;>exact⟨_,hj⟩
 obtain⟨v,hv1,hv2⟩:=hrun.1.get hj
 have new:∀b,ao P g w b v->Nl P (sg.of c0) g w lb ⟨⟨bfn,cx.set j b,.inRegion aX todo::kk,bds,.run,bkd,bro⟩,bs,h⟩ fr cs:=fun b hb=>by
  refine⟨hr,hlb,⟨hf.fn,hf.kind,hf.oI,hf.defers,hf.mode,hf.round,fun _=>?_,fun hne=>absurd rfl hne⟩,hc⟩
  unfold cZ
  dsimp only
  refine⟨aq.rL (by simpa using hrun.1.length) fun i b' v' hb' hv'=>?_,hrun.2⟩
  rw[aiK]at hb'
  split at hb'
  ·rename_i hij
   subst hij
   split at hb'
   ·cases hb'
    rw[hv1]at hv';cases hv';exact hb
   ·cases hb'
  ·obtain⟨v2,k1,k2⟩:=hrun.1.get hb'
   rw[hv']at k1;cases k1;exact k2
 rcases hj0 with ⟨e,hj0⟩| ⟨b,vt,hj0⟩
 ·rw[hj]at hj0;cases hj0
  simp only[ao]at hv2
  rcases hv2 with ⟨_,hv3| ⟨a,c,hv3⟩⟩| ⟨aL,off,c,hv3,_⟩
  ·exact h1 c0 g w lb fr cs (new .cX (by simp only[ao];exact hv3))
  ·exact h2 c0 g w lb fr cs (new .kR (by simp only[ao];exact⟨_,_,hv3⟩))
  ·exact h2 c0 g w lb fr cs (new .kR (by simp only[ao];exact⟨_,_,hv3⟩))
 ·rw[hj]at hj0;cases hj0
  simp only[ao]at hv2
  rcases hv2 with ⟨_,hv3| ⟨a,hv3⟩⟩| ⟨aL,az,c,_,hv3,_⟩
  ·exact h1 c0 g w lb fr cs (new .cX (by simp only[ao];exact hv3))
  ·exact h2 c0 g w lb fr cs (new .kR (by simp only[ao];exact⟨_,_,hv3⟩))
  ·exact h2 c0 g w lb fr cs (new .kR (by simp only[ao];exact⟨_,_,hv3⟩))
def X9 (P:Program)(f:FuncId)(s:au):Option BV:=
 match s.fr.kind,P.funcs[s.fr.fn]? with
 | .normal,some fn=>(match Nat.beq s.fr.fn f with|true=>Di P s.h fn s.fr.cx|false=>none)
 |_,_=>none
def MG {s:au}{c0 cs:List Frame}{lb:Nat}{fr:Frame}(hend:s.ended=true){v:BV}(hv:X9 P f s=some v)(hs:Nl P (sg.of c0) g w lb s fr cs):
 cs=c0/\fr.fn=f/\∃v',fr.leaving P w (.returned v')/\ao P g w v v':=by
 obtain⟨hr,h2,h3,h4⟩:=hs
 obtain⟨e1,hm,e3⟩:=Sc hend
 unfold X9 at hv
 split at hv
 ·rename_i fn hkd hfn
  split at hv
  ·rename_i hf
   have hf:=ahh hf
   rw[e1]at h4
   simp only[mQ,sg.of]at h4
   subst h4
   have hfm:=h3.mode
   rw[hm]at hfm
   simp only[xS]at hfm
   have hds:=h3.defers
   rw[e3]at hds
   simp only[iC]at hds
   obtain⟨v',hrv,hvr⟩:=Jg hr (h3.cx (by rw[hm];exact fun h=>by cases h)) hv
   exact⟨rfl,by rw[<-h3.fn];exact hf,v',⟨hfm,hds,by rw[<-h3.kind];exact hkd,fn,by rw[<-h3.fn];exact hfn,hrv⟩,hvr⟩
  ·cases hv
 ·cases hv
def Yp (l:Xn):hS.at l=none:=by
 cases l with
 |aL b=>show (hS.get b).bind aI.nC=none;simp[hS,aj.get,Tr.pj]
 |el b f k=>show (hS.get b).bind (fun o=>o.xi f k)=none;simp[hS,aj.get,Tr.pj]
def KX (g:Gh)(c:Nat):¬qO g hS c:=by
 rintro⟨l,o,az,hb,hm⟩
 rw[Yp]at hb;cases hb
def ay.ended {s:au}(hend:s.ended=true){v:BV}(hv:X9 P f s=some v){x:D×List Nat}(hx:T.dy x (abm P s.h rs v))(hq:Q x.1):ay P f rs (.dQ Q) s:=by
 intro c0 g w lb fr cs hs
 obtain⟨rfl,hf,v',hlv,hvr⟩:=MG hend hv hs
 obtain⟨k1,k2⟩:=Yj hs.1 hx
 obtain⟨z1,z2⟩:=hs.1.Fm k1
 refine⟨w,fr,v',{g with fz:=xN g x.2},hS,Steps.refl _ _,hf,hlv,?_,.zero _ _,⟨x.1,(k2 v' hvr).1,hq⟩⟩
 exact⟨aho _,fun _ _ _=>rfl,fun c hc=> .inl hc,z2.Sl,z1.mE,fun c _ ho=>absurd ho (KX _ c),fun _ _ h=>h,rfl,rfl,rfl⟩
def fk.yJ {ts:List TypeId}{ds:List D}{fr:bq}(hin:gq P f (xO P ts ds) .normal=some fr)(he:ay P f rs (.dQ Q) ⟨fr,[],hS⟩):fk P f ts ds rs Q:=by
 intro fz w as' hfz ha cs
 have hSg:∀b,hS.get b=none:=fun b=>by simp[hS,aj.get,Tr.pj]
 have hr0:bc P ⟨fun _=>none,fz,fun _ _=>none⟩ hS w:=⟨fun b o hb=>(by rw[hSg]at hb;cases hb),fun b x hm=>(by cases hm),fun f k x hm=>(by cases hm),fun b o f hb=>(by rw[hSg]at hb;cases hb),fun b b' o o' f hb=>(by rw[hSg]at hb;cases hb),
  fun b o f k x hb=>(by rw[hSg]at hb;cases hb),fun b b' f k hb=>(by rw[hSg]at hb;cases hb),fun l aL az hm=>(by cases l<;>cases hm),fun l l' aL az base' o o' hb=>(by rw[Yp]at hb;cases hb),fun l o aL az hb=>(by rw[Yp]at hb;cases hb),hfz⟩
 have hs:Nl P (sg.of cs) ⟨fun _=>none,fz,fun _ _=>none⟩ w 0 ⟨fr,[],hS⟩ (Frame.enter P f as' .normal) cs:=⟨hr0,ai3 _,KB rfl ha hin,rfl⟩
 obtain⟨w',fr',v',g',h',m1,m2,m3,m4,_,d,m5,m6⟩:=he cs _ w 0 _ cs hs
 exact⟨.returned v',w',fr',⟨v',g'.fz,d,rfl,⟨m4.size,fun c hc=>m4.oR c hc (KX _ c),m4.os.1,m4.os.2.1,m4.os.2.2⟩,m4.fz,m4.mE,fun c hc hlt=>(m4.Sl c hlt hc).resolve_right (KX _ c),m5,m6⟩,m1,m2,m3⟩
def BZ.yJ {as:List BV}{L:List (Nat×aI)}{p:Nat}{R:D->T (BV×List (Nat×aI))}{fr:bq}(hin:gq P f as .normal=some fr)(he:ay P f rs (.bx p R Q) ⟨fr,[],hL L⟩):BZ P f as L p R Q:=by
 intro g w as' hr ha cs
 have hs:Nl P (sg.of cs) g w 0 ⟨fr,[],hL L⟩ (Frame.enter P f as' .normal) cs:=⟨hr,ai3 _,KB rfl ha hin,rfl⟩
 obtain⟨w',fr',v',g',h',m1,m2,m3,m4,m5,d,x,m9,rfl,m6,m7,m8⟩:=he cs _ w 0 _ cs hs
 exact⟨.returned v',w',fr',⟨v',g',d,x,rfl,m9,m4,m5,m6,m7,m8⟩,m1,m2,m3⟩
def ay.call (hmix:P.follows .mixedOrders=true){f g:FuncId}{frs rs ts:List TypeId}{as:List BV}{fr:bq}{cs:List bq}{h:aj}{s:au}{x:List D×List Nat}{Q':D->Prop}{G:mR}
 (hs:rU P (dm P s) (.call g as fr cs h))(hx:T.dy x (I1 P h ts as))(hp:fk P g ts x.1 rs Q')(sc:Bool)(hsc:sc=true->rs.all (D9 P)=true)
 (hk:∀d,Q' d->∃r,T.dy r (rh P fr (Hp P rs d) (match sc with|true=>h|false=>dA h x.2))/\ay P f frs G ⟨r.1,cs,r.2⟩):ay P f frs G s:=by
 obtain⟨c,hc,hst⟩:=hs
 refine ay.step hmix hst ?_
 intro c0 g0 w lb f1 cs1 hsr
 obtain⟨hr,h2,h3,h4⟩:=hsr
 obtain⟨as',ha,rfl⟩:=KC hc h3
 simp only[mQ]at h4
 obtain⟨m0,mr,lb2,rfl,hl,hf0,hcr⟩:=h4
 obtain⟨k1,k2⟩:=MK hr hx
 have hfzlt:∀c,xN g0 x.2 c->c<w.heap.size:=(hr.Fm k1).1.mE
 obtain⟨ed,w2,fr2,⟨v',fz',d,rfl,hkept,q1,q2,q3,q4,q5⟩,hco,_,hlv⟩:=hp (xN g0 x.2) w as' hfzlt (k2 _ ha).1 (m0::mr)
 obtain⟨r,hfin,hend⟩:=hk d q5
 have hfin:=qE hfin
 cases sc with
 |true=>
  dsimp only at hfin
  obtain⟨z1,z2⟩:=hr.Fs hkept
  have hv:ao P g0 w2 (Hp P rs d) v':=ao.aex (hsc rfl) q4
  have hfz:=hf0.mono (h':=h) z2.mono (sr.refl _ _ _)
  have hcz:=hcr.mono (h':=h) z2.mono (sr.refl _ _ _)
  obtain⟨r1,r2,r3,r4,r5⟩:=Bv z1 hfz (ahD hl h2) h2 hv hfin
  obtain⟨w',fr',v2,g3,h3',n1,n2,n3,n4,n5,n6⟩:=hend c0 g0 w2 lb2 _ mr ⟨r1,ahD (ahD hl h2) r5,r4,hcz.mono r2.mono (r3.lt (ahD hl h2))⟩
  exact⟨w',fr',v2,g3,h3',((show Steps P _ _ from hco).trans (Steps.one (step_leave_returned hlv))).trans n1,n2,n3,.Fv (z2.trans r2) n4,.G1 (z2.trans r2).mono n5,n6⟩
 |false=>
  dsimp only at hfin
  have hph:=(k2 _ ha).2
  obtain⟨y1,y2⟩:=hr.Fm k1
  obtain⟨z1,z2⟩:=y1.Fs hkept
  obtain⟨u1,u2⟩:=z1.grow z2 (fz':=fz') q1 q2 (fun c hc hlt=>q3 c hc hlt) y1.nv
  have hx2:=y2.trans u2
  have hv:ao P {g0 with fz:=fz'} w2 (Hp P rs d) v':=ao.mono (g:=⟨fun _=>none,fz',fun _ _=>none⟩) (g':={g0 with fz:=fz'}) (w:=w2) (w':=w2) ⟨fun b x h=>(by cases h),fun _ h=>h,fun _ _=>rfl,fun _ _ h=>h,fun _ _ _ h=>(by first|exact h|cases h)⟩ _ _ q4
  have hp2:∀lb,sr lb g0 h {g0 with fz:=fz'} (dA h x.2):=fun lb b hb hm hv=>Ps hph lb b hb hm hv
  have hfz:=hf0.mono (h':=dA h x.2) hx2.mono (hp2 _)
  have hcz:=hcr.mono (h':=dA h x.2) hx2.mono (hp2 _)
  have hn:(dA h x.2).next=h.next:=kP h x.2
  obtain⟨r1,r2,r3,r4,r5⟩:=Bv u1 hfz (by rw[hn];exact ahD hl h2) (by rw[hn];exact h2) hv hfin
  have hlb:lb2<=(dA h x.2).next:=by rw[hn];exact ahD hl h2
  obtain⟨w',fr',v2,g3,h3',n1,n2,n3,n4,n5,n6⟩:=hend c0 {g0 with fz:=fz'} w2 lb2 _ mr ⟨r1,ahD hlb r5,r4,hcz.mono r2.mono (r3.lt hlb)⟩
  exact⟨w',fr',v2,g3,h3',((show Steps P _ _ from hco).trans (Steps.one (step_leave_returned hlv))).trans n1,n2,n3,.Fv (hx2.trans r2) n4,.G1 (hx2.trans r2).mono n5,n6⟩
end
end
end
section
noncomputable section
structure Kg where
 rn:Nat->Option Nat
 fm:Nat->Option Nat
mutual
def sZ (φ:Kg):BV->BV
 | .lH=> .lH
 | .bool b=> .bool b
 | .int k n=> .int k n
 | .b8 s=> .b8 s
 | .nA=> .nA
 | .aP b off=>(match φ.rn b with|some c=> .aP c off|none=> .lH)
 | .wq cs=> .wq (kA φ cs)
 | .cX=> .cX
 | .kR=> .kR
 | .bw e l=> .bw e l
 | .Fi e l=> .Fi e l
 | .aZ b n _=>(match φ.rn b with|some c=> .aZ c n true|none=> .lH)
 | .vO b e i off=>(match φ.rn b with|some c=> .vO c e i off|none=> .lH)
 | .oQ b f k off=>(match φ.rn b,φ.fm f with|some c,some f'=> .oQ c f' k off|_,_=> .lH)
 | .LM=> .LM
 | .map b=>(match φ.rn b with|some c=> .map c|none=> .lH)
 | .func fn a c=> .func fn (kA φ a) (kA φ c)
 | .yield l=>(match φ.rn l with|some c=> .yield c|none=> .lH)
 | .agg cs=> .agg (kA φ cs)
 | .tuple vs=> .tuple (kA φ vs)
def kA (φ:Kg):List BV->List BV
 | []=>[]
 |v::vs=>sZ φ v::kA φ vs
end
def qh (φ:Kg):aI->Option aI
 | .cells cs e s=>some (.cells (kA φ cs) e s)
 | .ak e l _=>some (.ak e l true)
 | .bg kt (.data e) l st c=>some (.bg kt (.data e) l st c)
 | .bg kt .IZ l st c=>some (.bg kt .IZ l st c)
 | .bg kt (.bY f e) l st c=>(match φ.fm f with|some f'=>some (.bg kt (.bY f' e) l st c)|none=>none)
 | .gV m ks st ck seen=>(match φ.rn m with|some c=>some (.gV c ks st ck seen)|none=>none)
 | .qQ _ _ _=>none
 | .loop b=>(match φ.rn b.defers with|some c=>some (.loop {b with tmps:=kA φ b.tmps,defers:=c})|none=>none)
 | .deferred none=>some (.deferred none)
 | .deferred (some [])=>some (.deferred (some []))
 | .deferred (some _)=>none
section
variable {P:Program} {g g':Gh} {w:World} {φ:Kg}
structure zD (P:Program)(g g':Gh)(w:World)(φ:Kg):Prop where
 rn:∀b c x,φ.rn b=some c->g.m b=some x->g'.m c=some x
 fz:∀c,g.fz c->g'.fz c
 fm:∀f f' k x,φ.fm f=some f'->g.s f k=some x->g'.s f' k=some x
mutual
def ao.sub (hs:zD P g g' w φ):∀(b:BV) (v:Value),ao P g w b v->ao P g' w (sZ φ b) v
 | .lH,_,_=>by simp[sZ,ao]
 | .bool _,_,h=>by simpa [sZ,ao]using h
 | .int _ _,_,h=>by simpa [sZ,ao]using h
 | .b8 _,_,h=>by simpa [sZ,ao]using h
 | .nA,_,h=>by simpa [sZ,ao]using h
 | .aP b off,v,h=>by
   simp only[sZ]
   cases hb:φ.rn b with
   |none=>simp[ao]
   |some c=>simp only[ao]at h ⊢;obtain⟨aL,az,hm,rfl⟩:=h;exact⟨aL,az,hs.rn _ _ _ hb hm,rfl⟩
 | .wq cs,v,h=>by
   simp only[sZ,ao]at h ⊢;obtain⟨aL,off,rfl,hf,vs,hv,hc⟩:=h
   exact⟨aL,off,rfl,hs.fz _ hf,vs,aq.sub hs cs vs hv,hc⟩
 | .cX,_,h=>by simpa [sZ,ao]using h
 | .kR,_,h=>by simpa [sZ,ao]using h
 | .bw e l,v,h=>by
   simp only[sZ,ao]at h ⊢
   rcases h with h| ⟨aL,off,c,h1,h2,h3⟩
   ·exact .inl h
   ·exact .inr ⟨aL,off,c,h1,h2,h3.mono hs.fz fun _ _=>rfl⟩
 | .Fi e l,v,h=>by
   simp only[sZ,ao]at h ⊢
   rcases h with h| ⟨aL,off,h1,h3⟩
   ·exact .inl h
   ·exact .inr ⟨aL,off,h1,h3.mono hs.fz fun _ _=>rfl⟩
 | .aZ b n vt,v,h=>by
   simp only[sZ]
   cases hb:φ.rn b with
   |none=>simp[ao]
   |some c=>
    simp only[ao]at h ⊢
    rcases h with ⟨⟨_,h0⟩,h⟩| ⟨aL,az,k,hm,h1,h2,h3⟩
    ·exact .inl ⟨⟨trivial,h0⟩,h⟩
    ·exact .inr ⟨aL,az,k,hs.rn _ _ _ hb hm,h1,h2,h3⟩
 | .vO b e i off,v,h=>by
   simp only[sZ]
   cases hb:φ.rn b with
   |none=>simp[ao]
   |some c=>simp only[ao]at h ⊢;obtain⟨aL,az,hm,rfl⟩:=h;exact⟨aL,az,hs.rn _ _ _ hb hm,rfl⟩
 | .oQ b f k off,v,h=>by
   simp only[sZ]
   cases hb:φ.rn b with
   |none=>simp[ao]
   |some c=>
    cases hf:φ.fm f with
    |none=>simp[ao]
    |some f'=>simp only[ao]at h ⊢;obtain⟨aL,az,hm,rfl,y,hy⟩:=h;exact⟨aL,az,hs.fm _ _ _ _ hf hm,rfl,y,hs.rn _ _ _ hb hy⟩
 | .LM,_,h=>by simpa [sZ,ao]using h
 | .map b,v,h=>by
   simp only[ao]at h;obtain⟨aL,hm,rfl⟩:=h
   simp only[sZ]
   cases hb:φ.rn b with
   |none=>simp[ao]
   |some c=>simp only[ao];exact⟨aL,hs.rn _ _ _ hb hm,rfl⟩
 | .func fn a c,v,h=>by
   simp only[sZ,ao]at h ⊢;obtain⟨a',c',rfl,ha,hc⟩:=h
   exact⟨a',c',rfl,aq.sub hs a _ ha,aq.sub hs c _ hc⟩
 | .yield l,v,h=>by
   simp only[sZ]
   cases hb:φ.rn l with
   |none=>simp[ao]
   |some c=>simp only[ao]at h ⊢;obtain⟨aL,hm,rfl⟩:=h;exact⟨aL,hs.rn _ _ _ hb hm,rfl⟩
 | .agg cs,v,h=>by
   simp only[sZ,ao]at h ⊢;obtain⟨vs,rfl,hv⟩:=h;exact⟨vs,rfl,aq.sub hs cs _ hv⟩
 | .tuple cs,v,h=>by
   simp only[sZ,ao]at h ⊢;obtain⟨vs,rfl,hv⟩:=h;exact⟨vs,rfl,aq.sub hs cs _ hv⟩
def aq.sub (hs:zD P g g' w φ):∀(bs:List BV) (vs:List Value),aq P g w bs vs->aq P g' w (kA φ bs) vs
 | [],_,h=>by simpa [kA,aq]using h
 |b::bs,vs,h=>by
  simp only[kA,aq]at h ⊢;obtain⟨v,vr,rfl,hv,hr⟩:=h
  exact⟨v,vr,rfl,ao.sub hs b v hv,aq.sub hs bs vr hr⟩
end
def Hx (φ:Kg):∀(a b:List BV),kA φ (a++b)=kA φ a++kA φ b
 | [],b=>rfl
 |x::a,b=>by simp only[aia,kA,Hx φ a b]
def E9 (φ:Kg){S:TypeId->D->List BV}(hS:∀t d,kA φ (S t d)=S t d):∀(fs:List Field) (i:Nat) (d:D),kA φ (gk S fs i d)=gk S fs i d
 | [],_,_=>rfl
 |f::r,i,d=>by simp only[gk,Hx,hS,E9 φ hS r (i+1) d]
def Hy (φ:Kg):∀(n:Nat) (t:TypeId) (d:D),kA φ (dM P n t d)=dM P n t d:=by
 intro n
 induction n with
 |zero=>intro t d;rfl
 |succ n ih=>
  intro t d
  simp only[dM]
  cases hu:P.underlying t with
  |none=>rfl
  |some td=>cases td<;>first|rfl|exact E9 φ ih _ _ _
def Ra (φ:Kg)(t:TypeId)(d:D):sZ φ (cj P t d)=cj P t d:=by
 unfold cj
 split
 ·simp only[sZ,aK,Hy]
 ·have h:=Hy (P:=P) φ 8 t d
  change kA φ (aK P t d)=aK P t d at h
  split
  ·rename_i v hv
   rw[hv]at h
   simp only[kA,ai6,ahf]at h
   exact h
  ·rfl
def ao.Q9 (hs:zD P g g' w φ){t:TypeId}{d:D}{v:Value}(h:ao P g w (cj P t d) v):ao P g' w (cj P t d) v:=by
 have:=ao.sub hs _ _ h
 rwa [Ra]at this
def tO.sub (hs:zD P g g' w φ){kt:TypeId}{vk vk':VK}{l:List (D×D)}{st:List Nat}{c:Nat}{es:List MapEntry}(h:tO P g w kt vk l st c es)(hv:∀k d v,y5 P g w vk k d v->y5 P g' w vk' k d v):tO P g' w kt vk' l st c es:=
 ⟨h.len,h.sl,fun i p e h1 h2=>ao.Q9 hs (h.key i p e h1 h2),h.born,fun i p e h1 h2=>hv _ _ _ (h.val i p e h1 h2),h.B9,h.nd,h.snd,h.FJ⟩
def cV.sub (hs:zD P g g' w φ){o o':aI}{az:Nat}{co:Obj}(h:cV P g w o az co)(e:qh φ o=some o'):cV P g' w o' az co:=by
 cases o with
 |cells cs el s=>
  simp only[qh,ahi]at e;subst e
  simp only[cV]at h ⊢
  obtain⟨c,lo,hi,rfl,⟨vs,hv,hc⟩,hr⟩:=h
  exact⟨c,lo,hi,rfl,⟨vs,aq.sub hs _ _ hv,hc⟩,hr⟩
 |ak el l vt=>
  simp only[qh,ahi]at e;subst e
  simp only[cV]at h ⊢
  obtain⟨c,rfl,vs,hv,hc⟩:=h
  exact⟨c,rfl,vs,hv.mono hs.fz fun _ _=>rfl,hc⟩
 |bg kt vk l st clock=>
  simp only[cV]at h
  obtain⟨rfl,es,rfl,he⟩:=h
  cases vk with
  |data et=>
   simp only[qh,ahi]at e;subst e
   simp only[cV]
   exact⟨trivial,es,rfl,he.sub hs fun k d v hv=>by unfold y5 at hv ⊢;exact ao.Q9 hs hv⟩
  |IZ=>
   simp only[qh,ahi]at e;subst e
   simp only[cV]
   exact⟨trivial,es,rfl,he.sub hs fun k d v hv=>hv⟩
  |bY f et=>
   simp only[qh]at e
   split at e
   ·rename_i f' hf
    cases e
    simp only[cV]
    exact⟨trivial,es,rfl,he.sub hs fun k d v hv=>by
     unfold y5 at hv ⊢
     obtain⟨x,h1,h2⟩:=hv
     exact⟨x,hs.fm _ _ _ _ hf h1,h2⟩⟩
   ·cases e
 |gV m ks st ck seen=>
  simp only[qh]at e
  split at e
  ·rename_i c hc
   cases e
   simp only[cV]at h ⊢
   obtain⟨rfl,aL,hm,h1,rfl⟩:=h
   exact⟨rfl,aL,hs.rn _ _ _ hc hm,h1,rfl⟩
  ·cases e
 |qQ b f k=>simp only[cV]at h
 |loop b=>
  simp only[qh]at e
  split at e
  ·rename_i c hc
   cases e
   simp only[cV]at h ⊢
   obtain⟨rfl,l,rfl,h1,h2,h3,h4,h5,h6,h7,h8⟩:=h
   exact⟨rfl,l,rfl,h1,h2,h3,aq.sub hs _ _ h4,h5,h6,h7,hs.rn _ _ _ hc h8⟩
  ·cases e
 |deferred ds=>
  cases ds with
  |none=>simp only[qh,ahi]at e;subst e;simpa [cV]using h
  |some ds=>
   cases ds with
   |nil=>simp only[qh,ahi]at e;subst e;simpa [cV,iC]using h
   |cons d ds=>simp[qh]at e
end
def fN:List (Nat×Nat)->Nat->Option Nat
 | [],_=>none
 | (a,b)::r,x=>match Nat.beq a x with|true=>some b|false=>fN r x
def Bh:List (Nat×Nat)->Nat->Option Nat
 | [],_=>none
 | (a,b)::r,x=>match Nat.beq b x with|true=>some a|false=>Bh r x
def SB:List Nat->Nat->Bool
 | [],_=>false
 |x::r,n=>match Nat.beq x n with|true=>true|false=>SB r n
def EC (φ:Kg)(h:aj):List (Nat×Nat)->Option (List (Nat×aI))
 | []=>some []
 | (a,b)::r=>match h.get a with
   |some o=>(match qh φ o with|some o'=>(match EC φ h r with|some l=>some ((b,o')::l)|none=>none)|none=>none)
   |none=>none
def yR (n0 top:Nat)(D0:List Nat):List (Nat×Nat)->List (Nat×Nat)->Bool
 |_,[]=>true
 |seen,(a,b)::r=>Nat.ble n0 a&&Nat.ble n0 b&&Nat.blt b top&&!(SB D0 a)&&(fN seen a).isNone&&(Bh seen b).isNone&&yR n0 top D0 ((a,b)::seen) r
def Fu:List (Nat×aI)->List Nat
 | []=>[]
 | (a,_)::r=>a::Fu r
def KU:∀(l:List (Nat×aI)),Fu l=l.map (·.1):=by
 intro l
 induction l with
 |nil=>rfl
 |cons p r ih=>obtain⟨a,b⟩:=p;simp[Fu,ih]
section
variable {P:Program} {g g':Gh} {w:World} {φ:Kg}
def jv {a b:Nat}:∀{l:List (Nat×Nat)},fN l a=some b->(a,b)∈l:=by
 intro l
 induction l with
 |nil=>intro e;simp[fN]at e
 |cons p r ih=>
  obtain⟨x,y⟩:=p
  intro e
  simp only[fN]at e
  split at e
  ·rename_i h;cases e;rw[ahh h];exact ahT
  ·exact ahB _ (ih e)
def lG {a b:Nat}:∀{l:List (Nat×Nat)},Bh l b=some a->(a,b)∈l:=by
 intro l
 induction l with
 |nil=>intro e;simp[Bh]at e
 |cons p r ih=>
  obtain⟨x,y⟩:=p
  intro e
  simp only[Bh]at e
  split at e
  ·rename_i h;cases e;rw[ahh h];exact ahT
  ·exact ahB _ (ih e)
def Cq {a:Nat}:∀{l:List (Nat×Nat)},fN l a=none->∀q∈l,q.1≠a:=by
 intro l
 induction l with
 |nil=>intro _ q hq;cases hq
 |cons p r ih=>
  obtain⟨x,y⟩:=p
  intro e q hq
  simp only[fN]at e
  split at e
  ·cases e
  ·rename_i h
   rcases ag9.1 hq with rfl|hq
   ·intro hxa;dsimp only at hxa;subst hxa;rw[akI]at h;cases h
   ·exact ih e q hq
def Ii {b:Nat}:∀{l:List (Nat×Nat)},Bh l b=none->∀q∈l,q.2≠b:=by
 intro l
 induction l with
 |nil=>intro _ q hq;cases hq
 |cons p r ih=>
  obtain⟨x,y⟩:=p
  intro e q hq
  simp only[Bh]at e
  split at e
  ·cases e
  ·rename_i h
   rcases ag9.1 hq with rfl|hq
   ·intro hxa;dsimp only at hxa;subst hxa;rw[akI]at h;cases h
   ·exact ih e q hq
def xH {n0 top:Nat}{D0:List Nat}:∀{l seen:List (Nat×Nat)},yR n0 top D0 seen l=true->
 (∀p∈l,n0<=p.1/\n0<=p.2/\p.2<top/\SB D0 p.1=false)/\(∀p∈l,∀q∈seen,q.1≠p.1/\q.2≠p.2)/\l.Pairwise fun p q=>p.1≠q.1/\p.2≠q.2:=by
 intro l
 induction l with
 |nil=>intro seen _;exact⟨by simp,by simp,List.Pairwise.nil⟩
 |cons p r ih=>
  obtain⟨a,b⟩:=p
  intro seen e
  simp only[yR,ag2,Option.isNone_iff_eq_none,ahl]at e
  obtain⟨⟨⟨⟨⟨⟨h1,h2⟩,h3⟩,h4⟩,h5⟩,h6⟩,h7⟩:=e
  obtain⟨i1,i2,i3⟩:=ih h7
  refine⟨fun p hp=>?_,fun p hp q hq=>?_,List.Pairwise.cons (fun q hq=>?_) i3⟩
  ·rcases ag9.1 hp with rfl|hp
   ·exact⟨aja h1,aja h2,by simpa [ai5]using h3,h4⟩
   ·exact i1 p hp
  ·rcases ag9.1 hp with rfl|hp
   ·exact⟨Cq h5 q hq,Ii h6 q hq⟩
   ·exact i2 p hp q (ahB _ hq)
  ·have:=i2 q hq (a,b) ahT
   exact this
def Ho {l:List (Nat×Nat)}(h:l.Pairwise fun p q=>p.1≠q.1/\p.2≠q.2){a b c:Nat}(h1:(a,b)∈l)(h2:(a,c)∈l):b=c:=by
 induction l with
 |nil=>cases h1
 |cons p r ih=>
  rw[aio]at h
  rcases ag9.1 h1 with h1|h1<;>rcases ag9.1 h2 with h2|h2
  ·rw[<-h1]at h2;cases h2;rfl
  ·have:=h.1 _ h2;rw[<-h1]at this;exact absurd rfl this.1
  ·have:=h.1 _ h1;rw[<-h2]at this;exact absurd rfl this.1
  ·exact ih h.2 h1 h2
def OG {l:List (Nat×Nat)}(h:l.Pairwise fun p q=>p.1≠q.1/\p.2≠q.2){a b c:Nat}(h1:(a,c)∈l)(h2:(b,c)∈l):a=b:=by
 induction l with
 |nil=>cases h1
 |cons p r ih=>
  rw[aio]at h
  rcases ag9.1 h1 with h1|h1<;>rcases ag9.1 h2 with h2|h2
  ·rw[<-h1]at h2;cases h2;rfl
  ·have:=h.1 _ h2;rw[<-h1]at this;exact absurd rfl this.2
  ·have:=h.1 _ h1;rw[<-h2]at this;exact absurd rfl this.2
  ·exact ih h.2 h1 h2
def abx {l:List (Nat×Nat)}(h:l.Pairwise fun p q=>p.1≠q.1/\p.2≠q.2){a b:Nat}(h1:(a,b)∈l):Bh l b=some a:=by
 cases e:Bh l b with
 |none=>exact absurd rfl (Ii e _ h1)
 |some c=>rw[OG h h1 (lG e)]
def KY {h:aj}:∀{ps:List (Nat×Nat)} {L:List (Nat×aI)},EC φ h ps=some L->
 Fu L=ps.map (·.2)/\∀c o',(c,o')∈L->∃b o,(b,c)∈ps/\h.get b=some o/\qh φ o=some o':=by
 intro ps
 induction ps with
 |nil=>intro L e;simp[EC]at e;subst e;exact⟨rfl,by simp⟩
 |cons p r ih=>
  obtain⟨a,b⟩:=p
  intro L e
  simp only[EC]at e
  split at e
  ·rename_i o ho
   split at e
   ·rename_i o1 ho1
    split at e
    ·rename_i l hl
     cases e
     obtain⟨i1,i2⟩:=ih hl
     refine⟨by simp[Fu,i1],fun c o' hc=>?_⟩
     rcases ag9.1 hc with hc|hc
     ·cases hc;exact⟨a,o,ahT,ho,ho1⟩
     ·obtain⟨b',o2,j1,j2,j3⟩:=i2 c o' hc
      exact⟨b',o2,ahB _ j1,j2,j3⟩
    ·cases e
   ·cases e
  ·cases e
def YG {c:Nat}{o:aI}:∀(l:List (Nat×aI)) (t:Tr aI),Tr.get (LL l t) c=some o->(c,o)∈l\/Tr.get t c=some o:=by
 intro l
 induction l with
 |nil=>intro t h;exact .inr h
 |cons p r ih=>
  obtain⟨a,x⟩:=p
  intro t h
  simp only[LL]at h
  rcases ih _ h with h1|h1
  ·exact .inl (ahB _ h1)
  ·rw[Tr.Bb _ _ _ _ _ (by omega)]at h1
   split at h1
   ·rename_i hca;subst hca;cases h1;exact .inl ahT
   ·exact .inr h1
def SD {c:Nat}:∀(l:List (Nat×aI)) (t:Tr aI),(∀p∈l,p.1≠c)->Tr.get (LL l t) c=Tr.get t c:=by
 intro l
 induction l with
 |nil=>intro t _;rfl
 |cons p r ih=>
  obtain⟨a,x⟩:=p
  intro t h
  simp only[LL]
  rw[ih _ fun p hp=>h p (ahB _ hp),Tr.Bb _ _ _ _ _ (by omega),ag4 (fun e=>h (a,x) ahT e.symm)]
end
end
end
end Go.PB
end
