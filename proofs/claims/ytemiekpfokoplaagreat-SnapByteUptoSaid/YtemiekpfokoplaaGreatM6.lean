import Derived.Test.YtemiekpfokoplaaGreatM5
set_option linter.all false
noncomputable section
namespace Go.PB
open Go
section
noncomputable section
def wW (g:Gh)(bs:List Nat)(c:Nat):Prop:=g.fz c\/∃b∈bs,∃au,g.m b=some (c,au)
def R9 (F:TypeId->List BV->T (D×List BV×List Nat)):List Field->List BV->T (List D×List BV×List Nat)
 | [],cs=> .ret ([],cs,[])
 |f::r,cs=>(F f.type cs).bind fun x=>(R9 F r x.2.1).bind fun y=> .ret (x.1::y.1,y.2.1,x.2.2++y.2.2)
def Tf (P:Program)(h:af):Nat->TypeId->List BV->T (D×List BV×List Nat)
 |0,_,_=> .bq
 |n+1,t,cs=>
  match P.underlying t with
  |some (.int k)=>(match cs with| .int k' m::r=>if k=k' then .ret (.z m,r,[])else .bq|_=> .bq)
  |some .bool=>(match cs with| .bool b::r=> .ret (.b b,r,[])|_=> .bq)
  |some .string=>(match cs with| .bj s::r=> .ret (.s s,r,[])|_=> .bq)
  |some (.slice e)=>(match cs with
   | .bC e' l::r=>if Nat.beq e e' then .ret (.r l,r,[])else .bq
   | .DO e' l::r=>if Nat.beq e e' then .ret (.r l,r,[])else .bq
   | .bJ::r=> .ret (.r [],r,[])
   | .ku::r=> .ret (.r [],r,[])
   | .aV b n vt::r=>(match h.get b with|some (.an e' l vt')=>if Nat.beq e e'&&(vt==vt')then .ite (decide (n=l.length)) (.ret (.r l,r,[b])) .bq else .bq|_=> .bq)
   |_=> .bq)
  |some (.struct fs)=>(R9 (Tf P h n) fs.toList cs).bind fun x=> .ret (.r x.1,x.2.1,x.2.2)
  |_=> .bq
def Zq (P:Program)(h:af)(t:TypeId)(cs:List BV):T (D×List Nat):=(Tf P h 8 t cs).bind fun x=>match x.2.1 with| []=> .ret (x.1,x.2.2)|_=> .bq
def Qq (P:Program)(h:af)(t:TypeId)(v:BV):T (D×List Nat):=
 match cy P t,hY P t with
 |true,some true=>(match v with| .agg cs=>Zq P h t cs|_=> .bq)
 |true,some false=>Zq P h t [v]
 |_,_=> .bq
def Hp (P:Program)(h:af):List TypeId->List BV->T (List D×List Nat)
 | [],[]=> .ret ([],[])
 |t::ts,v::vs=>(Qq P h t v).bind fun x=>(Hp P h ts vs).bind fun y=> .ret (x.1::y.1,x.2++y.2)
 |_,_=> .bq
def wX (P:Program):List TypeId->List D->List BV
 |t::ts,d::ds=>ch P t d::wX P ts ds
 |_,_=>[]
def NH:List TypeId->Nat->D->List D
 | [],_,_=>[]
 |_::ts,i,d=>d.ae i::NH ts (i+1) d
def V0 {l:List D}:∀(ts:List TypeId) (i:Nat),i+ts.length=l.length->NH ts i (.r l)=l.drop i:=by
 intro ts
 induction ts with
 |nil=>intro i h;simp at h;simp[NH,h]
 |cons t ts ih=>
  intro i h
  simp only[ae9]at h
  have hi:i<l.length:=by omega
  simp only[NH]
  rw[ih (i+1) (by omega),ag8 hi]
  simp[D.ae,D.aa,D.at,List.getD,aeY hi]
def FZ (P:Program)(ts:List TypeId)(d:D):BV:=
 match ts with
 | [t]=>ch P t d
 |ts=> .tuple (wX P ts (NH ts 0 d))
def CM (P:Program)(t:TypeId):Bool:=
 match P.underlying t with
 |some (.int _)=>true
 |some .bool=>true
 |some .string=>true
 |_=>false
def Zs (P:Program)(h:af)(ts:List TypeId)(v:BV):T (D×List Nat):=
 match ts with
 | [t]=>Qq P h t v
 |ts=>(match v with| .tuple vs=>(Hp P h ts vs).bind fun x=> .ret (.r x.1,x.2)|_=> .bq)
section
variable {P:Program} {g g':Gh} {h h':af} {w w':World}
def BE {bs bs':List Nat}(hs:∀b∈bs,b∈bs')(c:Nat)(h:wW g bs c):wW g bs' c:=by
 rcases h with h| ⟨b,hb,au,hm⟩
 ·exact .inl h
 ·exact .inr ⟨b,hs b hb,au,hm⟩
def Kg (g:Gh)(h:af)(bs:List Nat):Prop:=∀b∈bs,g.m b=none->rC (h.get b)=true
def Kg.nil:Kg g h []:=fun b hb=>by simp at hb
def Kg.append {as bs:List Nat}(a:Kg g h as)(b:Kg g h bs):Kg g h (as++bs):=fun x hx=>by
 rcases afp.1 hx with hx|hx
 ·exact a x hx
 ·exact b x hx
structure Frz (P:Program)(g:Gh)(h:af)(w:World)(t:TypeId)(cs:List BV)(d:D)(r:List BV)(bs:List Nat):Prop where
 get:∀b∈bs,∃o,h.get b=some o/\o.gH=some o
 Ln:∃c1,cs=c1++r/\∀vs,ak P g w c1 vs->mW P (wW g bs) w t d vs/\Kg g h bs
def mW.up {bs bs':List Nat}{t:TypeId}{d:D}{vs:List Value}(hs:∀b∈bs,b∈bs')(hd:mW P (wW g bs) w t d vs):mW P (wW g bs') w t d vs:=
 hd.mono (fun c=>BE hs c) fun _ _=>rfl
def cD.up {bs:List Nat}{t:TypeId}{l:List D}{vs:List Value}(hd:cD P g.fz w t l vs):cD P (wW g bs) w t l vs:=
 hd.mono (fun _ hc=> .inl hc) fun _ _=>rfl
def ab7 {n:Nat}(ih:∀{t:TypeId} {cs:List BV} {x:D×List BV×List Nat},T.dm x (Tf P h n t cs)->Frz P g h w t cs x.1 x.2.1 x.2.2):
 ∀(fs:List Field) {cs:List BV} {x:List D×List BV×List Nat},T.dm x (R9 (Tf P h n) fs cs)->(∀b∈x.2.2,∃o,h.get b=some o/\o.gH=some o)/\∃cc:List (List BV),cs=cc.flatten++x.2.1/\cc.length=fs.length/\
  (∀j f c,fs[j]?=some f->cc[j]?=some c->∀vs,ak P g w c vs->mW P (wW g x.2.2) w f.type (D.at x.1 j) vs)/\∀vs,ak P g w cc.flatten vs->Kg g h x.2.2:=by
 intro fs
 induction fs with
 |nil=>intro cs x e;rw[<-T.aS e];exact⟨fun b hb=>by simp at hb,[],by simp,rfl,fun j f c hj=>by simp at hj,fun _ _=>Kg.nil⟩
 |cons f fr ihr=>
  intro cs x e
  simp only[R9]at e
  obtain⟨x1,e1,e⟩:=T.bx e
  obtain⟨x2,e2,e⟩:=T.bx e
  rw[<-T.aS e]
  obtain⟨g1,c1,k1,k2⟩:=ih e1
  obtain⟨g2,cc,m1,m2,m3,m4⟩:=ihr e2
  refine⟨fun b hb=>?_,c1::cc,by rw[k1,m1];simp,by simp[m2],fun j f' c hj hc vs hv=>?_,fun vs hv=>?_⟩
  ·rcases afp.1 hb with hb|hb
   ·exact g1 b hb
   ·exact g2 b hb
  ·cases j with
   |zero=>simp at hj hc;subst hj;subst hc;exact(k2 vs hv).1.up fun b hb=>agE _ hb
   |succ j=>exact(m3 j f' c (by simpa using hj) (by simpa using hc) vs hv).up fun b hb=>agC _ hb
  ·rw[ahn]at hv
   obtain⟨us,xs,rfl,h1,h2⟩:=hv.F9
   exact(k2 us h1).2.append (m4 xs h2)
def Zt (hr:aR P g h w):∀(n:Nat) {t:TypeId} {cs:List BV} {x:D×List BV×List Nat},T.dm x (Tf P h n t cs)->Frz P g h w t cs x.1 x.2.1 x.2.2:=by
 intro n
 induction n with
 |zero=>intro t cs x e;exact(T.aH e).elim
 |succ n ih=>
  intro t cs x e
  simp only[Tf]at e
  cases hu:P.underlying t with
  |none=>simp only[hu]at e;exact(T.aH e).elim
  |some td=>
   simp only[hu]at e
   have one:∀{v:BV} {r:List BV} {d:D},(∀v',ai P g w v v'->mW P (wW g []) w t d [v'])->Frz P g h w t (v::r) d r []:=fun {v r d} hv=>
    ⟨fun b hb=>by simp at hb,[v],rfl,fun vs hvs=>by obtain⟨v',rfl,h1⟩:=hvs.one;exact⟨hv v' h1,Kg.nil⟩⟩
   cases td with
   |int k=>
    simp only at e
    split at e
    ·split at e
     ·rename_i hk;subst hk;rw[<-T.aS e]
      exact one fun v' hv=>by simp only[ai]at hv;subst hv;exact .int (d:= .z _) hu
     ·exact(T.aH e).elim
    ·exact(T.aH e).elim
   |bool=>
    simp only at e
    split at e
    ·rw[<-T.aS e]
     exact one fun v' hv=>by simp only[ai]at hv;subst hv;exact .bool (d:= .b _) hu
    ·exact(T.aH e).elim
   |string=>
    simp only at e
    split at e
    ·rw[<-T.aS e]
     exact one fun v' hv=>by simp only[ai]at hv;subst hv;exact .bj (d:= .s _) hu
    ·exact(T.aH e).elim
   |slice el=>
    simp only at e
    have bC:∀{l:List D} {v':Value},ai P g w (.bC el l) v'->mW P (wW g []) w t (.r l) [v']:=fun {l v'} hv=>by
     simp only[ai]at hv
     rcases hv with ⟨h0,rfl| ⟨a,c,rfl⟩⟩| ⟨aA,off,c,rfl,hc,hb,vs,hrv,hat⟩
     ·exact .bJ (d:= .r l) hu h0
     ·exact .empty (d:= .r l) hu h0 a c
     ·exact .slice (d:= .r l) hu aA off c vs (.inl hb) hc hrv.1 (hrv.up (bs:=[])).2 hat
    split at e
    ·split at e
     ·rename_i he;have he:=ae8 he;subst he;rw[<-T.aS e];exact one fun v' hv=>bC hv
     ·exact(T.aH e).elim
    ·split at e
     ·rename_i he;have he:=ae8 he;subst he;rw[<-T.aS e];exact one fun v' hv=>bC hv.LV
     ·exact(T.aH e).elim
    ·rw[<-T.aS e];exact one fun v' hv=>by simp only[ai]at hv;subst hv;exact .bJ (d:= .r []) hu rfl
    ·rw[<-T.aS e];exact one fun v' hv=>by simp only[ai]at hv;obtain⟨a,c,rfl⟩:=hv;exact .empty (d:= .r []) hu rfl a c
    ·rename_i b n vt r
     split at e
     ·rename_i e' l vt' hb
      split at e
      ·rename_i he
       simp only[aeV,afv]at he
       obtain⟨he,hvt⟩:=he
       have he:=ae8 he
       subst he
       obtain⟨h1,h2⟩:=T.fw e
       have h1:=agc h1
       subst h1
       rw[<-T.aS h2]
       refine⟨fun b' hb'=>by simp at hb';subst hb';exact⟨_,hb,rfl⟩,[.aV b l.length vt],rfl,fun vs hvs=>?_⟩
       obtain⟨v',rfl,hv⟩:=hvs.one
       simp only[ai]at hv
       have hvirt:vt=true->Kg g h [b]:=fun h1 b1 hb1 _=>by simp at hb1;subst hb1;rw[hb];subst hvt;exact h1
       rcases hv with ⟨⟨hv1,h0⟩,rfl| ⟨a,rfl⟩⟩| ⟨aA,au,c,hm,rfl,hc,_⟩
       ·exact⟨.bJ (d:= .r l) hu (afr.1 h0),hvirt hv1⟩
       ·exact⟨.empty (d:= .r l) hu (afr.1 h0) a 0,hvirt hv1⟩
       ·obtain⟨cc,ws,_,hw,hrv,_,hat,_⟩:=hr.an hb hm
        exact⟨.slice (d:= .r l) hu aA au c ws (.inr ⟨b,by simp,au,hm⟩) hc hrv.1 (hrv.up (bs:=[b])).2 hat,fun b1 hb1 hn=>by simp at hb1;subst hb1;rw[hm]at hn;cases hn⟩
      ·exact(T.aH e).elim
     ·exact(T.aH e).elim
    ·exact(T.aH e).elim
   |struct fs=>
    simp only at e
    obtain⟨x1,e1,e⟩:=T.bx e
    rw[<-T.aS e]
    obtain⟨k0,cc,k1,k2,k3,k4⟩:=ab7 ih _ e1
    refine⟨k0,cc.flatten,k1,fun vs hv=>?_⟩
    have hph:=k4 vs hv
    obtain⟨vv,rfl,m1,m2⟩:=hv.Ls
    refine⟨?_,hph⟩
    refine .struct (d:= .r x1.1) hu vv (m1.trans k2) fun j f c hj hc=>?_
    have hjlt:j<cc.length:=by rw[<-m1];exact(ae1.1 hc).1
    exact k3 j f _ hj (aeY hjlt) c (m2 j _ c (aeY hjlt) hc)
   |_=>exact(T.aH e).elim
def NL (hr:aR P g h w){t:TypeId}{cs:List BV}{x:D×List Nat}(e:T.dm x (Zq P h t cs)):(∀b∈x.2,∃o,h.get b=some o/\o.gH=some o)/\∀vs,ak P g w cs vs->mW P (wW g x.2) w t x.1 vs/\Kg g h x.2:=by
 unfold Zq at e
 obtain⟨y,e1,e⟩:=T.bx e
 obtain⟨k1,c1,k2,k3⟩:=Zt hr 8 e1
 split at e
 ·rename_i hn
  rw[<-T.aS e]
  rw[hn,afU]at k2
  subst k2
  exact⟨k1,k3⟩
 ·exact(T.aH e).elim
def U6 (P:Program)(fz:Nat->Prop)(w:World)(t:TypeId)(d:D)(v:Value):Prop:=ai P ⟨fun _=>none,fz,fun _ _=>none⟩ w (ch P t d) v
def BD (hr:aR P g h w){t:TypeId}{v:BV}{x:D×List Nat}(e:T.dm x (Qq P h t v)):(∀b∈x.2,∃o,h.get b=some o/\o.gH=some o)/\∀v',ai P g w v v'->U6 P (wW g x.2) w t x.1 v'/\Kg g h x.2:=by
 unfold Qq at e
 split at e
 ·rename_i hd ha
  split at e
  ·rename_i cs
   obtain⟨k1,k2⟩:=NL hr e
   refine⟨k1,fun v' hv=>?_⟩
   simp only[ai]at hv
   obtain⟨vs,rfl,hv⟩:=hv
   refine⟨?_,(k2 _ hv).2⟩
   simp only[U6,ch,ha,ai]
   exact⟨vs,rfl,mW.shape (g:=⟨fun _=>none,wW g x.2,fun _ _=>none⟩) hd (k2 _ hv).1⟩
  ·exact(T.aH e).elim
 ·rename_i hd ha
  obtain⟨k1,k2⟩:=NL hr e
  refine⟨k1,fun v' hv=>?_⟩
  have hk:=k2 [v'] (ak.cons hv ak.nil)
  have:=mW.shape (g:=⟨fun _=>none,wW g x.2,fun _ _=>none⟩) hd hk.1
  refine⟨?_,hk.2⟩
  simp only[U6,ch,ha]
  split
  ·rename_i y hy
   rw[hy]at this
   obtain⟨u,hu,h1⟩:=this.one
   cases hu;exact h1
  ·rename_i hno
   simp only[ai]
 ·exact(T.aH e).elim
def K7 (hr:aR P g h w):∀{ts:List TypeId} {vs:List BV} {x:List D×List Nat},T.dm x (Hp P h ts vs)->(∀b∈x.2,∃o,h.get b=some o/\o.gH=some o)/\∀vs',ak P g w vs vs'->ak P ⟨fun _=>none,wW g x.2,fun _ _=>none⟩ w (wX P ts x.1) vs'/\Kg g h x.2:=by
 intro ts
 induction ts with
 |nil=>
  intro vs x e
  cases vs with
  |nil=>rw[<-T.aS e];exact⟨fun b hb=>by simp at hb,fun vs' hv=>⟨by simpa [wX,ak]using hv,Kg.nil⟩⟩
  |cons v vs=>exact(T.aH e).elim
 |cons t ts ih=>
  intro vs x e
  cases vs with
  |nil=>exact(T.aH e).elim
  |cons v vs=>
   simp only[Hp]at e
   obtain⟨x1,e1,e⟩:=T.bx e
   obtain⟨x2,e2,e⟩:=T.bx e
   rw[<-T.aS e]
   obtain⟨k1,k2⟩:=BD hr e1
   obtain⟨m1,m2⟩:=ih e2
   refine⟨fun b hb=>?_,fun vs' hv=>?_⟩
   ·rcases afp.1 hb with hb|hb
    ·exact k1 b hb
    ·exact m1 b hb
   ·simp only[ak]at hv
    obtain⟨u,ur,rfl,h1,h2⟩:=hv
    refine⟨?_,(k2 u h1).2.append (m2 ur h2).2⟩
    simp only[wX]
    refine ak.cons ?_ ?_
    ·exact ai.mono (g:=⟨fun _=>none,wW g x1.2,fun _ _=>none⟩) (w:=w) ⟨fun b x h=>(by cases h),fun c=>BE (fun b hb=>agE _ hb) c,fun _ _=>rfl,fun _ _ h=>h,fun _ _ _ h=>(by first|exact h|cases h)⟩ _ _ (k2 u h1).1
    ·exact ak.mono (g:=⟨fun _=>none,wW g x2.2,fun _ _=>none⟩) (w:=w) ⟨fun b x h=>(by cases h),fun c=>BE (fun b hb=>agC _ hb) c,fun _ _=>rfl,fun _ _ h=>h,fun _ _ _ h=>(by first|exact h|cases h)⟩ _ _ (m2 ur h2).1
def L8:∀{ts:List TypeId} {vs:List BV} {x:List D×List Nat},T.dm x (Hp P h ts vs)->x.1.length=ts.length:=by
 intro ts
 induction ts with
 |nil=>
  intro vs x e
  cases vs with
  |nil=>rw[<-T.aS e];rfl
  |cons v vs=>exact(T.aH e).elim
 |cons t ts ih=>
  intro vs x e
  cases vs with
  |nil=>exact(T.aH e).elim
  |cons v vs=>
   simp only[Hp]at e
   obtain⟨x1,e1,e⟩:=T.bx e
   obtain⟨x2,e2,e⟩:=T.bx e
   rw[<-T.aS e]
   simp[ih e2]
def V7 (hr:aR P g h w){ts:List TypeId}{v:BV}{x:D×List Nat}(e:T.dm x (Zs P h ts v)):(∀b∈x.2,∃o,h.get b=some o/\o.gH=some o)/\∀v',ai P g w v v'->ai P ⟨fun _=>none,wW g x.2,fun _ _=>none⟩ w (FZ P ts x.1) v'/\Kg g h x.2:=by
 unfold Zs at e
 split at e
 ·exact BD hr e
 ·rename_i Ju
  split at e
  ·rename_i vs
   obtain⟨y,e1,e⟩:=T.bx e
   rw[<-T.aS e]
   obtain⟨k1,k2⟩:=K7 hr e1
   refine⟨k1,fun v' hv=>?_⟩
   simp only[ai]at hv
   obtain⟨us,rfl,hv⟩:=hv
   have:FZ P ts (D.r y.1)= .tuple (wX P ts y.1):=by
    unfold FZ
    split
    ·rename_i t;exact absurd rfl (Ju t)
    ·rw[V0 ts 0 (by rw[afT];exact(L8 e1).symm)];rfl
   rw[this]
   refine⟨?_,(k2 _ hv).2⟩
   simp only[ai]
   exact⟨us,rfl,(k2 _ hv).1⟩
  ·exact(T.aH e).elim
def dB (h:af):List Nat->af
 | []=>h
 |b::r=>(dB h r).put b none
def yQ (h:af):∀(bs:List Nat) (b:Nat),(dB h bs).get b=if b∈bs then none else h.get b:=by
 intro bs
 induction bs with
 |nil=>intro b;simp[dB]
 |cons x r ih=>
  intro b
  simp only[dB,af.fe,ih]
  by_cases hb:b=x
  ·simp[hb]
  ·simp[hb]
def kq (h:af):∀bs:List Nat,(dB h bs).next=h.next:=by
 intro bs
 induction bs with
 |nil=>rfl
 |cons x r ih=>simp[dB,ih]
def Nw {bs:List Nat}(hp:Kg g h bs)(lb:Nat):rJ lb g h {g with fz:=wW g bs} (dB h bs):=fun b _ hm hv=>⟨hm,by
 rw[yQ,aeX]
 intro hb;rw[hp b hb hm]at hv;cases hv⟩
def aR.grow {w2:World}(hr:aR P g h w2)(hx:gN g h w g h w2){fz':Nat->Prop}(hf:∀c,g.fz c->fz' c)(hlt:∀c,fz' c->c<w2.heap.size)(hn:∀c,fz' c->c<w.heap.size->g.fz c)
 (himg:∀l aA au,g.at l=some (aA,au)->aA<w.heap.size):aR P {g with fz:=fz'} h w2/\gN g h w {g with fz:=fz'} h w2:=by
 have hmono:eA g w2 {g with fz:=fz'} w2:=⟨fun _ _ e=>e,hf,fun _ _=>rfl,fun _ _ e=>e,fun _ _ _ e=>e⟩
 have hat:∀l,({g with fz:=fz'}:Gh).at l=g.at l:=fun l=>by cases l<;>rfl
 have hnm:HU {g with fz:=fz'} h:=⟨hr.HY,hr.lt,hr.Eh,hr.AE,hr.fu,hr.sk,hr.al⟩
 refine⟨hnm.Ln (fun l x y e=>hr.mR l x y (hat l▸e)) (fun l l' aA au base' o o' h1 h2 m1 m2=>hr.mS l l' aA au base' o o' h1 h2 (hat l▸m1) (hat l'▸m2)) ?_ hlt,⟨⟨fun _ _ e=>e,hf,hx.mono.mc,hx.mono.ms,fun _ _ _ e=>e⟩,hx.size,hx.AV,fun c hc ho=>(by
  obtain⟨l,o,au,h1,m1⟩:=ho
  exact⟨l,o,au,h1,hat l▸m1⟩),fun c hc h1=> .inl (hn c h1 hc),afa _,hx.os⟩⟩
 intro l o aA au h1 m1
 rw[hat]at m1
 obtain⟨n1,o',ho,hr'⟩:=hr.pZ l o aA au h1 m1
 exact⟨fun h2=>n1 (hn _ h2 (himg _ _ _ m1)),o',ho,hr'.mono hmono⟩
def ai.SD {fz:Nat->Prop}{t:TypeId}{d:D}{v:Value}(hs:CM P t=true)(hv:ai P ⟨fun _=>none,fz,fun _ _=>none⟩ w (ch P t d) v):ai P g w (ch P t d) v:=by
 unfold CM at hs
 cases hu:P.underlying t with
 |none=>simp[hu]at hs
 |some td=>
  simp only[hu]at hs
  cases td<;>simp at hs
  all_goals
   simp only[ch,hY,hu,afb,aK,dw]at hv ⊢
   simpa [ai]using hv
def ai.aau {fz:Nat->Prop}:∀{ts:List TypeId} {ds:List D} {vs:List Value},ts.all (CM P)=true->ak P ⟨fun _=>none,fz,fun _ _=>none⟩ w (wX P ts ds) vs->ak P g w (wX P ts ds) vs:=by
 intro ts
 induction ts with
 |nil=>intro ds vs _ hv;simpa [wX,ak]using hv
 |cons t ts ih=>
  intro ds vs hs hv
  simp only[List.all_cons,aeV]at hs
  cases ds with
  |nil=>simpa [wX,ak]using hv
  |cons d ds=>
   simp only[wX,ak]at hv ⊢
   obtain⟨u,ur,rfl,h1,h2⟩:=hv
   exact⟨u,ur,rfl,h1.SD hs.1,ih hs.2 h2⟩
def ai.acu {fz:Nat->Prop}{ts:List TypeId}{d:D}{v:Value}(hs:ts.all (CM P)=true)(hv:ai P ⟨fun _=>none,fz,fun _ _=>none⟩ w (FZ P ts d) v):ai P g w (FZ P ts d) v:=by
 unfold FZ at hv ⊢
 split at hv
 ·exact hv.SD (by simpa using hs)
 ·simp only[ai]at hv ⊢
  obtain⟨vs,rfl,hv⟩:=hv
  exact⟨vs,rfl,ai.aau hs hv⟩
def aR.freeze (hr:aR P g h w){bs:List Nat}(hb:∀b∈bs,∃o,h.get b=some o/\o.gH=some o):aR P {g with fz:=wW g bs} (dB h bs) w/\gN g h w {g with fz:=wW g bs} (dB h bs) w:=by
 have hmono:eA g w {g with fz:=wW g bs} w:=⟨fun _ _ e=>e,fun _ e=> .inl e,fun _ _=>rfl,fun _ _ e=>e,fun _ _ _ e=>e⟩
 have hget:∀b o,(dB h bs).get b=some o->b∉bs/\h.get b=some o:=fun b o e=>by
  rw[yQ]at e
  split at e
  ·cases e
  ·rename_i hn;exact⟨hn,e⟩
 have hgat:∀l,({g with fz:=wW g bs}:Gh).at l=g.at l:=fun l=>by cases l<;>rfl
 have hat:∀l o,(dB h bs).at l=some o->h.at l=some o/\∀b∈bs,l≠ .aA b:=fun l o e=>by
  cases l with
  |aA b=>
   obtain⟨e1,e2⟩:=af.wa e
   obtain⟨h1,h2⟩:=hget _ _ e1
   exact⟨af.fJ h2 e2,fun b' hb' e=>by cases e;exact h1 hb'⟩
  |el b f k=>
   obtain⟨y,e1,e2⟩:=af.I5 e
   exact⟨af.Az (hget _ _ e1).2 e2,fun b' hb' e=>by cases e⟩
 have hnm:HU {g with fz:=wW g bs} (dB h bs):=⟨fun b o e=>by rw[kq];exact hr.HY b o (hget b o e).2,fun b x e=>by rw[kq];exact hr.lt b x e,fun f k x e=>by rw[kq];exact hr.Eh f k x e,
  fun b o f e1 e2=>by rw[kq];exact hr.AE b o f (hget _ _ e1).2 e2,fun b b' o o' f e1 e2=>hr.fu b b' o o' f (hget _ _ e1).2 (hget _ _ e2).2,fun b o f k x e1=>hr.sk b o f k x (hget _ _ e1).2,fun b b' f k e1=>hr.al b b' f k (hget _ _ e1).2⟩
 refine⟨hnm.Ln (fun l x y e=>hr.mR l x y (hgat l▸e)) ?_ ?_ ?_,⟨hmono,afa _,fun _ _ _=>rfl,?_,?_,by rw[kq];exact afa _,⟨rfl,rfl,rfl⟩⟩⟩
 ·intro l l' aA au base' o o' h1 h2 m1 m2
  exact hr.mS l l' aA au base' o o' (hat _ _ h1).1 (hat _ _ h2).1 (hgat l▸m1) (hgat l'▸m2)
 ·intro l o aA au h1 m1
  rw[hgat]at m1
  obtain⟨h2,hn⟩:=hat _ _ h1
  obtain⟨n1,o',ho,hr'⟩:=hr.pZ l o aA au h2 m1
  refine⟨?_,o',ho,hr'.mono hmono⟩
  rintro(hf| ⟨b1,hb1,base1,hm1⟩)
  ·exact n1 hf
  ·obtain⟨o1,h3,h4⟩:=hb b1 hb1
   exact hn b1 hb1 (hr.mS l (.aA b1) aA au base1 o o1 h2 (af.fJ h3 h4) m1 hm1)
 ·rintro c (hf| ⟨b1,hb1,base1,hm1⟩)
  ·exact hr.lF c hf
  ·exact hr.U0 b1 c base1 hm1
 ·rintro c _ ⟨l,o,au,h1,m1⟩
  exact⟨l,o,au,(hat _ _ h1).1,hgat l▸m1⟩
 ·rintro c _ (hf| ⟨b1,hb1,base1,hm1⟩)
  ·exact .inl hf
  ·obtain⟨o1,h3,h4⟩:=hb b1 hb1
   exact .inr ⟨.aA b1,o1,base1,af.fJ h3 h4,hm1⟩
end
def iq (P:Program)(f:FuncId)(ts:List TypeId)(ds:List D)(rs:List TypeId)(Q:D->Prop):Prop:=
 ∀(fz:Nat->Prop) (w:World) (as':Array Value),(∀c,fz c->c<w.heap.size)->ak P ⟨fun _=>none,fz,fun _ _=>none⟩ w (wX P ts ds) as'.toList->
  Calls P f as' w fun ed w'=>∃(v':Value) (fz':Nat->Prop) (d:D),ed= .returned v'/\CU w w'/\(∀c,fz c->fz' c)/\(∀c,fz' c->c<w'.heap.size)/\(∀c,fz' c->c<w.heap.size->fz c)/\
   ai P ⟨fun _=>none,fz',fun _ _=>none⟩ w' (FZ P rs d) v'/\Q d
def iq.mono {P:Program}{f:FuncId}{ts rs:List TypeId}{ds:List D}{Q Q':D->Prop}(hp:iq P f ts ds rs Q)(hq:∀d,Q d->Q' d):iq P f ts ds rs Q':=by
 intro fz w as' hfz ha
 refine(hp fz w as' hfz ha).mono ?_
 rintro ed w' ⟨v',fz',d,h1,h2,h3,h4,h5,h6,h7⟩
 exact⟨v',fz',d,h1,h2,h3,h4,h5,h6,hq d h7⟩
structure EH (g:Gh)(h:af)(w:World)(g':Gh)(h':af)(w':World):Prop where
 size:w.heap.size<=w'.heap.size
 AV:∀c,c<w.heap.size->¬nX g h c->w'.heap[c]?=w.heap[c]?
 fz:∀c,g.fz c->g'.fz c
 PA:∀c,c<w.heap.size->g'.fz c->g.fz c\/nX g h c
 lF:∀c,g'.fz c->c<w'.heap.size
 gH:∀c,c<w.heap.size->nX g' h' c->nX g h c
 ms:∀c s,w.shape? c=some s->w'.shape? c=some s
 os:w'.os=w.os/\w'.output=w.output/\w'.tape=w.tape
structure UT (p:Nat)(g g':Gh):Prop where
 m:∀i,i<p->∀x,g.m i=some x->g'.m i=some x
 s:∀i,i<p->∀k x,g.s i k=some x->g'.s i k=some x
def UT.Fx {p:Nat}{g g1 g':Gh}{w w1:World}(hm:eA g w g1 w1)(h:UT p g1 g'):UT p g g':=⟨fun i hi x hx=>h.m i hi x (hm.mm _ _ hx),fun i hi k x hx=>h.s i hi k x (hm.mse _ _ _ hx)⟩
def UT.zero (g g':Gh):UT 0 g g':=⟨fun i hi=>absurd hi (ah7 _),fun i hi=>absurd hi (ah7 _)⟩
def T.Qr {α:Type}{a b:α}:∀{t:T α},T.dm a t->T.dm b t->a=b:=by
 intro t
 induction t with
 |ret x=>intro h1 h2;cases h1;cases h2;rfl
 |bq=>intro h1;cases h1
 |ite c t e iht ihe=>
  intro h1 h2
  cases h1 with
  |tt hc k=>cases h2 with
   |tt _ k2=>exact iht k k2
   |ff hc2 k2=>rw[hc]at hc2;cases hc2
  |ff hc k=>cases h2 with
   |tt hc2 k2=>rw[hc]at hc2;cases hc2
   |ff _ k2=>exact ihe k k2
 |same u v t ih=>
  intro h1 h2
  cases h1 with
  |same _ k=>cases h2 with
   |same _ k2=>exact ih k k2
def hL (L:List (Nat×ax)):af:=⟨2*L.length,Ko L .leaf⟩
def pj (P:Program)(f:FuncId)(as:List BV)(L:List (Nat×ax))(p:Nat)(R:D->T (BV×List (Nat×ax)))(Q:D->Prop):Prop:=
 ∀(g:Gh) (w:World) (as':Array Value),aR P g (hL L) w->ak P g w as as'.toList->
  Calls P f as' w fun ed w'=>∃(v':Value) (g':Gh) (d:D) (x:BV×List (Nat×ax)),ed= .returned v'/\T.dm x (R d)/\EH g (hL L) w g' (hL x.2) w'/\UT p g g'/\aR P g' (hL x.2) w'/\ai P g' w' x.1 v'/\Q d
inductive sS where
 |kE (Q:D->Prop)
 |bu (p:Nat) (R:D->T (BV×List (Nat×ax))) (Q:D->Prop)
def sS.p:sS->Nat
 | .kE _=>0
 | .bu p _ _=>p
def sS.E (P:Program)(rs:List TypeId):sS->Gh->af->World->Value->Prop
 | .kE Q,g,_,w,v=>∃d,ai P ⟨fun _=>none,g.fz,fun _ _=>none⟩ w (FZ P rs d) v/\Q d
 | .bu _ R Q,g,h,w,v=>∃d x,T.dm x (R d)/\h=hL x.2/\aR P g h w/\ai P g w x.1 v/\Q d
def aC (P:Program)(f:FuncId)(rs:List TypeId)(G:sS)(s:av):Prop:=
 ∀(c0:List Frame) (g:Gh) (w:World) (lb:Nat) (fr:Frame) (cs:List Frame),LA P (rG.of c0) g w lb s fr cs->
  ∃(w':World) (fr':Frame) (v':Value) (g':Gh) (h':af),Steps P (lone fr cs w) (lone fr' c0 w')/\fr'.fn=f/\fr'.leaving P w' (.returned v')/\EH g s.h w g' h' w'/\UT G.p g g'/\G.E P rs g' h' w' v'
section
variable {P:Program} {g g':Gh} {h h':af} {w w':World} {f:FuncId} {rs:List TypeId} {G:sS} {Q:D->Prop}
def EH.DX {g1:Gh}{h1:af}{w1:World}(a:gN g h w g1 h1 w1)(b:EH g1 h1 w1 g' h' w'):EH g h w g' h' w' where
 size:=afw a.size b.size
 AV:=fun c hc ho=>(b.AV c (afk hc a.size) fun h=>ho (a.gH c hc h)).trans (a.AV c hc ho)
 fz:=fun c hc=>b.fz c (a.mono.mf c hc)
 PA:=fun c hc hf=>by
  rcases b.PA c (afk hc a.size) hf with h1|h1
  ·exact a.PA c hc h1
  ·exact .inr (a.gH c hc h1)
 lF:=b.lF
 gH:=fun c hc ho=>a.gH c hc (b.gH c (afk hc a.size) ho)
 ms:=fun c s hs=>b.ms c s (a.mono.ms c s hs)
 os:=⟨b.os.1.trans a.os.1,b.os.2.1.trans a.os.2.1,b.os.2.2.trans a.os.2.2⟩
def aC.zg {s s':av}(hs:∀(c0:List Frame) (g:Gh) (w:World) (lb:Nat) (fr:Frame) (cs:List Frame),LA P (rG.of c0) g w lb s fr cs->dM P (rG.of c0) g s.h w s' (lone fr cs w))
 (he:aC P f rs G s'):aC P f rs G s:=by
 intro c0 g w lb fr cs hr
 obtain⟨g1,w1,lb1,fr1,cs1,k1,k2,k3⟩:=hs c0 g w lb fr cs hr
 obtain⟨w',fr',v',g',h',m1,m2,m3,m4,m5,m6⟩:=he c0 g1 w1 lb1 fr1 cs1 k2
 exact⟨w',fr',v',g',h',k1.trans m1,m2,m3,.DX k3 m4,.Fx k3.mono m5,m6⟩
def aC.step (hmix:P.follows .mixedOrders=true){s s':av}(e:dj P s=some s')(he:aC P f rs G s'):aC P f rs G s:=
 aC.zg (fun _ _ _ _ _ _ hr=>XP hmix hr e) he
def aC.pick {s s0:av}{ks seen:List D}{k:D->av}(hp:aaH P s ks seen s0 k)(h0:(∀d∈ks,d∈seen)->aC P f rs G s0)(h1:∀d,d∈ks->d∉seen->aC P f rs G (k d)):aC P f rs G s:=by
 obtain⟨bfn,benv,aN,i,rest,kk,bds,bkd,bro,bs,h,o,it,r,m,st,ck,kt,vk,l,st',ck',rfl,ho,hop,hw,hit,hb,hb2,hsame,⟨p,hpp⟩,rfl,rfl⟩:=hp.ex
 intro c0 g w lb fr cs hs
 have hch:∃s',dM P (rG.of c0) g h w s' (lone fr cs w)/\aC P f rs G s':=by
  obtain⟨hr,hlb,hf,hc⟩:=hs
  obtain⟨fn,tmps,ftodo,ds,fmode,kd,ro⟩:=fr
  dsimp only at hr hlb hf hc ⊢
  have hfm:fmode= .run:=hf.mode
  subst hfm
  have hrun:=hf.run rfl
  unfold cQ at hrun
  dsimp only at hrun
  obtain⟨henv,hi⟩:=hrun
  simp only[bT]at hi
  obtain⟨it',ir,rfl,hit',hir⟩:=hi
  simp only[eZ]at hit'
  subst hit'
  have hw':Region.wanted o (yielded aN tmps)=true:=
   G4 (P:=P) (g:=g) (w:=w) (fun j b' _ t _=>by
    cases hb:benv[t]? with
    |none=>
     left
     refine⟨rfl,?_⟩
     have:tmps.toList[t]?=none:=by rw[afH];have:=henv.length;have:=aga.1 hb;omega
     simpa using this
    |some y=>
     obtain⟨v,h1,h2⟩:=henv.get hb
     exact .inr ⟨y,v,rfl,by simpa using h1,h2⟩) hw
  have hiv:=E6 henv (rf fn tmps (.inRegion aN (i::rest)::ir) ds kd ro) rfl it
  rw[hit]at hiv
  have go:∀(v:BV) (h2:af),iy P g h w v h2 ((Instr.next ((rf fn tmps (.inRegion aN (i::rest)::ir) ds kd ro).eval it) false o.type).run P w)->
   dM P (rG.of c0) g h w ⟨⟨bfn,uh benv o.dst v,.inRegion aN rest::kk,bds,.run,bkd,bro⟩,bs,h2⟩ (lone (rf fn tmps (.inRegion aN (i::rest)::ir) ds kd ro) cs w):=fun v h2 hends=>by
   have hd:jg P g h w (.value v) h2 ((execOp (rf fn tmps (.inRegion aN (i::rest)::ir) ds kd ro).eval o).run P w):=by
    have:=jg.vD hends
    simp only[execOp,hop]
    exact this
   have hap:=CO (f:=rf fn tmps (.inRegion aN (i::rest)::ir) ds kd ro) hr hlb (hf.with (btodo':= .inRegion aN (i::rest)::kk) henv ⟨_,_,rfl,rfl,hir⟩) rfl hc hd
    (s':={fr:=bf bfn (uh benv o.dst v) (.inRegion aN rest::kk) bds bkd bro,cs:=bs,h:=h2})
    (by simp[lA,nv,ho])
   refine dM.wL ?_
   rw[LD ho hw' (.inr fun c hc=>by rw[hop]at hc;cases hc)]
   exact hap
  rcases Ux (ty:=o.type) hr hb hb2 hsame hiv with ⟨a1,a2⟩| ⟨d,a1,a2,a3⟩
  ·exact⟨_,go _ _ a2,h0 a1⟩
  ·obtain⟨q,hq⟩:=Um (d':=d) hpp
   refine⟨_,go _ _ (a3 q hq),?_⟩
   have:=h1 d a1 a2
   dsimp only at this
   rw[hq]at this
   exact this
 obtain⟨s',⟨g1,w1,lb1,fr1,cs1,k1,k2,k3⟩,he⟩:=hch
 obtain⟨w',fr',v',g',h',m1,m2,m3,m4,m5,m6⟩:=he c0 g1 w1 lb1 fr1 cs1 k2
 exact⟨w',fr',v',g',h',k1.trans m1,m2,m3,.DX k3 m4,.Fx k3.mono m5,m6⟩
def aC.Gc {s s1 s2:av}(ha:ac4 s s1 s2)(h1:aC P f rs G s1)(h2:aC P f rs G s2):aC P f rs G s:=by
 obtain⟨bfn,cx,aN,todo,kk,bds,bkd,bro,bs,h,j,rfl,hj0,rfl,rfl⟩:=ha.ex
 intro c0 g w lb fr cs hs
 obtain⟨hr,hlb,hf,hc⟩:=hs
 have hrun:=hf.run rfl
 unfold cQ at hrun
 dsimp only at hrun
 obtain⟨x,hj⟩:∃x,cx[j]?=some x:=by rcases hj0 with ⟨e,hj⟩| ⟨b,vt,hj⟩<;>exact⟨_,hj⟩
 obtain⟨v,hv1,hv2⟩:=hrun.1.get hj
 have new:∀b,ai P g w b v->LA P (rG.of c0) g w lb ⟨⟨bfn,cx.set j b,.inRegion aN todo::kk,bds,.run,bkd,bro⟩,bs,h⟩ fr cs:=fun b hb=>by
  refine⟨hr,hlb,⟨hf.fn,hf.kind,hf.jZ,hf.defers,hf.mode,hf.round,fun _=>?_,fun hne=>absurd rfl hne⟩,hc⟩
  unfold cQ
  dsimp only
  refine⟨ak.qU (by simpa using hrun.1.length) fun i b' v' hb' hv'=>?_,hrun.2⟩
  rw[agt]at hb'
  split at hb'
  ·rename_i hij
   subst hij
   split at hb'
   ·cases hb'
    rw[hv1]at hv';cases hv';exact hb
   ·cases hb'
  ·obtain⟨v2,k1,k2⟩:=hrun.1.get hb'
   rw[hv']at k1;cases k1;exact k2
 rcases hj0 with ⟨e,hj0⟩| ⟨b,vt,hj0⟩
 ·rw[hj]at hj0;cases hj0
  simp only[ai]at hv2
  rcases hv2 with ⟨_,hv3| ⟨a,c,hv3⟩⟩| ⟨aA,off,c,hv3,_⟩
  ·exact h1 c0 g w lb fr cs (new .bJ (by simp only[ai];exact hv3))
  ·exact h2 c0 g w lb fr cs (new .ku (by simp only[ai];exact⟨_,_,hv3⟩))
  ·exact h2 c0 g w lb fr cs (new .ku (by simp only[ai];exact⟨_,_,hv3⟩))
 ·rw[hj]at hj0;cases hj0
  simp only[ai]at hv2
  rcases hv2 with ⟨_,hv3| ⟨a,hv3⟩⟩| ⟨aA,au,c,_,hv3,_⟩
  ·exact h1 c0 g w lb fr cs (new .bJ (by simp only[ai];exact hv3))
  ·exact h2 c0 g w lb fr cs (new .ku (by simp only[ai];exact⟨_,_,hv3⟩))
  ·exact h2 c0 g w lb fr cs (new .ku (by simp only[ai];exact⟨_,_,hv3⟩))
def VS (P:Program)(f:FuncId)(s:av):Option BV:=
 match s.fr.kind,P.funcs[s.fr.fn]? with
 | .normal,some fn=>(match Nat.beq s.fr.fn f with|true=>B4 P s.h fn s.fr.cx|false=>none)
 |_,_=>none
def K4 {s:av}{c0 cs:List Frame}{lb:Nat}{fr:Frame}(hend:s.ended=true){v:BV}(hv:VS P f s=some v)(hs:LA P (rG.of c0) g w lb s fr cs):
 cs=c0/\fr.fn=f/\∃v',fr.leaving P w (.returned v')/\ai P g w v v':=by
 obtain⟨hr,h2,h3,h4⟩:=hs
 obtain⟨e1,hm,e3⟩:=Qh hend
 unfold VS at hv
 split at hv
 ·rename_i fn hkd hfn
  split at hv
  ·rename_i hf
   have hf:=ae8 hf
   rw[e1]at h4
   simp only[ly,rG.of]at h4
   subst h4
   have hfm:=h3.mode
   rw[hm]at hfm
   simp only[sn]at hfm
   have hds:=h3.defers
   rw[e3]at hds
   simp only[iv]at hds
   obtain⟨v',hrv,hvr⟩:=HJ hr (h3.cx (by rw[hm];exact fun h=>by cases h)) hv
   exact⟨rfl,by rw[<-h3.fn];exact hf,v',⟨hfm,hds,by rw[<-h3.kind];exact hkd,fn,by rw[<-h3.fn];exact hfn,hrv⟩,hvr⟩
  ·cases hv
 ·cases hv
def Wc (l:U8):hS.at l=none:=by
 cases l with
 |aA b=>show (hS.get b).bind ax.gH=none;simp[hS,af.get,Tr.oh]
 |el b f k=>show (hS.get b).bind (fun o=>o.wA f k)=none;simp[hS,af.get,Tr.oh]
def JI (g:Gh)(c:Nat):¬nX g hS c:=by
 rintro⟨l,o,au,hb,hm⟩
 rw[Wc]at hb;cases hb
def aC.ended {s:av}(hend:s.ended=true){v:BV}(hv:VS P f s=some v){x:D×List Nat}(hx:T.dm x (Zs P s.h rs v))(hq:Q x.1):aC P f rs (.kE Q) s:=by
 intro c0 g w lb fr cs hs
 obtain⟨rfl,hf,v',hlv,hvr⟩:=K4 hend hv hs
 obtain⟨k1,k2⟩:=V7 hs.1 hx
 obtain⟨z1,z2⟩:=hs.1.freeze k1
 refine⟨w,fr,v',{g with fz:=wW g x.2},hS,Steps.refl _ _,hf,hlv,?_,.zero _ _,⟨x.1,(k2 v' hvr).1,hq⟩⟩
 exact⟨afa _,fun _ _ _=>rfl,fun c hc=> .inl hc,z2.PA,z1.lF,fun c _ ho=>absurd ho (JI _ c),fun _ _ h=>h,rfl,rfl,rfl⟩
def iq.vD {ts:List TypeId}{ds:List D}{fr:aZ}(hin:dn P f (wX P ts ds) .normal=some fr)(he:aC P f rs (.kE Q) ⟨fr,[],hS⟩):iq P f ts ds rs Q:=by
 intro fz w as' hfz ha cs
 have hSg:∀b,hS.get b=none:=fun b=>by simp[hS,af.get,Tr.oh]
 have hr0:aR P ⟨fun _=>none,fz,fun _ _=>none⟩ hS w:=⟨fun b o hb=>(by rw[hSg]at hb;cases hb),fun b x hm=>(by cases hm),fun f k x hm=>(by cases hm),fun b o f hb=>(by rw[hSg]at hb;cases hb),fun b b' o o' f hb=>(by rw[hSg]at hb;cases hb),
  fun b o f k x hb=>(by rw[hSg]at hb;cases hb),fun b b' f k hb=>(by rw[hSg]at hb;cases hb),fun l aA au hm=>(by cases l<;>cases hm),fun l l' aA au base' o o' hb=>(by rw[Wc]at hb;cases hb),fun l o aA au hb=>(by rw[Wc]at hb;cases hb),hfz⟩
 have hs:LA P (rG.of cs) ⟨fun _=>none,fz,fun _ _=>none⟩ w 0 ⟨fr,[],hS⟩ (Frame.enter P f as' .normal) cs:=⟨hr0,agr _,E5 (.inl rfl) ha hin,rfl⟩
 obtain⟨w',fr',v',g',h',m1,m2,m3,m4,_,d,m5,m6⟩:=he cs _ w 0 _ cs hs
 exact⟨.returned v',w',fr',⟨v',g'.fz,d,rfl,⟨m4.size,fun c hc=>m4.AV c hc (JI _ c),m4.os.1,m4.os.2.1,m4.os.2.2⟩,m4.fz,m4.lF,fun c hc hlt=>(m4.PA c hlt hc).resolve_right (JI _ c),m5,m6⟩,m1,m2,m3⟩
def pj.vD {as:List BV}{L:List (Nat×ax)}{p:Nat}{R:D->T (BV×List (Nat×ax))}{fr:aZ}(hin:dn P f as .normal=some fr)(he:aC P f rs (.bu p R Q) ⟨fr,[],hL L⟩):pj P f as L p R Q:=by
 intro g w as' hr ha cs
 have hs:LA P (rG.of cs) g w 0 ⟨fr,[],hL L⟩ (Frame.enter P f as' .normal) cs:=⟨hr,agr _,E5 (.inl rfl) ha hin,rfl⟩
 obtain⟨w',fr',v',g',h',m1,m2,m3,m4,m5,d,x,m9,rfl,m6,m7,m8⟩:=he cs _ w 0 _ cs hs
 exact⟨.returned v',w',fr',⟨v',g',d,x,rfl,m9,m4,m5,m6,m7,m8⟩,m1,m2,m3⟩
def aC.call (hmix:P.follows .mixedOrders=true){f g:FuncId}{frs rs ts:List TypeId}{as:List BV}{fr:aZ}{cs:List aZ}{h:af}{s:av}{x:List D×List Nat}{Q':D->Prop}{G:sS}
 (hs:xU P (dj P s) (.call g as fr cs h))(hx:T.dm x (Hp P h ts as))(hp:iq P g ts x.1 rs Q')(sc:Bool)(hsc:sc=true->rs.all (CM P)=true)
 (hk:∀d,Q' d->∃r,T.dm r (qF P fr (FZ P rs d) (match sc with|true=>h|false=>dB h x.2))/\aC P f frs G ⟨r.1,cs,r.2⟩):aC P f frs G s:=by
 obtain⟨c,hc,hst⟩:=hs
 refine aC.step hmix hst ?_
 intro c0 g0 w lb f1 cs1 hsr
 obtain⟨hr,h2,h3,h4⟩:=hsr
 obtain⟨as',ha,rfl⟩:=Jo hc h3
 simp only[ly]at h4
 obtain⟨m0,mr,lb2,rfl,hl,hf0,hcr⟩:=h4
 obtain⟨k1,k2⟩:=K7 hr hx
 have hfzlt:∀c,wW g0 x.2 c->c<w.heap.size:=(hr.freeze k1).1.lF
 obtain⟨ed,w2,fr2,⟨v',fz',d,rfl,hkept,q1,q2,q3,q4,q5⟩,hco,_,hlv⟩:=hp (wW g0 x.2) w as' hfzlt (k2 _ ha).1 (m0::mr)
 obtain⟨r,hfin,hend⟩:=hk d q5
 have hfin:=pT hfin
 cases sc with
 |true=>
  dsimp only at hfin
  obtain⟨z1,z2⟩:=hr.Wg hkept
  have hv:ai P g0 w2 (FZ P rs d) v':=ai.acu (hsc rfl) q4
  have hfz:=hf0.mono (h':=h) z2.mono (rJ.refl _ _ _)
  have hcz:=hcr.mono (h':=h) z2.mono (rJ.refl _ _ _)
  obtain⟨r1,r2,r3,r4,r5⟩:=Ap z1 hfz (afw hl h2) h2 hv hfin
  obtain⟨w',fr',v2,g3,h3',n1,n2,n3,n4,n5,n6⟩:=hend c0 g0 w2 lb2 _ mr ⟨r1,afw (afw hl h2) r5,r4,hcz.mono r2.mono (r3.lt (afw hl h2))⟩
  exact⟨w',fr',v2,g3,h3',((show Steps P _ _ from hco).trans (Steps.one (step_leave_returned hlv))).trans n1,n2,n3,.DX (z2.trans r2) n4,.Fx (z2.trans r2).mono n5,n6⟩
 |false=>
  dsimp only at hfin
  have hph:=(k2 _ ha).2
  obtain⟨y1,y2⟩:=hr.freeze k1
  obtain⟨z1,z2⟩:=y1.Wg hkept
  obtain⟨u1,u2⟩:=z1.grow z2 (fz':=fz') q1 q2 (fun c hc hlt=>q3 c hc hlt) y1.mR
  have hx2:=y2.trans u2
  have hv:ai P {g0 with fz:=fz'} w2 (FZ P rs d) v':=ai.mono (g:=⟨fun _=>none,fz',fun _ _=>none⟩) (g':={g0 with fz:=fz'}) (w:=w2) (w':=w2) ⟨fun b x h=>(by cases h),fun _ h=>h,fun _ _=>rfl,fun _ _ h=>h,fun _ _ _ h=>(by first|exact h|cases h)⟩ _ _ q4
  have hp2:∀lb,rJ lb g0 h {g0 with fz:=fz'} (dB h x.2):=fun lb b hb hm hv=>Nw hph lb b hb hm hv
  have hfz:=hf0.mono (h':=dB h x.2) hx2.mono (hp2 _)
  have hcz:=hcr.mono (h':=dB h x.2) hx2.mono (hp2 _)
  have hn:(dB h x.2).next=h.next:=kq h x.2
  obtain⟨r1,r2,r3,r4,r5⟩:=Ap u1 hfz (by rw[hn];exact afw hl h2) (by rw[hn];exact h2) hv hfin
  have hlb:lb2<=(dB h x.2).next:=by rw[hn];exact afw hl h2
  obtain⟨w',fr',v2,g3,h3',n1,n2,n3,n4,n5,n6⟩:=hend c0 {g0 with fz:=fz'} w2 lb2 _ mr ⟨r1,afw hlb r5,r4,hcz.mono r2.mono (r3.lt hlb)⟩
  exact⟨w',fr',v2,g3,h3',((show Steps P _ _ from hco).trans (Steps.one (step_leave_returned hlv))).trans n1,n2,n3,.DX (hx2.trans r2) n4,.Fx (hx2.trans r2).mono n5,n6⟩
end
end
end
section
noncomputable section
structure I0 where
 rn:Nat->Option Nat
 fm:Nat->Option Nat
mutual
def p5 (φ:I0):BV->BV
 | .kC=> .kC
 | .bool b=> .bool b
 | .int k n=> .int k n
 | .bj s=> .bj s
 | .gT=> .gT
 | .aG b off=>(match φ.rn b with|some c=> .aG c off|none=> .kC)
 | .vF cs=> .vF (j6 φ cs)
 | .bJ=> .bJ
 | .ku=> .ku
 | .bC e l=> .bC e l
 | .DO e l=> .DO e l
 | .aV b n _=>(match φ.rn b with|some c=> .aV c n true|none=> .kC)
 | .vd b e i off=>(match φ.rn b with|some c=> .vd c e i off|none=> .kC)
 | .pt b f k off=>(match φ.rn b,φ.fm f with|some c,some f'=> .pt c f' k off|_,_=> .kC)
 | .Kq=> .Kq
 | .map b=>(match φ.rn b with|some c=> .map c|none=> .kC)
 | .PE b n=>(match φ.rn b with|some c=> .PE c n|none=> .kC)
 | .DW=> .DW
 | .Mm=> .Mm
 | .func fn a c=> .func fn (j6 φ a) (j6 φ c)
 | .yield l=>(match φ.rn l with|some c=> .yield c|none=> .kC)
 | .agg cs=> .agg (j6 φ cs)
 | .tuple vs=> .tuple (j6 φ vs)
def j6 (φ:I0):List BV->List BV
 | []=>[]
 |v::vs=>p5 φ v::j6 φ vs
end
def pz (φ:I0):ax->Option ax
 | .cells cs e s=>some (.cells (j6 φ cs) e s)
 | .an e l _=>some (.an e l true)
 | .bo kt (.data e) l st c=>some (.bo kt (.data e) l st c)
 | .bo kt .Ho l st c=>some (.bo kt .Ho l st c)
 | .bo kt (.cp f e) l st c=>(match φ.fm f with|some f'=>some (.bo kt (.cp f' e) l st c)|none=>none)
 | .jS m ks st ck seen=>(match φ.rn m with|some c=>some (.jS c ks st ck seen)|none=>none)
 | .ql _ _ _=>none
 | .loop b=>(match φ.rn b.defers with|some c=>some (.loop {b with tmps:=j6 φ b.tmps,defers:=c})|none=>none)
 | .deferred none=>some (.deferred none)
 | .deferred (some [])=>some (.deferred (some []))
 | .deferred (some _)=>none
section
variable {P:Program} {g g':Gh} {w:World} {φ:I0}
structure yD (P:Program)(g g':Gh)(w:World)(φ:I0):Prop where
 rn:∀b c x,φ.rn b=some c->g.m b=some x->g'.m c=some x
 fz:∀c,g.fz c->g'.fz c
 fm:∀f f' k x,φ.fm f=some f'->g.s f k=some x->g'.s f' k=some x
mutual
def ai.sub (hs:yD P g g' w φ):∀(b:BV) (v:Value),ai P g w b v->ai P g' w (p5 φ b) v
 | .kC,_,_=>by simp[p5,ai]
 | .bool _,_,h=>by simpa [p5,ai]using h
 | .int _ _,_,h=>by simpa [p5,ai]using h
 | .bj _,_,h=>by simpa [p5,ai]using h
 | .gT,_,h=>by simpa [p5,ai]using h
 | .aG b off,v,h=>by
   simp only[p5]
   cases hb:φ.rn b with
   |none=>simp[ai]
   |some c=>simp only[ai]at h ⊢;obtain⟨aA,au,hm,rfl⟩:=h;exact⟨aA,au,hs.rn _ _ _ hb hm,rfl⟩
 | .vF cs,v,h=>by
   simp only[p5,ai]at h ⊢;obtain⟨aA,off,rfl,hf,vs,hv,hc⟩:=h
   exact⟨aA,off,rfl,hs.fz _ hf,vs,ak.sub hs cs vs hv,hc⟩
 | .bJ,_,h=>by simpa [p5,ai]using h
 | .ku,_,h=>by simpa [p5,ai]using h
 | .bC e l,v,h=>by
   simp only[p5,ai]at h ⊢
   rcases h with h| ⟨aA,off,c,h1,h2,h3⟩
   ·exact .inl h
   ·exact .inr ⟨aA,off,c,h1,h2,h3.mono hs.fz fun _ _=>rfl⟩
 | .DO e l,v,h=>by
   simp only[p5,ai]at h ⊢
   rcases h with h| ⟨aA,off,h1,h3⟩
   ·exact .inl h
   ·exact .inr ⟨aA,off,h1,h3.mono hs.fz fun _ _=>rfl⟩
 | .aV b n vt,v,h=>by
   simp only[p5]
   cases hb:φ.rn b with
   |none=>simp[ai]
   |some c=>
    simp only[ai]at h ⊢
    rcases h with ⟨⟨_,h0⟩,h⟩| ⟨aA,au,k,hm,h1,h2,h3⟩
    ·exact .inl ⟨⟨trivial,h0⟩,h⟩
    ·exact .inr ⟨aA,au,k,hs.rn _ _ _ hb hm,h1,h2,h3⟩
 | .vd b e i off,v,h=>by
   simp only[p5]
   cases hb:φ.rn b with
   |none=>simp[ai]
   |some c=>simp only[ai]at h ⊢;obtain⟨aA,au,hm,rfl⟩:=h;exact⟨aA,au,hs.rn _ _ _ hb hm,rfl⟩
 | .pt b f k off,v,h=>by
   simp only[p5]
   cases hb:φ.rn b with
   |none=>simp[ai]
   |some c=>
    cases hf:φ.fm f with
    |none=>simp[ai]
    |some f'=>simp only[ai]at h ⊢;obtain⟨aA,au,hm,rfl,y,hy⟩:=h;exact⟨aA,au,hs.fm _ _ _ _ hf hm,rfl,y,hs.rn _ _ _ hb hy⟩
 | .Kq,_,h=>by simpa [p5,ai]using h
 | .map b,v,h=>by
   simp only[ai]at h;obtain⟨aA,hm,rfl⟩:=h
   simp only[p5]
   cases hb:φ.rn b with
   |none=>simp[ai]
   |some c=>simp only[ai];exact⟨aA,hs.rn _ _ _ hb hm,rfl⟩
 | .PE b n,v,h=>by
   simp only[p5]
   cases hb:φ.rn b with
   |none=>simp[ai]
   |some c=>simp only[ai]at h ⊢;obtain⟨aA,au,hm,rfl⟩:=h;exact⟨aA,au,hs.rn _ _ _ hb hm,rfl⟩
 | .DW,_,h=>by simpa [p5,ai]using h
 | .Mm,_,h=>by simpa [p5,ai]using h
 | .func fn a c,v,h=>by
   simp only[p5,ai]at h ⊢;obtain⟨a',c',rfl,ha,hc⟩:=h
   exact⟨a',c',rfl,ak.sub hs a _ ha,ak.sub hs c _ hc⟩
 | .yield l,v,h=>by
   simp only[p5]
   cases hb:φ.rn l with
   |none=>simp[ai]
   |some c=>simp only[ai]at h ⊢;obtain⟨aA,hm,rfl⟩:=h;exact⟨aA,hs.rn _ _ _ hb hm,rfl⟩
 | .agg cs,v,h=>by
   simp only[p5,ai]at h ⊢;obtain⟨vs,rfl,hv⟩:=h;exact⟨vs,rfl,ak.sub hs cs _ hv⟩
 | .tuple cs,v,h=>by
   simp only[p5,ai]at h ⊢;obtain⟨vs,rfl,hv⟩:=h;exact⟨vs,rfl,ak.sub hs cs _ hv⟩
def ak.sub (hs:yD P g g' w φ):∀(bs:List BV) (vs:List Value),ak P g w bs vs->ak P g' w (j6 φ bs) vs
 | [],_,h=>by simpa [j6,ak]using h
 |b::bs,vs,h=>by
  simp only[j6,ak]at h ⊢;obtain⟨v,vr,rfl,hv,hr⟩:=h
  exact⟨v,vr,rfl,ai.sub hs b v hv,ak.sub hs bs vr hr⟩
end
def F6 (φ:I0):∀(a b:List BV),j6 φ (a++b)=j6 φ a++j6 φ b
 | [],b=>rfl
 |x::a,b=>by simp only[af8,j6,F6 φ a b]
def DH (φ:I0){S:TypeId->D->List BV}(hS:∀t d,j6 φ (S t d)=S t d):∀(fs:List Field) (i:Nat) (d:D),j6 φ (gi S fs i d)=gi S fs i d
 | [],_,_=>rfl
 |f::r,i,d=>by simp only[gi,F6,hS,DH φ hS r (i+1) d]
def F7 (φ:I0):∀(n:Nat) (t:TypeId) (d:D),j6 φ (dw P n t d)=dw P n t d:=by
 intro n
 induction n with
 |zero=>intro t d;rfl
 |succ n ih=>
  intro t d
  simp only[dw]
  cases hu:P.underlying t with
  |none=>rfl
  |some td=>cases td<;>first|rfl|exact DH φ ih _ _ _
def Pd (φ:I0)(t:TypeId)(d:D):p5 φ (ch P t d)=ch P t d:=by
 unfold ch
 split
 ·simp only[p5,aK,F7]
 ·have h:=F7 (P:=P) φ 8 t d
  change j6 φ (aK P t d)=aK P t d at h
  split
  ·rename_i v hv
   rw[hv]at h
   simp only[j6,ahd,afm]at h
   exact h
  ·rfl
def ai.Pc (hs:yD P g g' w φ){t:TypeId}{d:D}{v:Value}(h:ai P g w (ch P t d) v):ai P g' w (ch P t d) v:=by
 have:=ai.sub hs _ _ h
 rwa [Pd]at this
def sT.sub (hs:yD P g g' w φ){kt:TypeId}{vk vk':VK}{l:List (D×D)}{st:List Nat}{c:Nat}{es:List MapEntry}(h:sT P g w kt vk l st c es)(hv:∀k d v,xV P g w vk k d v->xV P g' w vk' k d v):sT P g' w kt vk' l st c es:=
 ⟨h.len,h.sl,fun i p e h1 h2=>ai.Pc hs (h.key i p e h1 h2),h.born,fun i p e h1 h2=>hv _ _ _ (h.val i p e h1 h2),h.CV,h.nd,h.snd,h.Eh⟩
def cL.sub (hs:yD P g g' w φ){o o':ax}{au:Nat}{co:Obj}(h:cL P g w o au co)(e:pz φ o=some o'):cL P g' w o' au co:=by
 cases o with
 |cells cs el s=>
  simp only[pz,ae3]at e;subst e
  simp only[cL]at h ⊢
  obtain⟨c,lo,hi,rfl,⟨vs,hv,hc⟩,hr⟩:=h
  exact⟨c,lo,hi,rfl,⟨vs,ak.sub hs _ _ hv,hc⟩,hr⟩
 |an el l vt=>
  simp only[pz,ae3]at e;subst e
  simp only[cL]at h ⊢
  obtain⟨c,lo,hi,rfl,hr,vs,hv,hc⟩:=h
  exact⟨c,lo,hi,rfl,hr,vs,hv.mono hs.fz fun _ _=>rfl,hc⟩
 |bo kt vk l st clock=>
  simp only[cL]at h
  obtain⟨rfl,es,rfl,he⟩:=h
  cases vk with
  |data et=>
   simp only[pz,ae3]at e;subst e
   simp only[cL]
   exact⟨trivial,es,rfl,he.sub hs fun k d v hv=>by unfold xV at hv ⊢;exact ai.Pc hs hv⟩
  |Ho=>
   simp only[pz,ae3]at e;subst e
   simp only[cL]
   exact⟨trivial,es,rfl,he.sub hs fun k d v hv=>hv⟩
  |cp f et=>
   simp only[pz]at e
   split at e
   ·rename_i f' hf
    cases e
    simp only[cL]
    exact⟨trivial,es,rfl,he.sub hs fun k d v hv=>by
     unfold xV at hv ⊢
     obtain⟨x,h1,h2⟩:=hv
     exact⟨x,hs.fm _ _ _ _ hf h1,h2⟩⟩
   ·cases e
 |jS m ks st ck seen=>
  simp only[pz]at e
  split at e
  ·rename_i c hc
   cases e
   simp only[cL]at h ⊢
   obtain⟨rfl,aA,hm,h1,rfl⟩:=h
   exact⟨rfl,aA,hs.rn _ _ _ hc hm,h1,rfl⟩
  ·cases e
 |ql b f k=>simp only[cL]at h
 |loop b=>
  simp only[pz]at e
  split at e
  ·rename_i c hc
   cases e
   simp only[cL]at h ⊢
   obtain⟨rfl,l,rfl,h1,h2,h3,h4,h5,h6,h7,h8⟩:=h
   exact⟨rfl,l,rfl,h1,h2,h3,ak.sub hs _ _ h4,h5,h6,h7,hs.rn _ _ _ hc h8⟩
  ·cases e
 |deferred ds=>
  cases ds with
  |none=>simp only[pz,ae3]at e;subst e;simpa [cL]using h
  |some ds=>
   cases ds with
   |nil=>simp only[pz,ae3]at e;subst e;simpa [cL,iv]using h
   |cons d ds=>simp[pz]at e
end
def fI:List (Nat×Nat)->Nat->Option Nat
 | [],_=>none
 | (a,b)::r,x=>match Nat.beq a x with|true=>some b|false=>fI r x
def Ae:List (Nat×Nat)->Nat->Option Nat
 | [],_=>none
 | (a,b)::r,x=>match Nat.beq b x with|true=>some a|false=>Ae r x
def QF:List Nat->Nat->Bool
 | [],_=>false
 |x::r,n=>match Nat.beq x n with|true=>true|false=>QF r n
def Dj (φ:I0)(h:af):List (Nat×Nat)->Option (List (Nat×ax))
 | []=>some []
 | (a,b)::r=>match h.get a with
   |some o=>(match pz φ o with|some o'=>(match Dj φ h r with|some l=>some ((b,o')::l)|none=>none)|none=>none)
   |none=>none
def xL (n0 top:Nat)(HZ:List Nat):List (Nat×Nat)->List (Nat×Nat)->Bool
 |_,[]=>true
 |seen,(a,b)::r=>Nat.ble n0 a&&Nat.ble n0 b&&Nat.blt b top&&!(QF HZ a)&&(fI seen a).isNone&&(Ae seen b).isNone&&xL n0 top HZ ((a,b)::seen) r
def DV:List (Nat×ax)->List Nat
 | []=>[]
 | (a,_)::r=>a::DV r
def JG:∀(l:List (Nat×ax)),DV l=l.map (·.1):=by
 intro l
 induction l with
 |nil=>rfl
 |cons p r ih=>obtain⟨a,b⟩:=p;simp[DV,ih]
section
variable {P:Program} {g g':Gh} {w:World} {φ:I0}
def ji {a b:Nat}:∀{l:List (Nat×Nat)},fI l a=some b->(a,b)∈l:=by
 intro l
 induction l with
 |nil=>intro e;simp[fI]at e
 |cons p r ih=>
  obtain⟨x,y⟩:=p
  intro e
  simp only[fI]at e
  split at e
  ·rename_i h;cases e;rw[ae8 h];exact afJ
  ·exact afn _ (ih e)
def kQ {a b:Nat}:∀{l:List (Nat×Nat)},Ae l b=some a->(a,b)∈l:=by
 intro l
 induction l with
 |nil=>intro e;simp[Ae]at e
 |cons p r ih=>
  obtain⟨x,y⟩:=p
  intro e
  simp only[Ae]at e
  split at e
  ·rename_i h;cases e;rw[ae8 h];exact afJ
  ·exact afn _ (ih e)
def Bg {a:Nat}:∀{l:List (Nat×Nat)},fI l a=none->∀q∈l,q.1≠a:=by
 intro l
 induction l with
 |nil=>intro _ q hq;cases hq
 |cons p r ih=>
  obtain⟨x,y⟩:=p
  intro e q hq
  simp only[fI]at e
  split at e
  ·cases e
  ·rename_i h
   rcases ae5.1 hq with rfl|hq
   ·intro hxa;dsimp only at hxa;subst hxa;rw[aiD]at h;cases h
   ·exact ih e q hq
def GG {b:Nat}:∀{l:List (Nat×Nat)},Ae l b=none->∀q∈l,q.2≠b:=by
 intro l
 induction l with
 |nil=>intro _ q hq;cases hq
 |cons p r ih=>
  obtain⟨x,y⟩:=p
  intro e q hq
  simp only[Ae]at e
  split at e
  ·cases e
  ·rename_i h
   rcases ae5.1 hq with rfl|hq
   ·intro hxa;dsimp only at hxa;subst hxa;rw[aiD]at h;cases h
   ·exact ih e q hq
def wO {n0 top:Nat}{HZ:List Nat}:∀{l seen:List (Nat×Nat)},xL n0 top HZ seen l=true->
 (∀p∈l,n0<=p.1/\n0<=p.2/\p.2<top/\QF HZ p.1=false)/\(∀p∈l,∀q∈seen,q.1≠p.1/\q.2≠p.2)/\l.Pairwise fun p q=>p.1≠q.1/\p.2≠q.2:=by
 intro l
 induction l with
 |nil=>intro seen _;exact⟨by simp,by simp,List.Pairwise.nil⟩
 |cons p r ih=>
  obtain⟨a,b⟩:=p
  intro seen e
  simp only[xL,aeV,ahP,afu]at e
  obtain⟨⟨⟨⟨⟨⟨h1,h2⟩,h3⟩,h4⟩,h5⟩,h6⟩,h7⟩:=e
  obtain⟨i1,i2,i3⟩:=ih h7
  refine⟨fun p hp=>?_,fun p hp q hq=>?_,List.Pairwise.cons (fun q hq=>?_) i3⟩
  ·rcases ae5.1 hp with rfl|hp
   ·exact⟨agX h1,agX h2,by simpa [agS]using h3,h4⟩
   ·exact i1 p hp
  ·rcases ae5.1 hp with rfl|hp
   ·exact⟨Bg h5 q hq,GG h6 q hq⟩
   ·exact i2 p hp q (afn _ hq)
  ·have:=i2 q hq (a,b) afJ
   exact this
def FY {l:List (Nat×Nat)}(h:l.Pairwise fun p q=>p.1≠q.1/\p.2≠q.2){a b c:Nat}(h1:(a,b)∈l)(h2:(a,c)∈l):b=c:=by
 induction l with
 |nil=>cases h1
 |cons p r ih=>
  rw[agp]at h
  rcases ae5.1 h1 with h1|h1<;>rcases ae5.1 h2 with h2|h2
  ·rw[<-h1]at h2;cases h2;rfl
  ·have:=h.1 _ h2;rw[<-h1]at this;exact absurd rfl this.1
  ·have:=h.1 _ h1;rw[<-h2]at this;exact absurd rfl this.1
  ·exact ih h.2 h1 h2
def MR {l:List (Nat×Nat)}(h:l.Pairwise fun p q=>p.1≠q.1/\p.2≠q.2){a b c:Nat}(h1:(a,c)∈l)(h2:(b,c)∈l):a=b:=by
 induction l with
 |nil=>cases h1
 |cons p r ih=>
  rw[agp]at h
  rcases ae5.1 h1 with h1|h1<;>rcases ae5.1 h2 with h2|h2
  ·rw[<-h1]at h2;cases h2;rfl
  ·have:=h.1 _ h2;rw[<-h1]at this;exact absurd rfl this.2
  ·have:=h.1 _ h1;rw[<-h2]at this;exact absurd rfl this.2
  ·exact ih h.2 h1 h2
def ZA {l:List (Nat×Nat)}(h:l.Pairwise fun p q=>p.1≠q.1/\p.2≠q.2){a b:Nat}(h1:(a,b)∈l):Ae l b=some a:=by
 cases e:Ae l b with
 |none=>exact absurd rfl (GG e _ h1)
 |some c=>rw[MR h h1 (kQ e)]
def JJ {h:af}:∀{ps:List (Nat×Nat)} {L:List (Nat×ax)},Dj φ h ps=some L->
 DV L=ps.map (·.2)/\∀c o',(c,o')∈L->∃b o,(b,c)∈ps/\h.get b=some o/\pz φ o=some o':=by
 intro ps
 induction ps with
 |nil=>intro L e;simp[Dj]at e;subst e;exact⟨rfl,by simp⟩
 |cons p r ih=>
  obtain⟨a,b⟩:=p
  intro L e
  simp only[Dj]at e
  split at e
  ·rename_i o ho
   split at e
   ·rename_i o1 ho1
    split at e
    ·rename_i l hl
     cases e
     obtain⟨i1,i2⟩:=ih hl
     refine⟨by simp[DV,i1],fun c o' hc=>?_⟩
     rcases ae5.1 hc with hc|hc
     ·cases hc;exact⟨a,o,afJ,ho,ho1⟩
     ·obtain⟨b',o2,j1,j2,j3⟩:=i2 c o' hc
      exact⟨b',o2,afn _ j1,j2,j3⟩
    ·cases e
   ·cases e
  ·cases e
def Wx {c:Nat}{o:ax}:∀(l:List (Nat×ax)) (t:Tr ax),Tr.get (Ko l t) c=some o->(c,o)∈l\/Tr.get t c=some o:=by
 intro l
 induction l with
 |nil=>intro t h;exact .inr h
 |cons p r ih=>
  obtain⟨a,x⟩:=p
  intro t h
  simp only[Ko]at h
  rcases ih _ h with h1|h1
  ·exact .inl (afn _ h1)
  ·rw[Tr.z6 _ _ _ _ _ (by omega)]at h1
   split at h1
   ·rename_i hca;subst hca;cases h1;exact .inl afJ
   ·exact .inr h1
def QH {c:Nat}:∀(l:List (Nat×ax)) (t:Tr ax),(∀p∈l,p.1≠c)->Tr.get (Ko l t) c=Tr.get t c:=by
 intro l
 induction l with
 |nil=>intro t _;rfl
 |cons p r ih=>
  obtain⟨a,x⟩:=p
  intro t h
  simp only[Ko]
  rw[ih _ fun p hp=>h p (afn _ hp),Tr.z6 _ _ _ _ _ (by omega),aeX (fun e=>h (a,x) afJ e.symm)]
end
end
end
end Go.PB
end
