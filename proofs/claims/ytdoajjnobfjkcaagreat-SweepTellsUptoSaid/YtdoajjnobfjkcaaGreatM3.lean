import Derived.Test.YtdoajjnobfjkcaaGreatM2
set_option linter.all false
noncomputable section
namespace Go.PB
open Go
section
section
variable {P:Program} {g:Gh} {h:aj} {w w':World}
def Gh.rT (g:Gh)(f:Nat)(k:D)(x:Nat×Nat):Gh:={g with s:=fun f' k'=>@ite _ (f'=f/\k'=k) (Classical.propDecidable _) (some x) (g.s f' k')}
def Gh.Yr (g:Gh)(f:Nat)(k:D)(x:Nat×Nat):(g.rT f k x).s f k=some x:=by simp[Gh.rT]
def Gh.Vm (g:Gh){f f':Nat}{k k':D}{x:Nat×Nat}(h:¬(f'=f/\k'=k)):(g.rT f k x).s f' k'=g.s f' k':=by
 unfold Gh.rT;exact ag4 h
def bc.adq (hr:bc P g h w){r c aL cblk cbase:Nat}{kt e f:Nat}{l:List (D×D)}{st:List Nat}{ck:Nat}{cs:List BV}{d k:D}{es:Array MapEntry}{k':Value}
 (hb:h.get r=some (.bg kt (.bY f e) l st ck))(hm:g.m r=some (aL,0))(hw:w.heap[aL]?=some (.map es ck))(hrel:tO P g w kt (.bY f e) l st ck es.toList)
 (hc:h.get c=some (.cells cs e false))(hcm:g.m c=some (cblk,cbase))(hd:cQ P e=true)(hu:Rg P e cs=some d)(hh:D.cS l k=false)(hk:AF P kt k)(hkv:ao P g w (cj P kt k) k'):
 bc P (g.rT f k (cblk,cbase)) ((h.put c (some (.qQ r f k))).put r (some (.bg kt (.bY f e) (l++[(k,d)]) (st++[ck]) (ck+1)))) (w.dL aL (.map (es.push ⟨k',.pointer (some ⟨cblk,cbase,none⟩),ck⟩) (ck+1)))/\
 hJ g h w (g.rT f k (cblk,cbase)) ((h.put c (some (.qQ r f k))).put r (some (.bg kt (.bY f e) (l++[(k,d)]) (st++[ck]) (ck+1)))) (w.dL aL (.map (es.push ⟨k',.pointer (some ⟨cblk,cbase,none⟩),ck⟩) (ck+1)))/\
 Ph g h (g.rT f k (cblk,cbase)) ((h.put c (some (.qQ r f k))).put r (some (.bg kt (.bY f e) (l++[(k,d)]) (st++[ck]) (ck+1)))):=by
 generalize hg':g.rT f k (cblk,cbase)=g'
 generalize ho':aI.bg kt (.bY f e) (l++[(k,d)]) (st++[ck]) (ck+1)=o'
 generalize hh':(h.put c (some (.qQ r f k))).put r (some o')=h'
 generalize hw':w.dL aL (.map (es.push ⟨k',.pointer (some ⟨cblk,cbase,none⟩),ck⟩) (ck+1))=w'
 have hne:r≠c:=fun e1=>by subst e1;rw[hb]at hc;cases hc
 have hs0:g.s f k=none:=by
  cases e1:g.s f k with
  |none=>rfl
  |some x=>
   obtain⟨⟨o1,h1⟩,_⟩:=hr.sk _ _ _ _ _ hb rfl e1
   unfold D.cS at hh
   simp only[aI.xi,ahz]at h1
   cases e2:D.ep l k with
   |none=>rw[e2]at h1;cases h1
   |some y=>rw[e2]at hh;cases hh
 have hsne:∀f' k1 x,g.s f' k1=some x->¬(f'=f/\k1=k):=fun f' k1 x h1 h2=>by obtain⟨rfl,rfl⟩:=h2;rw[hs0]at h1;cases h1
 have gm:g'.m=g.m:=by subst hg';rfl
 have gfz:g'.fz=g.fz:=by subst hg';rfl
 have gsame:g'.s f k=some (cblk,cbase):=by subst hg';exact Gh.Yr _ _ _ _
 have gother:∀f' k1,¬(f'=f/\k1=k)->g'.s f' k1=g.s f' k1:=fun f' k1 h1=>by subst hg';exact Gh.Vm _ h1
 have hget:∀x,h'.get x=if x=r then some o' else if x=c then some (.qQ r f k)else h.get x:=fun x=>by
  subst hh';rw[aj.fe,aj.fe]
 have hnext:h'.next=h.next:=by subst hh';rfl
 have ofam:o'.zp=some f:=by subst ho';rfl
 have oown:o'.nC=some o':=by subst ho';rfl
 have hsz:w'.heap.size=w.heap.size:=by subst hw';simp[World.dL]
 have hlt:aL<w.heap.size:=hr.Xd r aL 0 hm
 have hother:∀x,x≠aL->w'.heap[x]?=w.heap[x]?:=fun x hx=>by subst hw';unfold World.dL;exact ahH (by omega)
 have hsame:w'.heap[aL]?=some (.map (es.push ⟨k',.pointer (some ⟨cblk,cbase,none⟩),ck⟩) (ck+1)):=by subst hw';exact dZ hlt
 have hrat:=aj.fO hb rfl
 have hcat:=aj.fO hc rfl
 have hnf:¬g.fz aL:=(hr.Xg r _ aL 0 hb hm).1
 have hmono:eC g w g' w':=⟨fun b x e1=>by rw[gm];exact e1,fun c e1=>by rw[gfz];exact e1,fun c h1=>hother c (fun e1=>hnf (e1▸h1)),fun c s h1=>by
  by_cases e1:c=aL
  ·subst e1;simp[World.shape?,hw]at h1
  ·rw[fZ (hother c e1)];exact h1,fun f' k1 x h1=>by rw[gother _ _ (hsne _ _ _ h1)];exact h1⟩
 have hat:∀L o1,h'.at L=some o1->(L= .el r f k/\o1= .ak e [d] false)\/(L= .aL r/\o1=o')\/(L≠ .aL r/\L≠ .aL c/\L≠ .el r f k/\h.at L=some o1):=fun L o1 e1=>by
  cases L with
  |aL x=>
   obtain⟨e2,e3⟩:=aj.wR e1
   rw[hget]at e2
   by_cases hx:x=r
   ·subst hx;rw[ag8 rfl]at e2;cases e2;exact .inr (.inl ⟨rfl,rfl⟩)
   ·rw[ag4 hx]at e2
    by_cases hxc:x=c
    ·subst hxc;rw[ag8 rfl]at e2;cases e2;cases e3
    ·rw[ag4 hxc]at e2
     exact .inr (.inr ⟨fun h=>(by cases h;exact hx rfl),fun h=>(by cases h;exact hxc rfl),fun h=>(by cases h),aj.fO e2 e3⟩)
  |el x f' k1=>
   obtain⟨y,e2,e3⟩:=aj.Kl e1
   rw[hget]at e2
   by_cases hx:x=r
   ·subst hx;rw[ag8 rfl]at e2;cases e2
    have hff:=aI.nk e3
    rw[ofam]at hff;cases hff
    subst ho'
    simp only[aI.xi,ahz]at e3
    by_cases hkk:k1=k
    ·subst hkk;rw[D.ov hh]at e3;cases e3;exact .inl ⟨rfl,rfl⟩
    ·rw[D.rJ hkk]at e3
     refine .inr (.inr ⟨fun h=>(by cases h),fun h=>(by cases h),fun h=>(by cases h;exact hkk rfl),aj.BB hb ?_⟩)
     simp only[aI.xi,ahz];exact e3
   ·rw[ag4 hx]at e2
    by_cases hxc:x=c
    ·subst hxc;rw[ag8 rfl]at e2;cases e2;cases e3
    ·rw[ag4 hxc]at e2
     exact .inr (.inr ⟨fun h=>(by cases h),fun h=>(by cases h),fun h=>(by cases h;exact hx rfl),aj.BB e2 e3⟩)
 have gat:∀L,L≠ .el r f k->(∀x,L≠ .el x f k)->g'.at L=g.at L:=fun L _ h2=>by
  cases L with
  |aL x=>show g'.m x=g.m x;rw[gm]
  |el x f' k1=>exact gother f' k1 fun hfk=>by obtain⟨rfl,rfl⟩:=hfk;exact h2 x rfl
 have hnel:∀x o1,x≠r->h.at (.el x f k)≠some o1:=fun x o1 hx e1=>by
  obtain⟨y,e2,e3⟩:=aj.Kl e1
  exact hx (hr.fu _ _ _ _ _ e2 hb (aI.nk e3) rfl)
 have gat2:∀L o1,h.at L=some o1->L≠ .el r f k->g'.at L=g.at L:=fun L o1 e1 h2=>gat L h2 fun x hx=>by
  subst hx
  by_cases hxr:x=r
  ·subst hxr;exact h2 rfl
  ·exact hnel x o1 hxr e1
 have hnm:Jq g' h':=by
  refine⟨fun b o h1=>?_,fun b x h1=>by rw[hnext];exact hr.lt b x (gm▸h1),fun f' k1 x h1=>?_,fun b o f' h1 h2=>?_,fun b b' o o1 f' h1 h2 h3 h4=>?_,fun b o f' k1 x h1 h2 h3=>?_,fun b b' f' k1 h1=>?_⟩
  ·rw[hnext];rw[hget]at h1
   by_cases e1:b=r
   ·rw[e1];exact hr.Jt _ _ hb
   ·rw[ag4 e1]at h1
    by_cases e2:b=c
    ·rw[e2];exact hr.Jt _ _ hc
    ·rw[ag4 e2]at h1;exact hr.Jt _ _ h1
  ·rw[hnext]
   by_cases hfk:f'=f/\k1=k
   ·rw[hfk.1];exact hr.BF _ _ _ hb rfl
   ·rw[gother _ _ hfk]at h1;exact hr.FJ _ _ _ h1
  ·rw[hnext];rw[hget]at h1
   by_cases e1:b=r
   ·rw[ag8 e1]at h1;cases h1;rw[ofam]at h2;cases h2;exact hr.BF _ _ _ hb rfl
   ·rw[ag4 e1]at h1
    by_cases e2:b=c
    ·rw[ag8 e2]at h1;cases h1;cases h2
    ·rw[ag4 e2]at h1;exact hr.BF _ _ _ h1 h2
  ·have old:∀b o,h'.get b=some o->o.zp=some f'->∃o2,h.get b=some o2/\o2.zp=some f':=fun b o h1 h2=>by
    rw[hget]at h1
    by_cases e1:b=r
    ·rw[ag8 e1]at h1;cases h1;rw[ofam]at h2;cases h2;exact⟨_,e1▸hb,rfl⟩
    ·rw[ag4 e1]at h1
     by_cases e2:b=c
     ·rw[ag8 e2]at h1;cases h1;cases h2
     ·rw[ag4 e2]at h1;exact⟨o,h1,h2⟩
   obtain⟨p1,k1,k2⟩:=old _ _ h1 h3
   obtain⟨p2,j1,j2⟩:=old _ _ h2 h4
   exact hr.fu _ _ _ _ _ k1 j1 k2 j2
  ·rw[hget]at h1
   rw[gm]
   by_cases e1:b=r
   ·rw[ag8 e1]at h1;cases h1
    rw[ofam]at h2;cases h2
    refine⟨?_,⟨_,e1▸hm⟩⟩
    subst ho'
    simp only[aI.xi,ahz]
    by_cases hkk:k1=k
    ·subst hkk;rw[D.ov hh];exact⟨_,rfl⟩
    ·rw[D.rJ hkk]
     rw[gother _ _ (fun hfk=>hkk hfk.2)]at h3
     obtain⟨⟨o1,k2⟩,_⟩:=hr.sk _ _ _ _ _ hb rfl h3
     simp only[aI.xi,ahz]at k2
     exact⟨o1,k2⟩
   ·rw[ag4 e1]at h1
    by_cases e2:b=c
    ·rw[ag8 e2]at h1;cases h1;cases h2
    ·rw[ag4 e2]at h1
     have hff:¬(f'=f/\k1=k):=fun hfk=>e1 (hr.fu _ _ _ _ _ h1 hb (hfk.1▸h2) rfl)
     rw[gother _ _ hff]at h3
     exact hr.sk _ _ _ _ _ h1 h2 h3
  ·rw[hget]at h1
   rw[gm]
   by_cases e1:b=r
   ·rw[ag8 e1]at h1;cases h1;cases oown
   ·rw[ag4 e1]at h1
    by_cases e2:b=c
    ·rw[ag8 e2]at h1;cases h1;exact⟨⟨_,e2▸hcm,gsame⟩,_,hm⟩
    ·rw[ag4 e2]at h1
     obtain⟨⟨x,k1',k2⟩,k3⟩:=hr.al _ _ _ _ h1
     exact⟨⟨x,k1',by rw[gother _ _ (hsne _ _ _ k2)];exact k2⟩,k3⟩
 refine⟨hnm.M0 ?_ ?_ ?_ ?_,⟨hmono,by omega,?_,fun x _ hx=>?_,fun x _ h1=> .inl (gfz▸h1),by rw[hnext];exact aho _,by subst hw';exact⟨rfl,rfl,rfl⟩⟩,fun b hb1 e1 hv=>⟨by rw[gm];exact e1,?_⟩⟩
 ·intro L blk1 base1 h1
  rw[hsz]
  cases L with
  |aL x=>exact hr.nv (.aL x) blk1 base1 (by rw[<-h1];show g.m x=g'.m x;rw[gm])
  |el x f' k1=>
   by_cases hfk:f'=f/\k1=k
   ·obtain⟨rfl,rfl⟩:=hfk
    change g'.s f' k1=_ at h1
    rw[gsame]at h1;cases h1
    exact hr.Xd c _ _ hcm
   ·exact hr.nv (.el x f' k1) blk1 base1 (by rw[<-h1];exact(gother _ _ hfk).symm)
 ·intro L1 L2 blk1 base1 base2 o1 o2 h1 h2 m1 m2
  have conv:∀L o1 base1,h'.at L=some o1->g'.at L=some (blk1,base1)->(L= .el r f k/\blk1=cblk)\/(L≠ .el r f k/\L≠ .aL c/\∃o2 base2,h.at L=some o2/\g.at L=some (blk1,base2)):=fun L o1 base1 h1 m1=>by
   rcases hat L o1 h1 with ⟨rfl,_⟩| ⟨rfl,_⟩| ⟨n1,n2,n3,h1'⟩
   ·left;refine⟨rfl,?_⟩;change g'.s f k=_ at m1;rw[gsame]at m1;cases m1;rfl
   ·right
    refine⟨fun h=>(by cases h),fun h=>(by cases h;exact hne rfl),_,base1,hrat,?_⟩
    rw[<-m1];show g.m r=g'.m r;rw[gm]
   ·exact .inr ⟨n3,n2,o1,base1,h1',by rw[<-m1];exact(gat2 L o1 h1' n3).symm⟩
  rcases conv L1 o1 base1 h1 m1 with ⟨rfl,rfl⟩| ⟨n1,n1',p1,q1,j1,j2⟩
  ·rcases conv L2 o2 base2 h2 m2 with ⟨rfl,_⟩| ⟨n2,n2',p2,q2,l1,l2⟩
   ·rfl
   ·exact absurd (hr.nw _ _ _ _ _ _ _ l1 hcat l2 hcm) n2'
  ·rcases conv L2 o2 base2 h2 m2 with ⟨rfl,e3⟩| ⟨n2,n2',p2,q2,l1,l2⟩
   ·subst e3;exact absurd (hr.nw _ _ _ _ _ _ _ j1 hcat j2 hcm) n1'
   ·exact hr.nw _ _ _ _ _ _ _ j1 l1 j2 l2
 ·intro L o1 blk1 base1 h1 m1
  rcases hat L o1 h1 with ⟨rfl,rfl⟩| ⟨rfl,rfl⟩| ⟨n1,n2,n3,h1⟩
  ·change g'.s f k=_ at m1
   rw[gsame]at m1;cases m1
   obtain⟨k1,o2,k2,k3⟩:=hr.qJ _ _ _ _ hcat hcm
   have hneb:cblk≠aL:=fun ee=>by
    have:=hr.nw _ _ _ _ _ _ _ hcat hrat hcm (ee▸hm)
    cases this;exact hne rfl
   refine⟨by rw[gfz];exact k1,o2,(hother _ hneb).trans k2,?_⟩
   simp only[cV]at k3 ⊢
   obtain⟨cc,lo,hi,rfl,⟨vs,hv,hcc⟩,_,hs⟩:=k3
   obtain⟨rfl,rfl⟩:=hs trivial
   refine⟨cc,rfl,vs,?_,hcc⟩
   have hD:=BA hu hv
   have:=cI.cons (l:=[]) (vs:=[]) (by rw[nG.length hd hD]) hD cI.nil
   simp only[ahM]at this
   exact this.mono hmono.mf hmono.mc
  ·change g'.m r=_ at m1
   rw[gm,hm]at m1;cases m1
   refine⟨by rw[gfz];exact hnf,_,hsame,?_⟩
   subst ho'
   simp only[cV]
   refine⟨trivial,_,rfl,?_⟩
   rw[aj1]
   exact(hrel.mono hmono).app hk hh (ao.mono hmono _ _ hkv) (by unfold y5;exact⟨(cblk,cbase),gsame,rfl⟩)
  ·rw[gat2 L o1 h1 n3]at m1
   obtain⟨k1,o2,ho2,hr2⟩:=hr.qJ _ _ _ _ h1 m1
   have hne:blk1≠aL:=fun ee=>n1 (hr.nw _ _ _ _ _ _ _ h1 hrat (ee▸m1) hm)
   exact⟨by rw[gfz];exact k1,o2,(hother _ hne).trans ho2,hr2.mono hmono⟩
 ·intro x hx;rw[hsz];exact hr.mE x (gfz▸hx)
 ·intro x hx hno
  exact hother x (fun e=>hno ⟨.aL r,_,0,hrat,e▸hm⟩)
 ·obtain⟨L,o1,base1,hl,hm1⟩:=hx
  rcases hat L o1 hl with ⟨rfl,_⟩| ⟨rfl,_⟩| ⟨n1,n2,n3,h1⟩
  ·change g'.s f k=_ at hm1;rw[gsame]at hm1;cases hm1;exact⟨.aL c,_,cbase,hcat,hcm⟩
  ·exact⟨.aL r,_,base1,hrat,by rw[<-hm1];show g.m r=g'.m r;rw[gm]⟩
  ·exact⟨L,o1,base1,h1,by rw[<-hm1];exact(gat2 L o1 h1 n3).symm⟩
 ·rw[hget,ag4 (fun ee=>by subst ee;rw[hm]at e1;cases e1),ag4 (fun ee=>by subst ee;rw[hcm]at e1;cases e1)]
def Gh.Ti (g:Gh)(f f':Nat)(k:D):Gh:={g with s:=fun x k'=>if x=f' then @ite _ (k'=k) (Classical.propDecidable _) none (g.s f k')else g.s x k'}
def Gh.acf (g:Gh){f f':Nat}{k k':D}(h:k'≠k):(g.Ti f f' k).s f' k'=g.s f k':=by
 unfold Gh.Ti;simp only[ahz];exact ag4 h
def Gh.ZK (g:Gh){f f':Nat}{k:D}:(g.Ti f f' k).s f' k=none:=by
 unfold Gh.Ti;simp
def Gh.WD (g:Gh){f f' x:Nat}{k k':D}(h:x≠f'):(g.Ti f f' k).s x k'=g.s x k':=by
 unfold Gh.Ti;exact ag4 h
def bc.ac8 (hr:bc P g h w){r aL:Nat}{kt e f:Nat}{l:List (D×D)}{st:List Nat}{ck:Nat}{k:D}{es es1:Array MapEntry}
 (hb:h.get r=some (.bg kt (.bY f e) l st ck))(hm:g.m r=some (aL,0))(hw:w.heap[aL]?=some (.map es ck))
 (hrel:∀g' w',eC g w g' w'->(∀k',k'≠k->g'.s h.next k'=g.s f k')->tO P g' w' kt (.bY h.next e) (D.pD l k) (D.Ay l st k) ck es1.toList):
 bc P (g.Ti f h.next k) ((h.put r (some (.bg kt (.bY h.next e) (D.pD l k) (D.Ay l st k) ck))).RU) (w.dL aL (.map es1 ck))/\
 hJ g h w (g.Ti f h.next k) ((h.put r (some (.bg kt (.bY h.next e) (D.pD l k) (D.Ay l st k) ck))).RU) (w.dL aL (.map es1 ck))/\
 Ph g h (g.Ti f h.next k) ((h.put r (some (.bg kt (.bY h.next e) (D.pD l k) (D.Ay l st k) ck))).RU):=by
 generalize hg':g.Ti f h.next k=g'
 generalize ho':aI.bg kt (.bY h.next e) (D.pD l k) (D.Ay l st k) ck=o'
 generalize hh':(h.put r (some o')).RU=h'
 generalize hw':w.dL aL (.map es1 ck)=w'
 have hflt:f<h.next:=hr.BF _ _ _ hb rfl
 have gm:g'.m=g.m:=by subst hg';rfl
 have gfz:g'.fz=g.fz:=by subst hg';rfl
 have gnew:∀k',k'≠k->g'.s h.next k'=g.s f k':=fun k' h1=>by subst hg';exact Gh.acf g h1
 have ggone:g'.s h.next k=none:=by subst hg';exact Gh.ZK g
 have gother:∀x k',x≠h.next->g'.s x k'=g.s x k':=fun x k' h1=>by subst hg';exact Gh.WD g h1
 have hsne:∀f' k1 x,g.s f' k1=some x->f'≠h.next:=fun f' k1 x h1 h2=>by have:=hr.FJ _ _ _ h1;omega
 have hget:∀x,h'.get x=if x=r then some o' else h.get x:=fun x=>by subst hh';rw[aj.Yo,aj.fe]
 have hnext:h'.next=h.next+1:=by subst hh';rfl
 have ofam:o'.zp=some h.next:=by subst ho';rfl
 have oown:o'.nC=some o':=by subst ho';rfl
 have hsz:w'.heap.size=w.heap.size:=by subst hw';simp[World.dL]
 have hlt:aL<w.heap.size:=hr.Xd r aL 0 hm
 have hother:∀x,x≠aL->w'.heap[x]?=w.heap[x]?:=fun x hx=>by subst hw';unfold World.dL;exact ahH (by omega)
 have hsame:w'.heap[aL]?=some (.map es1 ck):=by subst hw';exact dZ hlt
 have hrat:=aj.fO hb rfl
 have hnf:¬g.fz aL:=(hr.Xg r _ aL 0 hb hm).1
 have hmono:eC g w g' w':=⟨fun b x e1=>by rw[gm];exact e1,fun c e1=>by rw[gfz];exact e1,fun c h1=>hother c (fun e1=>hnf (e1▸h1)),fun c s h1=>by
  by_cases e1:c=aL
  ·subst e1;simp[World.shape?,hw]at h1
  ·rw[fZ (hother c e1)];exact h1,fun f' k1 x h1=>by rw[gother _ _ (hsne _ _ _ h1)];exact h1⟩
 have hat:∀L o1,h'.at L=some o1->(∃k1,k1≠k/\L= .el r h.next k1/\h.at (.el r f k1)=some o1)\/(L= .aL r/\o1=o')\/(L≠ .aL r/\(∀x k1,L≠ .el x h.next k1)/\(∀k1,L≠ .el r f k1)/\h.at L=some o1):=fun L o1 e1=>by
  cases L with
  |aL x=>
   obtain⟨e2,e3⟩:=aj.wR e1
   rw[hget]at e2
   by_cases hx:x=r
   ·subst hx;rw[ag8 rfl]at e2;cases e2;exact .inr (.inl ⟨rfl,rfl⟩)
   ·rw[ag4 hx]at e2
    exact .inr (.inr ⟨fun h=>(by cases h;exact hx rfl),fun _ _ h=>(by cases h),fun _ h=>(by cases h),aj.fO e2 e3⟩)
  |el x f' k1=>
   obtain⟨y,e2,e3⟩:=aj.Kl e1
   rw[hget]at e2
   by_cases hx:x=r
   ·subst hx;rw[ag8 rfl]at e2;cases e2
    have hff:=aI.nk e3
    rw[ofam]at hff;cases hff
    subst ho'
    simp only[aI.xi,ahz]at e3
    by_cases hkk:k1=k
    ·subst hkk;rw[D.xz]at e3;cases e3
    ·rw[D.wg hkk]at e3
     refine .inl ⟨k1,hkk,rfl,aj.BB hb ?_⟩
     simp only[aI.xi,ahz];exact e3
   ·rw[ag4 hx]at e2
    have hfl:=hr.BF _ _ _ e2 (aI.nk e3)
    refine .inr (.inr ⟨fun h=>(by cases h),fun x1 k2 h1=>?_,fun k2 h1=>?_,aj.BB e2 e3⟩)
    ·cases h1;omega
    ·cases h1;exact hx rfl
 have gat2:∀L,(∀x k1,L≠ .el x h.next k1)->g'.at L=g.at L:=fun L h2=>by
  cases L with
  |aL x=>show g'.m x=g.m x;rw[gm]
  |el x f' k1=>exact gother f' k1 fun hfk=>by subst hfk;exact h2 x k1 rfl
 have hnm:Jq g' h':=by
  refine⟨fun b o h1=>?_,fun b x h1=>by rw[hnext];exact aiv (hr.lt b x (gm▸h1)),fun f' k1 x h1=>?_,fun b o f' h1 h2=>?_,fun b b' o o1 f' h1 h2 h3 h4=>?_,fun b o f' k1 x h1 h2 h3=>?_,fun b b' f' k1 h1=>?_⟩
  ·rw[hnext];rw[hget]at h1
   by_cases e1:b=r
   ·rw[e1];exact aiv (hr.Jt _ _ hb)
   ·rw[ag4 e1]at h1;exact aiv (hr.Jt _ _ h1)
  ·rw[hnext]
   by_cases hfk:f'=h.next
   ·omega
   ·rw[gother _ _ hfk]at h1;exact aiv (hr.FJ _ _ _ h1)
  ·rw[hnext];rw[hget]at h1
   by_cases e1:b=r
   ·rw[ag8 e1]at h1;cases h1;rw[ofam]at h2;cases h2;omega
   ·rw[ag4 e1]at h1;exact aiv (hr.BF _ _ _ h1 h2)
  ·rw[hget]at h1 h2
   by_cases e1:b=r
   ·rw[ag8 e1]at h1;cases h1;rw[ofam]at h3;cases h3
    by_cases e2:b'=r
    ·rw[e1,e2]
    ·rw[ag4 e2]at h2;have:=hr.BF _ _ _ h2 h4;omega
   ·rw[ag4 e1]at h1
    by_cases e2:b'=r
    ·rw[ag8 e2]at h2;cases h2;rw[ofam]at h4;cases h4
     have:=hr.BF _ _ _ h1 h3;omega
    ·rw[ag4 e2]at h2;exact hr.fu _ _ _ _ _ h1 h2 h3 h4
  ·rw[hget]at h1
   rw[gm]
   by_cases e1:b=r
   ·rw[ag8 e1]at h1;cases h1
    rw[ofam]at h2;cases h2
    refine⟨?_,⟨_,e1▸hm⟩⟩
    subst ho'
    simp only[aI.xi,ahz]
    by_cases hkk:k1=k
    ·subst hkk;rw[ggone]at h3;cases h3
    ·rw[D.wg hkk]
     rw[gnew _ hkk]at h3
     obtain⟨⟨o1,k2⟩,_⟩:=hr.sk _ _ _ _ _ hb rfl h3
     simp only[aI.xi,ahz]at k2
     exact⟨o1,k2⟩
   ·rw[ag4 e1]at h1
    have:=hr.BF _ _ _ h1 h2
    rw[gother _ _ (by omega)]at h3
    exact hr.sk _ _ _ _ _ h1 h2 h3
  ·rw[hget]at h1
   rw[gm]
   by_cases e1:b=r
   ·rw[ag8 e1]at h1;cases h1;cases oown
   ·rw[ag4 e1]at h1
    obtain⟨⟨x,k1',k2⟩,k3⟩:=hr.al _ _ _ _ h1
    exact⟨⟨x,k1',by rw[gother _ _ (hsne _ _ _ k2)];exact k2⟩,k3⟩
 refine⟨hnm.M0 ?_ ?_ ?_ ?_,⟨hmono,by omega,?_,fun x _ hx=>?_,fun x _ h1=> .inl (gfz▸h1),by rw[hnext];exact Nat.le_succ _,by subst hw';exact⟨rfl,rfl,rfl⟩⟩,fun b hb1 e1 hv=>⟨by rw[gm];exact e1,?_⟩⟩
 ·intro L blk1 base1 h1
  rw[hsz]
  cases L with
  |aL x=>exact hr.nv (.aL x) blk1 base1 (by rw[<-h1];show g.m x=g'.m x;rw[gm])
  |el x f' k1=>
   by_cases hfk:f'=h.next
   ·subst hfk
    change g'.s h.next k1=_ at h1
    by_cases hkk:k1=k
    ·subst hkk;rw[ggone]at h1;cases h1
    ·rw[gnew _ hkk]at h1;exact hr.nv (.el x f k1) blk1 base1 h1
   ·exact hr.nv (.el x f' k1) blk1 base1 (by rw[<-h1];exact(gother _ _ hfk).symm)
 ·intro L1 L2 blk1 base1 base2 o1 o2 h1 h2 m1 m2
  have conv:∀L o1 base1,h'.at L=some o1->g'.at L=some (blk1,base1)->∃L',(L'=L/\(∀x k1,L≠ .el x h.next k1)/\(∀k1,L≠ .el r f k1)\/∃k1,L= .el r h.next k1/\L'= .el r f k1)/\∃o2 base2,h.at L'=some o2/\g.at L'=some (blk1,base2):=fun L o1 base1 h1 m1=>by
   rcases hat L o1 h1 with ⟨k1,hk1,rfl,h3⟩| ⟨rfl,_⟩| ⟨n1,n2,n3,h1'⟩
   ·refine⟨.el r f k1,.inr ⟨k1,rfl,rfl⟩,o1,base1,h3,?_⟩
    change g'.s h.next k1=_ at m1;rw[gnew _ hk1]at m1;exact m1
   ·refine⟨.aL r,.inl ⟨rfl,fun _ _ h=>(by cases h),fun _ h=>(by cases h)⟩,_,base1,hrat,?_⟩
    rw[<-m1];show g.m r=g'.m r;rw[gm]
   ·exact⟨L,.inl ⟨rfl,n2,n3⟩,o1,base1,h1',by rw[<-m1];exact(gat2 L n2).symm⟩
  obtain⟨L1',c1,p1,q1,j1,j2⟩:=conv L1 o1 base1 h1 m1
  obtain⟨L2',c2,p2,q2,l1,l2⟩:=conv L2 o2 base2 h2 m2
  have:=hr.nw _ _ _ _ _ _ _ j1 l1 j2 l2
  rcases c1 with ⟨e1,a1,b1⟩| ⟨k1,e1,e2⟩
  ·rcases c2 with ⟨e3,_,_⟩| ⟨k2,e3,e4⟩
   ·rw[<-e1,<-e3,this]
   ·rw[e1,e4]at this;exact absurd this (b1 k2)
  ·rcases c2 with ⟨e3,a2,b2⟩| ⟨k2,e3,e4⟩
   ·rw[e2,e3]at this;exact absurd this.symm (b2 k1)
   ·rw[e2,e4]at this;cases this;rw[e1,e3]
 ·intro L o1 blk1 base1 h1 m1
  rcases hat L o1 h1 with ⟨k1,hk1,rfl,h3⟩| ⟨rfl,rfl⟩| ⟨n1,n2,n3,h1⟩
  ·change g'.s h.next k1=_ at m1
   rw[gnew _ hk1]at m1
   obtain⟨j1,o2,ho2,hr2⟩:=hr.qJ (.el r f k1) _ _ _ h3 m1
   have hne:blk1≠aL:=fun ee=>by
    have:=hr.nw _ _ _ _ _ _ _ h3 hrat (show g.at (.el r f k1)=some (aL,base1)from ee▸m1) hm
    cases this
   exact⟨by rw[gfz];exact j1,o2,(hother _ hne).trans ho2,hr2.mono hmono⟩
  ·change g'.m r=_ at m1
   rw[gm,hm]at m1;cases m1
   refine⟨by rw[gfz];exact hnf,_,hsame,?_⟩
   subst ho'
   simp only[cV]
   exact⟨trivial,_,rfl,hrel g' w' hmono gnew⟩
  ·rw[gat2 L n2]at m1
   obtain⟨k1,o2,ho2,hr2⟩:=hr.qJ _ _ _ _ h1 m1
   have hne:blk1≠aL:=fun ee=>n1 (hr.nw _ _ _ _ _ _ _ h1 hrat (ee▸m1) hm)
   exact⟨by rw[gfz];exact k1,o2,(hother _ hne).trans ho2,hr2.mono hmono⟩
 ·intro x hx;rw[hsz];exact hr.mE x (gfz▸hx)
 ·intro x hx hno
  exact hother x (fun e=>hno ⟨.aL r,_,0,hrat,e▸hm⟩)
 ·obtain⟨L,o1,base1,hl,hm1⟩:=hx
  rcases hat L o1 hl with ⟨k1,hk1,rfl,h3⟩| ⟨rfl,_⟩| ⟨n1,n2,n3,h1⟩
  ·change g'.s h.next k1=_ at hm1;rw[gnew _ hk1]at hm1;exact⟨.el r f k1,o1,base1,h3,hm1⟩
  ·exact⟨.aL r,_,base1,hrat,by rw[<-hm1];show g.m r=g'.m r;rw[gm]⟩
  ·exact⟨L,o1,base1,h1,by rw[<-hm1];exact(gat2 L n2).symm⟩
 ·rw[hget,ag4 (fun ee=>by subst ee;rw[hm]at e1;cases e1)]
end
end
section
def Kv:∀(n:Nat),(∀a b,D.beq n a b=true->a=b)/\(∀a b,D.Ct n a b=true->a=b):=by
 intro n
 induction n with
 |zero=>exact⟨fun a b h=>by simp[D.beq]at h,fun a b h=>by simp[D.Ct]at h⟩
 |succ n ih=>
  obtain⟨i1,i2⟩:=ih
  constructor
  ·intro a b h
   cases a<;>cases b<;>simp only[D.beq,aht,agZ]at h<;>first
    | (subst h;rfl)
    | (have:=i2 _ _ h;subst this;rfl)
  ·intro a b h
   cases a<;>cases b<;>simp only[D.Ct,ag2,agZ]at h<;>first
    |rfl
    | (obtain⟨h1,h2⟩:=h;rw[i1 _ _ h1,i2 _ _ h2])
def U1:∀(n:Nat),(∀a b,BV.beq n a b=true->a=b)/\(∀a b,BV.Ct n a b=true->a=b):=by
 intro n
 induction n with
 |zero=>exact⟨fun a b h=>by simp[BV.beq]at h,fun a b h=>by simp[BV.Ct]at h⟩
 |succ n ih=>
  obtain⟨i1,i2⟩:=ih
  constructor
  ·intro a b h
   cases a<;>cases b<;>simp only[BV.beq,ag2,aht,agZ]at h<;>first
    |rfl
    | (subst h;rfl)
    | (obtain⟨rfl,rfl⟩:=h;rfl)
    | (obtain⟨⟨⟨rfl,rfl⟩,rfl⟩,rfl⟩:=h;rfl)
    | (obtain⟨⟨⟨rfl,rfl⟩,h1⟩,rfl⟩:=h;have:=(Kv n).1 _ _ h1;subst this;rfl)
    | (obtain⟨⟨rfl,rfl⟩,rfl⟩:=h;rfl)
    | (obtain⟨rfl,h1⟩:=h;have:=(Kv n).2 _ _ h1;subst this;rfl)
    | (have:=i2 _ _ h;subst this;rfl)
    | (obtain⟨⟨h1,rfl⟩,rfl⟩:=h;have:=i2 _ _ h1;subst this;rfl)
    | (obtain⟨⟨rfl,h1⟩,h2⟩:=h;have:=i2 _ _ h1;have:=i2 _ _ h2;subst_vars;rfl)
    | (obtain⟨rfl,h1⟩:=h;have:=i1 _ _ h1;subst this;rfl)
  ·intro a b h
   cases a<;>cases b<;>simp only[BV.Ct,ag2,agZ]at h<;>first
    |rfl
    | (obtain⟨h1,h2⟩:=h;rw[i1 _ _ h1,i2 _ _ h2])
section
variable {P:Program} {g:Gh} {h:aj} {w:World}
def I4 {b:BV}{u v:Value}(hb:(match b with| .int .. | .b8 _| .bool _=>true|_=>false)=true)(hu:ao P g w b u)(hv:ao P g w b v)(n:Nat):Instr.sameBits n u v=true:=by
 cases b<;>simp at hb<;>simp only[ao]at hu hv<;>subst hu hv
 ·cases n<;>simp[Instr.sameBits]
 ·cases n<;>simp[Instr.sameBits]
 ·cases n<;>(simp only[Instr.sameBits,Mt];simp)
def Ta {b:BV}{u v:Value}(hb:wS b=true)(hu:ao P g w b u)(hv:ao P g w b v):Instr.sameBits 10000 u v=true:=by
 by_cases ha:∃cs,b= .agg cs
 ·obtain⟨cs,rfl⟩:=ha
  simp only[wS,ahG]at hb
  simp only[ao]at hu hv
  obtain⟨us,rfl,hu⟩:=hu
  obtain⟨vs,rfl,hv⟩:=hv
  rw[show (10000:Nat)=9999+1 from rfl]
  simp only[Instr.sameBits,ag2,aht,ahG]
  have h1:=hu.length
  have h2:=hv.length
  refine⟨by simp at h1 h2;omega,fun x hx=>?_⟩
  obtain⟨i,hi⟩:=aid hx
  rw[List.getElem?_zip_eq_some]at hi
  obtain⟨b,hb1,hr1⟩:=hu.aei hi.1
  obtain⟨v',hv1,hr2⟩:=hv.get hb1
  rw[hi.2]at hv1;cases hv1
  exact I4 (hb b (agY hb1)) hr1 hr2 _
 ·refine I4 ?_ hu hv _
  cases b<;>simp[wS]at hb ⊢
  exact ha ⟨_,rfl⟩
def ZY (hr:bc P g h w){t kt kt0 et0:TypeId}{r:Nat}{vk:VK}{l:List (D×D)}{st:List Nat}{ck:Nat}{k v:BV}{d:D}{k' v':Value}{aL:Nat}{h':aj}(hu:P.underlying t=some (.map kt0 et0))(hkt:kt0=kt)(hb:h.get r=some (.bg kt vk l st ck))(hm:g.m r=some (aL,0))
 (hck:∀em,(Instr.checkKey em 10000 kt0 k').run P w= .ok () w)(hk:ao P g w k k')(hv:ao P g w v v')(hd:PD P kt k=some d)(e:Jj P h r kt vk l st ck d v=some h'):
 ∃g' w',(Instr.mapUpdate t (.map (some aL)) k' v').run P w= .ok () w'/\bc P g' h' w'/\hJ g h w g' h' w'/\Ph g h g' h':=by
 subst hkt
 obtain⟨hp,huv,hcan⟩:=KM hd
 have hkv:=J2 (nD hp).1 huv hk
 obtain⟨_,es,hw,hrel⟩:=hr.Ji hb hm
 obtain⟨r',h1,h2⟩:=IA hr hrel hp hcan hkv
 unfold Jj at e
 cases vk with
 |data et=>
  dsimp only at e
  split at e
  ·rename_i hdt
   split at e
   ·rename_i dv hdv
    have hvv:=J2 hdt hdv hv
    split at e
    ·rename_i hh
     cases e
     cases r' with
     |none=>dsimp only at h2;rw[hh]at h2;cases h2
     |some q=>
      obtain⟨i,u⟩:=q
      obtain⟨_,hl,en,he,rfl⟩:=h2
      have hput:=hr.Wu hb hm hw (es1:=es.modify i fun e=>{e with key:=k',val:=v'}) (c1:=ck) (by rw[Array.toList_modify];exact hrel.oS hl hkv hvv)
      refine⟨g,_,?_,hput.1,hput.2,Ph.put hm _⟩
      have hstay:(Instr.keyThatStays (((es[i]?).map (·.key)).getD k') k').run P w= .ok k' w:=by
       have he':es[i]?=some en:=by simpa using he
       rw[he']
       have hko:=hrel.key i _ en hl he
       simp[Instr.keyThatStays,Ta (QA hp d) hko hkv]
      simp only[Instr.mapUpdate,Sem.run_bind,aT hu,Result.andThen_ok,jq hw,hck,h1,hstay,rP hw]
    ·rename_i hh
     cases e
     cases r' with
     |some q=>obtain⟨i,u⟩:=q;exact absurd h2.1 hh
     |none=>
      have hput:=hr.Wu hb hm hw (es1:=es.push {key:=k',val:=v',born:=ck}) (c1:=ck+1) (by rw[aj1];exact hrel.app hcan (by simpa using hh) hkv hvv)
      refine⟨g,_,?_,hput.1,hput.2,Ph.put hm _⟩
      simp only[Instr.mapUpdate,Sem.run_bind,aT hu,Result.andThen_ok,jq hw,hck,h1,rP hw]
   ·cases e
  ·cases e
 |bY f el=>
  dsimp only at e
  split at e
  ·rename_i hdt
   split at e
   ·rename_i c off
    split at e
    ·rename_i cs e' hc
     split at e
     ·rename_i hcond
      simp only[ag2]at hcond
      have he:=ahh hcond.1
      have ho:=ahh hcond.2
      subst he;subst ho
      split at e
      ·rename_i dv hdv
       split at e
       ·cases e
       ·rename_i hh
        cases e
        simp only[ao]at hv
        obtain⟨cblk,cbase,hcm,rfl⟩:=hv
        cases r' with
        |some q=>obtain⟨i,u⟩:=q;exact absurd h2.1 hh
        |none=>
         obtain⟨a1,a2,a3⟩:=hr.adq hb hm hw hrel hc hcm hdt hdv (by simpa using hh) hcan hkv
         refine⟨_,_,?_,a1,a2,a3⟩
         simp only[Instr.mapUpdate,Sem.run_bind,aT hu,Result.andThen_ok,jq hw,hck,h1,rP hw,air]
      ·cases e
     ·cases e
    ·cases e
   ·cases e
  ·cases e
 |IZ=>
  dsimp only at e
  split at e
  ·rename_i f
   split at e
   ·cases e
   ·rename_i hh
    cases e
    simp only[ao,aq]at hv
    obtain⟨a',c',rfl,ha,hc⟩:=hv
    have ha:a'=#[]:=by apply aiV;simpa using ha
    have hc:c'=#[]:=by apply aiV;simpa using hc
    subst ha hc
    cases r' with
    |some q=>obtain⟨i,u⟩:=q;exact absurd h2.1 hh
    |none=>
     have hput:=hr.Wu hb hm hw (es1:=es.push {key:=k',val:= .func (.func f) #[] #[],born:=ck}) (c1:=ck+1) (by rw[aj1];exact hrel.app (v:= .z (Int.ofNat f)) hcan (by simpa using hh) hkv (by simp[y5,D.int]))
     refine⟨g,_,?_,hput.1,hput.2,Ph.put hm _⟩
     simp only[Instr.mapUpdate,Sem.run_bind,aT hu,Result.andThen_ok,jq hw,hck,h1,rP hw]
  ·cases e
def E8 (hr:bc P g h w){t:TypeId}{m k v:BV}{m' k' v':Value}{h':aj}(hm:ao P g w m m')(hk:ao P g w k k')(hv:ao P g w v v')(e:jD P h t m k v=some h'):
 ∃g' w',(Instr.mapUpdate t m' k' v').run P w= .ok () w'/\bc P g' h' w'/\hJ g h w g' h' w'/\Ph g h g' h':=by
 unfold jD at e
 split at e
 ·rename_i kt et r hu
  simp only[ao]at hm;obtain⟨aL,hmm,rfl⟩:=hm
  split at e
  ·cases e
  ·rename_i hko
   have hko:Ac P 4 kt k=true:=by simpa using hko
   have hck:=fun em=>OJ (P:=P) (g:=g) (w:=w) 4 kt k k' em hk hko 10000 (by omega)
   split at e
   ·rename_i kt' vk l st ck hb
    split at e
    ·rename_i d hd
     split at e
     ·rename_i hkt
      have hkt:=ahh hkt
      subst hkt
      exact ZY hr hu rfl hb hmm hck hk hv hd e
     ·cases e
    ·cases e
   ·cases e
 ·cases e
def Tt (hr:bc P g h w){ts:Array TypeId}{t:TypeId}{args:List BV}{args':Array Value}{v:BV}{h':aj}(ha:aq P g w args args'.toList)(e:NS P h ts args=some (v,h')):
 ∃v' g' w',(Builtin.delete_ ts t args').run P w= .ok v' w'/\bc P g' h' w'/\hJ g h w g' h' w'/\Ph g h g' h'/\ao P g' w' v v':=by
 unfold NS at e
 split at e
 ·rename_i mt m k ht
  obtain⟨m',k',hl,hm,hk⟩:=ha.two
  have hargs:args'=#[m',k']:=by apply aiV;simpa using hl
  subst hargs
  have hundef:∀g' w',ao P g' w' (BV.tuple []) (Value.tuple #[]):=fun g' w'=>by simp only[ao];exact⟨_,rfl,aq.nil⟩
  split at e
  ·rename_i kt et hu
   split at e
   ·cases e
   ·rename_i hko
    have hko:Ac P 4 kt k=true:=by simpa using hko
    have hck:=fun em=>OJ (P:=P) (g:=g) (w:=w) 4 kt k k' em hk hko 10000 (by omega)
    split at e
    ·rename_i r
     simp only[ao]at hm;obtain⟨aL,hmm,rfl⟩:=hm
     split at e
     ·rename_i kt' vk l st ck hb
      split at e
      ·rename_i d hd
       split at e
       ·rename_i hkt
        have hkt:=ahh hkt
        subst hkt
        obtain⟨hp,huv,hcan⟩:=KM hd
        have hkv:=J2 (nD hp).1 huv hk
        obtain⟨_,es,hw,hrel⟩:=hr.Ji hb hmm
        obtain⟨r',h1,h2⟩:=IA hr hrel hp hcan hkv
        have hmono0:∀{g':Gh} {w':World},eC g w g' w'->∀d v,ao P g w (cj P kt d) v->ao P g' w' (cj P kt d) v:=fun hmo d v hv=>ao.mono hmo _ _ hv
        cases vk with
        |data et'=>
         dsimp only at e
         cases e
         cases r' with
         |some q=>
          obtain⟨i,u⟩:=q
          obtain⟨_,hl,en,he,rfl⟩:=h2
          have hm2:tO P g w kt (.data et') (D.pD l d) (D.Ay l st d) ck (es.eraseIdxIfInBounds i).toList:=by
           rw[ajE]
           exact hrel.del hl (fun _ _ h=>h) (fun _ _ _ _ h=>h)
          have hput:=hr.Wu hb hmm hw hm2
          refine⟨_,g,_,?_,hput.1,hput.2,Ph.put hmm _,hundef _ _⟩
          simp[Builtin.delete_,ht,aT hu,hck,jq hw,h1,rP hw]
         |none=>
          have h3:D.cS l d=false:=h2
          rw[D.Io h3,D.Ea hrel.sl h3]
          have hput:=hr.Wu hb hmm hw hrel
          refine⟨_,g,_,?_,hput.1,hput.2,Ph.put hmm _,hundef _ _⟩
          simp[Builtin.delete_,ht,aT hu,hck,jq hw,h1,rP hw]
        |IZ=>cases e
        |bY f el=>
         dsimp only at e
         cases e
         cases r' with
         |some q=>
          obtain⟨i,u⟩:=q
          obtain⟨_,hl,en,he,rfl⟩:=h2
          obtain⟨a1,a2,a3⟩:=hr.ac8 (k:=d) (es1:=es.eraseIdxIfInBounds i) hb hmm hw (fun g' w' hmo hs=>by
           rw[ajE]
           refine hrel.del hl (hmono0 hmo) (fun k1 d1 v1 hk1 hv1=>?_)
           unfold y5 at hv1 ⊢
           obtain⟨x,x1,x2⟩:=hv1
           exact⟨x,by rw[hs _ hk1];exact x1,x2⟩)
          refine⟨_,_,_,?_,a1,a2,a3,hundef _ _⟩
          simp[Builtin.delete_,ht,aT hu,hck,jq hw,h1,rP hw]
         |none=>
          have h3:D.cS l d=false:=h2
          obtain⟨a1,a2,a3⟩:=hr.ac8 (k:=d) (es1:=es) hb hmm hw (fun g' w' hmo hs=>by
           rw[D.Io h3,D.Ea hrel.sl h3]
           refine⟨hrel.len,hrel.sl,fun i p e h1 h2=>hmono0 hmo _ _ (hrel.key i p e h1 h2),hrel.born,fun i p e h1 h2=>?_,hrel.B9,hrel.nd,hrel.snd,hrel.FJ⟩
           have hv1:=hrel.val i p e h1 h2
           unfold y5 at hv1 ⊢
           obtain⟨x,x1,x2⟩:=hv1
           have hne:p.1≠d:=fun hpd=>by
            have:=D.N0.2 (agY (D.j8 h1))
            rw[hpd,h3]at this;cases this
           exact⟨x,by rw[hs _ hne];exact x1,x2⟩)
          refine⟨_,_,_,?_,a1,a2,a3,hundef _ _⟩
          simp[Builtin.delete_,ht,aT hu,hck,jq hw,h1,rP hw]
       ·cases e
      ·cases e
     ·cases e
    ·cases e
  ·cases e
 ·cases e
end
end
section
section
variable {P:Program} {g:Gh} {h:aj} {w:World}
def iU (P:Program)(g:Gh)(h:aj)(w:World)(v:BV)(h':aj)(r:Result Value):Prop:=
 ∃v' g' w',r= .ok v' w'/\bc P g' h' w'/\hJ g h w g' h' w'/\Ph g h g' h'/\ao P g' w' v v'
def iU.agn (hr:bc P g h w){v:BV}{r:Result Value}(hv:∃v',r= .ok v' w/\ao P g w v v'):iU P g h w v h r:=by
 obtain⟨v',h1,h2⟩:=hv
 exact⟨v',g,w,h1,hr,hJ.refl _ _ _,Ph.refl _ _,h2⟩
def iU.agK {v:BV}{h':aj}{r:Result Value}(hv:∃v' w',r= .ok v' w'/\bc P g h' w'/\hJ g h w g h' w'/\Ph g h g h'/\ao P g w' v v'):iU P g h w v h' r:=by
 obtain⟨v',w',h1,h2,h3,h4,h5⟩:=hv
 exact⟨v',g,w',h1,h2,h3,h4,h5⟩
def iU.GO (hr:bc P g h w){o:aI}{v:BV}{r:Result Value}(hk:bc P g (h.new o) w->g.m h.next=none->Nk P g (h.new o) w h.next v r)(hno:oC h.next o:=by exact oC.bare rfl rfl):iU P g h w v (h.new o) r:=by
 obtain⟨h1,h2⟩:=hr.N8 o hno
 obtain⟨v',w',e,k1,k2,k3⟩:=hk h1 hr.wQ
 refine⟨v',_,w',e,k1,h2.trans k2,?_,k3⟩
 intro b hb hm _
 refine⟨by rw[Gh.gl g (by omega)];exact hm,?_⟩
 rw[aj.eL,ag4 (by omega)]
def WK (hr:bc P g h w){ts:Array TypeId}{t:TypeId}{args:List BV}{args':Array Value}{v:BV}{h':aj}(ha:aq P g w args args'.toList)(e:R3 P h ts args=some (v,h')):
 iU P g h w v h' ((Builtin.clear_ ts t args').run P w):=by
 have hundef:∀g w',ao P g w' (BV.tuple []) (Value.tuple #[]):=fun g w'=>by simp only[ao];exact⟨_,rfl,aq.nil⟩
 unfold R3 at e
 split at e
 ·rename_i t0 x ht
  obtain⟨x',hl,hx⟩:=ha.one
  have hargs:args'=#[x']:=by apply aiV;simpa using hl
  subst hargs
  split at e
  ·rename_i k el r hu
   simp only[ao]at hx;obtain⟨aL,hmm,rfl⟩:=hx
   split at e
   ·rename_i kt et l st clock hb
    cases e
    obtain⟨_,es',hw,he⟩:=hr.Ji hb hmm
    have hput:=hr.Wu hb hmm hw (c1:=clock) (l1:=[]) (st1:=[]) (es1:=#[]) ⟨rfl,rfl,fun i p e h=>(by simp at h),fun i p e h=>(by simp at h),fun i p e h=>(by simp at h),fun p h=>(by simp at h),ajC,ajC,fun s h=>(by simp at h)⟩
    refine iU.agK ⟨_,_,?_,hput.1,hput.2,Ph.put hmm _,hundef g _⟩
    simp only[Builtin.clear_]
    simp[ht,aT hu,jq hw,rP hw]
   ·cases e
  ·cases e
 ·cases e
def WT (hr:bc P g h w){t:TypeId}{x v:BV}{x':Value}{h':aj}(hx:ao P g w x x')(e:Tg P h t x=some (v,h')):iU P g h w v h' ((Instr.range t x').run P w):=by
 have mk:∀(o:aI) (co:Obj),oC h.next o->(∀g' w',eC g w g' w'->cV P g' w' o 0 co)->(Instr.range t x').run P w= .ok (.pointer (some ⟨w.heap.size,0,none⟩)) {w with heap:=w.heap.push co}->iU P g h w (.aP h.next 0) (h.new o) ((Instr.range t x').run P w):=by
  intro o co hno ho hrun
  refine iU.GO hr (fun hr' hm=>?_) hno
  refine⟨_,_,hrun,?_⟩
  have h1:=hr'.real (w':={w with heap:=w.heap.push co}) (by rw[aj.eL,ag8 rfl]) hm rfl ⟨rfl,rfl,rfl⟩ (fun hmono=>ho _ _ hmono) hno.nC
  refine⟨h1.1,h1.2,?_⟩
  simp only[ao]
  exact⟨_,_,Gh.iq _ _ _ _,rfl⟩
 unfold Tg at e
 split at e
 ·rename_i k el m hu
  simp only[ao]at hx;obtain⟨aL,hmm,rfl⟩:=hx
  split at e
  ·rename_i kt vk l st clock hb
   cases e
   obtain⟨_,es',hw,he⟩:=hr.Ji hb hmm
   exact mk _ _ (oC.bare rfl rfl) (fun g' w' hmono=>by simp only[cV];exact⟨trivial,aL,hmono.mm _ _ hmm,fun k hk=>(by simp at hk),rfl⟩) (by simp[Instr.range,aT hu,jq hw])
  ·cases e
 ·cases e
def bc.afP (hr:bc P g h w){r aL az:Nat}{o:aI}(hb:h.get r=some o)(hm:g.m r=some (aL,az))(hoo:o.nC=some o:=by rfl):∃o',w.heap[aL]?=some o'/\cV P g w o az o':=by
 obtain⟨_,o',ho,hr'⟩:=hr.Xg _ _ _ _ hb hm hoo
 exact⟨o',ho,hr'⟩
def WL (hr:bc P g h w){it v:BV}{it':Value}(hi:ao P g w it it')(e:zg P h it=some v):∃v',(Instr.entry it').run P w= .ok v' w/\ao P g w v v':=by
 unfold zg at e
 split at e
 ·rename_i r
  simp only[ao]at hi;obtain⟨aL,az,hm,rfl⟩:=hi
  split at e
  ·rename_i m ks st clock seen hb
   obtain⟨o',hw,ho⟩:=hr.afP hb hm
   simp only[cV]at ho
   obtain⟨rfl,blk2,hm2,hseen,rfl⟩:=ho
   split at e
   ·rename_i k kt vk l st' clock' hlast hb2
    split at e
    ·rename_i hsame
     have hsame:D.ct l=ks/\st'=st/\clock'=clock:=by unfold oK at hsame;simpa using hsame
     obtain⟨hks,rfl,rfl⟩:=hsame
     obtain⟨_,es,hw2,hrel⟩:=hr.Ji hb2 hm2
     cases hs:yT P m kt vk l k with
     |none=>rw[hs]at e;cases e
     |some p=>
      rw[hs]at e
      cases e
      have hkm:k∈ks:=hseen k (List.mem_of_head? hlast)
      obtain⟨i,hi⟩:=aid hkm
      rw[<-hks]at hi
      obtain⟨q,hq,rfl⟩:=D.MN hi
      have hil:=(aha.1 hq).1
      obtain⟨en,hen⟩:∃en,es.toList[i]?=some en:=⟨_,ag7 (show i<es.toList.length by rw[hrel.len];exact hil)⟩
      have hst:=ag7 (show i<st'.length by rw[hrel.sl];exact hil)
      have hborn:=hrel.born i _ en hst hen
      have hstamp:D.iJ ks st' q.1=en.born:=by rw[hborn,<-hks];exact D.xJ hrel.nd (D.j8 hq) hst
      have hget:(getObj aL).run P w= .ok (.mapIter (some blk2) clock' (seen.reverse.map (D.iJ ks st')).toArray clock') w:=by simp[getObj,Sem.run,hw]
      have hback:(seen.reverse.map (D.iJ ks st')).toArray.back?=some en.born:=by
       obtain⟨s0,rfl⟩:∃s0,seen=q.1::s0:=by
        cases seen with
        |nil=>cases hlast
        |cons y ys=>simp at hlast;exact⟨ys,by rw[hlast]⟩
       simp[hstamp]
      have hfind:es.find? (fun e=>e.born==en.born)=some en:=by
       rw[<-Array.find?_toList]
       cases hff:es.toList.find? (fun e=>e.born==en.born)with
       |none=>
        have:=List.find?_eq_none.1 hff en (agY hen)
        simp at this
       |some x=>
        have hx1:=List.mem_of_find?_eq_some hff
        have hx2:=List.find?_some hff
        obtain⟨j,hj⟩:=aid hx1
        have hjl:j<st'.length:=by have:=(aha.1 hj).1;rw[hrel.sl,<-hrel.len];exact this
        have h1:=hrel.born j _ x (ag7 hjl) hj
        have h2:x.born=en.born:=by simpa using hx2
        have h3:st'[j]?=st'[i]?:=by rw[ag7 hjl,hst,<-h1,<-hborn,h2]
        have:j=i:=(aje hjl hrel.snd).1 h3
        subst this
        rw[hj]at hen;rw[<-hen]
      have hv:D.val l q.1=q.2:=by unfold D.val;rw[D.JU hrel.nd (show l[i]?=some (q.1,q.2)from hq)];rfl
      refine⟨.tuple #[en.key,en.val],?_,?_⟩
      ·simp only[Instr.entry,air,Sem.run_bind,hget,Result.andThen_ok,hback,jq hw2]
       rw[ag4 (by simp)]
       simp[hfind]
      ·simp only[ao]
       unfold yT at hs
       split at hs
       ·have hkr:=hrel.key i q en hq hen
        have hvr:=hrel.val i q en hq hen
        unfold y5 at hvr
        cases vk with
        |data et=>
         dsimp only at hs hvr
         split at hs
         ·cases hs
          exact⟨_,rfl,aq.cons hkr (aq.cons (by rw[hv];exact hvr) aq.nil)⟩
         ·cases hs
        |bY f et=>
         dsimp only at hs hvr
         cases hs
         obtain⟨x,x1,x2⟩:=hvr
         refine⟨_,rfl,aq.cons hkr (aq.cons ?_ aq.nil)⟩
         simp only[ao]
         exact⟨x.1,x.2,x1,x2,_,hm2⟩
        |IZ=>cases hs
       ·cases hs
    ·cases e
   ·cases e
  ·cases e
 ·cases e
def aco (hr:bc P g h w){ts:Array TypeId}{t:TypeId}{args:List BV}{args':Array Value}{v:BV}(ha:aq P g w args args'.toList)(e:Sx P h ts args=some v):
 ∃v',(Builtin.len_ ts t args').run P w= .ok v' w/\ao P g w v v':=by
 unfold Sx at e
 split at e
 ·rename_i t0 x ht
  obtain⟨x',hl,hx⟩:=ha.one
  have hargs:args'=#[x']:=by apply aiV;simpa using hl
  subst hargs
  have bj:∀(d:TypeDesc) (n:Nat),P.underlying t0=some d->(∀K,(Builtin.len_ ts t #[x']).run P w=K->K= .ok (goInt n) w)->some (goI n)=some v->∃v',(Builtin.len_ ts t #[x']).run P w= .ok v' w/\ao P g w v v':=fun d n hu hK hv=>by
   cases hv
   exact⟨goInt n,hK _ rfl,by simp[ao,goI,goInt]⟩
  split at e
  ·rename_i s hu
   simp only[ao]at hx;subst hx
   have e1:(ByteArray.mk s.toArray).size=s.length:=by simp[ByteArray.size]
   have e2:(Builtin.len_ ts t #[.string ⟨s.toArray⟩]).run P w= .ok (goInt s.length) w:=by
    simp only[Builtin.len_]
    simp[ht,aT hu,e1]
   exact bj _ _ hu (fun K hK=>by rw[<-hK];exact e2) e
  ·rename_i el hu
   simp only[ao]at hx;subst hx
   exact bj _ _ hu (fun K hK=>by rw[<-hK];simp[Builtin.len_,ht,aT hu]) e
  ·rename_i el hu
   simp only[ao]at hx;obtain⟨a,c,rfl⟩:=hx
   exact bj _ _ hu (fun K hK=>by rw[<-hK];simp[Builtin.len_,ht,aT hu]) e
  ·rename_i el e' l hu
   simp only[ao]at hx
   rcases hx with ⟨rfl,rfl| ⟨a,c,rfl⟩⟩| ⟨aL,off,c,rfl,_⟩<;>exact bj _ _ hu (fun K hK=>by rw[<-hK];simp[Builtin.len_,ht,aT hu]) e
  ·rename_i el e' l hu
   simp only[ao]at hx
   rcases hx with ⟨rfl,rfl| ⟨a,rfl⟩⟩| ⟨aL,off,rfl,_⟩<;>exact bj _ _ hu (fun K hK=>by rw[<-hK];simp[Builtin.len_,ht,aT hu]) e
  ·rename_i el b n vt hu
   simp only[ao]at hx
   rcases hx with ⟨⟨_,rfl⟩,rfl| ⟨a,rfl⟩⟩| ⟨aL,az,c,_,rfl,_⟩<;>exact bj _ _ hu (fun K hK=>by rw[<-hK];simp[Builtin.len_,ht,aT hu]) e
  ·rename_i k el r hu
   simp only[ao]at hx;obtain⟨aL,hm,rfl⟩:=hx
   split at e
   ·rename_i kt vk l st clock hb
    obtain⟨_,es',hw,he⟩:=hr.Ji hb hm
    have hl:=he.len
    refine bj _ l.length hu (fun K hK=>?_) e
    rw[<-hK]
    simp at hl
    simp[Builtin.len_,ht,aT hu,jq hw,hl]
   ·cases e
  ·cases e
 ·cases e
def Q2 {f:BV->BV->Option BV}{f':Value->Value->Sem Value}(hf:∀x y z x' y',ao P g w x x'->ao P g w y y'->f x y=some z->∃z',(f' x' y').run P w= .ok z' w/\ao P g w z z'):
 ∀(l:List BV) (l':List Value) (x v:BV) (x':Value),aq P g w l l'->ao P g w x x'->l.foldlM f x=some v->∃v',(l'.foldlM f' x').run P w= .ok v' w/\ao P g w v v':=by
 intro l
 induction l with
 |nil=>intro l' x v x' hl hx e;simp only[aq]at hl;subst hl;simp at e;subst e;exact⟨x',by simp,hx⟩
 |cons y l ih=>
  intro l' x v x' hl hx e
  simp only[aq]at hl;obtain⟨y',lr,rfl,hy,hl⟩:=hl
  simp only[List.foldlM_cons]at e ⊢
  cases hz:f x y with
  |none=>simp[hz]at e
  |some z=>
   simp[hz]at e
   obtain⟨z',h1,h2⟩:=hf _ _ _ _ _ hx hy hz
   obtain⟨v',h3,h4⟩:=ih lr z v z' hl h2 e
   exact⟨v',by simp[h1,h3],h4⟩
def ZX {x y z:BV}{x' y':Value}(hx:ao P g w x x')(hy:ao P g w y y')(e:abH x y=some z):∃z',(Builtin.min2 x' y').run P w= .ok z' w/\ao P g w z z':=by
 unfold abH at e
 split at e
 ·simp only[ao]at hx hy;subst hx hy;cases e;exact⟨_,rfl,by simp[ao]⟩
 ·cases e
def ZW {x y z:BV}{x' y':Value}(hx:ao P g w x x')(hy:ao P g w y y')(e:abD x y=some z):∃z',(Builtin.max2 x' y').run P w= .ok z' w/\ao P g w z z':=by
 unfold abD at e
 split at e
 ·simp only[ao]at hx hy;subst hx hy;cases e;exact⟨_,rfl,by simp[ao]⟩
 ·cases e
end
end
section
section
variable {P:Program} {g:Gh} {h:aj} {w:World}
def ei.Ob {w':World}{aL off:Nat}{vs:List Value}(hc:ei w aL off vs)(hw:w'.heap=w.heap):ei w' aL off vs:=fun i x hi=>by
 rw[ze (w:=w) (by rw[hw])];exact hc i x hi
def abK (need old:Nat)(hlt:old<need):Builtin.nextslicecap need old<=2*need+1024:=by
 unfold Builtin.nextslicecap
 split
 ·omega
 ·split
  ·omega
  ·have grow:∀(r c:Nat),c<=2*need+1024->Builtin.growBy need r c<=2*need+1024:=by
    intro r
    induction r with
    |zero=>intro c hc;exact hc
    |succ r ih=>
     intro c hc
     simp only[Builtin.growBy]
     split
     ·exact hc
     ·exact ih _ (by omega)
   exact grow 4 old (by omega)
def Lj {ts:Array TypeId}{t st el:TypeId}{i:TypeInfo}{a:Option Addr}{len c n:Nat}{x':Value}{old new:Array Value}(ht:ts[0]?=some st)(hu:P.underlying st=some (.slice el))(hi:P.info? el=some i)
 {z:Value}(hz:(zeroValue el).run P w= .ok z w)(hxt:∃xt d,ts[1]?=some xt/\P.underlying xt=some d/\∀k,d≠ .int k)
 (hlen:(Builtin.lenOf x').run P w= .ok n w)(hnew:∀w':World,w'.heap=w.heap->(Builtin.firstCells i.size n x').run P w'= .ok new w')(hold:∀w':World,w'.heap=w.heap->(Builtin.firstCells i.size len (.slice a len c)).run P w'= .ok old w')
 (hgt:c<len+n)(hroom:(2*(len+n)+1024)*i.bytes<=2^47)(hb:i.bytes≠0):
 ∃cap,∃ah:Array Value,len+n<=cap/\ah.size=(cap-(len+n))*z.cells.size/\(Builtin.append_ ts t #[.slice a len c,x']).run P w= .ok (.slice (some ⟨w.heap.size,0,none⟩) (len+n) cap)
  {w with heap:=w.heap.push (.cells (old++new++ah) el),drawn:=w.drawn+1}:=by
 obtain⟨xt,d,hx1,hx2,hx3⟩:=hxt
 have hzd:∀dd,(zeroValue el).run P {w with drawn:=dd}= .ok z {w with drawn:=dd}:=fun dd=>by
  simp only[zeroValue,Sem.run_bind,FA hi,Result.andThen_ok]at hz ⊢
  cases hzi:i.zero with
  |none=>simp[hzi]at hz
  |some z0=>simp[hzi]at hz ⊢;exact hz
 let q:Question:= .appendCap (len+n) c el
 let cap:=q.cut (w.tape w.drawn q)
 have hcap:len+n<=cap:=by
  show len+n<=Question.cut (.appendCap (len+n) c el) _
  simp only[Question.cut];omega
 refine⟨cap,Builtin.zeroCells z.cells (cap-(len+n)),hcap,by simp[Builtin.zeroCells],?_⟩
 have hnext:=abK (len+n) c hgt
 have hmul:Builtin.nextslicecap (len+n) c*i.bytes<=2^48:=by
  have:=ah6 i.bytes hnext
  omega
 have hsz:kb P el=some i.size:=Ee hi
 have hneed:((len+n:Nat):Int)<=IntKind.i64.max:=by
  have h1:len+n<=(2*(len+n)+1024)*i.bytes:=by
   have:1<=i.bytes:=by omega
   have:=Nat.mul_le_mul_left (2*(len+n)+1024) this
   omega
  simp only[IntKind.max,IntKind.signed,IntKind.bits,ahz];omega
 have e0:(#[Value.slice a len c,x']:Array Value)[0]?=some (.slice a len c):=rfl
 have e1:(#[Value.slice a len c,x']:Array Value)[1]?=some x':=rfl
 have hfin:∀v w',((do
  let newCap<-choose (Question.appendCap (len+n) c el)
  let ti<-typeInfo el
  askRoom (newCap*ti.bytes)
  let old<-Builtin.firstCells i.size len (Value.slice a len c)
  let new<-Builtin.firstCells i.size n x'
  let zz<-zeroValue el
  let row<-newRow el (old++new++Builtin.zeroCells zz.cells (newCap-(len+n)))
  pure (Value.slice (some row) (len+n) newCap):Sem Value).run P w= .ok v w')->
  (Builtin.append_ ts t #[.slice a len c,x']).run P w= .ok v w':=by
  intro v w' hv
  unfold Builtin.append_
  simp only[ht,hx1,e0,e1]
  simp only[Sem.run_bind,aT hu,aT hx2,Result.andThen_ok,nE hsz,Sem.run_pure,FA hi]at hv ⊢
  have c1:¬len+n<=c:=by omega
  have c2:¬(((len+n:Nat):Int)>IntKind.i64.max/\(False\/i.bytes=0)):=by rintro⟨h1,_⟩;omega
  have c3:¬Builtin.nextslicecap (len+n) c*i.bytes>2^48:=by omega
  cases d<;>first
   | (exact absurd rfl (hx3 _))
   | (simp only[agZ,ahN,akl,ahz,Sem.run_bind,hlen,Result.andThen_ok,c1,FA hi,c2,c3,Sem.run_pure]
      exact hv)
 refine hfin _ _ ?_
 simp only[Sem.run_bind,run_choose,Question.forced,agZ,ahN,Result.andThen_ok,FA hi,run_askRoom,hold {w with drawn:=w.drawn+1} rfl,hnew {w with drawn:=w.drawn+1} rfl,hzd,newRow,run_newObj,Sem.run_pure]
 rfl
def zn {ts:Array TypeId}{t st el:TypeId}{size:Nat}{a:Option Addr}{len c n:Nat}{x':Value}{new:Array Value}{w':World}(ht:ts[0]?=some st)(hu:P.underlying st=some (.slice el))(hs:kb P el=some size)
 (hxt:∃xt d,ts[1]?=some xt/\P.underlying xt=some d/\∀k,d≠ .int k)
 (hlen:(Builtin.lenOf x').run P w= .ok n w)(hnew:(Builtin.firstCells size n x').run P w= .ok new w)
 (hle:len+n<=c)(hst:∀ad,a=some ad->(storeCells (ad.add (len*size)) new.toList).run P w= .ok () w')(hno:a=none->w'=w):
 (Builtin.append_ ts t #[.slice a len c,x']).run P w= .ok (.slice a (len+n) c) w':=by
 obtain⟨xt,d,hx1,hx2,hx3⟩:=hxt
 have e0:(#[Value.slice a len c,x']:Array Value)[0]?=some (.slice a len c):=rfl
 have e1:(#[Value.slice a len c,x']:Array Value)[1]?=some x':=rfl
 unfold Builtin.append_
 simp only[ht,hx1,e0,e1]
 simp only[Sem.run_bind,aT hu,aT hx2,Result.andThen_ok,nE hs,Sem.run_pure]
 cases d<;>first
  | (exact absurd rfl (hx3 _))
  | (simp only[agZ,ahN,akl,ahz,Sem.run_bind,hlen,Result.andThen_ok,hle,hnew]
     cases a with
     |none=>rw[hno rfl];rfl
     |some ad=>simp only[Sem.run_bind,hst ad rfl,Result.andThen_ok,Sem.run_pure])
def acq (hr:bc P g h w){el:TypeId}{x:BV}{x':Value}{xs:List D}(hd:cQ P el=true)(hx:ao P g w x x')(e:TC h el x=some xs):
 (∀w',(Builtin.lenOf x').run P w'= .ok xs.length w')/\∃ys:Array Value,(∀w':World,w'.heap=w.heap->(Builtin.firstCells (P.cellsOf el) xs.length x').run P w'= .ok ys w')/\cI P g.fz w el xs ys.toList:=by
 have fromRow:∀(l:List D) (aL off c:Nat) (vs:List Value),x'= .slice (some ⟨aL,off,none⟩) l.length c->cI P g.fz w el l vs->ei w aL off vs->
  (∀w',(Builtin.lenOf x').run P w'= .ok l.length w')/\∃ys:Array Value,(∀w':World,w'.heap=w.heap->(Builtin.firstCells (P.cellsOf el) l.length x').run P w'= .ok ys w')/\cI P g.fz w el l ys.toList:=by
  intro l aL off c vs hx' hv hat
  subst hx'
  refine⟨fun _=>rfl,vs.toArray,fun w' hw'=>?_,by simpa using hv⟩
  simp only[Builtin.firstCells]
  exact oz _ hv.1 (hat.Ob hw')
 have fromNil:x'= .slice none 0 0->(∀w',(Builtin.lenOf x').run P w'= .ok 0 w')/\∃ys:Array Value,(∀w':World,w'.heap=w.heap->(Builtin.firstCells (P.cellsOf el) 0 x').run P w'= .ok ys w')/\cI P g.fz w el [] ys.toList:=by
  rintro rfl
  exact⟨fun _=>rfl,#[],fun _ _=>rfl,cI.nil⟩
 have fromEmpty:∀(a:Addr) (c:Nat),x'= .slice (some a) 0 c->(∀w',(Builtin.lenOf x').run P w'= .ok 0 w')/\∃ys:Array Value,(∀w':World,w'.heap=w.heap->(Builtin.firstCells (P.cellsOf el) 0 x').run P w'= .ok ys w')/\cI P g.fz w el [] ys.toList:=by
  rintro a c rfl
  exact⟨fun _=>rfl,#[],fun _ _=>by simp only[Builtin.firstCells,ajR];rfl,cI.nil⟩
 have fromLst:∀(l:List D),ao P g w (.bw el l) x'->(∀w',(Builtin.lenOf x').run P w'= .ok l.length w')/\∃ys:Array Value,(∀w':World,w'.heap=w.heap->(Builtin.firstCells (P.cellsOf el) l.length x').run P w'= .ok ys w')/\cI P g.fz w el l ys.toList:=by
  intro l hl
  simp only[ao]at hl
  rcases hl with ⟨rfl,h1| ⟨a,c,h1⟩⟩| ⟨aL,off,c,h1,_,_,vs,hv,hat⟩
  ·exact fromNil h1
  ·exact fromEmpty a c h1
  ·exact fromRow l aL off c vs h1 hv hat
 unfold TC at e
 split at e
 ·simp only[ao]at hx;cases e;exact fromNil hx
 ·simp only[ao]at hx;obtain⟨a,c,hx⟩:=hx;cases e;exact fromEmpty a c hx
 ·rename_i e' l
  split at e
  ·rename_i he;cases e;have he:=ahh he;subst he;exact fromLst _ hx.NP
  ·cases e
 ·rename_i e' l
  split at e
  ·rename_i he;cases e;have he:=ahh he;subst he;exact fromLst _ hx
  ·cases e
 ·rename_i b n vt
  split at e
  ·rename_i e' l vt' hb
   split at e
   ·rename_i he
    have he:=ahh he
    subst he
    split at e
    ·rename_i hn
     cases e
     simp only[ao]at hx
     have hlen:(l.take n).length=n:=by rw[ahx];omega
     rcases hx with ⟨⟨_,rfl⟩,h1| ⟨a,h1⟩⟩| ⟨aL,az,c,hm,h1,_⟩
     ·simpa using fromNil h1
     ·simpa using fromEmpty a 0 h1
     ·obtain⟨cc,vs,hw,hv,_,hat⟩:=hr.ak hb hm
      exact fromRow (l.take n) aL az c _ (by rw[hlen];exact h1) (hv.take n) hat.take
    ·cases e
   ·cases e
  ·cases e
 ·cases e
def QY (hr:bc P g h w){ts:Array TypeId}{t st el xt0:TypeId}{xt:TypeDesc}{i:TypeInfo}{s x v:BV}{s' x':Value}{h':aj}(ht:ts[0]?=some st)(hx1:ts[1]?=some xt0)(hu:P.underlying st=some (.slice el))(hxt0:P.underlying xt0=some xt)
 (hi:P.info? el=some i)(hs:ao P g w s s')(hx:ao P g w x x')(hc:(cQ P el&&!(abw xt)&&!(i.bytes==0||!OT P el i.size))=true)
 (e:(match TC h el x with|some xs=>AQ h el i.bytes s xs|none=>none)=some (v,h')):
 iU P g h w v h' ((Builtin.append_ ts t #[s',x']).run P w):=by
 simp only[ag2,ahl,ajK,ahe,ahq]at hc
 obtain⟨⟨hd,hint⟩,hnz2,hzo⟩:=hc
 have hsz:kb P el=some i.size:=Ee hi
 have hso:P.cellsOf el=i.size:=oB hsz
 have hxt:∃xt d,ts[1]?=some xt/\P.underlying xt=some d/\∀k,d≠ .int k:=⟨xt0,xt,hx1,hxt0,fun k hk=>by subst hk;simp[abw]at hint⟩
 split at e
 case h_2=>cases e
 rename_i xs hsrc
 obtain⟨hlen,ys,hy1,hy2⟩:=acq hr hd hx hsrc
 rw[hso]at hy1
 have hyl:ys.size=xs.length*i.size:=by have:=hy2.1;rw[hso]at this;simpa using this
 unfold OT at hzo
 cases hzb:oL P el with
 |none=>simp[hzb]at hzo
 |some z=>
 simp only[hzb,ag2,aht]at hzo
 obtain⟨z',hz',hzr⟩:=Iw hzb w
 have hzsz:z'.cells.size=i.size:=by
  have:=((hzr g).NL hzo.1).length
  simp at this;omega
 have fresh:∀(vb:Bool) (hB:aj),bc P g hB w->∀(a:Option Addr) (len c:Nat) (l:List D) (old':Array Value),s'= .slice a len c->l.length=len->c<len+xs.length->aO i.bytes (len+xs.length)=true->cI P g.fz w el l old'.toList->
  (∀w':World,w'.heap=w.heap->(Builtin.firstCells i.size len (.slice a len c)).run P w'= .ok old' w')->
  iU P g hB w (.aZ hB.next (len+xs.length) vb) (hB.new (.ak el (l++xs) vb)) ((Builtin.append_ ts t #[s',x']).run P w):=by
  intro vb hB hrB a len c l old' hs' hll hgt hroom hov hold
  subst hs'
  simp only[aO,agW]at hroom
  obtain⟨cap,ah,k1,k2,k3⟩:=Lj (P:=P) (w:=w) (t:=t) (a:=a) ht hu hi hz' hxt (hlen w) hy1 hold hgt hroom hnz2
  refine iU.GO hrB fun hr' hm=>?_
  refine⟨_,_,k3,?_⟩
  have h1:=hr'.real (b:=hB.next) (w':={w with heap:=w.heap.push (.cells (old'++ys++ah) el),drawn:=w.drawn+1}) (by rw[aj.eL,ag8 rfl]) hm rfl ⟨rfl,rfl,rfl⟩ (fun hmono=>by
   simp only[cV]
   refine⟨_,rfl,old'.toList++ys.toList,(hov.append hy2).mono hmono.mf hmono.mc,fun j y hj=>?_⟩
   have hlt:=(aha.1 hj).1
   rw[ah2,<-ahW]
   simp only[aiY]
   rw[aiH hlt];exact hj)
  refine⟨h1.1,h1.2,?_⟩
  simp only[ao]
  have hlo:old'.size=len*i.size:=by have:=hov.1;rw[hso,hll]at this;simpa using this
  refine .inr ⟨_,_,cap,Gh.iq _ _ _ _,rfl,k1,el,cap*i.size,?_,by rw[hso];omega⟩
  have:(old'++ys++ah).size=cap*i.size:=by
   simp only[Array.size_append,hlo,hyl,k2,hzsz]
   rw[<-aiu,<-aiu];congr 1;omega
  have hh:(w.heap.push (.cells (old'++ys++ah) el))[w.heap.size]?=some (.cells (old'++ys++ah) el):=by simp
  simp only[World.shape?,hh,this]
 have emptyB:(s'= .slice none 0 0\/∃a,s'= .slice (some a) 0 0)->aO i.bytes xs.length=true->∀hB,bc P g hB w->iU P g hB w (.aZ hB.next xs.length true) (hB.new (.ak el xs true)) ((Builtin.append_ ts t #[s',x']).run P w):=by
  intro hcase hroom hB hrB
  by_cases hx0:xs=[]
  ·subst hx0
   have hys:ys=#[]:=by
    apply aiV;have:=hy2.1;simpa using this
   have hv0:ao P g w (.aZ hB.next 0 true) s':=by
    simp only[ao];exact .inl ⟨⟨trivial,trivial⟩,hcase⟩
   have hrun:(Builtin.append_ ts t #[s',x']).run P w= .ok s' w:=by
    rcases hcase with rfl| ⟨a,rfl⟩
    ·exact zn ht hu hsz hxt (hlen w) (hy1 w rfl) (by simp) (fun ad had=>by cases had) (fun _=>rfl)
    ·exact zn ht hu hsz hxt (hlen w) (hy1 w rfl) (by simp) (fun ad had=>by rw[hys];simp[storeCells]) (fun _=>rfl)
   exact⟨s',g,w,hrun,(hrB.N8 _).1,(hrB.N8 _).2,Ph.new _,hv0⟩
  ·have hpos:0<xs.length:=ajP.2 hx0
   rcases hcase with hc| ⟨a,hc⟩
   ·have:=fresh true hB hrB none 0 0 [] #[] hc rfl (by omega) (by simpa using hroom) cI.nil (fun _ _=>rfl)
    simpa using this
   ·have:=fresh true hB hrB (some a) 0 0 [] #[] hc rfl (by omega) (by simpa using hroom) cI.nil (fun _ _=>by simp only[Builtin.firstCells,ajR];rfl)
    simpa using this
 unfold AQ at e
 split at e
 ·rename_i b n vt
  split at e
  ·rename_i e' l vt' hb
   split at e
   ·rename_i hc1
    simp only[ag2,aht]at hc1
    obtain⟨he,hvt⟩:=hc1
    have he:=ahh he
    subst he;subst hvt
    split at e
    ·rename_i hc2
     simp only[ag2,agW]at hc2
     obtain⟨hn,hroom⟩:=hc2
     subst hn
     cases e
     obtain⟨hd1,hd2⟩:=hr.drop b
     simp only[ao]at hs
     rcases hs with ⟨⟨rfl,hn0⟩,hcase⟩| ⟨aL,az,c,hm,hs',hle,htail⟩
     ·have hl0:l=[]:=ahy.1 hn0
      subst hl0
      have hk:=emptyB hcase (by simpa using hroom) _ hd1
      obtain⟨v2,g2,w2,k1,k2,k3,k4,k5⟩:=hk
      refine⟨v2,g2,w2,k1,by simpa using k2,by simpa using hd2.trans k3,?_,by simpa using k5⟩
      have:=(Ph.agR (g:=g) hb).trans (aho _) k4
      simpa using this
     ·obtain⟨cc,vs,hw,hv,hcc,hat⟩:=hr.ak hb hm
      have hvl:=hv.1
      rw[hso]at hvl
      have hlt:=(ahn.1 hw).1
      by_cases hfit:l.length+xs.length<=c
      ·
       obtain⟨e1,tot,hsh1,htot⟩:=htail
       have hsh2:w.shape? aL=some (el,cc.size):=by simp[World.shape?,hw]
       rw[hsh2]at hsh1;cases hsh1
       rw[hso]at htot
       have hfz:az+l.length*i.size+ys.size<=cc.size:=by
        have:(l.length+xs.length)*i.size<=c*i.size:=ah6 _ hfit
        rw[aiu]at this;omega
       have hallone:∀y∈ys.toList,y.oneCell'=true:=by
        have:=(Li (g:=g) hd xs ys.toList).1 hy2
        exact Nr this (RZ xs)
       have hstore:=im (P:=P) aL (az+l.length*i.size) el 0 0 ys.toList 0 cc w hw (by simpa using hfz) hallone (by omega)
       simp only[air]at hstore
       subst hs'
       have hrun:=zn (P:=P) (t:=t) (w:=w) (w':=w.dL aL (.cells (eN cc (az+l.length*i.size) ys.toList) el (0,0))) (a:=some ⟨aL,az,none⟩) ht hu hsz hxt (hlen w) (hy1 w rfl) hfit (fun ad had=>by cases had;rw[oZ];exact hstore) (fun hc=>by cases hc)
       have hmv:=hr.move (off:=0) (o':= .ak el (l++xs) vt) (co':= .cells (eN cc (az+l.length*i.size) ys.toList) el (0,0)) (w':=w.dL aL (.cells (eN cc (az+l.length*i.size) ys.toList) el (0,0))) hb hm hw rfl ⟨rfl,rfl,rfl⟩
        (fun s hs=>by
          rw[hsh2]at hs
          simp only[World.shape?,dZ hlt,rS];exact hs)
        (fun hmono=>by
          simp only[cV]
          refine⟨_,rfl,vs++ys.toList,(hv.append hy2).mono hmono.mf hmono.mc,fun j y hj=>?_⟩
          rw[vc _ _ _ _ (by simpa using hfz)]
          rw[ahR]at hj
          by_cases hj1:j<vs.length
          ·rw[ag8 hj1]at hj
           rw[ag4 (by omega)]
           exact hcc _ _ hj
          ·rw[ag4 hj1]at hj
           have hjl:=(aha.1 hj).1
           simp only[aiX]at hjl
           rw[ag8 (by simp only[aiX];omega),show az+0+j-(az+l.length*i.size)=j-vs.length by omega]
           exact hj)
       refine⟨_,_,_,hrun,hmv.1,hmv.2,?_,?_⟩
       ·intro b1 hb1 hm1 hv1
        refine⟨by rw[Gh.gl g (by omega)];exact hm1,?_⟩
        rw[aj.eL,ag4 (by simp;omega),aj.fe,ag4 (fun ee=>by subst ee;rw[hm]at hm1;cases hm1)]
       ·simp only[ao]
        refine .inr ⟨_,_,c,Gh.iq _ _ _ _,by simp,hfit,el,cc.size,?_,?_⟩
        ·simp only[World.shape?,dZ hlt,rS]
        ·rw[hso];omega
      ·
       have hk:=fresh vt _ hd1 (some ⟨aL,az,none⟩) l.length c l vs.toArray hs' rfl (by omega) hroom (by simpa using hv)
        (fun w' hw'=>by simp only[Builtin.firstCells];exact oz _ hvl (hat.Ob hw'))
       obtain⟨v2,g2,w2,k1,k2,k3,k4,k5⟩:=hk
       exact⟨v2,g2,w2,k1,k2,hd2.trans k3,(Ph.put hm none).trans (aho _) k4,k5⟩
    ·cases e
   ·cases e
  ·cases e
 ·split at e
  ·rename_i hroom
   cases e
   simp only[ao]at hs
   exact emptyB (.inl hs) hroom h hr
  ·cases e
 ·rename_i e' l
  split at e
  ·rename_i he
   have he:=ahh he
   subst he
   split at e
   ·rename_i hc2
    simp only[ag2,aiB,agW]at hc2
    obtain⟨hc3,hroom⟩:=hc2
    cases e
    simp only[ao]at hs
    rcases hs with ⟨rfl,hcase⟩| ⟨aL,off,hs',_,vs,hv,hat⟩
    ·have:=emptyB hcase (by simpa using hroom) h hr
     simpa using this
    ·by_cases hx0:0<xs.length
     ·exact fresh true h hr (some ⟨aL,off,none⟩) l.length l.length l vs.toArray hs' rfl (by omega) hroom (by simpa using hv)
       (fun w' hw'=>by simp only[Builtin.firstCells];exact oz _ (by rw[<-hso];exact hv.1) (hat.Ob hw'))
     ·have hl0:l=[]:=ahy.1 (by omega)
      subst hl0
      have:=emptyB (.inr ⟨_,hs'⟩) (by simpa using hroom) h hr
      simpa using this
   ·cases e
  ·cases e
 ·cases e
def Ts (hr:bc P g h w){ts:Array TypeId}{t:TypeId}{args:List BV}{args':Array Value}{v:BV}{h':aj}(ha:aq P g w args args'.toList)(e:F9 P h ts args=some (v,h')):
 iU P g h w v h' ((Builtin.append_ ts t args').run P w):=by
 unfold F9 at e
 split at e
 ·rename_i st xt0 s x ht hx1
  obtain⟨s',x',hl,hs,hx⟩:=ha.two
  have hargs:args'=#[s',x']:=by apply aiV;simpa using hl
  subst hargs
  split at e
  ·rename_i el xt hu hxt0
   cases hi:P.info? el with
   |none=>simp[hi]at e
   |some i=>
    simp only[hi]at e
    split at e
    ·rename_i hc
     exact QY hr ht hx1 hu hxt0 hi hs hx hc e
    ·cases e
  ·cases e
 ·cases e
end
end
section
section
variable {P:Program} {g:Gh} {h:aj} {w:World}
def NR (P:Program)(g:Gh)(w:World):bA->Result Next->Prop
 | .value v,r=>∃v',r= .ok (.value v') w/\ao P g w v v'
 | .skip,r=>r= .ok .skip w
 | .enter f args,r=>∃args',r= .ok (.enter f args') w/\aq P g w args args'.toList
 | .round l f tmps a b,r=>∃l' tmps',r= .ok (.round l' f tmps' a b) w/\g.m l=some (l',0)/\aq P g w tmps tmps'.toList
def kE (P:Program)(g:Gh)(h:aj)(w:World)(n:bA)(h':aj)(r:Result Next):Prop:=
 ∃g' w',bc P g' h' w'/\hJ g h w g' h' w'/\Ph g h g' h'/\NR P g' w' n r
def kE.yJ {v:BV}{h':aj}{s:Sem Value}(he:iU P g h w v h' (s.run P w)):kE P g h w (.value v) h' ((do pure (.value (<-s)):Sem Next).run P w):=by
 obtain⟨v',g',w',e,h1,h2,h3,h4⟩:=he
 exact⟨g',w',h1,h2,h3,v',by simp[e],h4⟩
def kE.CX (hr:bc P g h w){v:BV}{s:Sem Value}(he:∃v',s.run P w= .ok v' w/\ao P g w v v'):kE P g h w (.value v) h ((do pure (.value (<-s)):Sem Next).run P w):=
 kE.yJ (iU.agn hr he)
def kE.abN {h':aj}{s:Sem Unit}(he:∃g' w',s.run P w= .ok () w'/\bc P g' h' w'/\hJ g h w g' h' w'/\Ph g h g' h'):kE P g h w .skip h' ((do s;pure .skip:Sem Next).run P w):=by
 obtain⟨g',w',e,h1,h2,h3⟩:=he
 exact⟨g',w',h1,h2,h3,by simp[NR,e]⟩
def kE.pure (hr:bc P g h w){n:bA}{r:Result Next}(hn:NR P g w n r):kE P g h w n h r:=⟨g,w,hr,hJ.refl _ _ _,Ph.refl _ _,hn⟩
def QZ (hr:bc P g h w){b:Builtin}{ts:Array TypeId}{t:TypeId}{cs:Array Bool}{args:List BV}{args':Array Value}{n:bA}{h':aj}(ha:aq P g w args args'.toList)(e:Cv P h b ts args=some (n,h')):
 kE P g h w n h' ((builtin b ts t cs args').run P w):=by
 have hv:∀{r:Option (BV×aj)} {s:Sem Value},(∀v h1,r=some (v,h1)->iU P g h w v h1 (s.run P w))->(r.map fun (x:BV×aj)=>(bA.value x.1,x.2))=some (n,h')->kE P g h w n h' ((do pure (.value (<-s)):Sem Next).run P w):=by
  intro r s hs he
  cases r with
  |none=>cases he
  |some x=>obtain⟨v,h1⟩:=x;simp at he;obtain⟨rfl,rfl⟩:=he;exact kE.yJ (hs v h1 rfl)
 cases b<;>simp only[Cv]at e
 case append=>exact hv (fun v h1 he=>Ts hr ha he) e
 case delete=>exact hv (fun v h1 he=>Tt hr ha he) e
 case clear=>exact hv (fun v h1 he=>WK hr ha he) e
 case len=>
  cases hl:Sx P h ts args with
  |none=>simp[hl]at e
  |some v=>
   simp[hl]at e
   obtain⟨rfl,rfl⟩:=e
   exact kE.CX hr (aco hr ha hl)
 case min=>
  cases args with
  |nil=>cases e
  |cons x r=>
   simp only[aq]at ha
   obtain⟨x',r',hl,hx,hrr⟩:=ha
   cases hf:r.foldlM abH x with
   |none=>simp[hf]at e
   |some v=>
    simp[hf]at e
    obtain⟨rfl,rfl⟩:=e
    obtain⟨v',h1,h2⟩:=Q2 (P:=P) (g:=g) (w:=w) (f':=Builtin.min2) (fun x y z x' y'=>ZX) r r' x v x' hrr hx hf
    refine kE.CX (s:=Builtin.min_ ts t args') hr ⟨v',?_,h2⟩
    simp only[Builtin.min_,hl];exact h1
 case max=>
  cases args with
  |nil=>cases e
  |cons x r=>
   simp only[aq]at ha
   obtain⟨x',r',hl,hx,hrr⟩:=ha
   cases hf:r.foldlM abD x with
   |none=>simp[hf]at e
   |some v=>
    simp[hf]at e
    obtain⟨rfl,rfl⟩:=e
    obtain⟨v',h1,h2⟩:=Q2 (P:=P) (g:=g) (w:=w) (f':=Builtin.max2) (fun x y z x' y'=>ZW) r r' x v x' hrr hx hf
    refine kE.CX (s:=Builtin.max_ ts t args') hr ⟨v',?_,h2⟩
    simp only[Builtin.max_,hl];exact h1
 all_goals cases e
def OI (hr:bc P g h w){f:FuncId}{args:List BV}{args':Array Value}{n:bA}(ha:aq P g w args args'.toList)(e:DR P f args=some n):
 NR P g w n ((callFunc f args').run P w):=by
 unfold DR at e
 split at e
 ·rename_i hb
  cases e
  unfold Uo at hb
  split at hb
  ·rename_i fn hf
   simp only[ag2,ahl,Option.isSome_iff_ne_none]at hb
   obtain⟨hb1,hb2⟩:=hb
   have hnn:fn.body.isNone=false:=by cases hfb:fn.body with|none=>exact absurd hfb hb1|some _=>rfl
   refine⟨args',?_,ha⟩
   simp only[callFunc,Sem.run_bind,run_program,Result.andThen_ok,hf,hb2,hnn,agZ,ahN,Sem.run_pure]
  ·cases hb
 ·cases e
def Yh (w:World):∀(ps:List Nat) (as:List BV) (as':List Value) (ts:List BV) (ts':Array Value),aq P g w as as'->aq P g w ts ts'.toList->
 aq P g w ((ps.zip as).foldl (fun tmps (x:Nat×BV)=>tmps.set x.1 x.2) ts) ((ps.zip as').foldl (fun (tmps:Array Value) (x:Nat×Value)=>tmps.setIfInBounds x.1 x.2) ts').toList:=by
 intro ps
 induction ps with
 |nil=>intro as as' ts ts' _ h;simpa using h
 |cons p ps ih=>
  intro as as' ts ts' ha h
  cases as with
  |nil=>simp only[aq]at ha;subst ha;simpa using h
  |cons a as=>
   simp only[aq]at ha;obtain⟨a',ar,rfl,h1,h2⟩:=ha
   simp only[List.zip_cons_cons,ajt]
   exact ih as ar _ _ h2 (by simpa using h.set p h1)
def Ll (hr:bc P g h w){t:AE}{t':Target}{args:List BV}{args':Array Value}{n:bA}{h':aj}(ht:xX P g w t t')(ha:aq P g w args args'.toList)(e:Bi P h t args=some (n,h')):
 kE P g h w n h' ((invoke t' args').run P w):=by
 unfold Bi at e
 split at e
 ·rename_i b ts ty cs
  simp only[xX]at ht;subst ht
  simp only[invoke]
  exact QZ hr ha e
 ·rename_i f captured
  simp only[xX]at ht;obtain⟨c',rfl,hc⟩:=ht
  cases hcf:DR P f (args++captured)with
  |none=>simp[hcf]at e
  |some n1=>
   simp[hcf]at e;obtain⟨rfl,rfl⟩:=e
   simp only[invoke]
   exact kE.pure hr (OI hr (by rw[aiY];exact ha.append hc) hcf)
 ·rename_i l
  simp only[xX]at ht;obtain⟨aL,hm,rfl⟩:=ht
  split at e
  ·rename_i r hb
   split at e
   ·cases e
   ·rename_i hlen
    cases e
    obtain⟨_,o',hw,ho⟩:=hr.Xg _ _ _ _ hb hm
    simp only[cV]at ho
    obtain⟨_,r',rfl,hlr⟩:=ho
    obtain⟨a1,a2,a3,a4,a5,a6,a7,a8⟩:=hlr
    have hget:(getObj aL).run P w= .ok (.loop r') w:=by simp[getObj,Sem.run,hw]
    refine kE.pure hr ⟨aL,(r'.params.zip args').foldl (fun tmps (x:Nat×Value)=>tmps.setIfInBounds x.1 x.2) r'.tmps,?_,hm,?_⟩
    ·have hsz:args'.size=r'.params.size:=by
      have:=ha.length;rw[<-a5];simp at this;omega
     simp only[invoke,Instr.yield,Instr.getLoop,Sem.run_bind,hget,Result.andThen_ok,Sem.run_pure]
     rw[ag4 (by simpa using hsz)]
     simp only[Sem.run_pure,a3,a6,a7]
    ·have:=Yh (P:=P) (g:=g) w r'.params.toList args args'.toList r.tmps r'.tmps ha a4
     rw[a5]
     rw[<-akx,Array.toList_zip]
     exact this
  ·cases e
 ·cases e
def Lm (hr:bc P g h w){f:BV}{f':Value}{args:List BV}{args':Array Value}{d:tN}(hf:ao P g w f f')(ha:aq P g w args args'.toList)(e:G0 f args=some d):
 ∃d',(Deferred.ofValue f' args').run P w= .ok d' w/\UU P g w d d':=by
 unfold G0 at e
 split at e
 ·rename_i fn first captured
  simp only[ao]at hf;obtain⟨a',c',rfl,h1,h2⟩:=hf
  cases e
  exact⟨_,rfl,⟨c',rfl,h2⟩,by rw[aiY];exact h1.append ha⟩
 ·rename_i l
  simp only[ao]at hf;obtain⟨aL,hm,rfl⟩:=hf
  cases e
  exact⟨_,rfl,⟨aL,hm,rfl⟩,by simpa using ha⟩
 ·cases e
def Q3 (hr:bc P g h w){ρ:Operand->BV}{σ:Operand->Value}{c:Call}{ty:TypeId}{d:tN}(hρ:∀x∈c.operands.toList,ao P g w (ρ x) (σ x))(e:Aw ρ c ty=some d):
 ∃d',(resolve σ c ty).run P w= .ok d' w/\UU P g w d d':=by
 have hargs:aq P g w (c.args.toList.map ρ) (c.args.map σ).toList:=by
  rw[ajH]
  exact aq.map fun a ha=>hρ a (by simp[Call.operands,ha])
 unfold Aw at e
 dsimp only at e
 split at e
 ·rename_i b hc
  cases e
  refine⟨{target:= .builtin b c.argTypes ty (c.args.map fun| .const _=>true|_=>false),args:=c.args.map σ},by simp only[resolve,hc];rfl,rfl,hargs⟩
 ·rename_i f hc
  obtain⟨d',h1,h2⟩:=Lm hr (hρ f (by simp[Call.operands,hc])) hargs e
  exact⟨d',by simp only[resolve,hc];exact h1,h2⟩
 ·cases e
def Rk:Value->Nat
 | .nilIface=>1| .agg _=>2|_=>0
def adt:BV->Nat
 | .agg _=>2|_=>0
def ao.af8 {b:BV}{v:Value}(hv:ao P g w b v)(hk:b.vd=true):adt b=Rk v:=by
 cases b<;>simp only[ao]at hv<;>first
  | (simp[BV.vd]at hk;done)
  | (subst hv;rfl)
  | (rcases hv with ⟨_,rfl| ⟨_,_,rfl⟩⟩| ⟨_,_,_,rfl,_⟩<;>rfl)
  | (rcases hv with ⟨_,rfl| ⟨_,rfl⟩⟩| ⟨_,_,rfl,_⟩<;>rfl)
  | (rcases hv with ⟨_,rfl| ⟨_,rfl⟩⟩| ⟨_,_,_,_,rfl,_⟩<;>rfl)
  | (obtain⟨_,rfl,_⟩:=hv;rfl)
  | (obtain⟨_,_,rfl⟩:=hv;rfl)
  | (obtain⟨_,_,rfl,_⟩:=hv;rfl)
  | (obtain⟨_,_,_,rfl⟩:=hv;rfl)
  | (obtain⟨_,_,_,rfl,_⟩:=hv;rfl)
  | (obtain⟨_,_,_,_,rfl,_⟩:=hv;rfl)
def LH {op:BinOp}(t:TypeId)(x y:Operand){a b:Value}(hk:Rk a≠Rk b\/Rk a=0):eqGuard op t x y a b=pure ():=by
 cases op<;>first
  |rfl
  | (cases a<;>cases b<;>first
      |rfl
      | (simp[Rk]at hk;done))
def QR {op:BinOp}{t:TypeId}{x y:Operand}{a b:BV}{a' b':Value}(ha:ao P g w a a')(hb:ao P g w b b')(e:Gy P op t x y a b=true)(hk:(op= .eql\/op= .neq)->a.vd=true/\b.vd=true):(eqGuard op t x y a' b').run P w= .ok () w:=by
 by_cases ho:op= .eql\/op= .neq
 ·obtain⟨k1,k2⟩:=hk ho
  have n1:=ha.af8 k1
  have n2:=hb.af8 k2
  by_cases hc:Rk a'≠Rk b'\/Rk a'=0
  ·rw[LH t x y hc];rfl
  ·simp only[akP,Decidable.not_not,aic]at hc
   obtain⟨h1,h2⟩:=hc
   cases a<;>simp[adt]at n1<;>first
    | (rw[<-n1]at h2;exact absurd rfl h2)
    |skip
   ·simp only[ao]at ha;obtain⟨us,rfl,_⟩:=ha
    cases b<;>simp[adt]at n2<;>first
     | (rw[<-h1]at n2;cases n2;done)
     |skip
    simp only[ao]at hb;obtain⟨vs,rfl,_⟩:=hb
    rcases ho with rfl|rfl
    all_goals
     simp only[Gy]at e
     simp only[eqGuard]
     rw[ag4 (by simp)]
     simp only[Sem.run_bind,run_program,Result.andThen_ok,e,ahz]
     rfl
 ·have:eqGuard op t x y a' b'=pure ():=by cases op<;>first|rfl| (simp at ho)
  rw[this];rfl
def RP {op:BinOp}{t:TypeId}{x y v:BV}(e:AR P op t x y=some v)(ho:op= .eql\/op= .neq):x.vd=true/\y.vd=true:=by
 unfold AR at e
 split at e<;>first
  |exact⟨rfl,rfl⟩
  | (cases hq:FI P 12 t x y with
     |none=>simp[hq]at e
     |some r=>exact MH hq)
  | (cases e;done)
def agi {ps:Array (Nat×Operand)}{ρ:Operand->BV}{σ:Operand->Value}(hρ:∀x∈(ps.toList.map (·.2)),ao P g w (ρ x) (σ x)):
 RB P g w (ps.toList.map fun (i,x)=>(i,ρ x)) (ps.toList.map fun (i,x)=>(i,σ x)):=by
 refine⟨by simp,fun j i v hj=>?_⟩
 rw[ahQ]at hj ⊢
 cases hp:ps.toList[j]? with
 |none=>simp[hp]at hj
 |some q=>
  obtain⟨i',x⟩:=q
  simp[hp]at hj
  obtain⟨rfl,rfl⟩:=hj
  exact⟨σ x,by simp[hp],hρ x (ahp.2 ⟨_,agY hp,rfl⟩)⟩
def YV {x:Option Operand}{ρ:Operand->BV}{σ:Operand->Value}(hρ:∀y∈x,ao P g w (ρ y) (σ y)):xT P g w (x.map ρ) (x.map σ):=by
 cases x with
 |none=>exact .inl ⟨rfl,rfl⟩
 |some y=>exact .inr ⟨_,_,rfl,rfl,hρ y rfl⟩
def Ke (P:Program)(g:Gh)(h:aj)(w:World)(b:Nat)(v:BV)(r:Result Next):Prop:=
 ∃v' w',r= .ok (.value v') w'/\bc P (g.oS b w.heap.size 0) h w'/\hJ g h w (g.oS b w.heap.size 0) h w'/\ao P (g.oS b w.heap.size 0) w' v v'
def Ke.of {b:Nat}{v:BV}{s:Sem Value}(hr:Nk P g h w b v (s.run P w)):Ke P g h w b v ((do pure (.value (<-s)):Sem Next).run P w):=by
 obtain⟨v',w',e,h1,h2,h3⟩:=hr
 exact⟨v',w',by simp[e],h1,h2,h3⟩
def UG (hr:bc P g h w){o:Oper}{ρ:Operand->BV}{σ:Operand->Value}{v:BV}{h1 h2:aj}(ha:kK o=true)
 (hρ:∀x∈o.op.operands.toList,ao P g w (ρ x) (σ x))(e:Fw P h1 ρ o=some (.value v,h2))(hb:h.get h1.next=h2.get h1.next)(hm:g.m h1.next=none):
 Ke P g h w h1.next v ((execOp σ o).run P w):=by
 obtain⟨dst,op,ty,pos,after,guard⟩:=o
 have hvh:∀{r:Option (BV×aj)} {s:Sem Value},(∀v h2',h.get h1.next=h2'.get h1.next->r=some (v,h2')->Nk P g h w h1.next v (s.run P w))->(r.map fun (x:BV×aj)=>(bA.value x.1,x.2))=some (.value v,h2)->Ke P g h w h1.next v ((do pure (.value (<-s)):Sem Next).run P w):=by
  intro r s hs he
  cases r with
  |none=>cases he
  |some x=>obtain⟨u,h3⟩:=x;simp at he;obtain⟨rfl,rfl⟩:=he;exact Ke.of (hs _ _ hb rfl)
 cases op<;>simp only[Fw,kK,agZ,reduceCtorEq]at e ha<;>simp only[Op.operands]at hρ
 case alloc t=>
  refine hvh (fun v h2 hb he=>?_) e
  cases hz:oL P t with
  |none=>simp[hz]at he
  |some z=>
   simp only[hz,ais,HM]at he
   split at he
   ·rename_i hone
    cases he
    rw[aj.eL,ag8 rfl]at hb
    exact Th hr hz hb hm hone
   ·cases he
 case box t x=>
  refine hvh (fun v h2 hb he=>?_) e
  simp only[HM]at he
  split at he
  ·rename_i hone
   cases he
   rw[aj.eL,ag8 rfl]at hb
   exact ZH hr hb hm (hρ x (by simp)) hone
  ·cases he
 case buildSlice t len parts=>
  refine hvh (s:=Instr.buildSlice t len (parts.map fun (x:Nat×Operand)=>(x.1,σ x.2))) (fun v h2 hb he=>?_) e
  have hp:=agi (P:=P) (g:=g) (w:=w) (ps:=parts) (ρ:=ρ) (σ:=σ) (fun x hx=>hρ x (by simpa using hx))
  have e1:(parts.map fun (x:Nat×Operand)=>(x.1,σ x.2))=(parts.toList.map fun (x:Nat×Operand)=>(x.1,σ x.2)).toArray:=by apply aiV;simp
  rw[e1]
  exact JA hr hp he hb rfl hm
 case makeSlice t l c=>
  exact hvh (fun v h2 hb he=>Lg hr (hρ l (by simp)) (hρ c (by simp)) he hb rfl hm) e
 case makeMap t r=>
  have hm':∀(hh:(r.map ρ=none/\r.map σ=none)\/∃q n,r.map ρ=some (.int q n)/\r.map σ=some (.int q n)) {k el},P.underlying t=some (.map k el)->(pY P h1 k el).map (fun o=>(bA.value (.map h1.next),h1.new o))=some (.value v,h2)->Ke P g h w h1.next v ((execOp σ {dst,op:= .makeMap t r,type:=ty,pos,after,guard}).run P w):=by
   intro hh k el hu2 e
   cases hn:pY P h1 k el with
   |none=>rw[hn]at e;cases e
   |some o=>
    rw[hn]at e;cases e
    rw[aj.eL,ag8 rfl]at hb
    exact Ke.of (s:=Instr.makeMap t (r.map σ)) (ZI hr hu2 hn hb hm hh)
  cases r with
  |none=>
   simp only[Option.map_none]at e
   split at e
   ·exact hm' (.inl ⟨rfl,rfl⟩) (by assumption) e
   ·cases e
  |some x=>
   have hx:=hρ x (by simp)
   cases hxx:ρ x<;>simp only[ahm,hxx]at e<;>try (cases e;done)
   rename_i q i
   rw[hxx]at hx
   simp only[ao]at hx
   split at e
   ·exact hm' (.inr ⟨q,i,by simp[hxx],by simp[hx]⟩) (by assumption) e
   ·cases e
def N9 {P:Program}{h:aj}{k e:TypeId}{o:aI}(hn:pY P h k e=some o):r8 (some o)=false:=by
 unfold pY at hn
 repeat' split at hn
 all_goals first|cases hn;done| (cases hn;rfl)
def MU {ρ:Operand->BV}{o:Oper}{n:bA}{h1:aj}(ha:kK o=true)(e:Fw P h ρ o=some (n,h1)):∃v ob,n= .value v/\h1=h.new ob/\r8 (some ob)=false/\oC h.next ob:=by
 obtain⟨dst,op,ty,pos,after,guard⟩:=o
 have hvh:∀{r:Option (BV×aj)},(∀v h1,r=some (v,h1)->∃ob,h1=h.new ob/\r8 (some ob)=false/\oC h.next ob)->(r.map fun (x:BV×aj)=>(bA.value x.1,x.2))=some (n,h1)->∃v ob,n= .value v/\h1=h.new ob/\r8 (some ob)=false/\oC h.next ob:=by
  intro r hr e
  cases r with
  |none=>cases e
  |some x=>obtain⟨u,h2⟩:=x;simp at e;obtain⟨rfl,rfl⟩:=e;obtain⟨ob,k⟩:=hr _ _ rfl;exact⟨_,ob,rfl,k⟩
 have hal:∀{t:TypeId} {x u:BV} {h2:aj},HM P h t x=some (u,h2)->∃ob,h2=h.new ob/\r8 (some ob)=false/\oC h.next ob:=by
  intro t x u h2 e
  unfold HM at e
  split at e
  ·cases e;exact⟨_,rfl,rfl,oC.bare rfl rfl⟩
  ·cases e
 cases op<;>simp only[Fw,kK,ag0,agZ,reduceCtorEq]at e ha
 case alloc t=>
  refine hvh (fun v h1 e=>?_) e
  cases hz:oL P t with
  |none=>simp[hz]at e
  |some z=>simp only[hz,ais]at e;exact hal e
 case box=>exact hvh (fun v h1 e=>hal e) e
 case buildSlice=>
  refine hvh (fun v h1 e=>?_) e
  unfold xZ at e
  split at e
  ·split at e
   ·dsimp only at e
    split at e
    ·cases e
    ·split at e
     ·split at e
      ·split at e
       ·cases e;exact⟨_,rfl,rfl,oC.bare rfl rfl⟩
       ·cases e
      ·cases e
     ·cases e
   ·cases e
  ·cases e
 case makeMap t r=>
  have:∃k el,(pY P h k el).map (fun o=>(bA.value (.map h.next),h.new o))=some (n,h1):=by
   split at e
   all_goals first|cases e;done| (split at e;exact⟨_,_,e⟩;cases e)
  obtain⟨k,el,e⟩:=this
  cases hn:pY P h k el with
  |none=>rw[hn]at e;cases e
  |some o=>rw[hn]at e;cases e;exact⟨_,_,rfl,rfl,N9 hn,KV hn⟩
 case makeSlice=>
  refine hvh (fun v h1 e=>?_) e
  unfold sY at e
  split at e
  ·split at e
   ·split at e
    ·split at e
     ·split at e
      ·cases e;exact⟨_,rfl,rfl,oC.bare rfl rfl⟩
      ·cases e
     ·cases e
    ·cases e
   ·cases e
  ·cases e
def Tw (hr:bc P g h w){o:Oper}{ρ:Operand->BV}{σ:Operand->Value}{n:bA}{h':aj}(hρ:∀x∈o.op.operands.toList,ao P g w (ρ x) (σ x))(e:Fw P h ρ o=some (n,h')):
 kE P g h w n h' ((execOp σ o).run P w):=by
 by_cases ha:kK o=true
 ·obtain⟨v,ob,rfl,rfl,_,hno⟩:=MU ha e
  obtain⟨k1,k2⟩:=hr.N8 ob hno
  obtain⟨v',w',e1,h1,h2,h3⟩:=UG k1 ha hρ e rfl hr.wQ
  refine⟨_,w',h1,k2.trans h2,fun b hb hm _=>⟨by rw[Gh.gl g (by omega)];exact hm,by rw[aj.eL,ag4 (by omega)]⟩,v',e1,h3⟩
 obtain⟨dst,op,ty,pos,after,guard⟩:=o
 have hv:∀{r:Option BV} {s:Sem Value},(∀v,r=some v->∃v',s.run P w= .ok v' w/\ao P g w v v')->(r.map fun x=>(bA.value x,h))=some (n,h')->kE P g h w n h' ((do pure (.value (<-s)):Sem Next).run P w):=by
  intro r s hs he
  cases r with
  |none=>cases he
  |some x=>simp at he;obtain⟨rfl,rfl⟩:=he;exact kE.CX hr (hs x rfl)
 have hvh:∀{r:Option (BV×aj)} {s:Sem Value},(∀v h1,r=some (v,h1)->iU P g h w v h1 (s.run P w))->(r.map fun (x:BV×aj)=>(bA.value x.1,x.2))=some (n,h')->kE P g h w n h' ((do pure (.value (<-s)):Sem Next).run P w):=by
  intro r s hs he
  cases r with
  |none=>cases he
  |some x=>obtain⟨v,h1⟩:=x;simp at he;obtain⟨rfl,rfl⟩:=he;exact kE.yJ (hs v h1 rfl)
 have hu:∀{r:Option aj} {s:Sem Unit},(∀h1,r=some h1->∃g' w',s.run P w= .ok () w'/\bc P g' h1 w'/\hJ g h w g' h1 w'/\Ph g h g' h1)->(r.map fun x=>(bA.skip,x))=some (n,h')->kE P g h w n h' ((do s;pure .skip:Sem Next).run P w):=by
  intro r s hs he
  cases r with
  |none=>cases he
  |some x=>simp at he;obtain⟨rfl,rfl⟩:=he;exact kE.abN (hs x rfl)
 cases op<;>simp only[Fw]at e<;>simp only[Op.operands]at hρ
 case move x=>cases e;exact kE.pure hr ⟨_,rfl,hρ x (by simp)⟩
 case assign x=>cases e;exact kE.pure hr ⟨_,rfl,hρ x (by simp)⟩
 case pick c a b=>
  have hc:=hρ c (by simp)
  have ha:=hρ a (by simp)
  have hb:=hρ b (by simp)
  cases hcc:ρ c<;>simp[hcc]at e
  rename_i bb
  rw[hcc]at hc
  simp only[ao]at hc
  obtain⟨rfl,rfl⟩:=e
  refine kE.pure hr ⟨if bb then σ a else σ b,?_,?_⟩
  ·simp[execOp,hc,asBool]
  ·cases bb<;>simpa
 case build t parts=>
  refine hv (fun v he=>?_) e
  have:=WJ (agi (P:=P) (g:=g) (w:=w) (ps:=parts) (ρ:=ρ) (σ:=σ) (fun x hx=>hρ x (by simpa using hx))) he
  have e1:(parts.map fun (x:Nat×Operand)=>(x.1,σ x.2))=(parts.toList.map fun (x:Nat×Operand)=>(x.1,σ x.2)).toArray:=by apply aiV;simp
  show ∃v',(Instr.build t (parts.map fun (x:Nat×Operand)=>(x.1,σ x.2))).run P w= .ok v' w/\ao P g w v v'
  rw[e1];exact this
 case load t a=>exact hv (fun v he=>ZV hr (hρ a (by simp)) he) e
 case store t a x=>exact hu (fun h1 he=>⟨g,WV hr (hρ a (by simp)) (hρ x (by simp)) he⟩) e
 case nilCheck x=>
  have hx:=hρ x (by simp)
  cases hxx:ρ x<;>simp[hxx]at e<;>rw[hxx]at hx<;>have hx0:=hx<;>simp only[ao]at hx
  case aP b off=>
   obtain⟨rfl,rfl⟩:=e
   obtain⟨_,_,_,h1⟩:=hx
   exact kE.pure hr ⟨σ x,by simp[execOp,h1],hx0⟩
  case wq cs=>
   obtain⟨rfl,rfl⟩:=e
   obtain⟨_,_,h1,_⟩:=hx
   exact kE.pure hr ⟨σ x,by simp[execOp,h1],hx0⟩
  case oQ b f k off=>
   obtain⟨rfl,rfl⟩:=e
   obtain⟨_,_,_,h1,_⟩:=hx
   exact kE.pure hr ⟨σ x,by simp[execOp,h1],hx0⟩
  case vO b el i off=>
   obtain⟨rfl,rfl⟩:=e
   obtain⟨_,_,_,h1⟩:=hx
   exact kE.pure hr ⟨σ x,by simp[execOp,h1],hx0⟩
  case func fn a b=>
   obtain⟨_,_,h1,_⟩:=hx
   cases fn<;>simp at e<;>obtain⟨rfl,rfl⟩:=e<;>exact kE.pure hr ⟨σ x,by simp[execOp,h1],hx0⟩
  case yield l=>
   obtain⟨rfl,rfl⟩:=e
   obtain⟨_,_,h1⟩:=hx
   exact kE.pure hr ⟨σ x,by simp[execOp,h1],hx0⟩
 case binOp op t x y yt=>
  split at e
  ·rename_i hg
   refine hv (s:=do eqGuard op t x y (σ x) (σ y);binOp op t (σ x) (σ y)) (fun v he=>?_) e
   obtain⟨v',h1,h2⟩:=acn hr (hρ x (by simp)) (hρ y (by simp)) he
   refine⟨v',?_,h2⟩
   have:=QR (hρ x (by simp)) (hρ y (by simp)) hg (RP he)
   simp[this,h1]
  ·cases e
 case unOp op t x=>exact hv (fun v he=>aez (hρ x (by simp)) he) e
 case convert src dst x=>exact hv (fun v he=>Q0 (hρ x (by simp)) he) e
 case makeFunc fn first captured=>
  have hf:aq P g w (first.toList.map ρ) (first.map σ).toList:=by rw[ajH];exact aq.map fun a ha=>hρ a (by simp[ha])
  have hc:aq P g w (captured.toList.map ρ) (captured.map σ).toList:=by rw[ajH];exact aq.map fun a ha=>hρ a (by simp[ha])
  cases fn<;>simp at e<;>obtain⟨rfl,rfl⟩:=e<;>
   exact kE.pure hr ⟨_,rfl,by simp only[ao];exact⟨_,_,rfl,hf,hc⟩⟩
 case slice t x lo hi mx=>
  exact hv (fun v he=>WU hr (hρ x (by simp)) (YV fun y hy=>hρ y (by simp at hy;simp[hy])) (YV fun y hy=>hρ y (by simp at hy;simp[hy])) (YV fun y hy=>hρ y (by simp at hy;simp[hy])) he) e
 case fieldAddr t x i=>exact hv (fun v he=>Mf (hρ x (by simp)) he) e
 case field t x i=>exact hv (fun v he=>WM (hρ x (by simp)) he) e
 case indexAddr t x i=>exact hv (fun v he=>Mg (hρ x (by simp)) (hρ i (by simp)) he) e
 case index t x i=>exact hv (fun v he=>WO (hρ x (by simp)) (hρ i (by simp)) he) e
 case lookup t x i ok=>exact hv (fun v he=>Tv hr (hρ x (by simp)) (hρ i (by simp)) he) e
 case mapUpdate t m k x=>exact hu (fun h1 he=>E8 hr (hρ m (by simp)) (hρ k (by simp)) (hρ x (by simp)) he) e
 case insert t m k x=>exact hu (fun h1 he=>E8 hr (hρ m (by simp)) (hρ k (by simp)) (hρ x (by simp)) he) e
 case range t x=>exact hvh (fun v h1 he=>WT hr (hρ x (by simp)) he) e
 case entry it=>exact hv (fun v he=>WL hr (hρ it (by simp)) he) e
 case extract t i=>
  have hx:=hρ t (by simp)
  cases hxx:ρ t<;>simp[hxx]at e
  rename_i vs
  rw[hxx]at hx
  simp only[ao]at hx
  obtain⟨vs',h1,h2⟩:=hx
  obtain⟨v,hv1,rfl,rfl⟩:=e
  obtain⟨v',hv2,hv3⟩:=h2.get hv1
  refine kE.CX (s:=Instr.extract (σ t) i) hr ⟨v',?_,hv3⟩
  simp only[ahW]at hv2
  simp[Instr.extract,h1,hv2]
 case call c=>
  cases hd:Aw ρ c ty with
  |none=>simp[hd]at e
  |some d=>
   simp only[hd,ais]at e
   obtain⟨d',h1,h2,h3⟩:=Q3 hr hρ hd
   have:=Ll hr h2 h3 e
   simp only[execOp,Sem.run_bind,h1,Result.andThen_ok]
   exact this
 all_goals first|exact absurd rfl ha|cases e
end
end
section
def eZ (g:Gh):dI->Item->Prop
 | .code c,i=>i= .code c
 | .inBlock id,i=>i= .inBlock id
 | .inLoop c,i=>i= .inLoop c
 | .inScope c,i=>i= .inScope c
 | .inRegion aX todo,i=>i= .inRegion aX todo
 | .fY _,_=>False
 | .inRangeFunc l,i=>∃aL,g.m l=some (aL,0)/\i= .inRangeFunc aL
 | .endRangeFunc l,i=>∃aL,g.m l=some (aL,0)/\i= .endRangeFunc aL
 | .beginRound,i=>i= .beginRound
def bS (g:Gh):List dI->List Item->Prop
 | [],is=>is=[]
 |b::bs,is=>∃i ir,is=i::ir/\eZ g b i/\bS g bs ir
def xS (P:Program)(g:Gh)(w:World):TS->FrameMode->Prop
 | .run,m=>m= .run
 | .returning,m=>m= .returning
def mW (g:Gh):Option Nat->Option Nat->Prop
 |none,r=>r=none
 |some l,r=>∃aL,g.m l=some (aL,0)/\r=some aL
def abd (aX:Array Oper)(i:Nat):Prop:=∃o,aX[i]?=some o/\kq o=true
def gb (aX:Array Oper)(b7:List BV)(aJ:List (Option BV))(ah:List Nat)(t:Nat):BV:=
 match eO aX t with
 |some k=>if k∈ah then b7.getD t BV.undef else (aJ.getD k none).getD .lH
 |none=>b7.getD t BV.undef
def FW (bits:List Nat):List Nat->Prop
 | []=>True
 |i::r=>(∀k∈i::r,dn bits i k=false)/\FW bits r
def Jr (P:Program)(g:Gh)(h hp:aj)(aX:Array Oper)(b7:List BV)(aJ:List (Option BV))(b:Option Nat)(i:Nat)(o:Oper)(v:BV):Prop:=
 (lg o aX (fun t=>some (nF aX (aY aX) b7 aJ i t))=some false/\v=BV.undef)\/
 (lg o aX (fun t=>some (nF aX (aY aX) b7 aJ i t))=some true/\
   ((kK o=false/\Fw P hp (kS aX (aY aX) b7 aJ i) o=some (.value v,hp))\/
    (kK o=true/\∃h1 h2,b=some h1.next/\Fw P h1 (kS aX (aY aX) b7 aJ i) o=some (.value v,h2)/\g.m h1.next=none/\h.get h1.next=h2.get h1.next/\r8 (h.get h1.next)=false)))
def qc (aJ:List (Option BV))(i:Nat):Prop:=∃v,aJ[i]?=some (some v)
def AH (aX:Array Oper)(cO:List Nat)(i:Nat):Prop:=∀e∈cO,dn (aY aX) i e=false
structure iG (P:Program)(g:Gh)(h:aj)(w:World)(lb ub:Nat)(hp:aj)(ph:Nat->Option Nat)(d:HI)(tmps:Array Value)(ah:List Nat):Prop where
 ok:HV d.aX=true
 NT:HX d.aX d.b7.length=true
 size:tmps.size=d.b7.length
 W5:d.aJ.length=d.aX.size
 lJ:ah.Nodup
 lt:∀i∈ah,i<d.aX.size
 YU:FW (aY d.aX) ah
 dc:∀i,i<d.aX.size->i∉ah->∀k,dn (aY d.aX) i k=true->k∉ah
 cO:∀e,e∈d.cO↔(e∈ah/\abd d.aX e)
 A3:d.cO.Pairwise fun a b=>dn (aY d.aX) b a=true
 aJ:∀i,i<d.aX.size->i∉ah->qc d.aJ i
 Hu:∀(t:Nat) v,tmps[t]?=some v->ao P g w (gb d.aX d.b7 d.aJ ah t) v
 ready:∀i∈ah,∀o,d.aX[i]?=some o->kq o=false->AH d.aX d.cO i->qc d.aJ i
 zl:∀i∈ah,∀o v,d.aX[i]?=some o->kq o=false->d.aJ[i]?=some (some v)->AH d.aX d.cO i/\Jr P g h hp d.aX d.b7 d.aJ (ph i) i o v
 MV:∀i j b,ph i=some b->ph j=some b->i=j
 Qy:∀i b,ph i=some b->lb<=b/\b<ub
def JF (P:Program)(g:Gh)(h:aj)(w:World)(lb ub:Nat)(hp:aj)(d:HI)(tmps:Array Value)(ah:List Nat):Prop:=∃ph,iG P g h w lb ub hp ph d tmps ah
def cZ (P:Program)(g:Gh)(h:aj)(w:World)(lb ub:Nat)(top:Bool)(b:bq)(f:Frame):Prop:=
 match b.todo with
 | .fY d::k=>b.cx=d.b7/\∃ah k',f.todo= .inRegion d.aX ah::k'/\bS g k k'/\∃hp,(top=true->hp=h)/\JF P g h w lb ub hp d f.tmps ah/\
    (top=false->∃x r,ah=x::r/\d.cO.head?=some x)
 |_=>aq P g w b.cx f.tmps.toList/\bS g b.todo f.todo
structure qI (P:Program)(g:Gh)(h:aj)(w:World)(lb ub:Nat)(top:Bool)(b:bq)(f:Frame):Prop where
 fn:b.fn=f.fn
 kind:b.kind=f.kind
 oI:b.kind= .normal
 defers:iC P g w b.defers f.defers
 mode:xS P g w b.mode f.mode
 round:mW g b.roundOf f.roundOf
 run:b.mode= .run->cZ P g h w lb ub top b f
 cx:b.mode≠ .run->aq P g w b.cx f.tmps.toList
structure sg where
 K:Gh->aj->Nat->List Frame->Prop
 mono:∀{g g':Gh} {h h':aj} {lb:Nat} {cs:List Frame},(∀b,b<lb->g.m b=none->r8 (h.get b)=false->g'.m b=none/\h'.get b=h.get b)->K g h lb cs->K g' h' lb cs
def sg.of (cs:List Frame):sg:=⟨fun _ _ _ c=>c=cs,fun _ h=>h⟩
def mQ (P:Program)(g:Gh)(h:aj)(w:World)(az:sg):Nat->List bq->List Frame->Prop
 |lb,[],cs=>az.K g h lb cs
 |lb,b::bs,cs=>∃c cr lb',cs=c::cr/\lb'<=lb/\qI P g h w lb' lb false b c/\mQ P g h w az lb' bs cr
def Nl (P:Program)(az:sg)(g:Gh)(w:World)(lb:Nat)(s:au)(f:Frame)(cs:List Frame):Prop:=
 bc P g s.h w/\lb<=s.h.next/\qI P g s.h w lb s.h.next true s.fr f/\mQ P g s.h w az lb s.cs cs
def sr (lb:Nat)(g:Gh)(h:aj)(g':Gh)(h':aj):Prop:=∀b,b<lb->g.m b=none->r8 (h.get b)=false->g'.m b=none/\h'.get b=h.get b
section
variable {P:Program} {g g':Gh} {h h':aj} {w w':World}
def Ph.lt (hp:Ph g h g' h'){lb:Nat}(hl:lb<=h.next):sr lb g h g' h':=fun b hb hm hv=>hp b (by omega) hm hv
def sr.refl (lb:Nat)(g:Gh)(h:aj):sr lb g h g h:=fun _ _ hm _=>⟨hm,rfl⟩
def sr.mono {lb lb':Nat}(hp:sr lb g h g' h')(hl:lb'<=lb):sr lb' g h g' h':=fun b hb hm hv=>hp b (by omega) hm hv
def sr.trans {g'':Gh}{h'':aj}{lb:Nat}(a:sr lb g h g' h')(b:sr lb g' h' g'' h''):sr lb g h g'' h'':=fun x hx hm hv=>by
 obtain⟨m1,h1⟩:=a x hx hm hv
 obtain⟨m2,h2⟩:=b x hx m1 (by rw[h1];exact hv)
 exact⟨m2,h2.trans h1⟩
def eZ.mono (hm:eC g w g' w'){b:dI}{i:Item}(h:eZ g b i):eZ g' b i:=by
 cases b<;>simp only[eZ]at h ⊢
 case inRangeFunc=>obtain⟨aL,hb,rfl⟩:=h;exact⟨aL,hm.mm _ _ hb,rfl⟩
 case endRangeFunc=>obtain⟨aL,hb,rfl⟩:=h;exact⟨aL,hm.mm _ _ hb,rfl⟩
 all_goals exact h
def bS.mono (hm:eC g w g' w'){bs:List dI}:∀{is:List Item},bS g bs is->bS g' bs is:=by
 induction bs with
 |nil=>intro is h;exact h
 |cons b bs ih=>intro is h;simp only[bS]at h ⊢;obtain⟨i,ir,rfl,h1,h2⟩:=h;exact⟨i,ir,rfl,h1.mono hm,ih h2⟩
def xS.mono (hm:eC g w g' w'){b:TS}{m:FrameMode}(h:xS P g w b m):xS P g' w' b m:=by
 cases b<;>simp only[xS]at h ⊢
 all_goals exact h
def mW.mono (hm:eC g w g' w'){b r:Option Nat}(h:mW g b r):mW g' b r:=by
 cases b<;>simp only[mW]at h ⊢
 case some l=>obtain⟨aL,hb,rfl⟩:=h;exact⟨aL,hm.mm _ _ hb,rfl⟩
 all_goals exact h
def Jr.mono {hp:aj}{aX:Array Oper}{b7:List BV}{aJ:List (Option BV)}{b:Option Nat}{i:Nat}{o:Oper}{v:BV}
 (hph:∀x,b=some x->g.m x=none->r8 (h.get x)=false->g'.m x=none/\h'.get x=h.get x)(ho:Jr P g h hp aX b7 aJ b i o v):Jr P g' h' hp aX b7 aJ b i o v:=by
 rcases ho with h1| ⟨h1,h2| ⟨h2,h3,h4,k1,k2,k4,k5,k6⟩⟩
 ·exact .inl h1
 ·exact .inr ⟨h1,.inl h2⟩
 ·obtain⟨m1,m2⟩:=hph _ k1 k4 k6
  exact .inr ⟨h1,.inr ⟨h2,h3,h4,k1,k2,m1,m2.trans k5,by rw[m2];exact k6⟩⟩
def iG.mono (hm:eC g w g' w'){hp:aj}{lb ub:Nat}(hph:sr ub g h g' h'){ph:Nat->Option Nat}{d:HI}{tmps:Array Value}{ah:List Nat}(hd:iG P g h w lb ub hp ph d tmps ah):
 iG P g' h' w' lb ub hp ph d tmps ah:=
 {hd with
  Hu:=fun t v ht=>ao.mono hm _ _ (hd.Hu t v ht)
  zl:=fun i hi o v h1 h2 h3=>⟨(hd.zl i hi o v h1 h2 h3).1,(hd.zl i hi o v h1 h2 h3).2.mono fun x hx hx' hv'=>hph x (hd.Qy i x hx).2 hx' hv'⟩}
def JF.mono (hm:eC g w g' w'){hp:aj}{lb ub:Nat}(hph:sr ub g h g' h'){d:HI}{tmps:Array Value}{ah:List Nat}(hd:JF P g h w lb ub hp d tmps ah):
 JF P g' h' w' lb ub hp d tmps ah:=by
 obtain⟨ph,hd⟩:=hd
 exact⟨ph,hd.mono hm hph⟩
def qI.mono (hm:eC g w g' w'){lb ub:Nat}(hph:sr ub g h g' h'){b:bq}{f:Frame}(hf:qI P g h w lb ub false b f):qI P g' h' w' lb ub false b f where
 fn:=hf.fn
 kind:=hf.kind
 oI:=hf.oI
 defers:=hf.defers.mono hm
 mode:=hf.mode.mono hm
 round:=hf.round.mono hm
 cx:=fun e=>aq.mono hm _ _ (hf.cx e)
 run:=fun e=>by
  have:=hf.run e
  unfold cZ at this ⊢
  split
  ·rename_i d k ht
   simp only[ht]at this
   obtain⟨h1,ah,k',h2,h3,hp,h4,h5,h6⟩:=this
   exact⟨h1,ah,k',h2,h3.mono hm,hp,(fun e=>by cases e),h5.mono hm hph,by simpa using h6⟩
  ·rename_i hno
   split at this
   ·rename_i d k ht;exact absurd ht (hno d k)
   ·exact⟨aq.mono hm _ _ this.1,this.2.mono hm⟩
def mQ.mono (hm:eC g w g' w'){az:sg}{bs:List bq}:∀{lb:Nat} {cs:List Frame},sr lb g h g' h'->mQ P g h w az lb bs cs->mQ P g' h' w' az lb bs cs:=by
 induction bs with
 |nil=>intro lb cs hph h;exact az.mono hph h
 |cons b bs ih=>
  intro lb cs hph h
  simp only[mQ]at h ⊢
  obtain⟨c,cr,lb',rfl,h1,h2,h3⟩:=h
  exact⟨c,cr,lb',rfl,h1,h2.mono hm hph,ih (hph.mono h1) h3⟩
def Gz {cx:List BV}{tmps:Array Value}(hv:aq P g w cx tmps.toList)(f:Frame)(hf:f.tmps=tmps)(x:Operand):ao P g w (vB cx x) (f.eval x):=by
 subst hf
 cases x with
 |tmp t=>
  simp only[vB,Frame.eval]
  cases hb:cx[t]? with
  |none=>
   have:f.tmps.toList[t]?=none:=by rw[ahS];have:=hv.length;have:=ait.1 hb;omega
   simp only[List.getD,hb,ajI,ahX]
   rw[<-ahW,this]
   exact ao.undef
  |some b=>
   obtain⟨v,h1,h2⟩:=hv.get hb
   simp only[List.getD,hb,ah4,ahX]
   rw[<-ahW,h1]
   exact h2
 |const v=>exact ao.ofv P g w v
 |global a=>simp[vB,ao]
 |func f'=>simp only[vB,Frame.eval,ao];exact⟨#[],#[],rfl,aq.nil,aq.nil⟩
def Zv {cx:List BV}{tmps:Array Value}(hv:aq P g w cx tmps.toList){b:BV}{v:Value}(hb:ao P g w b v)(d:Option Nat):
 aq P g w (vo cx d b) (match d with|some d=>tmps.setIfInBounds d v|none=>tmps).toList:=by
 cases d with
 |none=>exact hv
 |some d=>simpa [vo]using hv.set d hb
def abg {id:Nat}:∀{bs:List dI} {is:List Item},bS g bs is->
 (∀k,qY id bs=some k->∃k',exitTo id is=some k'/\bS g k k')/\(qY id bs=none->exitTo id is=none):=by
 intro bs
 induction bs with
 |nil=>intro is h;simp only[bS]at h;subst h;exact⟨fun k hk=>by simp[qY]at hk,fun _=>rfl⟩
 |cons b bs ih=>
  intro is h
  simp only[bS]at h
  obtain⟨i,ir,rfl,h1,h2⟩:=h
  have:=ih h2
  cases b<;>simp only[eZ]at h1
  case inBlock id'=>
   subst h1
   simp only[qY,exitTo]
   by_cases hc:(id'==id)=true
   ·rw[ag8 hc,ag8 hc];exact⟨fun k hk=>by cases hk;exact⟨ir,rfl,h2⟩,fun hk=>by cases hk⟩
   ·rw[ag4 hc,ag4 hc];exact this
  case inRangeFunc l=>obtain⟨aL,_,rfl⟩:=h1;simpa only[qY,exitTo]using this
  case endRangeFunc l=>obtain⟨aL,_,rfl⟩:=h1;simpa only[qY,exitTo]using this
  all_goals (subst h1;simpa only[qY,exitTo]using this)
def abt {l:Nat}:∀{bs:List dI} {is:List Item},bS g bs is->
 (∀k,rp l bs=some k->∃k',gotoIn l is=some k'/\bS g k k')/\(rp l bs=none->gotoIn l is=none):=by
 intro bs
 induction bs with
 |nil=>intro is h;simp only[bS]at h;subst h;exact⟨fun k hk=>by simp[rp]at hk,fun _=>rfl⟩
 |cons b bs ih=>
  intro is h
  simp only[bS]at h
  obtain⟨i,ir,rfl,h1,h2⟩:=h
  have:=ih h2
  cases b<;>simp only[eZ]at h1
  case inScope body=>
   subst h1
   simp only[rp,gotoIn]
   cases hf:findLabel body l with
   |none=>exact this
   |some ah=>exact⟨fun k hk=>by cases hk;exact⟨_,rfl,_,_,rfl,rfl,_,_,rfl,rfl,h2⟩,fun hk=>by cases hk⟩
  case inRangeFunc l=>obtain⟨aL,_,rfl⟩:=h1;simpa only[rp,gotoIn]using this
  case endRangeFunc l=>obtain⟨aL,_,rfl⟩:=h1;simpa only[rp,gotoIn]using this
  all_goals (subst h1;simpa only[rp,gotoIn]using this)
end
end
end Go.PB
end
