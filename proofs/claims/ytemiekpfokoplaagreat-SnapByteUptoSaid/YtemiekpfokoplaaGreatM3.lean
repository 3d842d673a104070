import Derived.Test.YtemiekpfokoplaaGreatM2
set_option linter.all false
noncomputable section
namespace Go.PB
open Go
section
section
variable {P:Program} {g:Gh} {h:af} {w w':World}
def Gh.ins (g:Gh)(f:Nat)(k:D)(x:Nat×Nat):Gh:={g with s:=fun f' k'=>@ite _ (f'=f/\k'=k) (Classical.propDecidable _) (some x) (g.s f' k')}
def Gh.Wf (g:Gh)(f:Nat)(k:D)(x:Nat×Nat):(g.ins f k x).s f k=some x:=by simp[Gh.ins]
def Gh.Tm (g:Gh){f f':Nat}{k k':D}{x:Nat×Nat}(h:¬(f'=f/\k'=k)):(g.ins f k x).s f' k'=g.s f' k':=by
 unfold Gh.ins;exact aeX h
def aR.abp (hr:aR P g h w){r c aA cblk cbase:Nat}{kt e f:Nat}{l:List (D×D)}{st:List Nat}{ck:Nat}{cs:List BV}{d k:D}{es:Array MapEntry}{k':Value}
 (hb:h.get r=some (.bo kt (.cp f e) l st ck))(hm:g.m r=some (aA,0))(hw:w.heap[aA]?=some (.map es ck))(hrel:sT P g w kt (.cp f e) l st ck es.toList)
 (hc:h.get c=some (.cells cs e false))(hcm:g.m c=some (cblk,cbase))(hd:cy P e=true)(hu:Pj P e cs=some d)(hh:D.fv l k=false)(hk:zv P kt k)(hkv:ai P g w (ch P kt k) k'):
 aR P (g.ins f k (cblk,cbase)) ((h.put c (some (.ql r f k))).put r (some (.bo kt (.cp f e) (l++[(k,d)]) (st++[ck]) (ck+1)))) (w.dL aA (.map (es.push ⟨k',.pointer (some ⟨cblk,cbase,none⟩),ck⟩) (ck+1)))/\
 gN g h w (g.ins f k (cblk,cbase)) ((h.put c (some (.ql r f k))).put r (some (.bo kt (.cp f e) (l++[(k,d)]) (st++[ck]) (ck+1)))) (w.dL aA (.map (es.push ⟨k',.pointer (some ⟨cblk,cbase,none⟩),ck⟩) (ck+1)))/\
 Ph g h (g.ins f k (cblk,cbase)) ((h.put c (some (.ql r f k))).put r (some (.bo kt (.cp f e) (l++[(k,d)]) (st++[ck]) (ck+1)))):=by
 generalize hg':g.ins f k (cblk,cbase)=g'
 generalize ho':ax.bo kt (.cp f e) (l++[(k,d)]) (st++[ck]) (ck+1)=o'
 generalize hh':(h.put c (some (.ql r f k))).put r (some o')=h'
 generalize hw':w.dL aA (.map (es.push ⟨k',.pointer (some ⟨cblk,cbase,none⟩),ck⟩) (ck+1))=w'
 have hne:r≠c:=fun e1=>by subst e1;rw[hb]at hc;cases hc
 have hs0:g.s f k=none:=by
  cases e1:g.s f k with
  |none=>rfl
  |some x=>
   obtain⟨⟨o1,h1⟩,_⟩:=hr.sk _ _ _ _ _ hb rfl e1
   unfold D.fv at hh
   simp only[ax.wA,afq]at h1
   cases e2:D.eu l k with
   |none=>rw[e2]at h1;cases h1
   |some y=>rw[e2]at hh;cases hh
 have hsne:∀f' k1 x,g.s f' k1=some x->¬(f'=f/\k1=k):=fun f' k1 x h1 h2=>by obtain⟨rfl,rfl⟩:=h2;rw[hs0]at h1;cases h1
 have gm:g'.m=g.m:=by subst hg';rfl
 have gfz:g'.fz=g.fz:=by subst hg';rfl
 have gsame:g'.s f k=some (cblk,cbase):=by subst hg';exact Gh.Wf _ _ _ _
 have gother:∀f' k1,¬(f'=f/\k1=k)->g'.s f' k1=g.s f' k1:=fun f' k1 h1=>by subst hg';exact Gh.Tm _ h1
 have hget:∀x,h'.get x=if x=r then some o' else if x=c then some (.ql r f k)else h.get x:=fun x=>by
  subst hh';rw[af.fe,af.fe]
 have hnext:h'.next=h.next:=by subst hh';rfl
 have ofam:o'.yp=some f:=by subst ho';rfl
 have oown:o'.gH=some o':=by subst ho';rfl
 have hsz:w'.heap.size=w.heap.size:=by subst hw';simp[World.dL]
 have hlt:aA<w.heap.size:=hr.U0 r aA 0 hm
 have hother:∀x,x≠aA->w'.heap[x]?=w.heap[x]?:=fun x hx=>by subst hw';unfold World.dL;exact afx (by omega)
 have hsame:w'.heap[aA]?=some (.map (es.push ⟨k',.pointer (some ⟨cblk,cbase,none⟩),ck⟩) (ck+1)):=by subst hw';exact ek hlt
 have hrat:=af.fJ hb rfl
 have hcat:=af.fJ hc rfl
 have hnf:¬g.fz aA:=(hr.U2 r _ aA 0 hb hm).1
 have hmono:eA g w g' w':=⟨fun b x e1=>by rw[gm];exact e1,fun c e1=>by rw[gfz];exact e1,fun c h1=>hother c (fun e1=>hnf (e1▸h1)),fun c s h1=>by
  by_cases e1:c=aA
  ·subst e1;simp[World.shape?,hw]at h1
  ·rw[fS (hother c e1)];exact h1,fun f' k1 x h1=>by rw[gother _ _ (hsne _ _ _ h1)];exact h1⟩
 have hat:∀L o1,h'.at L=some o1->(L= .el r f k/\o1= .an e [d] false)\/(L= .aA r/\o1=o')\/(L≠ .aA r/\L≠ .aA c/\L≠ .el r f k/\h.at L=some o1):=fun L o1 e1=>by
  cases L with
  |aA x=>
   obtain⟨e2,e3⟩:=af.wa e1
   rw[hget]at e2
   by_cases hx:x=r
   ·subst hx;rw[aeZ rfl]at e2;cases e2;exact .inr (.inl ⟨rfl,rfl⟩)
   ·rw[aeX hx]at e2
    by_cases hxc:x=c
    ·subst hxc;rw[aeZ rfl]at e2;cases e2;cases e3
    ·rw[aeX hxc]at e2
     exact .inr (.inr ⟨fun h=>(by cases h;exact hx rfl),fun h=>(by cases h;exact hxc rfl),fun h=>(by cases h),af.fJ e2 e3⟩)
  |el x f' k1=>
   obtain⟨y,e2,e3⟩:=af.I5 e1
   rw[hget]at e2
   by_cases hx:x=r
   ·subst hx;rw[aeZ rfl]at e2;cases e2
    have hff:=ax.mN e3
    rw[ofam]at hff;cases hff
    subst ho'
    simp only[ax.wA,afq]at e3
    by_cases hkk:k1=k
    ·subst hkk;rw[D.y9 hh]at e3;cases e3;exact .inl ⟨rfl,rfl⟩
    ·rw[D.BK hkk]at e3
     refine .inr (.inr ⟨fun h=>(by cases h),fun h=>(by cases h),fun h=>(by cases h;exact hkk rfl),af.Az hb ?_⟩)
     simp only[ax.wA,afq];exact e3
   ·rw[aeX hx]at e2
    by_cases hxc:x=c
    ·subst hxc;rw[aeZ rfl]at e2;cases e2;cases e3
    ·rw[aeX hxc]at e2
     exact .inr (.inr ⟨fun h=>(by cases h),fun h=>(by cases h),fun h=>(by cases h;exact hx rfl),af.Az e2 e3⟩)
 have gat:∀L,L≠ .el r f k->(∀x,L≠ .el x f k)->g'.at L=g.at L:=fun L _ h2=>by
  cases L with
  |aA x=>show g'.m x=g.m x;rw[gm]
  |el x f' k1=>exact gother f' k1 fun hfk=>by obtain⟨rfl,rfl⟩:=hfk;exact h2 x rfl
 have hnel:∀x o1,x≠r->h.at (.el x f k)≠some o1:=fun x o1 hx e1=>by
  obtain⟨y,e2,e3⟩:=af.I5 e1
  exact hx (hr.fu _ _ _ _ _ e2 hb (ax.mN e3) rfl)
 have gat2:∀L o1,h.at L=some o1->L≠ .el r f k->g'.at L=g.at L:=fun L o1 e1 h2=>gat L h2 fun x hx=>by
  subst hx
  by_cases hxr:x=r
  ·subst hxr;exact h2 rfl
  ·exact hnel x o1 hxr e1
 have hnm:HU g' h':=by
  refine⟨fun b o h1=>?_,fun b x h1=>by rw[hnext];exact hr.lt b x (gm▸h1),fun f' k1 x h1=>?_,fun b o f' h1 h2=>?_,fun b b' o o1 f' h1 h2 h3 h4=>?_,fun b o f' k1 x h1 h2 h3=>?_,fun b b' f' k1 h1=>?_⟩
  ·rw[hnext];rw[hget]at h1
   by_cases e1:b=r
   ·rw[e1];exact hr.HY _ _ hb
   ·rw[aeX e1]at h1
    by_cases e2:b=c
    ·rw[e2];exact hr.HY _ _ hc
    ·rw[aeX e2]at h1;exact hr.HY _ _ h1
  ·rw[hnext]
   by_cases hfk:f'=f/\k1=k
   ·rw[hfk.1];exact hr.AE _ _ _ hb rfl
   ·rw[gother _ _ hfk]at h1;exact hr.Eh _ _ _ h1
  ·rw[hnext];rw[hget]at h1
   by_cases e1:b=r
   ·rw[aeZ e1]at h1;cases h1;rw[ofam]at h2;cases h2;exact hr.AE _ _ _ hb rfl
   ·rw[aeX e1]at h1
    by_cases e2:b=c
    ·rw[aeZ e2]at h1;cases h1;cases h2
    ·rw[aeX e2]at h1;exact hr.AE _ _ _ h1 h2
  ·have old:∀b o,h'.get b=some o->o.yp=some f'->∃o2,h.get b=some o2/\o2.yp=some f':=fun b o h1 h2=>by
    rw[hget]at h1
    by_cases e1:b=r
    ·rw[aeZ e1]at h1;cases h1;rw[ofam]at h2;cases h2;exact⟨_,e1▸hb,rfl⟩
    ·rw[aeX e1]at h1
     by_cases e2:b=c
     ·rw[aeZ e2]at h1;cases h1;cases h2
     ·rw[aeX e2]at h1;exact⟨o,h1,h2⟩
   obtain⟨p1,k1,k2⟩:=old _ _ h1 h3
   obtain⟨p2,j1,j2⟩:=old _ _ h2 h4
   exact hr.fu _ _ _ _ _ k1 j1 k2 j2
  ·rw[hget]at h1
   rw[gm]
   by_cases e1:b=r
   ·rw[aeZ e1]at h1;cases h1
    rw[ofam]at h2;cases h2
    refine⟨?_,⟨_,e1▸hm⟩⟩
    subst ho'
    simp only[ax.wA,afq]
    by_cases hkk:k1=k
    ·subst hkk;rw[D.y9 hh];exact⟨_,rfl⟩
    ·rw[D.BK hkk]
     rw[gother _ _ (fun hfk=>hkk hfk.2)]at h3
     obtain⟨⟨o1,k2⟩,_⟩:=hr.sk _ _ _ _ _ hb rfl h3
     simp only[ax.wA,afq]at k2
     exact⟨o1,k2⟩
   ·rw[aeX e1]at h1
    by_cases e2:b=c
    ·rw[aeZ e2]at h1;cases h1;cases h2
    ·rw[aeX e2]at h1
     have hff:¬(f'=f/\k1=k):=fun hfk=>e1 (hr.fu _ _ _ _ _ h1 hb (hfk.1▸h2) rfl)
     rw[gother _ _ hff]at h3
     exact hr.sk _ _ _ _ _ h1 h2 h3
  ·rw[hget]at h1
   rw[gm]
   by_cases e1:b=r
   ·rw[aeZ e1]at h1;cases h1;cases oown
   ·rw[aeX e1]at h1
    by_cases e2:b=c
    ·rw[aeZ e2]at h1;cases h1;exact⟨⟨_,e2▸hcm,gsame⟩,_,hm⟩
    ·rw[aeX e2]at h1
     obtain⟨⟨x,k1',k2⟩,k3⟩:=hr.al _ _ _ _ h1
     exact⟨⟨x,k1',by rw[gother _ _ (hsne _ _ _ k2)];exact k2⟩,k3⟩
 refine⟨hnm.Ln ?_ ?_ ?_ ?_,⟨hmono,by omega,?_,fun x _ hx=>?_,fun x _ h1=> .inl (gfz▸h1),by rw[hnext];exact afa _,by subst hw';exact⟨rfl,rfl,rfl⟩⟩,fun b hb1 e1 hv=>⟨by rw[gm];exact e1,?_⟩⟩
 ·intro L blk1 base1 h1
  rw[hsz]
  cases L with
  |aA x=>exact hr.mR (.aA x) blk1 base1 (by rw[<-h1];show g.m x=g'.m x;rw[gm])
  |el x f' k1=>
   by_cases hfk:f'=f/\k1=k
   ·obtain⟨rfl,rfl⟩:=hfk
    change g'.s f' k1=_ at h1
    rw[gsame]at h1;cases h1
    exact hr.U0 c _ _ hcm
   ·exact hr.mR (.el x f' k1) blk1 base1 (by rw[<-h1];exact(gother _ _ hfk).symm)
 ·intro L1 L2 blk1 base1 base2 o1 o2 h1 h2 m1 m2
  have conv:∀L o1 base1,h'.at L=some o1->g'.at L=some (blk1,base1)->(L= .el r f k/\blk1=cblk)\/(L≠ .el r f k/\L≠ .aA c/\∃o2 base2,h.at L=some o2/\g.at L=some (blk1,base2)):=fun L o1 base1 h1 m1=>by
   rcases hat L o1 h1 with ⟨rfl,_⟩| ⟨rfl,_⟩| ⟨n1,n2,n3,h1'⟩
   ·left;refine⟨rfl,?_⟩;change g'.s f k=_ at m1;rw[gsame]at m1;cases m1;rfl
   ·right
    refine⟨fun h=>(by cases h),fun h=>(by cases h;exact hne rfl),_,base1,hrat,?_⟩
    rw[<-m1];show g.m r=g'.m r;rw[gm]
   ·exact .inr ⟨n3,n2,o1,base1,h1',by rw[<-m1];exact(gat2 L o1 h1' n3).symm⟩
  rcases conv L1 o1 base1 h1 m1 with ⟨rfl,rfl⟩| ⟨n1,n1',p1,q1,j1,j2⟩
  ·rcases conv L2 o2 base2 h2 m2 with ⟨rfl,_⟩| ⟨n2,n2',p2,q2,l1,l2⟩
   ·rfl
   ·exact absurd (hr.mS _ _ _ _ _ _ _ l1 hcat l2 hcm) n2'
  ·rcases conv L2 o2 base2 h2 m2 with ⟨rfl,e3⟩| ⟨n2,n2',p2,q2,l1,l2⟩
   ·subst e3;exact absurd (hr.mS _ _ _ _ _ _ _ j1 hcat j2 hcm) n1'
   ·exact hr.mS _ _ _ _ _ _ _ j1 l1 j2 l2
 ·intro L o1 blk1 base1 h1 m1
  rcases hat L o1 h1 with ⟨rfl,rfl⟩| ⟨rfl,rfl⟩| ⟨n1,n2,n3,h1⟩
  ·change g'.s f k=_ at m1
   rw[gsame]at m1;cases m1
   obtain⟨k1,o2,k2,k3⟩:=hr.pZ _ _ _ _ hcat hcm
   have hneb:cblk≠aA:=fun ee=>by
    have:=hr.mS _ _ _ _ _ _ _ hcat hrat hcm (ee▸hm)
    cases this;exact hne rfl
   refine⟨by rw[gfz];exact k1,o2,(hother _ hneb).trans k2,?_⟩
   simp only[cL]at k3 ⊢
   obtain⟨cc,lo,hi,rfl,⟨vs,hv,hcc⟩,_,hs⟩:=k3
   obtain⟨rfl,rfl⟩:=hs trivial
   refine⟨cc,0,0,rfl,xZ.zero _ _ _,vs,?_,hcc⟩
   have hD:=Ar hu hv
   have:=cD.cons (l:=[]) (vs:=[]) (by rw[mW.length hd hD]) hD cD.nil
   simp only[afU]at this
   exact this.mono hmono.mf hmono.mc
  ·change g'.m r=_ at m1
   rw[gm,hm]at m1;cases m1
   refine⟨by rw[gfz];exact hnf,_,hsame,?_⟩
   subst ho'
   simp only[cL]
   refine⟨trivial,_,rfl,?_⟩
   rw[ahQ]
   exact(hrel.mono hmono).app hk hh (ai.mono hmono _ _ hkv) (by unfold xV;exact⟨(cblk,cbase),gsame,rfl⟩)
  ·rw[gat2 L o1 h1 n3]at m1
   obtain⟨k1,o2,ho2,hr2⟩:=hr.pZ _ _ _ _ h1 m1
   have hne:blk1≠aA:=fun ee=>n1 (hr.mS _ _ _ _ _ _ _ h1 hrat (ee▸m1) hm)
   exact⟨by rw[gfz];exact k1,o2,(hother _ hne).trans ho2,hr2.mono hmono⟩
 ·intro x hx;rw[hsz];exact hr.lF x (gfz▸hx)
 ·intro x hx hno
  exact hother x (fun e=>hno ⟨.aA r,_,0,hrat,e▸hm⟩)
 ·obtain⟨L,o1,base1,hl,hm1⟩:=hx
  rcases hat L o1 hl with ⟨rfl,_⟩| ⟨rfl,_⟩| ⟨n1,n2,n3,h1⟩
  ·change g'.s f k=_ at hm1;rw[gsame]at hm1;cases hm1;exact⟨.aA c,_,cbase,hcat,hcm⟩
  ·exact⟨.aA r,_,base1,hrat,by rw[<-hm1];show g.m r=g'.m r;rw[gm]⟩
  ·exact⟨L,o1,base1,h1,by rw[<-hm1];exact(gat2 L o1 h1 n3).symm⟩
 ·rw[hget,aeX (fun ee=>by subst ee;rw[hm]at e1;cases e1),aeX (fun ee=>by subst ee;rw[hcm]at e1;cases e1)]
def Gh.Yy (g:Gh)(f f':Nat)(k:D):Gh:={g with s:=fun x k'=>if x=f' then @ite _ (k'=k) (Classical.propDecidable _) none (g.s f k')else g.s x k'}
def Gh.aap (g:Gh){f f':Nat}{k k':D}(h:k'≠k):(g.Yy f f' k).s f' k'=g.s f k':=by
 unfold Gh.Yy;simp only[afq];exact aeX h
def Gh.XD (g:Gh){f f':Nat}{k:D}:(g.Yy f f' k).s f' k=none:=by
 unfold Gh.Yy;simp
def Gh.Ul (g:Gh){f f' x:Nat}{k k':D}(h:x≠f'):(g.Yy f f' k).s x k'=g.s x k':=by
 unfold Gh.Yy;exact aeX h
def aR.aa3 (hr:aR P g h w){r aA:Nat}{kt e f:Nat}{l:List (D×D)}{st:List Nat}{ck:Nat}{k:D}{es es1:Array MapEntry}
 (hb:h.get r=some (.bo kt (.cp f e) l st ck))(hm:g.m r=some (aA,0))(hw:w.heap[aA]?=some (.map es ck))
 (hrel:∀g' w',eA g w g' w'->(∀k',k'≠k->g'.s h.next k'=g.s f k')->sT P g' w' kt (.cp h.next e) (D.yg l k) (D.B6 l st k) ck es1.toList):
 aR P (g.Yy f h.next k) ((h.put r (some (.bo kt (.cp h.next e) (D.yg l k) (D.B6 l st k) ck))).PR) (w.dL aA (.map es1 ck))/\
 gN g h w (g.Yy f h.next k) ((h.put r (some (.bo kt (.cp h.next e) (D.yg l k) (D.B6 l st k) ck))).PR) (w.dL aA (.map es1 ck))/\
 Ph g h (g.Yy f h.next k) ((h.put r (some (.bo kt (.cp h.next e) (D.yg l k) (D.B6 l st k) ck))).PR):=by
 generalize hg':g.Yy f h.next k=g'
 generalize ho':ax.bo kt (.cp h.next e) (D.yg l k) (D.B6 l st k) ck=o'
 generalize hh':(h.put r (some o')).PR=h'
 generalize hw':w.dL aA (.map es1 ck)=w'
 have hflt:f<h.next:=hr.AE _ _ _ hb rfl
 have gm:g'.m=g.m:=by subst hg';rfl
 have gfz:g'.fz=g.fz:=by subst hg';rfl
 have gnew:∀k',k'≠k->g'.s h.next k'=g.s f k':=fun k' h1=>by subst hg';exact Gh.aap g h1
 have ggone:g'.s h.next k=none:=by subst hg';exact Gh.XD g
 have gother:∀x k',x≠h.next->g'.s x k'=g.s x k':=fun x k' h1=>by subst hg';exact Gh.Ul g h1
 have hsne:∀f' k1 x,g.s f' k1=some x->f'≠h.next:=fun f' k1 x h1 h2=>by have:=hr.Eh _ _ _ h1;omega
 have hget:∀x,h'.get x=if x=r then some o' else h.get x:=fun x=>by subst hh';rw[af.Wb,af.fe]
 have hnext:h'.next=h.next+1:=by subst hh';rfl
 have ofam:o'.yp=some h.next:=by subst ho';rfl
 have oown:o'.gH=some o':=by subst ho';rfl
 have hsz:w'.heap.size=w.heap.size:=by subst hw';simp[World.dL]
 have hlt:aA<w.heap.size:=hr.U0 r aA 0 hm
 have hother:∀x,x≠aA->w'.heap[x]?=w.heap[x]?:=fun x hx=>by subst hw';unfold World.dL;exact afx (by omega)
 have hsame:w'.heap[aA]?=some (.map es1 ck):=by subst hw';exact ek hlt
 have hrat:=af.fJ hb rfl
 have hnf:¬g.fz aA:=(hr.U2 r _ aA 0 hb hm).1
 have hmono:eA g w g' w':=⟨fun b x e1=>by rw[gm];exact e1,fun c e1=>by rw[gfz];exact e1,fun c h1=>hother c (fun e1=>hnf (e1▸h1)),fun c s h1=>by
  by_cases e1:c=aA
  ·subst e1;simp[World.shape?,hw]at h1
  ·rw[fS (hother c e1)];exact h1,fun f' k1 x h1=>by rw[gother _ _ (hsne _ _ _ h1)];exact h1⟩
 have hat:∀L o1,h'.at L=some o1->(∃k1,k1≠k/\L= .el r h.next k1/\h.at (.el r f k1)=some o1)\/(L= .aA r/\o1=o')\/(L≠ .aA r/\(∀x k1,L≠ .el x h.next k1)/\(∀k1,L≠ .el r f k1)/\h.at L=some o1):=fun L o1 e1=>by
  cases L with
  |aA x=>
   obtain⟨e2,e3⟩:=af.wa e1
   rw[hget]at e2
   by_cases hx:x=r
   ·subst hx;rw[aeZ rfl]at e2;cases e2;exact .inr (.inl ⟨rfl,rfl⟩)
   ·rw[aeX hx]at e2
    exact .inr (.inr ⟨fun h=>(by cases h;exact hx rfl),fun _ _ h=>(by cases h),fun _ h=>(by cases h),af.fJ e2 e3⟩)
  |el x f' k1=>
   obtain⟨y,e2,e3⟩:=af.I5 e1
   rw[hget]at e2
   by_cases hx:x=r
   ·subst hx;rw[aeZ rfl]at e2;cases e2
    have hff:=ax.mN e3
    rw[ofam]at hff;cases hff
    subst ho'
    simp only[ax.wA,afq]at e3
    by_cases hkk:k1=k
    ·subst hkk;rw[D.wK]at e3;cases e3
    ·rw[D.vB hkk]at e3
     refine .inl ⟨k1,hkk,rfl,af.Az hb ?_⟩
     simp only[ax.wA,afq];exact e3
   ·rw[aeX hx]at e2
    have hfl:=hr.AE _ _ _ e2 (ax.mN e3)
    refine .inr (.inr ⟨fun h=>(by cases h),fun x1 k2 h1=>?_,fun k2 h1=>?_,af.Az e2 e3⟩)
    ·cases h1;omega
    ·cases h1;exact hx rfl
 have gat2:∀L,(∀x k1,L≠ .el x h.next k1)->g'.at L=g.at L:=fun L h2=>by
  cases L with
  |aA x=>show g'.m x=g.m x;rw[gm]
  |el x f' k1=>exact gother f' k1 fun hfk=>by subst hfk;exact h2 x k1 rfl
 have hnm:HU g' h':=by
  refine⟨fun b o h1=>?_,fun b x h1=>by rw[hnext];exact agb (hr.lt b x (gm▸h1)),fun f' k1 x h1=>?_,fun b o f' h1 h2=>?_,fun b b' o o1 f' h1 h2 h3 h4=>?_,fun b o f' k1 x h1 h2 h3=>?_,fun b b' f' k1 h1=>?_⟩
  ·rw[hnext];rw[hget]at h1
   by_cases e1:b=r
   ·rw[e1];exact agb (hr.HY _ _ hb)
   ·rw[aeX e1]at h1;exact agb (hr.HY _ _ h1)
  ·rw[hnext]
   by_cases hfk:f'=h.next
   ·omega
   ·rw[gother _ _ hfk]at h1;exact agb (hr.Eh _ _ _ h1)
  ·rw[hnext];rw[hget]at h1
   by_cases e1:b=r
   ·rw[aeZ e1]at h1;cases h1;rw[ofam]at h2;cases h2;omega
   ·rw[aeX e1]at h1;exact agb (hr.AE _ _ _ h1 h2)
  ·rw[hget]at h1 h2
   by_cases e1:b=r
   ·rw[aeZ e1]at h1;cases h1;rw[ofam]at h3;cases h3
    by_cases e2:b'=r
    ·rw[e1,e2]
    ·rw[aeX e2]at h2;have:=hr.AE _ _ _ h2 h4;omega
   ·rw[aeX e1]at h1
    by_cases e2:b'=r
    ·rw[aeZ e2]at h2;cases h2;rw[ofam]at h4;cases h4
     have:=hr.AE _ _ _ h1 h3;omega
    ·rw[aeX e2]at h2;exact hr.fu _ _ _ _ _ h1 h2 h3 h4
  ·rw[hget]at h1
   rw[gm]
   by_cases e1:b=r
   ·rw[aeZ e1]at h1;cases h1
    rw[ofam]at h2;cases h2
    refine⟨?_,⟨_,e1▸hm⟩⟩
    subst ho'
    simp only[ax.wA,afq]
    by_cases hkk:k1=k
    ·subst hkk;rw[ggone]at h3;cases h3
    ·rw[D.vB hkk]
     rw[gnew _ hkk]at h3
     obtain⟨⟨o1,k2⟩,_⟩:=hr.sk _ _ _ _ _ hb rfl h3
     simp only[ax.wA,afq]at k2
     exact⟨o1,k2⟩
   ·rw[aeX e1]at h1
    have:=hr.AE _ _ _ h1 h2
    rw[gother _ _ (by omega)]at h3
    exact hr.sk _ _ _ _ _ h1 h2 h3
  ·rw[hget]at h1
   rw[gm]
   by_cases e1:b=r
   ·rw[aeZ e1]at h1;cases h1;cases oown
   ·rw[aeX e1]at h1
    obtain⟨⟨x,k1',k2⟩,k3⟩:=hr.al _ _ _ _ h1
    exact⟨⟨x,k1',by rw[gother _ _ (hsne _ _ _ k2)];exact k2⟩,k3⟩
 refine⟨hnm.Ln ?_ ?_ ?_ ?_,⟨hmono,by omega,?_,fun x _ hx=>?_,fun x _ h1=> .inl (gfz▸h1),by rw[hnext];exact Nat.le_succ _,by subst hw';exact⟨rfl,rfl,rfl⟩⟩,fun b hb1 e1 hv=>⟨by rw[gm];exact e1,?_⟩⟩
 ·intro L blk1 base1 h1
  rw[hsz]
  cases L with
  |aA x=>exact hr.mR (.aA x) blk1 base1 (by rw[<-h1];show g.m x=g'.m x;rw[gm])
  |el x f' k1=>
   by_cases hfk:f'=h.next
   ·subst hfk
    change g'.s h.next k1=_ at h1
    by_cases hkk:k1=k
    ·subst hkk;rw[ggone]at h1;cases h1
    ·rw[gnew _ hkk]at h1;exact hr.mR (.el x f k1) blk1 base1 h1
   ·exact hr.mR (.el x f' k1) blk1 base1 (by rw[<-h1];exact(gother _ _ hfk).symm)
 ·intro L1 L2 blk1 base1 base2 o1 o2 h1 h2 m1 m2
  have conv:∀L o1 base1,h'.at L=some o1->g'.at L=some (blk1,base1)->∃L',(L'=L/\(∀x k1,L≠ .el x h.next k1)/\(∀k1,L≠ .el r f k1)\/∃k1,L= .el r h.next k1/\L'= .el r f k1)/\∃o2 base2,h.at L'=some o2/\g.at L'=some (blk1,base2):=fun L o1 base1 h1 m1=>by
   rcases hat L o1 h1 with ⟨k1,hk1,rfl,h3⟩| ⟨rfl,_⟩| ⟨n1,n2,n3,h1'⟩
   ·refine⟨.el r f k1,.inr ⟨k1,rfl,rfl⟩,o1,base1,h3,?_⟩
    change g'.s h.next k1=_ at m1;rw[gnew _ hk1]at m1;exact m1
   ·refine⟨.aA r,.inl ⟨rfl,fun _ _ h=>(by cases h),fun _ h=>(by cases h)⟩,_,base1,hrat,?_⟩
    rw[<-m1];show g.m r=g'.m r;rw[gm]
   ·exact⟨L,.inl ⟨rfl,n2,n3⟩,o1,base1,h1',by rw[<-m1];exact(gat2 L n2).symm⟩
  obtain⟨L1',c1,p1,q1,j1,j2⟩:=conv L1 o1 base1 h1 m1
  obtain⟨L2',c2,p2,q2,l1,l2⟩:=conv L2 o2 base2 h2 m2
  have:=hr.mS _ _ _ _ _ _ _ j1 l1 j2 l2
  rcases c1 with ⟨e1,a1,b1⟩| ⟨k1,e1,e2⟩
  ·rcases c2 with ⟨e3,_,_⟩| ⟨k2,e3,e4⟩
   ·rw[<-e1,<-e3,this]
   ·rw[e1,e4]at this;exact absurd this (b1 k2)
  ·rcases c2 with ⟨e3,a2,b2⟩| ⟨k2,e3,e4⟩
   ·rw[e2,e3]at this;exact absurd this.symm (b2 k1)
   ·rw[e2,e4]at this;cases this;rw[e1,e3]
 ·intro L o1 blk1 base1 h1 m1
  rcases hat L o1 h1 with ⟨k1,hk1,rfl,h3⟩| ⟨rfl,rfl⟩| ⟨n1,n2,n3,h1⟩
  ·change g'.s h.next k1=_ at m1
   rw[gnew _ hk1]at m1
   obtain⟨j1,o2,ho2,hr2⟩:=hr.pZ (.el r f k1) _ _ _ h3 m1
   have hne:blk1≠aA:=fun ee=>by
    have:=hr.mS _ _ _ _ _ _ _ h3 hrat (show g.at (.el r f k1)=some (aA,base1)from ee▸m1) hm
    cases this
   exact⟨by rw[gfz];exact j1,o2,(hother _ hne).trans ho2,hr2.mono hmono⟩
  ·change g'.m r=_ at m1
   rw[gm,hm]at m1;cases m1
   refine⟨by rw[gfz];exact hnf,_,hsame,?_⟩
   subst ho'
   simp only[cL]
   exact⟨trivial,_,rfl,hrel g' w' hmono gnew⟩
  ·rw[gat2 L n2]at m1
   obtain⟨k1,o2,ho2,hr2⟩:=hr.pZ _ _ _ _ h1 m1
   have hne:blk1≠aA:=fun ee=>n1 (hr.mS _ _ _ _ _ _ _ h1 hrat (ee▸m1) hm)
   exact⟨by rw[gfz];exact k1,o2,(hother _ hne).trans ho2,hr2.mono hmono⟩
 ·intro x hx;rw[hsz];exact hr.lF x (gfz▸hx)
 ·intro x hx hno
  exact hother x (fun e=>hno ⟨.aA r,_,0,hrat,e▸hm⟩)
 ·obtain⟨L,o1,base1,hl,hm1⟩:=hx
  rcases hat L o1 hl with ⟨k1,hk1,rfl,h3⟩| ⟨rfl,_⟩| ⟨n1,n2,n3,h1⟩
  ·change g'.s h.next k1=_ at hm1;rw[gnew _ hk1]at hm1;exact⟨.el r f k1,o1,base1,h3,hm1⟩
  ·exact⟨.aA r,_,base1,hrat,by rw[<-hm1];show g.m r=g'.m r;rw[gm]⟩
  ·exact⟨L,o1,base1,h1,by rw[<-hm1];exact(gat2 L n2).symm⟩
 ·rw[hget,aeX (fun ee=>by subst ee;rw[hm]at e1;cases e1)]
end
end
section
def Ji:∀(n:Nat),(∀a b,D.beq n a b=true->a=b)/\(∀a b,D.Bj n a b=true->a=b):=by
 intro n
 induction n with
 |zero=>exact⟨fun a b h=>by simp[D.beq]at h,fun a b h=>by simp[D.Bj]at h⟩
 |succ n ih=>
  obtain⟨i1,i2⟩:=ih
  constructor
  ·intro a b h
   cases a<;>cases b<;>simp only[D.beq,afv,ae0]at h<;>first
    | (subst h;rfl)
    | (have:=i2 _ _ h;subst this;rfl)
  ·intro a b h
   cases a<;>cases b<;>simp only[D.Bj,aeV,ae0]at h<;>first
    |rfl
    | (obtain⟨h1,h2⟩:=h;rw[i1 _ _ h1,i2 _ _ h2])
def SU:∀(n:Nat),(∀a b,BV.beq n a b=true->a=b)/\(∀a b,BV.Bj n a b=true->a=b):=by
 intro n
 induction n with
 |zero=>exact⟨fun a b h=>by simp[BV.beq]at h,fun a b h=>by simp[BV.Bj]at h⟩
 |succ n ih=>
  obtain⟨i1,i2⟩:=ih
  constructor
  ·intro a b h
   cases a<;>cases b<;>simp only[BV.beq,aeV,afv,ae0]at h<;>first
    |rfl
    | (subst h;rfl)
    | (obtain⟨rfl,rfl⟩:=h;rfl)
    | (obtain⟨⟨⟨rfl,rfl⟩,rfl⟩,rfl⟩:=h;rfl)
    | (obtain⟨⟨⟨rfl,rfl⟩,h1⟩,rfl⟩:=h;have:=(Ji n).1 _ _ h1;subst this;rfl)
    | (obtain⟨⟨rfl,rfl⟩,rfl⟩:=h;rfl)
    | (obtain⟨rfl,h1⟩:=h;have:=(Ji n).2 _ _ h1;subst this;rfl)
    | (have:=i2 _ _ h;subst this;rfl)
    | (obtain⟨⟨h1,rfl⟩,rfl⟩:=h;have:=i2 _ _ h1;subst this;rfl)
    | (obtain⟨⟨rfl,h1⟩,h2⟩:=h;have:=i2 _ _ h1;have:=i2 _ _ h2;subst_vars;rfl)
    | (obtain⟨rfl,h1⟩:=h;have:=i1 _ _ h1;subst this;rfl)
  ·intro a b h
   cases a<;>cases b<;>simp only[BV.Bj,aeV,ae0]at h<;>first
    |rfl
    | (obtain⟨h1,h2⟩:=h;rw[i1 _ _ h1,i2 _ _ h2])
section
variable {P:Program} {g:Gh} {h:af} {w:World}
def Hv {b:BV}{u v:Value}(hb:(match b with| .int .. | .bj _| .bool _=>true|_=>false)=true)(hu:ai P g w b u)(hv:ai P g w b v)(n:Nat):Instr.sameBits n u v=true:=by
 cases b<;>simp at hb<;>simp only[ai]at hu hv<;>subst hu hv
 ·cases n<;>simp[Instr.sameBits]
 ·cases n<;>simp[Instr.sameBits]
 ·cases n<;>(simp only[Instr.sameBits,KU];simp)
def QX {b:BV}{u v:Value}(hb:wb b=true)(hu:ai P g w b u)(hv:ai P g w b v):Instr.sameBits 10000 u v=true:=by
 by_cases ha:∃cs,b= .agg cs
 ·obtain⟨cs,rfl⟩:=ha
  simp only[wb,afK]at hb
  simp only[ai]at hu hv
  obtain⟨us,rfl,hu⟩:=hu
  obtain⟨vs,rfl,hv⟩:=hv
  rw[show (10000:Nat)=9999+1 from rfl]
  simp only[Instr.sameBits,aeV,afv,afK]
  have h1:=hu.length
  have h2:=hv.length
  refine⟨by simp at h1 h2;omega,fun x hx=>?_⟩
  obtain⟨i,hi⟩:=af3 hx
  rw[List.getElem?_zip_eq_some]at hi
  obtain⟨b,hb1,hr1⟩:=hu.ab8 hi.1
  obtain⟨v',hv1,hr2⟩:=hv.get hb1
  rw[hi.2]at hv1;cases hv1
  exact Hv (hb b (aeU hb1)) hr1 hr2 _
 ·refine Hv ?_ hu hv _
  cases b<;>simp[wb]at hb ⊢
  exact ha ⟨_,rfl⟩
def XN (hr:aR P g h w){t kt kt0 et0:TypeId}{r:Nat}{vk:VK}{l:List (D×D)}{st:List Nat}{ck:Nat}{k v:BV}{d:D}{k' v':Value}{aA:Nat}{h':af}(hu:P.underlying t=some (.map kt0 et0))(hkt:kt0=kt)(hb:h.get r=some (.bo kt vk l st ck))(hm:g.m r=some (aA,0))
 (hck:∀em,(Instr.checkKey em 10000 kt0 k').run P w= .ok () w)(hk:ai P g w k k')(hv:ai P g w v v')(hd:NS P kt k=some d)(e:HN P h r kt vk l st ck d v=some h'):
 ∃g' w',(Instr.mapUpdate t (.map (some aA)) k' v').run P w= .ok () w'/\aR P g' h' w'/\gN g h w g' h' w'/\Ph g h g' h':=by
 subst hkt
 obtain⟨hp,huv,hcan⟩:=Jy hd
 have hkv:=IM (mU hp).1 huv hk
 obtain⟨_,es,hw,hrel⟩:=hr.HM hb hm
 obtain⟨r',h1,h2⟩:=GY hr hrel hp hcan hkv
 unfold HN at e
 cases vk with
 |data et=>
  dsimp only at e
  split at e
  ·rename_i hdt
   split at e
   ·rename_i dv hdv
    have hvv:=IM hdt hdv hv
    split at e
    ·rename_i hh
     cases e
     cases r' with
     |none=>dsimp only at h2;rw[hh]at h2;cases h2
     |some q=>
      obtain⟨i,u⟩:=q
      obtain⟨_,hl,en,he,rfl⟩:=h2
      have hput:=hr.Uj hb hm hw (es1:=es.modify i fun e=>{e with key:=k',val:=v'}) (c1:=ck) (by rw[Array.toList_modify];exact hrel.ym hl hkv hvv)
      refine⟨g,_,?_,hput.1,hput.2,Ph.put hm _⟩
      have hstay:(Instr.keyThatStays (((es[i]?).map (·.key)).getD k') k').run P w= .ok k' w:=by
       have he':es[i]?=some en:=by simpa using he
       rw[he']
       have hko:=hrel.key i _ en hl he
       simp[Instr.keyThatStays,QX (OM hp d) hko hkv]
      simp only[Instr.mapUpdate,Sem.run_bind,aB hu,Result.andThen_ok,jc hw,hck,h1,hstay,qY hw]
    ·rename_i hh
     cases e
     cases r' with
     |some q=>obtain⟨i,u⟩:=q;exact absurd h2.1 hh
     |none=>
      have hput:=hr.Uj hb hm hw (es1:=es.push {key:=k',val:=v',born:=ck}) (c1:=ck+1) (by rw[ahQ];exact hrel.app hcan (by simpa using hh) hkv hvv)
      refine⟨g,_,?_,hput.1,hput.2,Ph.put hm _⟩
      simp only[Instr.mapUpdate,Sem.run_bind,aB hu,Result.andThen_ok,jc hw,hck,h1,qY hw]
   ·cases e
  ·cases e
 |cp f el=>
  dsimp only at e
  split at e
  ·rename_i hdt
   split at e
   ·rename_i c off
    split at e
    ·rename_i cs e' hc
     split at e
     ·rename_i hcond
      simp only[aeV]at hcond
      have he:=ae8 hcond.1
      have ho:=ae8 hcond.2
      subst he;subst ho
      split at e
      ·rename_i dv hdv
       split at e
       ·cases e
       ·rename_i hh
        cases e
        simp only[ai]at hv
        obtain⟨cblk,cbase,hcm,rfl⟩:=hv
        cases r' with
        |some q=>obtain⟨i,u⟩:=q;exact absurd h2.1 hh
        |none=>
         obtain⟨a1,a2,a3⟩:=hr.abp hb hm hw hrel hc hcm hdt hdv (by simpa using hh) hcan hkv
         refine⟨_,_,?_,a1,a2,a3⟩
         simp only[Instr.mapUpdate,Sem.run_bind,aB hu,Result.andThen_ok,jc hw,hck,h1,qY hw,af6]
      ·cases e
     ·cases e
    ·cases e
   ·cases e
  ·cases e
 |Ho=>
  dsimp only at e
  split at e
  ·rename_i f
   split at e
   ·cases e
   ·rename_i hh
    cases e
    simp only[ai,ak]at hv
    obtain⟨a',c',rfl,ha,hc⟩:=hv
    have ha:a'=#[]:=by apply agH;simpa using ha
    have hc:c'=#[]:=by apply agH;simpa using hc
    subst ha hc
    cases r' with
    |some q=>obtain⟨i,u⟩:=q;exact absurd h2.1 hh
    |none=>
     have hput:=hr.Uj hb hm hw (es1:=es.push {key:=k',val:= .func (.func f) #[] #[],born:=ck}) (c1:=ck+1) (by rw[ahQ];exact hrel.app (v:= .z (Int.ofNat f)) hcan (by simpa using hh) hkv (by simp[xV,D.int]))
     refine⟨g,_,?_,hput.1,hput.2,Ph.put hm _⟩
     simp only[Instr.mapUpdate,Sem.run_bind,aB hu,Result.andThen_ok,jc hw,hck,h1,qY hw]
  ·cases e
def DG (hr:aR P g h w){t:TypeId}{m k v:BV}{m' k' v':Value}{h':af}(hm:ai P g w m m')(hk:ai P g w k k')(hv:ai P g w v v')(e:jo P h t m k v=some h'):
 ∃g' w',(Instr.mapUpdate t m' k' v').run P w= .ok () w'/\aR P g' h' w'/\gN g h w g' h' w'/\Ph g h g' h':=by
 unfold jo at e
 split at e
 ·rename_i kt et r hu
  simp only[ai]at hm;obtain⟨aA,hmm,rfl⟩:=hm
  split at e
  ·cases e
  ·rename_i hko
   have hko:y7 P 4 kt k=true:=by simpa using hko
   have hck:=fun em=>MT (P:=P) (g:=g) (w:=w) 4 kt k k' em hk hko 10000 (by omega)
   split at e
   ·rename_i kt' vk l st ck hb
    split at e
    ·rename_i d hd
     split at e
     ·rename_i hkt
      have hkt:=ae8 hkt
      subst hkt
      exact XN hr hu rfl hb hmm hck hk hv hd e
     ·cases e
    ·cases e
   ·cases e
 ·cases e
def Ra (hr:aR P g h w){ts:Array TypeId}{t:TypeId}{args:List BV}{args':Array Value}{v:BV}{h':af}(ha:ak P g w args args'.toList)(e:L0 P h ts args=some (v,h')):
 ∃v' g' w',(Builtin.delete_ ts t args').run P w= .ok v' w'/\aR P g' h' w'/\gN g h w g' h' w'/\Ph g h g' h'/\ai P g' w' v v':=by
 unfold L0 at e
 split at e
 ·rename_i mt m k ht
  obtain⟨m',k',hl,hm,hk⟩:=ha.two
  have hargs:args'=#[m',k']:=by apply agH;simpa using hl
  subst hargs
  have hundef:∀g' w',ai P g' w' (BV.tuple []) (Value.tuple #[]):=fun g' w'=>by simp only[ai];exact⟨_,rfl,ak.nil⟩
  split at e
  ·rename_i kt et hu
   split at e
   ·cases e
   ·rename_i hko
    have hko:y7 P 4 kt k=true:=by simpa using hko
    have hck:=fun em=>MT (P:=P) (g:=g) (w:=w) 4 kt k k' em hk hko 10000 (by omega)
    split at e
    ·rename_i r
     simp only[ai]at hm;obtain⟨aA,hmm,rfl⟩:=hm
     split at e
     ·rename_i kt' vk l st ck hb
      split at e
      ·rename_i d hd
       split at e
       ·rename_i hkt
        have hkt:=ae8 hkt
        subst hkt
        obtain⟨hp,huv,hcan⟩:=Jy hd
        have hkv:=IM (mU hp).1 huv hk
        obtain⟨_,es,hw,hrel⟩:=hr.HM hb hmm
        obtain⟨r',h1,h2⟩:=GY hr hrel hp hcan hkv
        have hmono0:∀{g':Gh} {w':World},eA g w g' w'->∀d v,ai P g w (ch P kt d) v->ai P g' w' (ch P kt d) v:=fun hmo d v hv=>ai.mono hmo _ _ hv
        cases vk with
        |data et'=>
         dsimp only at e
         cases e
         cases r' with
         |some q=>
          obtain⟨i,u⟩:=q
          obtain⟨_,hl,en,he,rfl⟩:=h2
          have hm2:sT P g w kt (.data et') (D.yg l d) (D.B6 l st d) ck (es.eraseIdxIfInBounds i).toList:=by
           rw[ahs]
           exact hrel.del hl (fun _ _ h=>h) (fun _ _ _ _ h=>h)
          have hput:=hr.Uj hb hmm hw hm2
          refine⟨_,g,_,?_,hput.1,hput.2,Ph.put hmm _,hundef _ _⟩
          simp[Builtin.delete_,ht,aB hu,hck,jc hw,h1,qY hw]
         |none=>
          have h3:D.fv l d=false:=h2
          rw[D.GL h3,D.CN hrel.sl h3]
          have hput:=hr.Uj hb hmm hw hrel
          refine⟨_,g,_,?_,hput.1,hput.2,Ph.put hmm _,hundef _ _⟩
          simp[Builtin.delete_,ht,aB hu,hck,jc hw,h1,qY hw]
        |Ho=>cases e
        |cp f el=>
         dsimp only at e
         cases e
         cases r' with
         |some q=>
          obtain⟨i,u⟩:=q
          obtain⟨_,hl,en,he,rfl⟩:=h2
          obtain⟨a1,a2,a3⟩:=hr.aa3 (k:=d) (es1:=es.eraseIdxIfInBounds i) hb hmm hw (fun g' w' hmo hs=>by
           rw[ahs]
           refine hrel.del hl (hmono0 hmo) (fun k1 d1 v1 hk1 hv1=>?_)
           unfold xV at hv1 ⊢
           obtain⟨x,x1,x2⟩:=hv1
           exact⟨x,by rw[hs _ hk1];exact x1,x2⟩)
          refine⟨_,_,_,?_,a1,a2,a3,hundef _ _⟩
          simp[Builtin.delete_,ht,aB hu,hck,jc hw,h1,qY hw]
         |none=>
          have h3:D.fv l d=false:=h2
          obtain⟨a1,a2,a3⟩:=hr.aa3 (k:=d) (es1:=es) hb hmm hw (fun g' w' hmo hs=>by
           rw[D.GL h3,D.CN hrel.sl h3]
           refine⟨hrel.len,hrel.sl,fun i p e h1 h2=>hmono0 hmo _ _ (hrel.key i p e h1 h2),hrel.born,fun i p e h1 h2=>?_,hrel.CV,hrel.nd,hrel.snd,hrel.Eh⟩
           have hv1:=hrel.val i p e h1 h2
           unfold xV at hv1 ⊢
           obtain⟨x,x1,x2⟩:=hv1
           have hne:p.1≠d:=fun hpd=>by
            have:=D.Ma.2 (aeU (D.jO h1))
            rw[hpd,h3]at this;cases this
           exact⟨x,by rw[hs _ hne];exact x1,x2⟩)
          refine⟨_,_,_,?_,a1,a2,a3,hundef _ _⟩
          simp[Builtin.delete_,ht,aB hu,hck,jc hw,h1,qY hw]
       ·cases e
      ·cases e
     ·cases e
    ·cases e
  ·cases e
 ·cases e
end
end
section
section
variable {P:Program} {g:Gh} {h:af} {w:World}
def iy (P:Program)(g:Gh)(h:af)(w:World)(v:BV)(h':af)(r:Result Value):Prop:=
 ∃v' g' w',r= .ok v' w'/\aR P g' h' w'/\gN g h w g' h' w'/\Ph g h g' h'/\ai P g' w' v v'
def iy.aej (hr:aR P g h w){v:BV}{r:Result Value}(hv:∃v',r= .ok v' w/\ai P g w v v'):iy P g h w v h r:=by
 obtain⟨v',h1,h2⟩:=hv
 exact⟨v',g,w,h1,hr,gN.refl _ _ _,Ph.refl _ _,h2⟩
def iy.aeH {v:BV}{h':af}{r:Result Value}(hv:∃v' w',r= .ok v' w'/\aR P g h' w'/\gN g h w g h' w'/\Ph g h g h'/\ai P g w' v v'):iy P g h w v h' r:=by
 obtain⟨v',w',h1,h2,h3,h4,h5⟩:=hv
 exact⟨v',g,w',h1,h2,h3,h4,h5⟩
def iy.DU (hr:aR P g h w){o:ax}{v:BV}{r:Result Value}(hk:aR P g (h.new o) w->g.m h.next=none->Kh P g (h.new o) w h.next v r)(hno:mv h.next o:=by exact mv.bare rfl rfl):iy P g h w v (h.new o) r:=by
 obtain⟨h1,h2⟩:=hr.Kp o hno
 obtain⟨v',w',e,k1,k2,k3⟩:=hk h1 hr.v7
 refine⟨v',_,w',e,k1,h2.trans k2,?_,k3⟩
 intro b hb hm _
 refine⟨by rw[Gh.gk g (by omega)];exact hm,?_⟩
 rw[af.dR,aeX (by omega)]
def Ur (hr:aR P g h w){ts:Array TypeId}{t:TypeId}{args:List BV}{args':Array Value}{v:BV}{h':af}(ha:ak P g w args args'.toList)(e:P7 P h ts args=some (v,h')):
 iy P g h w v h' ((Builtin.clear_ ts t args').run P w):=by
 have hundef:∀g w',ai P g w' (BV.tuple []) (Value.tuple #[]):=fun g w'=>by simp only[ai];exact⟨_,rfl,ak.nil⟩
 unfold P7 at e
 split at e
 ·rename_i t0 x ht
  obtain⟨x',hl,hx⟩:=ha.one
  have hargs:args'=#[x']:=by apply agH;simpa using hl
  subst hargs
  split at e
  ·rename_i k el r hu
   simp only[ai]at hx;obtain⟨aA,hmm,rfl⟩:=hx
   split at e
   ·rename_i kt et l st clock hb
    cases e
    obtain⟨_,es',hw,he⟩:=hr.HM hb hmm
    have hput:=hr.Uj hb hmm hw (c1:=clock) (l1:=[]) (st1:=[]) (es1:=#[]) ⟨rfl,rfl,fun i p e h=>(by simp at h),fun i p e h=>(by simp at h),fun i p e h=>(by simp at h),fun p h=>(by simp at h),ahq,ahq,fun s h=>(by simp at h)⟩
    refine iy.aeH ⟨_,_,?_,hput.1,hput.2,Ph.put hmm _,hundef g _⟩
    simp only[Builtin.clear_]
    simp[ht,aB hu,jc hw,qY hw]
   ·cases e
  ·cases e
 ·cases e
def Uy (hr:aR P g h w){t:TypeId}{x v:BV}{x':Value}{h':af}(hx:ai P g w x x')(e:QZ P h t x=some (v,h')):iy P g h w v h' ((Instr.range t x').run P w):=by
 have mk:∀(o:ax) (co:Obj),mv h.next o->(∀g' w',eA g w g' w'->cL P g' w' o 0 co)->(Instr.range t x').run P w= .ok (.pointer (some ⟨w.heap.size,0,none⟩)) {w with heap:=w.heap.push co}->iy P g h w (.aG h.next 0) (h.new o) ((Instr.range t x').run P w):=by
  intro o co hno ho hrun
  refine iy.DU hr (fun hr' hm=>?_) hno
  refine⟨_,_,hrun,?_⟩
  have h1:=hr'.real (w':={w with heap:=w.heap.push co}) (by rw[af.dR,aeZ rfl]) hm rfl ⟨rfl,rfl,rfl⟩ (fun hmono=>ho _ _ hmono) hno.gH
  refine⟨h1.1,h1.2,?_⟩
  simp only[ai]
  exact⟨_,_,Gh.fU _ _ _ _,rfl⟩
 unfold QZ at e
 split at e
 ·rename_i k el m hu
  simp only[ai]at hx;obtain⟨aA,hmm,rfl⟩:=hx
  split at e
  ·rename_i kt vk l st clock hb
   cases e
   obtain⟨_,es',hw,he⟩:=hr.HM hb hmm
   exact mk _ _ (mv.bare rfl rfl) (fun g' w' hmono=>by simp only[cL];exact⟨trivial,aA,hmono.mm _ _ hmm,fun k hk=>(by simp at hk),rfl⟩) (by simp[Instr.range,aB hu,jc hw])
  ·cases e
 ·cases e
def aR.adK (hr:aR P g h w){r aA au:Nat}{o:ax}(hb:h.get r=some o)(hm:g.m r=some (aA,au))(hoo:o.gH=some o:=by rfl):∃o',w.heap[aA]?=some o'/\cL P g w o au o':=by
 obtain⟨_,o',ho,hr'⟩:=hr.U2 _ _ _ _ hb hm hoo
 exact⟨o',ho,hr'⟩
def Us (hr:aR P g h w){it v:BV}{it':Value}(hi:ai P g w it it')(e:yc P h it=some v):∃v',(Instr.entry it').run P w= .ok v' w/\ai P g w v v':=by
 unfold yc at e
 split at e
 ·rename_i r
  simp only[ai]at hi;obtain⟨aA,au,hm,rfl⟩:=hi
  split at e
  ·rename_i m ks st clock seen hb
   obtain⟨o',hw,ho⟩:=hr.adK hb hm
   simp only[cL]at ho
   obtain⟨rfl,blk2,hm2,hseen,rfl⟩:=ho
   split at e
   ·rename_i k kt vk l st' clock' hlast hb2
    split at e
    ·rename_i hsame
     have hsame:D.cX l=ks/\st'=st/\clock'=clock:=by unfold tR at hsame;simpa using hsame
     obtain⟨hks,rfl,rfl⟩:=hsame
     obtain⟨_,es,hw2,hrel⟩:=hr.HM hb2 hm2
     cases hs:xN P m kt vk l k with
     |none=>rw[hs]at e;cases e
     |some p=>
      rw[hs]at e
      cases e
      have hkm:k∈ks:=hseen k (List.mem_of_head? hlast)
      obtain⟨i,hi⟩:=af3 hkm
      rw[<-hks]at hi
      obtain⟨q,hq,rfl⟩:=D.Ld hi
      have hil:=(ae1.1 hq).1
      obtain⟨en,hen⟩:∃en,es.toList[i]?=some en:=⟨_,aeY (show i<es.toList.length by rw[hrel.len];exact hil)⟩
      have hst:=aeY (show i<st'.length by rw[hrel.sl];exact hil)
      have hborn:=hrel.born i _ en hst hen
      have hstamp:D.iA ks st' q.1=en.born:=by rw[hborn,<-hks];exact D.wR hrel.nd (D.jO hq) hst
      have hget:(getObj aA).run P w= .ok (.mapIter (some blk2) clock' (seen.reverse.map (D.iA ks st')).toArray clock') w:=by simp[getObj,Sem.run,hw]
      have hback:(seen.reverse.map (D.iA ks st')).toArray.back?=some en.born:=by
       obtain⟨s0,rfl⟩:∃s0,seen=q.1::s0:=by
        cases seen with
        |nil=>cases hlast
        |cons y ys=>simp at hlast;exact⟨ys,by rw[hlast]⟩
       simp[hstamp]
      have hfind:es.find? (fun e=>e.born==en.born)=some en:=by
       rw[<-Array.find?_toList]
       cases hff:es.toList.find? (fun e=>e.born==en.born)with
       |none=>
        have:=List.find?_eq_none.1 hff en (aeU hen)
        simp at this
       |some x=>
        have hx1:=List.mem_of_find?_eq_some hff
        have hx2:=List.find?_some hff
        obtain⟨j,hj⟩:=af3 hx1
        have hjl:j<st'.length:=by have:=(ae1.1 hj).1;rw[hrel.sl,<-hrel.len];exact this
        have h1:=hrel.born j _ x (aeY hjl) hj
        have h2:x.born=en.born:=by simpa using hx2
        have h3:st'[j]?=st'[i]?:=by rw[aeY hjl,hst,<-h1,<-hborn,h2]
        have:j=i:=(agZ hjl hrel.snd).1 h3
        subst this
        rw[hj]at hen;rw[<-hen]
      have hv:D.val l q.1=q.2:=by unfold D.val;rw[D.IF hrel.nd (show l[i]?=some (q.1,q.2)from hq)];rfl
      refine⟨.tuple #[en.key,en.val],?_,?_⟩
      ·simp only[Instr.entry,af6,Sem.run_bind,hget,Result.andThen_ok,hback,jc hw2]
       rw[aeX (by simp)]
       simp[hfind]
      ·simp only[ai]
       unfold xN at hs
       split at hs
       ·have hkr:=hrel.key i q en hq hen
        have hvr:=hrel.val i q en hq hen
        unfold xV at hvr
        cases vk with
        |data et=>
         dsimp only at hs hvr
         split at hs
         ·cases hs
          exact⟨_,rfl,ak.cons hkr (ak.cons (by rw[hv];exact hvr) ak.nil)⟩
         ·cases hs
        |cp f et=>
         dsimp only at hs hvr
         cases hs
         obtain⟨x,x1,x2⟩:=hvr
         refine⟨_,rfl,ak.cons hkr (ak.cons ?_ ak.nil)⟩
         simp only[ai]
         exact⟨x.1,x.2,x1,x2,_,hm2⟩
        |Ho=>cases hs
       ·cases hs
    ·cases e
   ·cases e
  ·cases e
 ·cases e
def aax (hr:aR P g h w){ts:Array TypeId}{t:TypeId}{args:List BV}{args':Array Value}{v:BV}(ha:ak P g w args args'.toList)(e:QB P h ts args=some v):
 ∃v',(Builtin.len_ ts t args').run P w= .ok v' w/\ai P g w v v':=by
 unfold QB at e
 split at e
 ·rename_i t0 x ht
  obtain⟨x',hl,hx⟩:=ha.one
  have hargs:args'=#[x']:=by apply agH;simpa using hl
  subst hargs
  have bE:∀(d:TypeDesc) (n:Nat),P.underlying t0=some d->(∀K,(Builtin.len_ ts t #[x']).run P w=K->K= .ok (goInt n) w)->some (Yx n)=some v->∃v',(Builtin.len_ ts t #[x']).run P w= .ok v' w/\ai P g w v v':=fun d n hu hK hv=>by
   cases hv
   exact⟨goInt n,hK _ rfl,by simp[ai,Yx,goInt]⟩
  split at e
  ·rename_i s hu
   simp only[ai]at hx;subst hx
   have e1:(ByteArray.mk s.toArray).size=s.length:=by simp[ByteArray.size]
   have e2:(Builtin.len_ ts t #[.string ⟨s.toArray⟩]).run P w= .ok (goInt s.length) w:=by
    simp only[Builtin.len_]
    simp[ht,aB hu,e1]
   exact bE _ _ hu (fun K hK=>by rw[<-hK];exact e2) e
  ·rename_i el hu
   simp only[ai]at hx;subst hx
   exact bE _ _ hu (fun K hK=>by rw[<-hK];simp[Builtin.len_,ht,aB hu]) e
  ·rename_i el hu
   simp only[ai]at hx;obtain⟨a,c,rfl⟩:=hx
   exact bE _ _ hu (fun K hK=>by rw[<-hK];simp[Builtin.len_,ht,aB hu]) e
  ·rename_i el e' l hu
   simp only[ai]at hx
   rcases hx with ⟨rfl,rfl| ⟨a,c,rfl⟩⟩| ⟨aA,off,c,rfl,_⟩<;>exact bE _ _ hu (fun K hK=>by rw[<-hK];simp[Builtin.len_,ht,aB hu]) e
  ·rename_i el e' l hu
   simp only[ai]at hx
   rcases hx with ⟨rfl,rfl| ⟨a,rfl⟩⟩| ⟨aA,off,rfl,_⟩<;>exact bE _ _ hu (fun K hK=>by rw[<-hK];simp[Builtin.len_,ht,aB hu]) e
  ·rename_i el b n vt hu
   simp only[ai]at hx
   rcases hx with ⟨⟨_,rfl⟩,rfl| ⟨a,rfl⟩⟩| ⟨aA,au,c,_,rfl,_⟩<;>exact bE _ _ hu (fun K hK=>by rw[<-hK];simp[Builtin.len_,ht,aB hu]) e
  ·rename_i el b n hu
   simp only[ai]at hx;obtain⟨aA,au,_,rfl⟩:=hx
   exact bE _ _ hu (fun K hK=>by rw[<-hK];simp[Builtin.len_,ht,aB hu]) e
  ·rename_i k el r hu
   simp only[ai]at hx;obtain⟨aA,hm,rfl⟩:=hx
   split at e
   ·rename_i kt vk l st clock hb
    obtain⟨_,es',hw,he⟩:=hr.HM hb hm
    have hl:=he.len
    refine bE _ l.length hu (fun K hK=>?_) e
    rw[<-hK]
    simp at hl
    simp[Builtin.len_,ht,aB hu,jc hw,hl]
   ·cases e
  ·cases e
 ·cases e
def O6 {f:BV->BV->Option BV}{f':Value->Value->Sem Value}(hf:∀x y z x' y',ai P g w x x'->ai P g w y y'->f x y=some z->∃z',(f' x' y').run P w= .ok z' w/\ai P g w z z'):
 ∀(l:List BV) (l':List Value) (x v:BV) (x':Value),ak P g w l l'->ai P g w x x'->l.foldlM f x=some v->∃v',(l'.foldlM f' x').run P w= .ok v' w/\ai P g w v v':=by
 intro l
 induction l with
 |nil=>intro l' x v x' hl hx e;simp only[ak]at hl;subst hl;simp at e;subst e;exact⟨x',by simp,hx⟩
 |cons y l ih=>
  intro l' x v x' hl hx e
  simp only[ak]at hl;obtain⟨y',lr,rfl,hy,hl⟩:=hl
  simp only[List.foldlM_cons]at e ⊢
  cases hz:f x y with
  |none=>simp[hz]at e
  |some z=>
   simp[hz]at e
   obtain⟨z',h1,h2⟩:=hf _ _ _ _ _ hx hy hz
   obtain⟨v',h3,h4⟩:=ih lr z v z' hl h2 e
   exact⟨v',by simp[h1,h3],h4⟩
def XM {x y z:BV}{x' y':Value}(hx:ai P g w x x')(hy:ai P g w y y')(e:ZK x y=some z):∃z',(Builtin.min2 x' y').run P w= .ok z' w/\ai P g w z z':=by
 unfold ZK at e
 split at e
 ·simp only[ai]at hx hy;subst hx hy;cases e;exact⟨_,rfl,by simp[ai]⟩
 ·cases e
def XL {x y z:BV}{x' y':Value}(hx:ai P g w x x')(hy:ai P g w y y')(e:ZG x y=some z):∃z',(Builtin.max2 x' y').run P w= .ok z' w/\ai P g w z z':=by
 unfold ZG at e
 split at e
 ·simp only[ai]at hx hy;subst hx hy;cases e;exact⟨_,rfl,by simp[ai]⟩
 ·cases e
end
end
section
section
variable {P:Program} {g:Gh} {h:af} {w:World}
def ep.Mo {w':World}{aA off:Nat}{vs:List Value}(hc:ep w aA off vs)(hw:w'.heap=w.heap):ep w' aA off vs:=fun i x hi=>by
 rw[x8 (w:=w) (by rw[hw])];exact hc i x hi
def ZQ (need old:Nat)(hlt:old<need):Builtin.nextslicecap need old<=2*need+1024:=by
 unfold Builtin.nextslicecap
 split
 ·omega
 ·split
  ·omega
  ·have grow:∀(r c:Nat),c<=2*need+1024->Builtin.growBy need r c<=2*need+1024:=by
    intro r
    induction r with
    |zero=>intro c hc;exact hc
    |succ r ih=>
     intro c hc
     simp only[Builtin.growBy]
     split
     ·exact hc
     ·exact ih _ (by omega)
   exact grow 4 old (by omega)
def J0 {ts:Array TypeId}{t st el:TypeId}{i:TypeInfo}{a:Option Addr}{len c n:Nat}{x':Value}{old new:Array Value}(ht:ts[0]?=some st)(hu:P.underlying st=some (.slice el))(hi:P.info? el=some i)
 {z:Value}(hz:(zeroValue el).run P w= .ok z w)(hxt:∃xt d,ts[1]?=some xt/\P.underlying xt=some d/\∀k,d≠ .int k)
 (hlen:(Builtin.lenOf x').run P w= .ok n w)(hnew:∀w':World,w'.heap=w.heap->(Builtin.firstCells i.size n x').run P w'= .ok new w')(hold:∀w':World,w'.heap=w.heap->(Builtin.firstCells i.size len (.slice a len c)).run P w'= .ok old w')
 (hgt:c<len+n)(hroom:(2*(len+n)+1024)*i.bytes<=2^47)(hb:i.bytes≠0):
 ∃cap,∃rest:Array Value,len+n<=cap/\rest.size=(cap-(len+n))*z.cells.size/\(Builtin.append_ ts t #[.slice a len c,x']).run P w= .ok (.slice (some ⟨w.heap.size,0,none⟩) (len+n) cap)
  {w with heap:=w.heap.push (.cells (old++new++rest) el),drawn:=w.drawn+1}:=by
 obtain⟨xt,d,hx1,hx2,hx3⟩:=hxt
 have hzd:∀dd,(zeroValue el).run P {w with drawn:=dd}= .ok z {w with drawn:=dd}:=fun dd=>by
  simp only[zeroValue,Sem.run_bind,D5 hi,Result.andThen_ok]at hz ⊢
  cases hzi:i.zero with
  |none=>simp[hzi]at hz
  |some z0=>simp[hzi]at hz ⊢;exact hz
 let q:Question:= .appendCap (len+n) c el
 let cap:=q.cut (w.tape w.drawn q)
 have hcap:len+n<=cap:=by
  show len+n<=Question.cut (.appendCap (len+n) c el) _
  simp only[Question.cut];omega
 refine⟨cap,Builtin.zeroCells z.cells (cap-(len+n)),hcap,by simp[Builtin.zeroCells],?_⟩
 have hnext:=ZQ (len+n) c hgt
 have hmul:Builtin.nextslicecap (len+n) c*i.bytes<=2^48:=by
  have:=afR i.bytes hnext
  omega
 have hsz:ia P el=some i.size:=CR hi
 have hneed:((len+n:Nat):Int)<=IntKind.i64.max:=by
  have h1:len+n<=(2*(len+n)+1024)*i.bytes:=by
   have:1<=i.bytes:=by omega
   have:=Nat.mul_le_mul_left (2*(len+n)+1024) this
   omega
  simp only[IntKind.max,IntKind.signed,IntKind.bits,afq];omega
 have e0:(#[Value.slice a len c,x']:Array Value)[0]?=some (.slice a len c):=rfl
 have e1:(#[Value.slice a len c,x']:Array Value)[1]?=some x':=rfl
 have hfin:∀v w',((do
  let newCap<-choose (Question.appendCap (len+n) c el)
  let ti<-typeInfo el
  askRoom (newCap*ti.bytes)
  let old<-Builtin.firstCells i.size len (Value.slice a len c)
  let new<-Builtin.firstCells i.size n x'
  let zz<-zeroValue el
  let row<-newRow el (old++new++Builtin.zeroCells zz.cells (newCap-(len+n)))
  pure (Value.slice (some row) (len+n) newCap):Sem Value).run P w= .ok v w')->
  (Builtin.append_ ts t #[.slice a len c,x']).run P w= .ok v w':=by
  intro v w' hv
  unfold Builtin.append_
  simp only[ht,hx1,e0,e1]
  simp only[Sem.run_bind,aB hu,aB hx2,Result.andThen_ok,jQ hsz,Sem.run_pure,D5 hi]at hv ⊢
  have c1:¬len+n<=c:=by omega
  have c2:¬(((len+n:Nat):Int)>IntKind.i64.max/\(False\/i.bytes=0)):=by rintro⟨h1,_⟩;omega
  have c3:¬Builtin.nextslicecap (len+n) c*i.bytes>2^48:=by omega
  cases d<;>first
   | (exact absurd rfl (hx3 _))
   | (simp only[ae0,afS,aij,afq,Sem.run_bind,hlen,Result.andThen_ok,c1,D5 hi,c2,c3,Sem.run_pure]
      exact hv)
 refine hfin _ _ ?_
 simp only[Sem.run_bind,run_choose,Question.forced,ae0,afS,Result.andThen_ok,D5 hi,run_askRoom,hold {w with drawn:=w.drawn+1} rfl,hnew {w with drawn:=w.drawn+1} rfl,hzd,newRow,run_newObj,Sem.run_pure]
 rfl
def yk {ts:Array TypeId}{t st el:TypeId}{size:Nat}{a:Option Addr}{len c n:Nat}{x':Value}{new:Array Value}{w':World}(ht:ts[0]?=some st)(hu:P.underlying st=some (.slice el))(hs:ia P el=some size)
 (hxt:∃xt d,ts[1]?=some xt/\P.underlying xt=some d/\∀k,d≠ .int k)
 (hlen:(Builtin.lenOf x').run P w= .ok n w)(hnew:(Builtin.firstCells size n x').run P w= .ok new w)
 (hle:len+n<=c)(hst:∀ad,a=some ad->(storeCells (ad.add (len*size)) new.toList).run P w= .ok () w')(hno:a=none->w'=w):
 (Builtin.append_ ts t #[.slice a len c,x']).run P w= .ok (.slice a (len+n) c) w':=by
 obtain⟨xt,d,hx1,hx2,hx3⟩:=hxt
 have e0:(#[Value.slice a len c,x']:Array Value)[0]?=some (.slice a len c):=rfl
 have e1:(#[Value.slice a len c,x']:Array Value)[1]?=some x':=rfl
 unfold Builtin.append_
 simp only[ht,hx1,e0,e1]
 simp only[Sem.run_bind,aB hu,aB hx2,Result.andThen_ok,jQ hs,Sem.run_pure]
 cases d<;>first
  | (exact absurd rfl (hx3 _))
  | (simp only[ae0,afS,aij,afq,Sem.run_bind,hlen,Result.andThen_ok,hle,hnew]
     cases a with
     |none=>rw[hno rfl];rfl
     |some ad=>simp only[Sem.run_bind,hst ad rfl,Result.andThen_ok,Sem.run_pure])
def SF (hr:aR P g h w){el:TypeId}{x:BV}{x':Value}{xs:List D}(hd:cy P el=true)(hx:ai P g w x x')(e:Il h el x=some xs):
 (∀w',(Builtin.lenOf x').run P w'= .ok xs.length w')/\∃ys:Array Value,(∀w':World,w'.heap=w.heap->(Builtin.firstCells (P.cellsOf el) xs.length x').run P w'= .ok ys w')/\cD P g.fz w el xs ys.toList:=by
 have fromRow:∀(l:List D) (aA off c:Nat) (vs:List Value),x'= .slice (some ⟨aA,off,none⟩) l.length c->cD P g.fz w el l vs->ep w aA off vs->
  (∀w',(Builtin.lenOf x').run P w'= .ok l.length w')/\∃ys:Array Value,(∀w':World,w'.heap=w.heap->(Builtin.firstCells (P.cellsOf el) l.length x').run P w'= .ok ys w')/\cD P g.fz w el l ys.toList:=by
  intro l aA off c vs hx' hv hat
  subst hx'
  refine⟨fun _=>rfl,vs.toArray,fun w' hw'=>?_,by simpa using hv⟩
  simp only[Builtin.firstCells]
  exact nK _ hv.1 (hat.Mo hw')
 have fromNil:x'= .slice none 0 0->(∀w',(Builtin.lenOf x').run P w'= .ok 0 w')/\∃ys:Array Value,(∀w':World,w'.heap=w.heap->(Builtin.firstCells (P.cellsOf el) 0 x').run P w'= .ok ys w')/\cD P g.fz w el [] ys.toList:=by
  rintro rfl
  exact⟨fun _=>rfl,#[],fun _ _=>rfl,cD.nil⟩
 have fromEmpty:∀(a:Addr) (c:Nat),x'= .slice (some a) 0 c->(∀w',(Builtin.lenOf x').run P w'= .ok 0 w')/\∃ys:Array Value,(∀w':World,w'.heap=w.heap->(Builtin.firstCells (P.cellsOf el) 0 x').run P w'= .ok ys w')/\cD P g.fz w el [] ys.toList:=by
  rintro a c rfl
  exact⟨fun _=>rfl,#[],fun _ _=>by simp only[Builtin.firstCells,ahH];rfl,cD.nil⟩
 have fromLst:∀(l:List D),ai P g w (.bC el l) x'->(∀w',(Builtin.lenOf x').run P w'= .ok l.length w')/\∃ys:Array Value,(∀w':World,w'.heap=w.heap->(Builtin.firstCells (P.cellsOf el) l.length x').run P w'= .ok ys w')/\cD P g.fz w el l ys.toList:=by
  intro l hl
  simp only[ai]at hl
  rcases hl with ⟨rfl,h1| ⟨a,c,h1⟩⟩| ⟨aA,off,c,h1,_,_,vs,hv,hat⟩
  ·exact fromNil h1
  ·exact fromEmpty a c h1
  ·exact fromRow l aA off c vs h1 hv hat
 unfold Il at e
 split at e
 ·simp only[ai]at hx;cases e;exact fromNil hx
 ·simp only[ai]at hx;obtain⟨a,c,hx⟩:=hx;cases e;exact fromEmpty a c hx
 ·rename_i e' l
  split at e
  ·rename_i he;cases e;have he:=ae8 he;subst he;exact fromLst _ hx.LV
  ·cases e
 ·rename_i e' l
  split at e
  ·rename_i he;cases e;have he:=ae8 he;subst he;exact fromLst _ hx
  ·cases e
 ·rename_i b n vt
  split at e
  ·rename_i e' l vt' hb
   split at e
   ·rename_i he
    have he:=ae8 he
    subst he
    split at e
    ·rename_i hn
     cases e
     simp only[ai]at hx
     have hlen:(l.take n).length=n:=by rw[afC];omega
     rcases hx with ⟨⟨_,rfl⟩,h1| ⟨a,h1⟩⟩| ⟨aA,au,c,hm,h1,_⟩
     ·simpa using fromNil h1
     ·simpa using fromEmpty a 0 h1
     ·obtain⟨cc,vs,_,hw,hv,_,hat,_⟩:=hr.an hb hm
      exact fromRow (l.take n) aA au c _ (by rw[hlen];exact h1) (hv.take n) hat.take
    ·cases e
   ·cases e
  ·cases e
 ·cases e
def XO (hr:aR P g h w){el:TypeId}{x:BV}{x':Value}{xs:List D}(hd:cy P el=true)(hx:ai P g w x x')(e:UF P h el x=some xs):
 (∀w',(Builtin.lenOf x').run P w'= .ok xs.length w')/\∃ys:Array Value,(∀w':World,w'.heap=w.heap->(Builtin.firstCells (P.cellsOf el) xs.length x').run P w'= .ok ys w')/\cD P g.fz w el xs ys.toList:=by
 unfold UF at e
 split at e
 ·rename_i s
  split at e
  ·rename_i hb
   cases e
   simp only[ai]at hx;subst hx
   simp only[aeV]at hb
   have hu:=DK hb.1
   refine⟨fun _=>by simp[Builtin.lenOf,cH,ByteArray.size],(s.map fun x=>Value.int .u8 x.toNat).toArray,fun w' _=>?_,(wP hd _ _).2 (by simpa using Jh hu s)⟩
   have e1:((ByteArray.mk s.toArray).extract 0 (cH s).length)=ByteArray.mk s.toArray:=by
    apply ahc;simp[cH]
   simp only[Builtin.firstCells,e1,Sem.run_pure]
   simp
  ·cases e
 ·exact SF hr hd hx e
def DL {F:Value->ByteArray->Sem (ForInStep ByteArray)}(hF:∀n s,F (.int .u8 n) s=pure (ForInStep.yield (ByteArray.push s (UInt8.ofNat n.toNat)))):
 ∀(l:List D) (vs:List Value) (acc:ByteArray),ak P g w (l.map fun d=>BV.int .u8 d.int) vs->(forIn vs acc F).run P w= .ok (acc++⟨(bA l).toArray⟩) w:=by
 intro l
 induction l with
 |nil=>
  intro vs acc hv
  simp only[aiB,ak]at hv;subst hv
  simp[bA]
  apply ahc;simp
 |cons d l ih=>
  intro vs acc hv
  simp only[afP,ak,ai]at hv
  obtain⟨v',vr,rfl,rfl,hr⟩:=hv
  simp only[ah4,Sem.run_bind,hF,Sem.run_pure,Result.andThen_ok]
  rw[ih vr _ hr]
  congr 1
  apply ahc
  simp[bA]
def Rj {el:TypeId}{x:BV}{x':Value}{xs:List D}(hx:ai P g w x x')(e:Il h el x=some xs):∃a n c,x'= .slice a n c:=by
 unfold Il at e
 split at e<;>(first|simp only[ai]at hx| (cases e;done))
 ·exact⟨_,_,_,hx⟩
 ·obtain⟨a,c,hx⟩:=hx;exact⟨_,_,_,hx⟩
 ·rcases hx with ⟨_,hx| ⟨a,hx⟩⟩| ⟨_,_,hx,_⟩<;>exact⟨_,_,_,hx⟩
 ·rcases hx with ⟨_,hx| ⟨a,c,hx⟩⟩| ⟨_,_,_,hx,_⟩<;>exact⟨_,_,_,hx⟩
 ·rcases hx with ⟨_,hx| ⟨a,hx⟩⟩| ⟨_,_,_,_,hx,_⟩<;>exact⟨_,_,_,hx⟩
def O5 (hr:aR P g h w){src dst:TypeId}{x v:BV}{x':Value}(hx:ai P g w x x')(e:qp P h src dst x=some v):∃v',(convert src dst x').run P w= .ok v' w/\ai P g w v v':=by
 unfold qp at e
 split at e
 ·rename_i d k k' n hs hd
  simp only[ai]at hx;subst hx;cases e
  refine⟨.int k (k.wrap n),?_,by simp[ai]⟩
  refine(Sem.run_bind P w _ _).trans ?_
  rw[aB hs,Result.andThen_ok]
  refine(Sem.run_bind P w _ _).trans ?_
  rw[aB hd,Result.andThen_ok]
  cases d<;>rfl
 ·rename_i d s hs hd
  simp only[ai]at hx;subst hx;cases e
  refine⟨.string ⟨s.toArray⟩,?_,by simp[ai]⟩
  refine(Sem.run_bind P w _ _).trans ?_
  rw[aB hs,Result.andThen_ok]
  refine(Sem.run_bind P w _ _).trans ?_
  rw[aB hd,Result.andThen_ok]
  cases d<;>rfl
 ·rename_i el hs hd _
  split at e
  ·rename_i hb
   simp only[aeV]at hb
   have hu:=DK hb.1
   have hso:=I9 hb.2 hu
   obtain⟨l,hsrc,rfl⟩:=afz.1 e
   obtain⟨hlen,ys,hy1,hy2⟩:=SF hr hb.2 hx hsrc
   obtain⟨a,n,c,rfl⟩:=Rj hx hsrc
   have hn:n=l.length:=by have:=hlen w;simp only[Builtin.lenOf,Sem.run_pure]at this;cases this;rfl
   subst hn
   refine⟨.string ⟨(bA l).toArray⟩,?_,by simp[ai]⟩
   refine(Sem.run_bind P w _ _).trans ?_
   rw[aB hs,Result.andThen_ok]
   refine(Sem.run_bind P w _ _).trans ?_
   rw[aB hd,Result.andThen_ok]
   have hv:ak P g w (l.map fun d=>BV.int .u8 d.int) ys.toList:=by
    rw[<-KY hu];exact(wP hb.2 _ _).1 hy2
   have h1:=hy1 w rfl
   refine(Sem.run_bind P w (underlying el) _).trans ?_
   rw[aB hu,Result.andThen_ok]
   cases a with
   |none=>
    simp only[Builtin.firstCells,Sem.run_pure]at h1
    cases h1
    have:l=[]:=by have:=hv.length;simp at this;exact afr.1 this.symm
    subst this
    rfl
   |some a=>
    simp only[Builtin.firstCells,hso,aiF]at h1
    simp only[Conv.bytesToString,Sem.run_bind,h1,Result.andThen_ok]
    rw[<-ahI,DL (fun _ _=>rfl) l _ _ hv]
    simp
  ·cases e
 ·cases e
def O3 (hr:aR P g h w){ts:Array TypeId}{t st el xt0:TypeId}{xt:TypeDesc}{i:TypeInfo}{s x v:BV}{s' x':Value}{h':af}(ht:ts[0]?=some st)(hx1:ts[1]?=some xt0)(hu:P.underlying st=some (.slice el))(hxt0:P.underlying xt0=some xt)
 (hi:P.info? el=some i)(hs:ai P g w s s')(hx:ai P g w x x')(hc:(cy P el&&!(Zz xt)&&!(i.bytes==0||!M6 P el i.size))=true)
 (e:(match UF P h el x with|some xs=>zI h el i.bytes s xs|none=>none)=some (v,h')):
 iy P g h w v h' ((Builtin.append_ ts t #[s',x']).run P w):=by
 simp only[aeV,afu,ahA,afd,afO]at hc
 obtain⟨⟨hd,hint⟩,hnz2,hzo⟩:=hc
 have hsz:ia P el=some i.size:=CR hi
 have hso:P.cellsOf el=i.size:=nL hsz
 have hxt:∃xt d,ts[1]?=some xt/\P.underlying xt=some d/\∀k,d≠ .int k:=⟨xt0,xt,hx1,hxt0,fun k hk=>by subst hk;simp[Zz]at hint⟩
 split at e
 case h_2=>cases e
 rename_i xs hsrc
 obtain⟨hlen,ys,hy1,hy2⟩:=XO hr hd hx hsrc
 rw[hso]at hy1
 have hyl:ys.size=xs.length*i.size:=by have:=hy2.1;rw[hso]at this;simpa using this
 unfold M6 at hzo
 cases hzb:jr P el with
 |none=>simp[hzb]at hzo
 |some z=>
 simp only[hzb,aeV,afv]at hzo
 obtain⟨z',hz',hzr⟩:=D6 hzb w
 have hzsz:z'.cells.size=i.size:=by
  have:=((hzr g).LR hzo.1).length
  simp at this;omega
 have fresh:∀(vb:Bool) (hB:af),aR P g hB w->∀(a:Option Addr) (len c:Nat) (l:List D) (old':Array Value),s'= .slice a len c->l.length=len->c<len+xs.length->bg i.bytes (len+xs.length)=true->cD P g.fz w el l old'.toList->
  (∀w':World,w'.heap=w.heap->(Builtin.firstCells i.size len (.slice a len c)).run P w'= .ok old' w')->
  iy P g hB w (.aV hB.next (len+xs.length) vb) (hB.new (.an el (l++xs) vb)) ((Builtin.append_ ts t #[s',x']).run P w):=by
  intro vb hB hrB a len c l old' hs' hll hgt hroom hov hold
  subst hs'
  simp only[bg,aeT]at hroom
  obtain⟨cap,rest,k1,k2,k3⟩:=J0 (P:=P) (w:=w) (t:=t) (a:=a) ht hu hi hz' hxt (hlen w) hy1 hold hgt hroom hnz2
  refine iy.DU hrB fun hr' hm=>?_
  refine⟨_,_,k3,?_⟩
  have h1:=hr'.real (b:=hB.next) (w':={w with heap:=w.heap.push (.cells (old'++ys++rest) el),drawn:=w.drawn+1}) (by rw[af.dR,aeZ rfl]) hm rfl ⟨rfl,rfl,rfl⟩ (fun hmono=>by
   simp only[cL]
   refine⟨_,0,0,rfl,xZ.zero _ _ _,old'.toList++ys.toList,(hov.append hy2).mono hmono.mf hmono.mc,fun j y hj=>?_⟩
   have hlt:=(ae1.1 hj).1
   rw[afT,<-afM]
   simp only[agM]
   rw[ago hlt];exact hj)
  refine⟨h1.1,h1.2,?_⟩
  simp only[ai]
  have hlo:old'.size=len*i.size:=by have:=hov.1;rw[hso,hll]at this;simpa using this
  refine .inr ⟨_,_,cap,Gh.fU _ _ _ _,rfl,k1,el,cap*i.size,?_,by rw[hso];omega⟩
  have:(old'++ys++rest).size=cap*i.size:=by
   simp only[Array.size_append,hlo,hyl,k2,hzsz]
   rw[<-agi,<-agi];congr 1;omega
  have hh:(w.heap.push (.cells (old'++ys++rest) el))[w.heap.size]?=some (.cells (old'++ys++rest) el):=by simp
  simp only[World.shape?,hh,this]
 have lB:(s'= .slice none 0 0\/∃a,s'= .slice (some a) 0 0)->bg i.bytes xs.length=true->∀hB,aR P g hB w->iy P g hB w (.aV hB.next xs.length true) (hB.new (.an el xs true)) ((Builtin.append_ ts t #[s',x']).run P w):=by
  intro hcase hroom hB hrB
  by_cases hx0:xs=[]
  ·subst hx0
   have hys:ys=#[]:=by
    apply agH;have:=hy2.1;simpa using this
   have hv0:ai P g w (.aV hB.next 0 true) s':=by
    simp only[ai];exact .inl ⟨⟨trivial,trivial⟩,hcase⟩
   have hrun:(Builtin.append_ ts t #[s',x']).run P w= .ok s' w:=by
    rcases hcase with rfl| ⟨a,rfl⟩
    ·exact yk ht hu hsz hxt (hlen w) (hy1 w rfl) (by simp) (fun ad had=>by cases had) (fun _=>rfl)
    ·exact yk ht hu hsz hxt (hlen w) (hy1 w rfl) (by simp) (fun ad had=>by rw[hys];simp[storeCells]) (fun _=>rfl)
   exact⟨s',g,w,hrun,(hrB.Kp _).1,(hrB.Kp _).2,Ph.new _,hv0⟩
  ·have hpos:0<xs.length:=ahF.2 hx0
   rcases hcase with hc| ⟨a,hc⟩
   ·have:=fresh true hB hrB none 0 0 [] #[] hc rfl (by omega) (by simpa using hroom) cD.nil (fun _ _=>rfl)
    simpa using this
   ·have:=fresh true hB hrB (some a) 0 0 [] #[] hc rfl (by omega) (by simpa using hroom) cD.nil (fun _ _=>by simp only[Builtin.firstCells,ahH];rfl)
    simpa using this
 unfold zI at e
 split at e
 ·rename_i b n vt
  split at e
  ·rename_i e' l vt' hb
   split at e
   ·rename_i hc1
    simp only[aeV,afv]at hc1
    obtain⟨he,hvt⟩:=hc1
    have he:=ae8 he
    subst he;subst hvt
    split at e
    ·rename_i hc2
     simp only[aeV,aeT]at hc2
     obtain⟨hn,hroom⟩:=hc2
     subst hn
     cases e
     obtain⟨hd1,hd2⟩:=hr.drop b
     simp only[ai]at hs
     rcases hs with ⟨⟨rfl,hn0⟩,hcase⟩| ⟨aA,au,c,hm,hs',hle,htail⟩
     ·have hl0:l=[]:=afr.1 hn0
      subst hl0
      have hk:=lB hcase (by simpa using hroom) _ hd1
      obtain⟨v2,g2,w2,k1,k2,k3,k4,k5⟩:=hk
      refine⟨v2,g2,w2,k1,by simpa using k2,by simpa using hd2.trans k3,?_,by simpa using k5⟩
      have:=(Ph.aeP (g:=g) hb).trans (afa _) k4
      simpa using this
     ·obtain⟨cc,vs,⟨lo,hi⟩,hw,hv,hcc,hat,hmk⟩:=hr.an hb hm
      have hvl:=hv.1
      rw[hso]at hvl
      have hlt:=(aff.1 hw).1
      by_cases hfit:l.length+xs.length<=c
      ·
       obtain⟨e1,tot,hsh1,htot⟩:=htail
       have hsh2:w.shape? aA=some (el,cc.size):=by simp[World.shape?,hw]
       rw[hsh2]at hsh1;cases hsh1
       rw[hso]at htot
       have hfz:au+l.length*i.size+ys.size<=cc.size:=by
        have:(l.length+xs.length)*i.size<=c*i.size:=afR _ hfit
        rw[agi]at this;omega
       have hallone:∀y∈ys.toList,y.oneCell'=true:=by
        have:=(wP (g:=g) hd xs ys.toList).1 hy2
        exact LH this (PX xs)
       have hstore:=hZ (P:=P) aA (au+l.length*i.size) el lo hi ys.toList 0 cc w hw (by simpa using hfz) hallone hmk.1
       simp only[af6]at hstore
       subst hs'
       have hrun:=yk (P:=P) (t:=t) (w:=w) (w':=w.dL aA (.cells (eP cc (au+l.length*i.size) ys.toList) el (lo,hi))) (a:=some ⟨aA,au,none⟩) ht hu hsz hxt (hlen w) (hy1 w rfl) hfit (fun ad had=>by cases had;rw[kJ];exact hstore) (fun hc=>by cases hc)
       have hmv:=hr.move (off:=0) (o':= .an el (l++xs) vt) (co':= .cells (eP cc (au+l.length*i.size) ys.toList) el (lo,hi)) (w':=w.dL aA (.cells (eP cc (au+l.length*i.size) ys.toList) el (lo,hi))) hb hm hw rfl ⟨rfl,rfl,rfl⟩
        (fun s hs=>by
          rw[hsh2]at hs
          simp only[World.shape?,ek hlt,jd];exact hs)
        (fun hmono=>by
          simp only[cL]
          refine⟨_,lo,hi,rfl,⟨by simpa only[jd]using hmk.1,hmk.2⟩,vs++ys.toList,(hv.append hy2).mono hmono.mf hmono.mc,fun j y hj=>?_⟩
          rw[tS _ _ _ _ (by simpa using hfz)]
          rw[afG]at hj
          by_cases hj1:j<vs.length
          ·rw[aeZ hj1]at hj
           rw[aeX (by omega)]
           exact hcc _ _ hj
          ·rw[aeX hj1]at hj
           have hjl:=(ae1.1 hj).1
           simp only[agL]at hjl
           rw[aeZ (by simp only[agL];omega),show au+0+j-(au+l.length*i.size)=j-vs.length by omega]
           exact hj)
       refine⟨_,_,_,hrun,hmv.1,hmv.2,?_,?_⟩
       ·intro b1 hb1 hm1 hv1
        refine⟨by rw[Gh.gk g (by omega)];exact hm1,?_⟩
        rw[af.dR,aeX (by simp;omega),af.fe,aeX (fun ee=>by subst ee;rw[hm]at hm1;cases hm1)]
       ·simp only[ai]
        refine .inr ⟨_,_,c,Gh.fU _ _ _ _,by simp,hfit,el,cc.size,?_,?_⟩
        ·simp only[World.shape?,ek hlt,jd]
        ·rw[hso];omega
      ·
       have hk:=fresh vt _ hd1 (some ⟨aA,au,none⟩) l.length c l vs.toArray hs' rfl (by omega) hroom (by simpa using hv)
        (fun w' hw'=>by simp only[Builtin.firstCells];exact nK _ hvl (hat.Mo hw'))
       obtain⟨v2,g2,w2,k1,k2,k3,k4,k5⟩:=hk
       exact⟨v2,g2,w2,k1,k2,hd2.trans k3,(Ph.put hm none).trans (afa _) k4,k5⟩
    ·cases e
   ·cases e
  ·cases e
 ·split at e
  ·rename_i hroom
   cases e
   simp only[ai]at hs
   exact lB (.inl hs) hroom h hr
  ·cases e
 ·rename_i e' l
  split at e
  ·rename_i he
   have he:=ae8 he
   subst he
   split at e
   ·rename_i hc2
    simp only[aeV,agd,aeT]at hc2
    obtain⟨hc3,hroom⟩:=hc2
    cases e
    simp only[ai]at hs
    rcases hs with ⟨rfl,hcase⟩| ⟨aA,off,hs',_,vs,hv,hat⟩
    ·have:=lB hcase (by simpa using hroom) h hr
     simpa using this
    ·by_cases hx0:0<xs.length
     ·exact fresh true h hr (some ⟨aA,off,none⟩) l.length l.length l vs.toArray hs' rfl (by omega) hroom (by simpa using hv)
       (fun w' hw'=>by simp only[Builtin.firstCells];exact nK _ (by rw[<-hso];exact hv.1) (hat.Mo hw'))
     ·have hl0:l=[]:=afr.1 (by omega)
      subst hl0
      have:=lB (.inr ⟨_,hs'⟩) (by simpa using hroom) h hr
      simpa using this
   ·cases e
  ·cases e
 ·cases e
def Q9 (hr:aR P g h w){ts:Array TypeId}{t:TypeId}{args:List BV}{args':Array Value}{v:BV}{h':af}(ha:ak P g w args args'.toList)(e:EK P h ts args=some (v,h')):
 iy P g h w v h' ((Builtin.append_ ts t args').run P w):=by
 unfold EK at e
 split at e
 ·rename_i st xt0 s x ht hx1
  obtain⟨s',x',hl,hs,hx⟩:=ha.two
  have hargs:args'=#[s',x']:=by apply agH;simpa using hl
  subst hargs
  split at e
  ·rename_i el xt hu hxt0
   cases hi:P.info? el with
   |none=>simp[hi]at e
   |some i=>
    simp only[hi]at e
    split at e
    ·rename_i hc
     exact O3 hr ht hx1 hu hxt0 hi hs hx hc e
    ·cases e
  ·cases e
 ·cases e
end
end
section
section
variable {P:Program} {g:Gh} {h:af} {w:World}
def NR (P:Program)(g:Gh)(w:World):bc->Result Next->Prop
 | .value v,r=>∃v',r= .ok (.value v') w/\ai P g w v v'
 | .skip,r=>r= .ok .skip w
 | .defer d,r=>∃d',r= .ok (.defer d') w/\PF P g w d d'
 | .recover,r=>r= .ok .recover w
 | .enter f args,r=>∃args',r= .ok (.enter f args') w/\ak P g w args args'.toList
 | .round l f tmps a b,r=>∃l' tmps',r= .ok (.round l' f tmps' a b) w/\g.m l=some (l',0)/\ak P g w tmps tmps'.toList
def jg (P:Program)(g:Gh)(h:af)(w:World)(n:bc)(h':af)(r:Result Next):Prop:=
 ∃g' w',aR P g' h' w'/\gN g h w g' h' w'/\Ph g h g' h'/\NR P g' w' n r
def jg.vD {v:BV}{h':af}{s:Sem Value}(he:iy P g h w v h' (s.run P w)):jg P g h w (.value v) h' ((do pure (.value (<-s)):Sem Next).run P w):=by
 obtain⟨v',g',w',e,h1,h2,h3,h4⟩:=he
 exact⟨g',w',h1,h2,h3,v',by simp[e],h4⟩
def jg.BN (hr:aR P g h w){v:BV}{s:Sem Value}(he:∃v',s.run P w= .ok v' w/\ai P g w v v'):jg P g h w (.value v) h ((do pure (.value (<-s)):Sem Next).run P w):=
 jg.vD (iy.aej hr he)
def jg.ZU {h':af}{s:Sem Unit}(he:∃g' w',s.run P w= .ok () w'/\aR P g' h' w'/\gN g h w g' h' w'/\Ph g h g' h'):jg P g h w .skip h' ((do s;pure .skip:Sem Next).run P w):=by
 obtain⟨g',w',e,h1,h2,h3⟩:=he
 exact⟨g',w',h1,h2,h3,by simp[NR,e]⟩
def jg.pure (hr:aR P g h w){n:bc}{r:Result Next}(hn:NR P g w n r):jg P g h w n h r:=⟨g,w,hr,gN.refl _ _ _,Ph.refl _ _,hn⟩
def O4 (hr:aR P g h w){b:Builtin}{ts:Array TypeId}{t:TypeId}{cs:Array Bool}{args:List BV}{args':Array Value}{n:bc}{h':af}(ha:ak P g w args args'.toList)(e:Bl P h b ts args=some (n,h')):
 jg P g h w n h' ((builtin b ts t cs args').run P w):=by
 have hv:∀{r:Option (BV×af)} {s:Sem Value},(∀v h1,r=some (v,h1)->iy P g h w v h1 (s.run P w))->(r.map fun (x:BV×af)=>(bc.value x.1,x.2))=some (n,h')->jg P g h w n h' ((do pure (.value (<-s)):Sem Next).run P w):=by
  intro r s hs he
  cases r with
  |none=>cases he
  |some x=>obtain⟨v,h1⟩:=x;simp at he;obtain⟨rfl,rfl⟩:=he;exact jg.vD (hs v h1 rfl)
 cases b<;>simp only[Bl]at e
 case append=>exact hv (fun v h1 he=>Q9 hr ha he) e
 case delete=>exact hv (fun v h1 he=>Ra hr ha he) e
 case clear=>exact hv (fun v h1 he=>Ur hr ha he) e
 case len=>
  cases hl:QB P h ts args with
  |none=>simp[hl]at e
  |some v=>
   simp[hl]at e
   obtain⟨rfl,rfl⟩:=e
   exact jg.BN hr (aax hr ha hl)
 case min=>
  cases args with
  |nil=>cases e
  |cons x r=>
   simp only[ak]at ha
   obtain⟨x',r',hl,hx,hrr⟩:=ha
   cases hf:r.foldlM ZK x with
   |none=>simp[hf]at e
   |some v=>
    simp[hf]at e
    obtain⟨rfl,rfl⟩:=e
    obtain⟨v',h1,h2⟩:=O6 (P:=P) (g:=g) (w:=w) (f':=Builtin.min2) (fun x y z x' y'=>XM) r r' x v x' hrr hx hf
    refine jg.BN (s:=Builtin.min_ ts t args') hr ⟨v',?_,h2⟩
    simp only[Builtin.min_,hl];exact h1
 case max=>
  cases args with
  |nil=>cases e
  |cons x r=>
   simp only[ak]at ha
   obtain⟨x',r',hl,hx,hrr⟩:=ha
   cases hf:r.foldlM ZG x with
   |none=>simp[hf]at e
   |some v=>
    simp[hf]at e
    obtain⟨rfl,rfl⟩:=e
    obtain⟨v',h1,h2⟩:=O6 (P:=P) (g:=g) (w:=w) (f':=Builtin.max2) (fun x y z x' y'=>XL) r r' x v x' hrr hx hf
    refine jg.BN (s:=Builtin.max_ ts t args') hr ⟨v',?_,h2⟩
    simp only[Builtin.max_,hl];exact h1
 case recover=>cases e;exact jg.pure hr rfl
 all_goals cases e
def MS (hr:aR P g h w){f:FuncId}{args:List BV}{args':Array Value}{n:bc}(ha:ak P g w args args'.toList)(e:Cx P f args=some n):
 NR P g w n ((callFunc f args').run P w):=by
 unfold Cx at e
 split at e
 ·rename_i hb
  cases e
  unfold Sc at hb
  split at hb
  ·rename_i fn hf
   simp only[aeV,afu,Option.isSome_iff_ne_none]at hb
   obtain⟨hb1,hb2⟩:=hb
   have hnn:fn.body.isNone=false:=by cases hfb:fn.body with|none=>exact absurd hfb hb1|some _=>rfl
   refine⟨args',?_,ha⟩
   simp only[callFunc,Sem.run_bind,run_program,Result.andThen_ok,hf,hb2,hnn,ae0,afS,Sem.run_pure]
  ·cases hb
 ·cases e
def V5 (w:World):∀(ps:List Nat) (as:List BV) (as':List Value) (ts:List BV) (ts':Array Value),ak P g w as as'->ak P g w ts ts'.toList->
 ak P g w ((ps.zip as).foldl (fun tmps (x:Nat×BV)=>tmps.set x.1 x.2) ts) ((ps.zip as').foldl (fun (tmps:Array Value) (x:Nat×Value)=>tmps.setIfInBounds x.1 x.2) ts').toList:=by
 intro ps
 induction ps with
 |nil=>intro as as' ts ts' _ h;simpa using h
 |cons p ps ih=>
  intro as as' ts ts' ha h
  cases as with
  |nil=>simp only[ak]at ha;subst ha;simpa using h
  |cons a as=>
   simp only[ak]at ha;obtain⟨a',ar,rfl,h1,h2⟩:=ha
   simp only[List.zip_cons_cons,agm]
   exact ih as ar _ _ h2 (by simpa using h.set p h1)
def D9 (hr:aR P g h w){t:zu}{t':Target}{args:List BV}{args':Array Value}{n:bc}{h':af}(ht:ux P g w t t')(ha:ak P g w args args'.toList)(e:xE P h t args=some (n,h')):
 jg P g h w n h' ((invoke t' args').run P w):=by
 unfold xE at e
 split at e
 ·rename_i b ts ty cs
  simp only[ux]at ht;subst ht
  simp only[invoke]
  exact O4 hr ha e
 ·rename_i f captured
  simp only[ux]at ht;obtain⟨c',rfl,hc⟩:=ht
  cases hcf:Cx P f (args++captured)with
  |none=>simp[hcf]at e
  |some n1=>
   simp[hcf]at e;obtain⟨rfl,rfl⟩:=e
   simp only[invoke]
   exact jg.pure hr (MS hr (by rw[agM];exact ha.append hc) hcf)
 ·rename_i l
  simp only[ux]at ht;obtain⟨aA,hm,rfl⟩:=ht
  split at e
  ·rename_i r hb
   split at e
   ·cases e
   ·rename_i hlen
    cases e
    obtain⟨_,o',hw,ho⟩:=hr.U2 _ _ _ _ hb hm
    simp only[cL]at ho
    obtain⟨_,r',rfl,hlr⟩:=ho
    obtain⟨a1,a2,a3,a4,a5,a6,a7,a8⟩:=hlr
    have hget:(getObj aA).run P w= .ok (.loop r') w:=by simp[getObj,Sem.run,hw]
    refine jg.pure hr ⟨aA,(r'.params.zip args').foldl (fun tmps (x:Nat×Value)=>tmps.setIfInBounds x.1 x.2) r'.tmps,?_,hm,?_⟩
    ·have hsz:args'.size=r'.params.size:=by
      have:=ha.length;rw[<-a5];simp at this;omega
     simp only[invoke,Instr.yield,Instr.getLoop,Sem.run_bind,hget,Result.andThen_ok,Sem.run_pure]
     rw[aeX (by simpa using hsz)]
     simp only[Sem.run_pure,a3,a6,a7]
    ·have:=V5 (P:=P) (g:=g) w r'.params.toList args args'.toList r.tmps r'.tmps ha a4
     rw[a5]
     rw[<-aiu,Array.toList_zip]
     exact this
  ·cases e
 ·cases e
def J4 (hr:aR P g h w){f:BV}{f':Value}{args:List BV}{args':Array Value}{d:tZ}(hf:ai P g w f f')(ha:ak P g w args args'.toList)(e:Fw f args=some d):
 ∃d',(Deferred.ofValue f' args').run P w= .ok d' w/\PF P g w d d':=by
 unfold Fw at e
 split at e
 ·rename_i fn first captured
  simp only[ai]at hf;obtain⟨a',c',rfl,h1,h2⟩:=hf
  cases e
  exact⟨_,rfl,⟨c',rfl,h2⟩,by rw[agM];exact h1.append ha⟩
 ·rename_i l
  simp only[ai]at hf;obtain⟨aA,hm,rfl⟩:=hf
  cases e
  exact⟨_,rfl,⟨aA,hm,rfl⟩,by simpa using ha⟩
 ·cases e
def HI (hr:aR P g h w){ρ:Operand->BV}{σ:Operand->Value}{c:Call}{ty:TypeId}{d:tZ}(hρ:∀x∈c.operands.toList,ai P g w (ρ x) (σ x))(e:tP ρ c ty=some d):
 ∃d',(resolve σ c ty).run P w= .ok d' w/\PF P g w d d':=by
 have hargs:ak P g w (c.args.toList.map ρ) (c.args.map σ).toList:=by
  rw[ahx]
  exact ak.map fun a ha=>hρ a (by simp[Call.operands,ha])
 unfold tP at e
 dsimp only at e
 split at e
 ·rename_i b hc
  cases e
  refine⟨{target:= .builtin b c.argTypes ty (c.args.map fun| .const _=>true|_=>false),args:=c.args.map σ},by simp only[resolve,hc];rfl,rfl,hargs⟩
 ·rename_i f hc
  obtain⟨d',h1,h2⟩:=J4 hr (hρ f (by simp[Call.operands,hc])) hargs e
  exact⟨d',by simp only[resolve,hc];exact h1,h2⟩
 ·cases e
def Pp:Value->Nat
 | .nilIface=>1| .agg _=>2|_=>0
def YO:BV->Nat
 | .DW=>1| .agg _=>2|_=>0
def ai.ad5 {b:BV}{v:Value}(hv:ai P g w b v)(hk:b.tU=true):YO b=Pp v:=by
 cases b<;>simp only[ai]at hv<;>first
  | (simp[BV.tU]at hk;done)
  | (subst hv;rfl)
  | (rcases hv with ⟨_,rfl| ⟨_,_,rfl⟩⟩| ⟨_,_,_,rfl,_⟩<;>rfl)
  | (rcases hv with ⟨_,rfl| ⟨_,rfl⟩⟩| ⟨_,_,rfl,_⟩<;>rfl)
  | (rcases hv with ⟨_,rfl| ⟨_,rfl⟩⟩| ⟨_,_,_,_,rfl,_⟩<;>rfl)
  | (obtain⟨_,rfl,_⟩:=hv;rfl)
  | (obtain⟨_,_,rfl⟩:=hv;rfl)
  | (obtain⟨_,_,rfl,_⟩:=hv;rfl)
  | (obtain⟨_,_,_,rfl⟩:=hv;rfl)
  | (obtain⟨_,_,_,rfl,_⟩:=hv;rfl)
  | (obtain⟨_,_,_,_,rfl,_⟩:=hv;rfl)
def Kj {op:BinOp}(t:TypeId)(x y:Operand){a b:Value}(hk:Pp a≠Pp b\/Pp a=0):eqGuard op t x y a b=pure ():=by
 cases op<;>first
  |rfl
  | (cases a<;>cases b<;>first
      |rfl
      | (simp[Pp]at hk;done))
def OX {op:BinOp}{t:TypeId}{x y:Operand}{a b:BV}{a' b':Value}(ha:ai P g w a a')(hb:ai P g w b b')(e:Bu P op t x y a b=true)(hk:(op= .eql\/op= .neq)->a.tU=true/\b.tU=true):(eqGuard op t x y a' b').run P w= .ok () w:=by
 by_cases ho:op= .eql\/op= .neq
 ·obtain⟨k1,k2⟩:=hk ho
  have n1:=ha.ad5 k1
  have n2:=hb.ad5 k2
  by_cases hc:Pp a'≠Pp b'\/Pp a'=0
  ·rw[Kj t x y hc];rfl
  ·simp only[aiI,Decidable.not_not,agq]at hc
   obtain⟨h1,h2⟩:=hc
   cases a<;>simp[YO]at n1<;>first
    | (rw[<-n1]at h2;exact absurd rfl h2)
    |skip
   ·simp only[ai]at ha;subst ha
    cases b<;>simp[YO]at n2<;>first
     | (rw[<-h1]at n2;cases n2;done)
     |skip
    simp only[ai]at hb;subst hb
    rcases ho with rfl|rfl
    all_goals
     simp only[Bu,agd]at e
     simp only[eqGuard]
     rw[aeX (by simp)]
     rw[aeZ (by cases x<;>cases y<;>first|rfl| (simp at e;done))]
     rfl
   ·simp only[ai]at ha;obtain⟨us,rfl,_⟩:=ha
    cases b<;>simp[YO]at n2<;>first
     | (rw[<-h1]at n2;cases n2;done)
     |skip
    simp only[ai]at hb;obtain⟨vs,rfl,_⟩:=hb
    rcases ho with rfl|rfl
    all_goals
     simp only[Bu]at e
     simp only[eqGuard]
     rw[aeX (by simp)]
     simp only[Sem.run_bind,run_program,Result.andThen_ok,e,afq]
     rfl
 ·have:eqGuard op t x y a' b'=pure ():=by cases op<;>first|rfl| (simp at ho)
  rw[this];rfl
def PN {op:BinOp}{t:TypeId}{x y v:BV}(e:zJ P op t x y=some v)(ho:op= .eql\/op= .neq):x.tU=true/\y.tU=true:=by
 unfold zJ at e
 split at e<;>first
  |exact⟨rfl,rfl⟩
  | (cases hq:Eg P 12 t x y with
     |none=>simp[hq]at e
     |some r=>exact K5 hq)
  | (cases e;done)
def aef {ps:Array (Nat×Operand)}{ρ:Operand->BV}{σ:Operand->Value}(hρ:∀x∈(ps.toList.map (·.2)),ai P g w (ρ x) (σ x)):
 PG P g w (ps.toList.map fun (i,x)=>(i,ρ x)) (ps.toList.map fun (i,x)=>(i,σ x)):=by
 refine⟨by simp,fun j i v hj=>?_⟩
 rw[afE]at hj ⊢
 cases hp:ps.toList[j]? with
 |none=>simp[hp]at hj
 |some q=>
  obtain⟨i',x⟩:=q
  simp[hp]at hj
  obtain⟨rfl,rfl⟩:=hj
  exact⟨σ x,by simp[hp],hρ x (afy.2 ⟨_,aeU hp,rfl⟩)⟩
def W3 {x:Option Operand}{ρ:Operand->BV}{σ:Operand->Value}(hρ:∀y∈x,ai P g w (ρ y) (σ y)):wY P g w (x.map ρ) (x.map σ):=by
 cases x with
 |none=>exact .inl ⟨rfl,rfl⟩
 |some y=>exact .inr ⟨_,_,rfl,rfl,hρ y rfl⟩
def IY (P:Program)(g:Gh)(h:af)(w:World)(b:Nat)(v:BV)(r:Result Next):Prop:=
 ∃v' w',r= .ok (.value v') w'/\aR P (g.ym b w.heap.size 0) h w'/\gN g h w (g.ym b w.heap.size 0) h w'/\ai P (g.ym b w.heap.size 0) w' v v'
def IY.of {b:Nat}{v:BV}{s:Sem Value}(hr:Kh P g h w b v (s.run P w)):IY P g h w b v ((do pure (.value (<-s)):Sem Next).run P w):=by
 obtain⟨v',w',e,h1,h2,h3⟩:=hr
 exact⟨v',w',by simp[e],h1,h2,h3⟩
def Sy (hr:aR P g h w){o:Oper}{ρ:Operand->BV}{σ:Operand->Value}{v:BV}{h1 h2:af}(ha:kh o=true)
 (hρ:∀x∈o.op.operands.toList,ai P g w (ρ x) (σ x))(e:Dk P h1 ρ o=some (.value v,h2))(hb:h.get h1.next=h2.get h1.next)(hm:g.m h1.next=none):
 IY P g h w h1.next v ((execOp σ o).run P w):=by
 obtain⟨dst,op,ty,pos,after,guard⟩:=o
 have hvh:∀{r:Option (BV×af)} {s:Sem Value},(∀v h2',h.get h1.next=h2'.get h1.next->r=some (v,h2')->Kh P g h w h1.next v (s.run P w))->(r.map fun (x:BV×af)=>(bc.value x.1,x.2))=some (.value v,h2)->IY P g h w h1.next v ((do pure (.value (<-s)):Sem Next).run P w):=by
  intro r s hs he
  cases r with
  |none=>cases he
  |some x=>obtain⟨u,h3⟩:=x;simp at he;obtain⟨rfl,rfl⟩:=he;exact IY.of (hs _ _ hb rfl)
 cases op<;>simp only[Dk,kh,ae0,reduceCtorEq]at e ha<;>simp only[Op.operands]at hρ
 case alloc t=>
  refine hvh (fun v h2 hb he=>?_) e
  cases hz:jr P t with
  |none=>simp[hz]at he
  |some z=>
   simp only[hz,af9,Gp]at he
   split at he
   ·rename_i hone
    cases he
    rw[af.dR,aeZ rfl]at hb
    exact Q0 hr hz hb hm hone
   ·cases he
 case box t x=>
  refine hvh (fun v h2 hb he=>?_) e
  simp only[Gp]at he
  split at he
  ·rename_i hone
   cases he
   rw[af.dR,aeZ rfl]at hb
   exact XB hr hb hm (hρ x (by simp)) hone
  ·cases he
 case buildSlice t len parts=>
  refine hvh (s:=Instr.buildSlice t len (parts.map fun (x:Nat×Operand)=>(x.1,σ x.2))) (fun v h2 hb he=>?_) e
  have hp:=aef (P:=P) (g:=g) (w:=w) (ps:=parts) (ρ:=ρ) (σ:=σ) (fun x hx=>hρ x (by simpa using hx))
  have e1:(parts.map fun (x:Nat×Operand)=>(x.1,σ x.2))=(parts.toList.map fun (x:Nat×Operand)=>(x.1,σ x.2)).toArray:=by apply agH;simp
  rw[e1]
  exact Ik hr hp he hb rfl hm
 case makeSlice t l c=>
  exact hvh (fun v h2 hb he=>JY hr (hρ l (by simp)) (hρ c (by simp)) he hb rfl hm) e
 case makeMap t r=>
  have hm':∀(hh:(r.map ρ=none/\r.map σ=none)\/∃q n,r.map ρ=some (.int q n)/\r.map σ=some (.int q n)) {k el},P.underlying t=some (.map k el)->(o0 P h1 k el).map (fun o=>(bc.value (.map h1.next),h1.new o))=some (.value v,h2)->IY P g h w h1.next v ((execOp σ {dst,op:= .makeMap t r,type:=ty,pos,after,guard}).run P w):=by
   intro hh k el hu2 e
   cases hn:o0 P h1 k el with
   |none=>rw[hn]at e;cases e
   |some o=>
    rw[hn]at e;cases e
    rw[af.dR,aeZ rfl]at hb
    exact IY.of (s:=Instr.makeMap t (r.map σ)) (XC hr hu2 hn hb hm hh)
  cases r with
  |none=>
   simp only[Option.map_none]at e
   split at e
   ·exact hm' (.inl ⟨rfl,rfl⟩) (by assumption) e
   ·cases e
  |some x=>
   have hx:=hρ x (by simp)
   cases hxx:ρ x<;>simp only[afb,hxx]at e<;>try (cases e;done)
   rename_i q i
   rw[hxx]at hx
   simp only[ai]at hx
   split at e
   ·exact hm' (.inr ⟨q,i,by simp[hxx],by simp[hx]⟩) (by assumption) e
   ·cases e
def Mk {P:Program}{h:af}{k e:TypeId}{o:ax}(hn:o0 P h k e=some o):rC (some o)=false:=by
 unfold o0 at hn
 repeat' split at hn
 all_goals first|cases hn;done| (cases hn;rfl)
def Li {ρ:Operand->BV}{o:Oper}{n:bc}{h1:af}(ha:kh o=true)(e:Dk P h ρ o=some (n,h1)):∃v ob,n= .value v/\h1=h.new ob/\rC (some ob)=false/\mv h.next ob:=by
 obtain⟨dst,op,ty,pos,after,guard⟩:=o
 have hvh:∀{r:Option (BV×af)},(∀v h1,r=some (v,h1)->∃ob,h1=h.new ob/\rC (some ob)=false/\mv h.next ob)->(r.map fun (x:BV×af)=>(bc.value x.1,x.2))=some (n,h1)->∃v ob,n= .value v/\h1=h.new ob/\rC (some ob)=false/\mv h.next ob:=by
  intro r hr e
  cases r with
  |none=>cases e
  |some x=>obtain⟨u,h2⟩:=x;simp at e;obtain⟨rfl,rfl⟩:=e;obtain⟨ob,k⟩:=hr _ _ rfl;exact⟨_,ob,rfl,k⟩
 have hal:∀{t:TypeId} {x u:BV} {h2:af},Gp P h t x=some (u,h2)->∃ob,h2=h.new ob/\rC (some ob)=false/\mv h.next ob:=by
  intro t x u h2 e
  unfold Gp at e
  split at e
  ·cases e;exact⟨_,rfl,rfl,mv.bare rfl rfl⟩
  ·cases e
 cases op<;>simp only[Dk,kh,ae6,ae0,reduceCtorEq]at e ha
 case alloc t=>
  refine hvh (fun v h1 e=>?_) e
  cases hz:jr P t with
  |none=>simp[hz]at e
  |some z=>simp only[hz,af9]at e;exact hal e
 case box=>exact hvh (fun v h1 e=>hal e) e
 case buildSlice=>
  refine hvh (fun v h1 e=>?_) e
  unfold xa at e
  split at e
  ·split at e
   ·dsimp only at e
    split at e
    ·cases e
    ·split at e
     ·split at e
      ·split at e
       ·cases e;exact⟨_,rfl,rfl,mv.bare rfl rfl⟩
       ·cases e;exact⟨_,rfl,rfl,mv.bare rfl rfl⟩
      ·cases e
     ·cases e
   ·cases e
  ·cases e
 case makeMap t r=>
  have:∃k el,(o0 P h k el).map (fun o=>(bc.value (.map h.next),h.new o))=some (n,h1):=by
   split at e
   all_goals first|cases e;done| (split at e;exact⟨_,_,e⟩;cases e)
  obtain⟨k,el,e⟩:=this
  cases hn:o0 P h k el with
  |none=>rw[hn]at e;cases e
  |some o=>rw[hn]at e;cases e;exact⟨_,_,rfl,rfl,Mk hn,JH hn⟩
 case makeSlice=>
  refine hvh (fun v h1 e=>?_) e
  unfold sb at e
  split at e
  ·split at e
   ·split at e
    ·split at e
     ·split at e
      ·cases e;exact⟨_,rfl,rfl,mv.bare rfl rfl⟩
      ·cases e
     ·cases e
    ·cases e
   ·cases e
  ·cases e
def MU (hr:aR P g h w){o:Oper}{ρ:Operand->BV}{σ:Operand->Value}{n:bc}{h':af}(hρ:∀x∈o.op.operands.toList,ai P g w (ρ x) (σ x))(e:Dk P h ρ o=some (n,h')):
 jg P g h w n h' ((execOp σ o).run P w):=by
 by_cases ha:kh o=true
 ·obtain⟨v,ob,rfl,rfl,_,hno⟩:=Li ha e
  obtain⟨k1,k2⟩:=hr.Kp ob hno
  obtain⟨v',w',e1,h1,h2,h3⟩:=Sy k1 ha hρ e rfl hr.v7
  refine⟨_,w',h1,k2.trans h2,fun b hb hm _=>⟨by rw[Gh.gk g (by omega)];exact hm,by rw[af.dR,aeX (by omega)]⟩,v',e1,h3⟩
 obtain⟨dst,op,ty,pos,after,guard⟩:=o
 have hv:∀{r:Option BV} {s:Sem Value},(∀v,r=some v->∃v',s.run P w= .ok v' w/\ai P g w v v')->(r.map fun x=>(bc.value x,h))=some (n,h')->jg P g h w n h' ((do pure (.value (<-s)):Sem Next).run P w):=by
  intro r s hs he
  cases r with
  |none=>cases he
  |some x=>simp at he;obtain⟨rfl,rfl⟩:=he;exact jg.BN hr (hs x rfl)
 have hvh:∀{r:Option (BV×af)} {s:Sem Value},(∀v h1,r=some (v,h1)->iy P g h w v h1 (s.run P w))->(r.map fun (x:BV×af)=>(bc.value x.1,x.2))=some (n,h')->jg P g h w n h' ((do pure (.value (<-s)):Sem Next).run P w):=by
  intro r s hs he
  cases r with
  |none=>cases he
  |some x=>obtain⟨v,h1⟩:=x;simp at he;obtain⟨rfl,rfl⟩:=he;exact jg.vD (hs v h1 rfl)
 have hu:∀{r:Option af} {s:Sem Unit},(∀h1,r=some h1->∃g' w',s.run P w= .ok () w'/\aR P g' h1 w'/\gN g h w g' h1 w'/\Ph g h g' h1)->(r.map fun x=>(bc.skip,x))=some (n,h')->jg P g h w n h' ((do s;pure .skip:Sem Next).run P w):=by
  intro r s hs he
  cases r with
  |none=>cases he
  |some x=>simp at he;obtain⟨rfl,rfl⟩:=he;exact jg.ZU (hs x rfl)
 cases op<;>simp only[Dk]at e<;>simp only[Op.operands]at hρ
 case move x=>cases e;exact jg.pure hr ⟨_,rfl,hρ x (by simp)⟩
 case assign x=>cases e;exact jg.pure hr ⟨_,rfl,hρ x (by simp)⟩
 case pick c a b=>
  have hc:=hρ c (by simp)
  have ha:=hρ a (by simp)
  have hb:=hρ b (by simp)
  cases hcc:ρ c<;>simp[hcc]at e
  rename_i bb
  rw[hcc]at hc
  simp only[ai]at hc
  obtain⟨rfl,rfl⟩:=e
  refine jg.pure hr ⟨if bb then σ a else σ b,?_,?_⟩
  ·simp[execOp,hc,asBool]
  ·cases bb<;>simpa
 case build t parts=>
  refine hv (fun v he=>?_) e
  have:=Uq (aef (P:=P) (g:=g) (w:=w) (ps:=parts) (ρ:=ρ) (σ:=σ) (fun x hx=>hρ x (by simpa using hx))) he
  have e1:(parts.map fun (x:Nat×Operand)=>(x.1,σ x.2))=(parts.toList.map fun (x:Nat×Operand)=>(x.1,σ x.2)).toArray:=by apply agH;simp
  show ∃v',(Instr.build t (parts.map fun (x:Nat×Operand)=>(x.1,σ x.2))).run P w= .ok v' w/\ai P g w v v'
  rw[e1];exact this
 case load t a=>exact hv (fun v he=>XK hr (hρ a (by simp)) he) e
 case store t a x=>exact hu (fun h1 he=>⟨g,UA hr (hρ a (by simp)) (hρ x (by simp)) he⟩) e
 case nilCheck x=>
  have hx:=hρ x (by simp)
  cases hxx:ρ x<;>simp[hxx]at e<;>rw[hxx]at hx<;>have hx0:=hx<;>simp only[ai]at hx
  case aG b off=>
   obtain⟨rfl,rfl⟩:=e
   obtain⟨_,_,_,h1⟩:=hx
   exact jg.pure hr ⟨σ x,by simp[execOp,h1],hx0⟩
  case vF cs=>
   obtain⟨rfl,rfl⟩:=e
   obtain⟨_,_,h1,_⟩:=hx
   exact jg.pure hr ⟨σ x,by simp[execOp,h1],hx0⟩
  case pt b f k off=>
   obtain⟨rfl,rfl⟩:=e
   obtain⟨_,_,_,h1,_⟩:=hx
   exact jg.pure hr ⟨σ x,by simp[execOp,h1],hx0⟩
  case vd b el i off=>
   obtain⟨rfl,rfl⟩:=e
   obtain⟨_,_,_,h1⟩:=hx
   exact jg.pure hr ⟨σ x,by simp[execOp,h1],hx0⟩
  case func fn a b=>
   obtain⟨_,_,h1,_⟩:=hx
   cases fn<;>simp at e<;>obtain⟨rfl,rfl⟩:=e<;>exact jg.pure hr ⟨σ x,by simp[execOp,h1],hx0⟩
  case yield l=>
   obtain⟨rfl,rfl⟩:=e
   obtain⟨_,_,h1⟩:=hx
   exact jg.pure hr ⟨σ x,by simp[execOp,h1],hx0⟩
 case binOp op t x y yt=>
  split at e
  ·rename_i hg
   refine hv (s:=do eqGuard op t x y (σ x) (σ y);binOp op t (σ x) (σ y)) (fun v he=>?_) e
   obtain⟨v',h1,h2⟩:=aaw hr (hρ x (by simp)) (hρ y (by simp)) he
   refine⟨v',?_,h2⟩
   have:=OX (hρ x (by simp)) (hρ y (by simp)) hg (PN he)
   simp[this,h1]
  ·cases e
 case unOp op t x=>exact hv (fun v he=>acv (hρ x (by simp)) he) e
 case convert src dst x=>exact hv (fun v he=>O5 hr (hρ x (by simp)) he) e
 case makeFunc fn first captured=>
  have hf:ak P g w (first.toList.map ρ) (first.map σ).toList:=by rw[ahx];exact ak.map fun a ha=>hρ a (by simp[ha])
  have hc:ak P g w (captured.toList.map ρ) (captured.map σ).toList:=by rw[ahx];exact ak.map fun a ha=>hρ a (by simp[ha])
  cases fn<;>simp at e<;>obtain⟨rfl,rfl⟩:=e<;>
   exact jg.pure hr ⟨_,rfl,by simp only[ai];exact⟨_,_,rfl,hf,hc⟩⟩
 case slice t x lo hi mx=>
  exact hv (fun v he=>Uz hr (hρ x (by simp)) (W3 fun y hy=>hρ y (by simp at hy;simp[hy])) (W3 fun y hy=>hρ y (by simp at hy;simp[hy])) (W3 fun y hy=>hρ y (by simp at hy;simp[hy])) he) e
 case fieldAddr t x i=>exact hv (fun v he=>KH (hρ x (by simp)) he) e
 case field t x i=>exact hv (fun v he=>Ut (hρ x (by simp)) he) e
 case indexAddr t x i=>exact hv (fun v he=>KI (hρ x (by simp)) (hρ i (by simp)) he) e
 case index t x i=>exact hv (fun v he=>Uv (hρ x (by simp)) (hρ i (by simp)) he) e
 case lookup t x i ok=>exact hv (fun v he=>Rc hr (hρ x (by simp)) (hρ i (by simp)) he) e
 case mapUpdate t m k x=>exact hu (fun h1 he=>DG hr (hρ m (by simp)) (hρ k (by simp)) (hρ x (by simp)) he) e
 case insert t m k x=>exact hu (fun h1 he=>DG hr (hρ m (by simp)) (hρ k (by simp)) (hρ x (by simp)) he) e
 case range t x=>exact hvh (fun v h1 he=>Uy hr (hρ x (by simp)) he) e
 case entry it=>exact hv (fun v he=>Us hr (hρ it (by simp)) he) e
 case extract t i=>
  have hx:=hρ t (by simp)
  cases hxx:ρ t<;>simp[hxx]at e
  rename_i vs
  rw[hxx]at hx
  simp only[ai]at hx
  obtain⟨vs',h1,h2⟩:=hx
  obtain⟨v,hv1,rfl,rfl⟩:=e
  obtain⟨v',hv2,hv3⟩:=h2.get hv1
  refine jg.BN (s:=Instr.extract (σ t) i) hr ⟨v',?_,hv3⟩
  simp only[afM]at hv2
  simp[Instr.extract,h1,hv2]
 case call c=>
  cases hd:tP ρ c ty with
  |none=>simp[hd]at e
  |some d=>
   simp only[hd,af9]at e
   obtain⟨d',h1,h2,h3⟩:=HI hr hρ hd
   have:=D9 hr h2 h3 e
   simp only[execOp,Sem.run_bind,h1,Result.andThen_ok]
   exact this
 case defer c=>
  cases hd:tP ρ c ty with
  |none=>simp[hd]at e
  |some d=>
   simp[hd]at e
   obtain⟨rfl,rfl⟩:=e
   obtain⟨d',h1,h2⟩:=HI hr hρ hd
   exact jg.pure hr ⟨d',by simp[execOp,h1],h2⟩
 all_goals first|exact absurd rfl ha|cases e
def aay (hr:aR P g h w){o:Oper}{ρ:Operand->BV}{σ:Operand->Value}{n:bc}{h':af}(hρ:∀x∈o.op.operands.toList,ai P g w (ρ x) (σ x))(e:opR P h ρ o=some (n,h')):
 jg P g h w n h' ((execOp σ o).run P w):=by
 unfold opR at e
 split at e
 ·rename_i src dst x ho
  split at e
  ·rename_i r hb
   obtain⟨dst0,op,ty,pos,after,guard⟩:=o
   simp only at ho;subst ho
   simp only[ae3,afQ]at e
   obtain⟨rfl,rfl⟩:=e
   have hx:=hρ x (by simp[Op.operands])
   unfold PS at hb
   split at hb
   ·rename_i el s hs hd hxx
    split at hb
    ·rename_i hbt
     simp only[aeV]at hbt
     have hu:=DK hbt.1
     cases hb
     rw[hxx]at hx
     simp only[ai]at hx
     refine jg.vD (s:=convert src dst (σ x)) (iy.DU hr fun hr' hm=>?_)
     have hrun:(convert src dst (σ x)).run P w=(Conv.stringToBytes el ⟨s.toArray⟩).run P w:=by
      rw[hx]
      refine(Sem.run_bind P w _ _).trans ?_
      rw[aB hs,Result.andThen_ok]
      refine(Sem.run_bind P w _ _).trans ?_
      rw[aB hd,Result.andThen_ok]
      refine(Sem.run_bind P w (underlying el) _).trans ?_
      rw[aB hu,Result.andThen_ok]
     rw[hrun]
     exact Q1 hr' hbt.2 hu (by rw[af.dR,aeZ rfl]) hm
    ·cases hb
   ·cases hb
  ·exact MU hr hρ e
 ·exact MU hr hρ e
end
end
end Go.PB
end
