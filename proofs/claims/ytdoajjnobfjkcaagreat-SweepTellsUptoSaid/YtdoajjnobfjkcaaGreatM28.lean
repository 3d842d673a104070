import Derived.Test.YtdoajjnobfjkcaaGreatM15
import Derived.Test.YtdoajjnobfjkcaaGreatM27
set_option linter.all false
noncomputable section
namespace Go.Proofs
open Go Go.PB
section
def WZ (f:Int->Int)(l:List Int)(a:Int):eT f (l++[a])=eT f l+f a:=by
 induction l with
 |nil=>simp[eT]
 |cons b r ih=>simp only[eT,aia,aiC]at ih ⊢;omega
section
variable {R:RS} {x:Wl}
abbrev ac3 (e:En):D:= .r [.z e.r,e.w.ax]
noncomputable abbrev QDr (x:Wl)(s:List Int)(d:D):Prop:=(d.aa 0).int=0/\(d.aa 1).ae=(x.drop s).an.ak
noncomputable abbrev Xl (R:RS)(x:Wl)(s:List Int):mR:= .bx 1 (lP (nH R (aw s)) (Rm R)) (QDr x s)
def Wl.oR (x:Wl)(s:List Int)(i:Nat):List En:=((x.th.take i).filter fun e=>decide (e.r∉s)).map fun e=>(⟨e.r,x.fh s e⟩:En)
abbrev A4 (l:List En):List D:=l.map ac3
abbrev abe (r:Int)(w:Wh):En:=⟨r,w⟩
def Ys (x:Wl)(s:List Int){i:Nat}(h:x.th.length<=i):x.oR s i=(x.drop s).th:=by unfold Wl.oR;rw[ag5 h];rfl
def Vw {x:Wl}{s:List Int}{i:Nat}{e:En}(h:x.th[i]?=some e):x.oR s (i+1)=x.oR s i++if e.r∈s then []else [abe e.r (x.fh s e)]:=by
 unfold Wl.oR
 rw[aQ h,aiP,ahr]
 by_cases hr:e.r∈s<;>simp[hr]
def Yt (x:Wl)(s:List Int)(i:Nat):(x.oR s i).length<=i:=by
 unfold Wl.oR
 rw[agV]
 refine ahD (ah1 _ _) ?_
 rw[ahx];omega
def aaw (hi:x.OU)(hx:x.Ni)(hR:Fe R x.ro)(s:List Int)(hm:x.May s)(hs:s.Nodup):PH cd (nH R (aw s)) (Rm R) 1 lP (QDr x s):=by
 have hth:=hi.th
 have hT:R.th=x.an.ak:=hR.th
 have hthl:x.an.length<2^62:=by simp[Wl.an];omega
 have hsl:s.length<=x.th.length:=Wl.CS hs hm.is
 have h0:=hm.zero hx
 have f0:∀e:En,D.int (D.aa (D.r [.z e.r,e.w.ax]) 0)=e.r:=fun _=>rfl
 have f1:∀e:En,D.aa (D.r [.z e.r,e.w.ax]) 1=e.w.ax:=fun _=>rfl
 have wk:∀{e:En},e∈x.th->IntKind.i64.wrap e.w.k=e.w.k:=fun he=>(hi.w _ he).1.wk
 have lp5:∀(g:List Int),(∀q,q∈g↔q∈s)->g.length<=2*x.th.length->∀(e:En) (i:Nat) (o:List En),x.th[i]?=some e->o.length<=i->
  ay pg cd [aM] (Xl R x s) (fV R (aw s) g.length (aw g) ((i+1:Nat):Int) (o.length+1) (A4 (o++[abe e.r (x.fh s e)])))->
  ∀(y:Wh),y.k=e.w.k->y.n=e.w.n->(∀lo,e.w.k=8->lo=min (e.w.lo+eT (x.kJ s e.r) (x.th.map En.r)) e.w.n->{y with lo:=lo}=x.fh s e)->(e.w.k≠8->y=x.fh s e)->
  ∀(ah:List En) (j:Nat) (lo:Int),x.th.drop j=ah->(e.w.k=8->lo=min (e.w.lo+eT (x.kJ s e.r) ((x.th.take j).map En.r)) e.w.n)->(e.w.k≠8->lo=y.lo)->
  ay pg cd [aM] (Xl R x s) (dC R (aw s) y.of g.length i (aw g) e.r y.k y.h y.v.k y.v.n y.v.s (y.v.l.map aE.ax) y.v.r (y.vs.map aE.ax) y.n lo y.km y.set y.B2 (y.co.map St.ax) (y.ns.map ga.ax) j o.length (A4 o)):=by
  intro g hg hgl e i o he hol done y hyk hyn hy8 hy ah
  have hem:=agY he
  have hil:=(aha.1 he).1
  have rm:aO 200 (o.length+1)=true:=by simp only[aO,agW];omega
  have push:∀lo,{y with lo:=lo}=x.fh s e->ay pg cd [aM] (Xl R x s) (fV R (aw s) g.length (aw g) (IntKind.i64.wrap ((i:Int)+1)) (o.length+1) (A4 o++[D.r [.z e.r,.r [.z y.k,.z y.h,.r [.z y.v.k,.z y.v.n,.s y.v.s,.r (y.v.l.map aE.ax),.z y.v.r],.r (y.vs.map aE.ax),.z y.n,.z lo,.z y.of,.z y.km,.z y.set,.b y.B2,.r (y.co.map St.ax),.r (y.ns.map ga.ax)]]])):=fun lo hl=>by
   rw[bo hil (by omega)]
   rw[A4,ahr,akC]at done
   have e1:ac3 (abe e.r (x.fh s e))=D.r [.z e.r,.r [.z y.k,.z y.h,.r [.z y.v.k,.z y.v.n,.s y.v.s,.r (y.v.l.map aE.ax),.z y.v.r],.r (y.vs.map aE.ax),.z y.n,.z lo,.z y.of,.z y.km,.z y.set,.b y.B2,.r (y.co.map St.ax),.r (y.ns.map ga.ax)]]:=by
    show D.r [.z e.r,(x.fh s e).ax]=_
    rw[<-hl,Wh.aD,aE.aD]
   rw[e1]at done
   exact done
  have hwk:=wk hem
  induction ah with
  |nil=>
   intro j lo hd h8 hlo
   have hjl:=drop_nil hd
   refine yN ?_
   have hn:¬(j:Int)<(x.th.length:Int):=by omega
   simp only[rk,hT,dT,hn,agV,rm,ahj,ahg,ahI,agZ,ag0,ag1,ag3,ahk,ahf]
   refine push lo ?_
   by_cases c8:e.w.k=8
   ·refine hy8 lo c8 ?_
    rw[h8 c8,ag5 hjl]
   ·rw[hlo c8];exact hy c8
  |cons p ah ih=>
   intro j lo hd h8 hlo
   obtain⟨g1,g2,g3⟩:=aB hd
   have hp:=agY g1
   have hcl:(j:Int)<(x.th.length:Int):=by omega
   refine yN ?_
   simp only[rk,hT,dT,hcl,hyk,hwk,aU g3,g3,Bt g1,f0,f1,wk hp,Wh.cU,Wh.di,Wh.lu,ag6,agV,rm,ahg,ahI,ag0,ag1,ag3,ahf,bo g3 (by omega),aht,ahe,aic]
   refine⟨fun c8=>?_,fun c8=>by
    have:=push lo (by rw[hlo c8];exact hy c8)
    rw[hyk]at this;exact this⟩
   refine⟨_,_,_,rfl,Le g p.r (by omega),?_⟩
   rintro _ rfl
   simp only[D.bz,agW,agX,hg]
   have hsn:eT (x.kJ s e.r) ((x.th.take (j+1)).map En.r)=eT (x.kJ s e.r) ((x.th.take j).map En.r)+x.kJ s e.r p.r:=by
    rw[aQ g1,ahr,akC,WZ]
   have hS:=Hz (fun q=>(hx.kJ s e.r q).1) ((x.th.take j).map En.r)
   have n1:=hx.num e hem (.inl c8)
   have hlo8:=h8 c8
   have same:¬(p.r∈s/\p.w.k=9/\p.w.of=e.r)->ay pg cd [aM] (Xl R x s) (dC R (aw s) y.of g.length i (aw g) e.r e.w.k y.h y.v.k y.v.n y.v.s (y.v.l.map aE.ax) y.v.r (y.vs.map aE.ax) y.n lo y.km y.set y.B2 (y.co.map St.ax) (y.ns.map ga.ax) ((j+1:Nat):Int) o.length (A4 o)):=fun hno=>by
    have ea:x.kJ s e.r p.r=0:=by unfold Wl.kJ;rw[hx.at hp,ag4 hno]
    have:=ih (j+1) lo g2 (fun _=>by rw[hsn,ea,Int.add_zero];exact hlo8) (fun h=>absurd c8 h)
    rw[hyk]at this;exact this
   refine⟨fun hps=>⟨fun h9=>⟨fun hof=>?_,fun hof=>same fun h=>hof h.2.2⟩,fun h9=>same fun h=>h9 h.2.1⟩,fun hps=>same fun h=>hps h.1⟩
   have n2:=hx.num p hp (.inr h9)
   have ea:x.kJ s e.r p.r=p.w.n:=by unfold Wl.kJ;rw[hx.at hp,ag8 ⟨hps,h9,hof⟩]
   rw[bO (by omega) (by omega)]
   have:=ih (j+1) (min (lo+p.w.n) e.w.n) g2 (fun _=>by rw[hsn,ea];omega) (fun h=>absurd c8 h)
   rw[hyk]at this
   rw[show (if y.n<lo+p.w.n then y.n else lo+p.w.n)=min (lo+p.w.n) e.w.n by rw[hyn];split<;>omega]
   exact this
 have lp4:∀(g:List Int),(∀q,q∈g↔q∈s)->g.length<=2*x.th.length->∀(ah:List En) (i:Nat),x.th.drop i=ah->
  ay pg cd [aM] (Xl R x s) (fV R (aw s) g.length (aw g) i (x.oR s i).length (A4 (x.oR s i))):=by
  intro g hg hgl ah
  induction ah with
  |nil=>
   intro i hd
   have hil:=drop_nil hd
   refine C1 ?_
   rw[Ys x s hil]
   have hn:¬(i:Int)<(x.th.length:Int):=by omega
   simp only[rk,hT,dT,hn,ahj,agZ,ag1,ag3,ahk]
   have e1:A4 (x.drop s).th=(x.drop s).an.ak:=by
    simp only[aV.ak,Wl.an,ajQ];rfl
   refine⟨rfl,.r [.z 0,.r (x.drop s).an.ak],?_,rfl,rfl⟩
   rw[e1,show (x.drop s).th.length=(x.drop s).an.ak.length by rw[dT]]
   exact .ret
  |cons e ah ih=>
   intro i hd
   obtain⟨g1,g2,g3⟩:=aB hd
   have hem:=agY g1
   have hcl:(i:Int)<(x.th.length:Int):=by omega
   have nx:=ih (i+1) g2
   rw[Vw g1]at nx
   refine C1 ?_
   simp only[rk,hT,dT,hcl,aU g3,g3,Bt g1,f0,f1,wk hem,Wh.cU,Wh.mH,Wh.mI,Wh.sP,Wh.lu,Wh.zf,Wh.di,Wh.gg,Wh.i7,Wh.o0,Wh.iI,Wh.fv,aE.cU,aE.lu,aE.BD,aE.vA,aE.BC,ag6,agV,ahg,ag0,ag1,ag3,ahf,bo g3 (by omega),aht,ahe,aic]
   refine⟨_,_,_,rfl,Le g e.r (by omega),?_⟩
   rintro _ rfl
   simp only[D.bz,agW,agX,hg]
   refine⟨fun hr=>?_,fun hr=>?_⟩
   ·simpa [hr]using nx
   ·have hol:=Yt x s i
    have done:ay pg cd [aM] (Xl R x s) (fV R (aw s) g.length (aw g) ((i+1:Nat):Int) ((x.oR s i).length+1) (A4 (x.oR s i++[abe e.r (x.fh s e)]))):=by
     simpa [hr]using nx
    have n8:=fun h8=>hx.num e hem (.inl h8)
    have start:∀y:Wh,y.k=e.w.k->y.n=e.w.n->y.lo=e.w.lo->(e.w.k=8->y=e.w)->(e.w.k≠8->y=x.fh s e)->ay pg cd [aM] (Xl R x s) (dC R (aw s) y.of g.length i (aw g) e.r y.k y.h y.v.k y.v.n y.v.s (y.v.l.map aE.ax) y.v.r (y.vs.map aE.ax) y.n y.lo y.km y.set y.B2 (y.co.map St.ax) (y.ns.map ga.ax) ((0:Nat):Int) (x.oR s i).length (A4 (x.oR s i))):=fun y k1 k2 k3 k4 k5=>
     lp5 g hg hgl e i (x.oR s i) g1 hol done y k1 k2 (fun lo c8 hlo=>by rw[k4 c8,hlo];simp[Wl.fh,c8]) k5 x.th 0 y.lo rfl (fun c8=>by have:=n8 c8;rw[k3];simp only[aji,ajp,eT,List.foldr_nil];omega) (fun _=>rfl)
    refine⟨fun h13=>?_,fun h13=>?_⟩
    ·refine⟨_,_,_,rfl,Le g e.w.of (by omega),?_⟩
     rintro _ rfl
     simp only[D.bz,agW,agX,hg]
     refine⟨fun hof=>?_,fun hof=>?_⟩
     ·have:=start {e.w with of:=0} rfl rfl rfl (fun h=>by omega) (fun _=>by simp[Wl.fh,h13,hof])
      simpa using this
     ·have:=start e.w rfl rfl rfl (fun _=>rfl) (fun _=>by simp[Wl.fh,h13,hof])
      simpa using this
    ·have:=start e.w rfl rfl rfl (fun _=>rfl) (fun h8=>by simp[Wl.fh,h13,h8])
     simpa using this
 have lp3:∀(g:List Int),(∀q,q∈g↔q∈s)->g.length<=2*x.th.length->∀(ah:List En) (i:Nat),x.th.drop i=ah->ay pg cd [aM] (Xl R x s) (pn R (aw s) g.length (aw g) i):=by
  intro g hg hgl ah
  induction ah with
  |nil=>
   intro i hd
   have hil:=drop_nil hd
   refine EF ?_
   have hn:¬(i:Int)<(x.th.length:Int):=by omega
   simp only[rk,hT,dT,hn,ahj,agZ,ag1,ag3,ahk]
   have:=lp4 g hg hgl x.th 0 rfl
   simpa [Wl.oR]using this
  |cons e ah ih=>
   intro i hd
   obtain⟨g1,g2,g3⟩:=aB hd
   have hem:=agY g1
   obtain⟨w1,w2,w3⟩:=hi.w e hem
   have hrl:=aE.gj e.w.aJ
   simp only[Wh.sz]at w2
   have hcl:(i:Int)<(x.th.length:Int):=by omega
   have lp:∀(l:List Int),l.length<2^31->(∀q∈l,q∉s)->∀(r2:List Int) (j:Nat),l.drop j=r2->ay pg cd [aM] (Xl R x s) (ji R (aw s) l.length (aw l) g.length i (aw g) j):=by
    intro l hll hln r2
    induction r2 with
    |nil=>
     intro j hd
     have hjl:=drop_nil hd
     refine yM ?_
     have hn:¬(j:Int)<(l.length:Int):=by omega
     simp only[rk,hn,ahj,agZ,ag1,ag3,ahk,bo g3 (by omega)]
     exact ih (i+1) g2
    |cons a r2 ih2=>
     intro j hd
     obtain⟨k1,k2,k3⟩:=aB hd
     have hcl:(j:Int)<(l.length:Int):=by omega
     have hat:D.at (aw l) j= .z a:=bn k1
     refine yM ?_
     simp only[rk,hcl,hat,aU k3,k3,agV,D.bV,ag6,ahg,ag0,ag1,ag3,ahf,bo k3 (by omega)]
     refine⟨_,_,_,rfl,Le g a (by omega),?_⟩
     rintro _ rfl
     simp only[D.bz,agW,agX,hg]
     exact⟨fun h=>absurd h (hln a (agY k1)),fun _=>ih2 (j+1) k2⟩
   refine EF ?_
   simp only[rk,hT,dT,hcl,aU g3,g3,Bt g1,f0,f1,wk hem,Wh.cU,Wh.di,Wh.gg,ag6,agV,ahg,ag0,ag1,ag3,ahf,ah0,bo g3 (by omega),aiI,aic,ahV]
   refine⟨_,_,_,rfl,Le g e.r (by omega),?_⟩
   rintro _ rfl
   simp only[D.bz,agW,agX,hg]
   refine⟨fun _=>ih (i+1) g2,fun hn=>⟨_,_,rfl,JZ e.w w1 (by simp only[Wh.sz];exact w2) w3,?_⟩⟩
   intro d hd
   rw[hd]
   have r1:aO 8 ((aE.bD e.w.aJ).length+1)=true:=by simp only[aO,agW];omega
   have r2:aO 8 ((aE.bD e.w.aJ).length+1+1)=true:=by simp only[aO,agW];omega
   simp only[agV,ahc,ah9,r1,r2,ahg,ahI,ag0,ag1,ag3,ahf]
   refine⟨fun h13=>?_,fun h13=>?_⟩
   ·have:=lp (aE.bD e.w.aJ++[e.w.of]++[e.w.km]) (by simp;omega) (fun q hq=>?_) _ 0 rfl
    ·simpa [aw]using this
    ·simp only[ahd,ahb]at hq
     rcases hq with (hq|rfl)|rfl
     ·exact hm.Ti e hem hn q hq
     ·exact hm.of e hem hn h13
     ·exact hm.km e hem hn
   ·have:=lp (aE.bD e.w.aJ++[e.w.km]) (by simp;omega) (fun q hq=>?_) _ 0 rfl
    ·simpa [aw]using this
    ·simp only[ahd,ahb]at hq
     rcases hq with hq|rfl
     ·exact hm.Ti e hem hn q hq
     ·exact hm.km e hem hn
 have lp2:∀(ah:List En) (i:Nat) (g:List Int),x.th.drop i=ah->(∀q,q∈g↔q∈s)->g.length<=s.length+i->i<=x.th.length->ay pg cd [aM] (Xl R x s) (pk R (aw s) i g.length (aw g)):=by
  intro ah
  induction ah with
  |nil=>
   intro i g hd hg hgl hib
   have hil:=drop_nil hd
   refine EE ?_
   have hn:¬(i:Int)<(x.th.length:Int):=by omega
   simp only[rk,hT,dT,hn,ahj,agZ,ag1,ag3,ahk]
   exact lp3 g hg (by omega) x.th 0 rfl
  |cons e ah ih=>
   intro i g hd hg hgl hib
   obtain⟨g1,g2,g3⟩:=aB hd
   have hem:=agY g1
   have hcl:(i:Int)<(x.th.length:Int):=by omega
   have rm:aO 8 (g.length+1)=true:=by simp only[aO,agW];omega
   refine EE ?_
   simp only[rk,hT,dT,hcl,aU g3,g3,Bt g1,f0,f1,wk hem,Wh.cU,Wh.di,ag6,agV,rm,ahg,ahI,ag0,ag1,ag3,ahf,bo g3 (by omega),aiI,aic,ahV]
   refine⟨fun _=>ih (i+1) g g2 hg (by omega) (by omega),fun h14=>⟨_,_,_,rfl,Le s e.w.of (by omega),?_⟩⟩
   rintro _ rfl
   simp only[D.bz,agW,agX]
   refine⟨fun hof=>?_,fun hof=>⟨_,_,_,rfl,Le s e.r (by omega),?_⟩⟩
   ·have:=ih (i+1) (g++[e.r]) g2 (fun q=>by rw[ahd,hg,ahb];exact⟨fun h=>by rcases h with h|rfl;exact h;exact(hm.Ve e hem h14).2 hof,.inl⟩) (by rw[ahc,ah9];omega) (by omega)
    simpa using this
   ·rintro _ rfl
    simp only[D.bz,agW,agX]
    exact⟨fun hr=>absurd ((hm.Ve e hem h14).1 hr) hof,fun _=>ih (i+1) g g2 hg (by omega) (by omega)⟩
 have lp1:∀(ah:List Int) (i:Nat),s.drop i=ah->ay pg cd [aM] (Xl R x s) (vQ R (aw s) i):=by
  intro ah
  induction ah with
  |nil=>
   intro i hd
   have hil:=drop_nil hd
   refine G3 ?_
   have hn:¬(i:Int)<(s.length:Int):=by omega
   have rm:aO 8 s.length=true:=by simp only[aO,agW];omega
   simp only[rk,hn,rm,agV,ahj,agZ,ag0,ag1,ag3,ahk,ahf]
   exact lp2 x.th 0 s rfl (fun _=>Iff.rfl) (by omega) (by omega)
  |cons a ah ih=>
   intro i hd
   obtain⟨g1,g2,g3⟩:=aB hd
   have hcl:(i:Int)<(s.length:Int):=by omega
   have hat:D.at (aw s) i= .z a:=bn g1
   refine G3 ?_
   simp only[rk,agV,hcl,hat,aU g3,D.bV,ag6,ahg,ag3,ag0,ag1,ahf,bo g3 (by omega)]
   have tok:x.an.ok:=fun p hp=>by
    simp only[Wl.an,ahp]at hp
    obtain⟨d,hd,rfl⟩:=hp
    exact(hi.w d hd).1
   refine⟨_,_,rfl,Nj hR hthl tok a,?_⟩
   intro d hd
   obtain⟨e,he,rfl⟩:=Wl.CR (hm.is a (agY g1))
   have hkk:(x.ro).th.kind e.r=e.w.k:=hx.kind he
   have hk0:=hx.afS e he
   rw[hd,hkk]
   exact⟨fun h=>by simp at h;omega,fun _=>ih (i+1) g2⟩
 refine VJ ?_
 exact lp1 s 0 rfl
end
end
section
structure Wl.O6 (x:Wl):Prop where
 Ju:x.OU
 Rz:x.Ni
 len:x.th.length<=2^20
 la:∀e∈x.th,e.r<=x.la
def Wl.O6.drop {x:Wl}(h:x.O6){s:List Int}(hm:x.May s):(x.drop s).O6:=by
 have hl:(x.drop s).th.length<=x.th.length:=by
  simp only[Wl.drop,agV];exact ah1 _ _
 refine⟨⟨h.Ju.par,h.Ju.GO,h.Ju.cut,h.Ju.Pr,Nat.lt_of_le_of_lt hl h.Ju.th,?_,fun e he=>?_⟩,h.Rz.drop hm,ahD hl h.len,fun e he=>?_⟩
 ·rw[HW,D8]
  exact(D8.1 h.Ju.Iy).sublist aiz
 ·obtain⟨d,hd,hn,rfl⟩:=zS.1 he
  obtain⟨w1,w2,w3⟩:=h.Ju.w d hd
  obtain⟨k1,k2,k3,k4,k5,k6,k7⟩:=DW x s d
  dsimp only
  have eco:(x.fh s d).co=d.w.co:=by
   unfold Wl.fh
   by_cases c:d.w.k=13
   ·by_cases c2:d.w.of∈s<;>simp[c,c2]
   ·by_cases c2:d.w.k=8<;>simp[c,c2]
  refine⟨?_,by simp only[Wh.sz,k4,eco]at w2 ⊢;exact w2,by rw[k4];exact w3⟩
  unfold Wl.fh
  split
  ·split
   ·simp only[Wh.ok]at w1 ⊢;obtain⟨a1,a2,a3,a4,a5,a6,a7,a8,a9,a10,a11,a12,a13,a14,a15,a16,a17,a18,a19,a20,a21⟩:=w1;exact⟨a1,a2,a3,a4,a5,a6,a7,a8,a9,a10,a11,by omega,by omega,a14,a15,a16,a17,a18,a19,a20,a21⟩
   ·exact w1
  ·split
   ·rename_i c8
    have n1:=h.Rz.num d hd (.inl c8)
    have hS:=Hz (fun q=>(h.Rz.kJ s d.r q).1) (x.th.map En.r)
    simp only[Wh.ok]at w1 ⊢;obtain⟨a1,a2,a3,a4,a5,a6,a7,a8,a9,a10,a11,a12,a13,a14,a15,a16,a17,a18,a19,a20,a21⟩:=w1;exact⟨a1,a2,a3,a4,a5,a6,a7,a8,a9,by omega,by omega,a12,a13,a14,a15,a16,a17,a18,a19,a20,a21⟩
   ·exact w1
 ·obtain⟨d,hd,hn,rfl⟩:=zS.1 he
  exact h.la d hd
section
variable {W:WS} {R:RS} {x:Wl} {f:gX} (hx:x.O6) (l:List Su) (hs:SuS l)
include hx hs
noncomputable abbrev QS (W:WS)(x:Wl)(l:List Su)(d:D):Prop:=if l.all x.cN then (d.aa 0).ae=aw (x.ah l)/\(d.aa 1).int=0/\cn (D.aa d 2)=(x.drop (x.ah l)).an.ax/\∃f':gX,cn (D.aa d 5)=f'.ax
 else (d.aa 0).ae=[]/\(d.aa 1).int=190/\cn (D.aa d 2)=W.th/\cn (D.aa d 5)=W.fa
theorem UK (hW:zC W (x.wo f)):PH jW (HH W (l.map Su.ax)) (Wm W) 1 wy (QS W x l):=by
 refine Wi ?_
 simp only[rk]
 refine⟨_,_,rfl,ZP hx.Ju hx.len hW hx.Rz.Mz hx.la l hs,?_⟩
 intro d hd
 simp only[QL]at hd
 have res:∀(r:List D) (e:Int) (m1:List (D×D)) (n1:List Nat) (c1:Nat) (m2:List (D×D)) (n2:List Nat) (c2:Nat),
  T.dy (BV.tuple [.aZ 1 r.length true,.int .i64 e],[(0,.cells [.bw cC W.pa,.aZ 4 W.cu.length true,.map 2,.map 3,.int .i64 W.la,.aZ 5 W.ma.length true] bh false),(1,.ak aA r true),(2,.bg aA (.bY 8 aH) m1 n1 c1),(3,.bg aF (.data aA) m2 n2 c2),(4,.ak ai W.cu true),(5,.ak af W.ma true)])
   (wy (HH W (l.map Su.ax)) (Wm W) (.r [.r r,.z e,i5 m1,i6 n1,.z c1,i5 m2,i6 n2,.z c2])):=fun r e m1 n1 c1 m2 n2 c2=>by
  have e1:cn (D.aa (.r [.r r,.z e,i5 m1,i6 n1,.z (c1:Int),i5 m2,i6 n2,.z (c2:Int)]) 2)=m1:=dh _
  have e2:cK (D.aa (.r [.r r,.z e,i5 m1,i6 n1,.z (c1:Int),i5 m2,i6 n2,.z (c2:Int)]) 3)=n1:=nb _
  have e3:cJ (D.aa (.r [.r r,.z e,i5 m1,i6 n1,.z (c1:Int),i5 m2,i6 n2,.z (c2:Int)]) 4)=c1:=na _
  have e4:cn (D.aa (.r [.r r,.z e,i5 m1,i6 n1,.z (c1:Int),i5 m2,i6 n2,.z (c2:Int)]) 5)=m2:=dh _
  have e5:cK (D.aa (.r [.r r,.z e,i5 m1,i6 n1,.z (c1:Int),i5 m2,i6 n2,.z (c2:Int)]) 6)=n2:=nb _
  have e6:cJ (D.aa (.r [.r r,.z e,i5 m1,i6 n1,.z (c1:Int),i5 m2,i6 n2,.z (c2:Int)]) 7)=c2:=na _
  simp only[wy,e1,e2,e3,e4,e5,e6]
  exact .ret
 by_cases hall:l.all x.cN=true
 ·rw[ag8 hall]at hd
  rw[hd.1,hd.2]
  have hm:=hx.Rz.ah hall
  have hnd:(x.ah l).Nodup:=by unfold Wl.ah;exact hx.Ju.Iy.lJ.sublist aiz
  refine⟨fun h=>by simp at h,fun _=>⟨_,_,rfl,adj hx.Ju hx.Rz hW (x.ah l) hm hnd,?_⟩⟩
  rintro d2 ⟨h1,h2,f',h3⟩
  rw[h1,h2,h3]
  refine⟨fun h=>by simp at h,fun _=>⟨rfl,_,res _ _ _ _ _ _ _ _,?_⟩⟩
  simp only[QS]
  rw[ag8 hall]
  exact⟨rfl,rfl,dh _,f',dh _⟩
 ·rw[ag4 hall]at hd
  rw[hd.2]
  refine⟨fun _=>⟨rfl,_,res [] 190 _ _ _ _ _ _,?_⟩,fun h=>by simp at h⟩
  simp only[QS]
  rw[ag4 hall]
  exact⟨rfl,rfl,dh _,dh _⟩
noncomputable abbrev QSr (R:RS)(x:Wl)(l:List Su)(d:D):Prop:=if l.all x.cN then (d.aa 0).ae=aw (x.ah l)/\(d.aa 1).int=0/\(d.aa 2).ae=(x.drop (x.ah l)).an.ak
 else (d.aa 0).ae=[]/\(d.aa 1).int=190/\(d.aa 2).ae=R.th
theorem WB (hR:Fe R x.ro):PH uM (IK R (l.map Su.ax)) (Rm R) 1 Cl (QSr R x l):=by
 refine Qp ?_
 simp only[rk]
 refine⟨_,_,rfl,QJ hx.Ju hx.len hR hx.Rz.Mz l hs,?_⟩
 intro d hd
 simp only[QL]at hd
 by_cases hall:l.all x.cN=true
 ·rw[ag8 hall]at hd
  rw[hd.1,hd.2]
  have hm:=hx.Rz.ah hall
  have hnd:(x.ah l).Nodup:=by unfold Wl.ah;exact hx.Ju.Iy.lJ.sublist aiz
  refine⟨fun h=>by simp at h,fun _=>⟨_,_,rfl,aaw hx.Ju hx.Rz hR (x.ah l) hm hnd,?_⟩⟩
  rintro d2 ⟨h1,h2⟩
  rw[h2]
  refine⟨rfl,.r [.r (aw (x.ah l)),.z 0,.r (x.drop (x.ah l)).an.ak],.ret,?_⟩
  simp only[QSr]
  rw[ag8 hall]
  exact⟨rfl,rfl,rfl⟩
 ·rw[ag4 hall]at hd
  rw[hd.2]
  refine⟨fun _=>⟨rfl,.r [.r [],.z 190,.r R.th],.ret,?_⟩,fun h=>by simp at h⟩
  simp only[QSr]
  rw[ag4 hall]
  exact⟨rfl,rfl,rfl⟩
end
end
def Wl.BY.agD {x:Wl}(h:x.BY)(hs:x.vx)(hl:x.th.length<=2^20):x.O6:=by
 have hpar:x.pa.length<16:=by
  have:=h.par
  simp only[oJ,ag2,agW]at this
  exact this.1
 have one:x.an.one:=by rw[aV.one,Wl.ct];exact h.Iy.lJ
 have get:∀{e:En},e∈x.th->x.an.get e.r=some e.w:=fun he=>(aV.jF one).2 (ahp.2 ⟨_,he,rfl⟩)
 have okp:∀{e:En},e∈x.th->x.an.JW e.r e.w (x.an.ab e.w.of)=true:=fun he=>h.Q4.2.2 _ _ (get he)
 have s1:∀{e:En},e∈x.th->x.an.S1 e.w=true:=fun he=>(h.Q4.1 _ _ (get he)).1
 have F:∀{e:En},e∈x.th->e.w.F (x.pa.length+1:Nat):=fun he=>(h.Fl _ he).1
 refine⟨⟨hpar,h.GO,h.cut,h.Pr,hs.th,h.Iy,fun e he=>⟨(hs.ok.2.2.2.2.2.1 e he).2.2,hs.sz e he,(F he).cN⟩⟩,⟨one,fun e he=>(h.rb e he).1,fun e he=>(F he).1.1,fun e he=>(F he).2.1,?_,?_,?_,?_,?_,?_,?_,?_,?_⟩,hl,fun e he=>(h.rb e he).2⟩
 ·intro e he hk
  have:=okp he
  unfold aV.JW at this
  rcases hk with hk|hk
  ·simp only[hk,ahz,ag2,agW]at this;exact this.1.1
  ·simp only[hk,ahz,ahN,show ¬((7:Int)=6)by decide,agW]at this;exact this.1
 ·intro e he hk
  have:=okp he
  unfold aV.JW at this
  simp only[hk,ahz,ahN,show ¬((9:Int)=6)by decide,show ¬((9:Int)=7)by decide,agW]at this;exact this.1
 ·intro e he hk
  have:=okp he
  unfold aV.JW at this
  simp only[hk,ahz,ahN,show ¬((11:Int)=6)by decide,show ¬((11:Int)=7)by decide,show ¬((11:Int)=9)by decide,ag2,agW]at this;exact this.1.1
 ·intro e he hk
  have:=okp he
  unfold aV.JW at this
  simp only[hk,ahz,ahN,show ¬((14:Int)=6)by decide,show ¬((14:Int)=7)by decide,show ¬((14:Int)=9)by decide,show ¬((14:Int)=11)by decide,show ¬((14:Int)=15)by decide,show ¬((14:Int)=16)by decide,show ¬((14:Int)=13)by decide,agW]at this
  exact⟨this.1,this.2.1⟩
 ·intro e he hk
  have:=okp he
  unfold aV.JW at this
  simp only[hk,ahz,ahN,show ¬((15:Int)=6)by decide,show ¬((15:Int)=7)by decide,show ¬((15:Int)=9)by decide,show ¬((15:Int)=11)by decide,agW]at this
  exact⟨this.1,this.2.2.2,this.2.2.1⟩
 ·intro e he hk
  have:=okp he
  unfold aV.JW at this
  simp only[hk,ahz,ahN,show ¬((16:Int)=6)by decide,show ¬((16:Int)=7)by decide,show ¬((16:Int)=9)by decide,show ¬((16:Int)=11)by decide,show ¬((16:Int)=15)by decide,agW]at this
  exact⟨Wl.wb (by rw[this.1];decide),this.2.2⟩
 ·intro e he hk
  have:=okp he
  unfold aV.JW at this
  simp only[hk,ahz,ahN,show ¬((13:Int)=6)by decide,show ¬((13:Int)=7)by decide,show ¬((13:Int)=9)by decide,show ¬((13:Int)=11)by decide,show ¬((13:Int)=15)by decide,show ¬((13:Int)=16)by decide,agW]at this
  exact this
 ·intro e he hk
  exact(F he).2.2.2.2.2.2.2.1 (by omega)
 ·rintro r q ⟨y,hy,hq⟩
  have hs1:=(h.Q4.1 _ _ hy).1
  simp only[aV.S1,ag2,aiB,ahl,aV.CW,ahG]at hs1
  rcases hq with hq|hq
  ·exact hs1.1.1.1 q hq
  ·unfold Wh.eM at hq
   have a1:y.k=14\/y.k=11\/y.k=15\/y.k=16->sC y.k=true:=fun hk=>by rcases hk with hk|hk|hk|hk<;>simp[sC,dR,hk]
   have a2:y.k=15\/y.k=16->qS y.k=true:=fun hk=>by rcases hk with hk|hk<;>simp[qS,hk]
   have of:y.k=14\/y.k=11\/y.k=15\/y.k=16->x.is y.of:=fun hk=>by
    rcases hs1.1.1.2 with h2|h2
    ·rw[a1 hk]at h2;cases h2
    ·exact h2
   have km:y.k=15\/y.k=16->x.is y.km:=fun hk=>by
    rcases hs1.1.2 with h2|h2
    ·rw[a2 hk]at h2;cases h2
    ·exact h2
   split at hq
   ·rename_i hk
    rw[ahb]at hq;subst hq
    exact of (by omega)
   ·split at hq
    ·rename_i hk
     simp only[ag9,aiy,ajk]at hq
     rcases hq with rfl|rfl
     ·exact of (by omega)
     ·exact km hk
    ·cases hq
structure RD (x:Wl)(l:List Su):Prop where
 th:x.th.length<=60
 len:l.length<=12
 se:∀s∈l,s.se.length<=400
def ZA (x:Wl)(l:List Su)(hx:x.vx)(hl:l.length<2^30)(hs:∀s∈l,s.ok):fk pg ig [bu,eg] [x.ax,.r (l.map Su.ax)] [ai] (fun d=>D.bool d=true->RD x l):=by
 have hok:=hx.ok
 have hth:=hx.th
 have lp2:x.th.length<=60->l.length<=12->∀(ah:List Su) (i:Nat),l.drop i=ah->(∀s∈l.take i,s.se.length<=400)->ay pg ig [ai] (.dQ (fun d=>D.bool d=true->RD x l)) (rD x.ax (.r (l.map Su.ax)) i):=by
  intro k1 k2 ah
  induction ah with
  |nil=>
   intro i hd hall
   have hil:=drop_nil hd
   rw[ag5 hil]at hall
   refine C7 ?_
   have hn:¬(i:Int)<(l.length:Int):=by omega
   simp only[rk,D.bE,agV,hn,ahj,agZ,ag1,ag3,ahk]
   exact fun _=>⟨k1,k2,hall⟩
  |cons s ah ih=>
   intro i hd hall
   obtain⟨g1,g2,g3⟩:=aB hd
   have hcl:(i:Int)<(l.length:Int):=by omega
   refine C7 ?_
   simp only[rk,D.bE,agV,hcl,aU g3,bn g1,Su.fv,Su.HZ,ag6,ahg,ag0,ag1,ag3,ahf,bo g3 (by omega),agW,agX,D.bz,agZ]
   refine⟨fun _=>trivial,fun _=>⟨fun _=>trivial,fun h=>ih (i+1) g2 fun q hq=>?_⟩⟩
   rw[aQ g1]at hq
   rcases ahd.1 hq with hq|hq
   ·exact hall q hq
   ·rw[ahb]at hq;subst hq;omega
 have lp1:x.th.length<=60->l.length<=12->∀(ah:List En) (i:Nat),x.th.drop i=ah->ay pg ig [ai] (.dQ (fun d=>D.bool d=true->RD x l)) (tu x.ax (.r (l.map Su.ax)) i):=by
  intro k1 k2 ah
  induction ah with
  |nil=>
   intro i hd
   have hil:=drop_nil hd
   refine EN ?_
   have hn:¬(i:Int)<(x.th.length:Int):=by omega
   simp only[rk,Wl.kQ,agV,hn,ahj,agZ,ag1,ag3,ahk]
   exact lp2 k1 k2 l 0 rfl (by simp)
  |cons e ah ih=>
   intro i hd
   obtain⟨g1,g2,g3⟩:=aB hd
   have hem:=agY g1
   have hcl:(i:Int)<(x.th.length:Int):=by omega
   refine EN ?_
   simp only[rk,Wl.kQ,agV,hcl,aU g3,bn g1,En.Ug,Wh.re,ag6,ahg,ag0,ag1,ag3,ahf,bo g3 (by omega)]
   refine⟨_,_,_,rfl,aca e.w (hok.2.2.2.2.2.1 e hem).2.2 (hx.sz e hem),?_⟩
   rintro _ rfl
   exact⟨fun _ h=>by simp at h,fun _=>ih (i+1) g2⟩
 refine SU ?_
 simp only[rk,Wl.kQ,Wl.nf,Wl.Fj,Wl.vi,D.bE,agV,agW,agX,D.bz,agZ,ag1]
 exact⟨fun _=>trivial,fun h1=>⟨fun _=>trivial,fun _=>⟨fun _=>trivial,fun _=>⟨fun _=>trivial,fun _=>⟨fun _=>trivial,fun h2=>lp1 (by omega) (by omega) x.th 0 rfl⟩⟩⟩⟩⟩
section
def Wl.LJ (x:Wl)(y:Wh):Wl:={x with th:=x.th++[⟨x.la+1,y⟩],la:=x.la+1,ma:=if y.k=14 then x.ma else x.ma.set y.h.toNat (x.ma.getD y.h.toNat 0+1)}
noncomputable abbrev EA (W:WS)(d:D):WS:=WS.mk W.pa W.cu (cn (D.aa d 1)) (cK (D.aa d 2)) (cJ (D.aa d 3)) (cn (D.aa d 4)) (cK (D.aa d 5)) (cJ (D.aa d 6)) (d.aa 0).int (d.aa 7).ae
noncomputable def F8 (W:WS)(r e:Int):D:= .r [.z W.la,i5 W.th,i6 W.st,.z W.ck,i5 W.fa,i6 W.sf,.z W.cf,.r W.ma,.z r,.z e]
def Ns (W:WS)(r e:Int):D.int (D.aa (F8 W r e) 0)=W.la:=rfl
def Nt (W:WS)(r e:Int):cn (D.aa (F8 W r e) 1)=W.th:=dh _
def Nu (W:WS)(r e:Int):cK (D.aa (F8 W r e) 2)=W.st:=nb _
def Nv (W:WS)(r e:Int):cJ (D.aa (F8 W r e) 3)=W.ck:=na _
def Nw (W:WS)(r e:Int):cn (D.aa (F8 W r e) 4)=W.fa:=dh _
def Ny (W:WS)(r e:Int):cK (D.aa (F8 W r e) 5)=W.sf:=nb _
def Nz (W:WS)(r e:Int):cJ (D.aa (F8 W r e) 6)=W.cf:=na _
def NA (W:WS)(r e:Int):D.ae (D.aa (F8 W r e) 7)=W.ma:=rfl
def RK (W:WS)(r e:Int):D.int (D.aa (F8 W r e) 8)=r:=rfl
def XJ (W:WS)(r e:Int):D.int (D.aa (F8 W r e) 9)=e:=rfl
def RL (V W:WS)(r e:Int)(h1:V.pa=W.pa)(h2:V.cu=W.cu):EA V (F8 W r e)=W:=by
 simp only[EA,Ns,Nt,Nu,Nv,Nw,Ny,Nz,NA,h1,h2]
section
variable {W:WS} {x:Wl} {f:gX}
def acA (hW:zC W (x.wo f))(y:Wh)(hla:0<=x.la/\x.la<2^62)(hno:x.an.get (x.la+1)=none)(hh:y.k≠14->0<=y.h/\y.h<x.ma.length/\∀m∈x.ma,0<=m/\m<2^62):
 PH pJ (Nh W y.ax) (Wm W) 3 Dv (fun d=>(d.aa 8).int=x.la+1/\∃f':gX,(y.k≠14->f'=f)/\zC (EA W d) ((x.LJ y).wo f')):=by
 have hWla:W.la=x.la:=hW.la
 have hWma:W.ma=aw x.ma:=hW.ma
 have hWth:W.th=x.an.ax:=hW.th
 have hw:IntKind.i64.wrap (x.la+1)=x.la+1:=bO (by omega) (by omega)
 have eth:x.an.ax++[(D.z (x.la+1),y.ax)]=(x.LJ y).an.ax:=by simp[aV.ax,Wl.an,Wl.LJ]
 have hget:(x.LJ y).an.get (x.la+1)=some y:=by
  have e:(x.LJ y).an=x.an++[(x.la+1,y)]:=by simp[Wl.an,Wl.LJ]
  rw[e,aV.Ba,hno];simp[aV.get]
 refine abS ?_
 simp only[rk,hWla,hWth,hw,Wh.re,aV.cS,hno,eth,hget,aV.val hget,ajX,ahU,agZ,ag0,ag1,ag3,ahk,ahf]
 have hW1:zC (WS.mk W.pa W.cu (x.LJ y).an.ax (W.st++[W.ck]) (W.ck+1) W.fa W.sf W.cf (x.la+1) W.ma) {(x.wo f)with th:=(x.LJ y).an,la:=x.la+1}:=⟨hW.pa,hW.cu,rfl,hW.fa,rfl,hW.ma⟩
 refine⟨_,_,rfl,TW hW1 (x.la+1) y hget,?_⟩
 intro d hd
 obtain⟨f2,hf2,hd⟩:∃f2:gX,(y.k≠14->f2=f)/\cn (D.aa d 0)=f2.ax:=⟨_,fun h=>by simp[Wo.idx,h],hd⟩
 have res:∀(ma:List D) (ma':List Int),ma=aw ma'->(x.LJ y).ma=ma'->ma.length=W.ma.length->Gf.bx=some 3/\∃d',T.dy (BV.int .i64 (x.la+1),[(0,aI.cells [.bw cC W.pa,.aZ 3 W.cu.length true,.map 1,.map 2,.int .i64 (x.la+1),.aZ 4 W.ma.length true] bh false),(1,.bg aA (.bY 1 aH) (x.LJ y).an.ax (W.st++[W.ck]) (W.ck+1)),(2,.bg aF (.data aA) (cn (D.aa d 0)) (cK (D.aa d 1)) (cJ (D.aa d 2))),(3,.ak ai W.cu true),(4,.ak af ma true)]) (Dv (Nh W y.ax) (Wm W) d')/\D.int (D.aa d' 8)=x.la+1/\∃f':gX,(y.k≠14->f'=f)/\zC (EA W d') ((x.LJ y).wo f'):=fun ma ma' h1 h2 h3=>by
  refine⟨rfl,F8 (WS.mk W.pa W.cu (x.LJ y).an.ax (W.st++[W.ck]) (W.ck+1) (cn (D.aa d 0)) (cK (D.aa d 1)) (cJ (D.aa d 2)) (x.la+1) ma) (x.la+1) 0,?_,rfl,f2,hf2,?_⟩
  ·simp only[Dv,Ns,Nt,Nu,Nv,Nw,Ny,Nz,NA,RK]
   rw[<-h3]
   exact .ret
  ·rw[RL W (WS.mk W.pa W.cu (x.LJ y).an.ax (W.st++[W.ck]) (W.ck+1) (cn (D.aa d 0)) (cK (D.aa d 1)) (cJ (D.aa d 2)) (x.la+1) ma) _ _ rfl rfl]
   exact⟨hW.pa,hW.cu,rfl,hd,rfl,by rw[h1];exact(ahE aw h2).symm⟩
 simp only[Wh.cU,Wh.mH,hWma,agV,aiI,aic,ahV]
 refine⟨fun h14=>?_,fun h14=>?_⟩
 ·obtain⟨a1,a2,a3⟩:=hh h14
  obtain⟨n,hn⟩:=ai1 a1
  have hnl:n<x.ma.length:=by omega
  have hg:x.ma[n]?=some x.ma[n]:=ag7 hnl
  have hb:=a3 _ (ajo hnl)
  simp only[hn,aU hnl,ag6,hnl,ahg,ag3,ag0,ag1,ahf,show D.at (aw x.ma) n= .z x.ma[n]from bn hg,D.bV]
  rw[bO (by omega) (by omega)]
  have:=res (List.set W.ma n (.z (x.ma[n]+1))) (x.ma.set n (x.ma[n]+1)) (by rw[hWma];simp[aw,akH]) (by simp[Wl.LJ,h14,hn,List.getD,hg]) (by simp)
  rw[hWma,agV]at this
  exact this
 ·have:=res W.ma x.ma hWma (by simp[Wl.LJ,h14]) rfl
  rw[hWma]at this
  exact this
def aax (hW:zC W (x.wo f))(e:En)(he:x.an.get e.r=some e.w)(hk:e.w.k≠14/\e.w.k≠15/\e.w.k≠16)(s:Int)(hs:s≠mP (mP 63 63) (B9 e.w.k))
 (hs2:js s (mP (mP 63 63) (B9 e.w.k))=0)(hfa:f.get e.r s=none)(hla:0<=x.la/\x.la<2^62)(hno:x.an.get (x.la+1)=none):
 PH zT (Mm W e.r s) (Wm W) 3 Du (fun d=>(d.aa 8).int=x.la+1/\(d.aa 9).int=0/\∃f':gX,zC (EA W d) ((x.LJ ⟨14,0,.zero,[],0,0,e.r,0,s,false,[],[]⟩).wo f')):=by
 have hth:(x.wo f).th=x.an:=rfl
 have hWfa:W.fa=f.ax:=hW.fa
 have hab:x.an.xd 1 e.r 63=some (mP (mP 63 63) (B9 e.w.k)):=by
  simp only[aV.xd,he];rw[ag4 hk.1,ag4 (by omega)]
 refine VN ?_
 simp only[rk]
 refine⟨_,_,rfl,Co hW e.r,?_⟩
 intro d0 hd0
 rw[hth,he]at hd0
 rw[hd0]
 refine⟨fun h=>(by cases h),fun _=>⟨_,_,rfl,RE hW e.r _ 1 hab,?_⟩⟩
 intro d1 hd1
 rw[hd1]
 refine⟨_,_,rfl,zd hW e.r,?_⟩
 intro d2 hd2
 have hkd:(x.wo f).th.kind e.r=e.w.k:=by simp only[aV.kind,hth,he]
 rw[hd2,hkd]
 refine⟨fun h=>absurd (by simpa using h) hk.1,fun _=>⟨fun h=>absurd (by simpa using h) hs,fun _=>⟨fun h=>?_,fun _=>⟨fun h=>?_,fun _=>?_⟩⟩⟩⟩
 ·exact absurd hs2 (by simpa [js]using h)
 ·rw[hWfa,gX.cS,hfa]at h;cases h
 ·have el:(D.r [(D.z 14),(D.z 0),(D.r [(D.z 0),(D.z 0),(D.s []),(D.r []),(D.z 0)]),(D.r []),(D.z 0),(D.z 0),(D.z e.r),(D.z 0),(D.z s),(D.b false),(D.r []),(D.r [])])=Wh.ax ⟨14,0,.zero,[],0,0,e.r,0,s,false,[],[]⟩:=rfl
  rw[el]
  refine⟨_,_,rfl,acA hW ⟨14,0,.zero,[],0,0,e.r,0,s,false,[],[]⟩ hla hno (fun h=>absurd rfl h),?_⟩
  rintro d ⟨h1,f',_,h2⟩
  refine⟨rfl,F8 (EA W d) (d.aa 8).int 0,?_,h1,rfl,f',?_⟩
  ·simp only[Du,Ns,Nt,Nu,Nv,Nw,Ny,Nz,NA,RK,XJ]
   exact .ret
  ·rw[RL W (EA W d) _ _ rfl rfl];exact h2
end
end
def Uj (x:Ex):x.ok->fk pg dK [aG,aG] [x.ax,x.ax] [ai] (·= .b true):=by
 induction x using Ex.GM with|h x ih=>
 intro hx
 have hok:=(Ex.gL x).1 hx
 have loop:∀(ah:List Ex) (i:Nat),x.l.drop i=ah->ay pg dK [ai] (.dQ (·= .b true)) (oo x.ax x.ax i):=by
  intro ah
  induction ah with
  |nil=>
   intro i hd
   have:=drop_nil hd
   refine Ar ?_
   have hn:¬(i:Int)<(x.l.length:Int):=by omega
   simp only[rk,Ex.vA,agV,hn,ahj,agZ,ag1,ag3,ahk]
  |cons y ah ihr=>
   intro i hd
   obtain⟨g1,g2,g3⟩:=aB hd
   have hy:=agY g1
   have hcl:(i:Int)<(x.l.length:Int):=by omega
   refine Ar ?_
   simp only[rk,Ex.vA,agV,hcl,aU g3,ag6,bn g1,Ex.re,bo g3 (by omega),ahg,ag3,ag0,ag1,ahf]
   refine⟨_,_,_,rfl,ih y hy (hok.2.2.2.2.2.2 y hy),?_⟩
   rintro _ rfl
   exact⟨fun h=>by simp at h,fun _=>ihr (i+1) g2⟩
 refine LX ?_
 simp only[rk,ahZ,akN,aip,agZ,ag1,ag3,ahk]
 exact loop x.l 0 rfl
def U4 (l:List St):St.Ag l->fk pg cG [bK,bK] [.r (l.map St.ax),.r (l.map St.ax)] [ai] (·= .b true):=by
 induction l using St.N1 with|h l ih=>
 intro hl
 have hll:=hl.1
 have strs_at:∀{q:List Ei} {k:Nat} {z:Ei},q[k]?=some z->D.at (Dm q) k= .s z:=fun h=>bn h
 have lp2:∀(s:St) (i:Nat),i<l.length->s.wi.length<2^63->ay pg cG [ai] (.dQ (·= .b true)) (j6 (.r (l.map St.ax)) (.r (l.map St.ax)) ((i+1:Nat):Int))->
  ∀(ah:List Ei) (k:Nat),s.wi.drop k=ah->ay pg cG [ai] (.dQ (·= .b true)) (jH (.r (l.map St.ax)) (.r (l.map St.ax)) k i s.ax s.ax):=by
  intro s i hi hw done ah
  induction ah with
  |nil=>
   intro k hd
   have:=drop_nil hd
   refine vE ?_
   have hn:¬(k:Int)<(s.wi.length:Int):=by omega
   simp only[rk,St.CE,agV,hn,ahj,agZ,ag1,ag3,ahk,bo hi (by omega)]
   exact done
  |cons z ah ihr=>
   intro k hd
   obtain⟨g1,g2,g3⟩:=aB hd
   have hcl:(k:Int)<(s.wi.length:Int):=by omega
   refine vE ?_
   simp only[rk,St.CE,agV,hcl,aU g3,ag6,akN,aip,bo g3 (by omega),ahg,ag3,ag0,agZ,ag1,ahf,ahk]
   exact ihr (k+1) g2
 have lp1:∀(ah:List St) (i:Nat),l.drop i=ah->ay pg cG [ai] (.dQ (·= .b true)) (j6 (.r (l.map St.ax)) (.r (l.map St.ax)) i):=by
  intro ah
  induction ah with
  |nil=>
   intro i hd
   have:=drop_nil hd
   refine Ao ?_
   have hn:¬(i:Int)<(l.length:Int):=by omega
   simp only[rk,D.bE,agV,hn,ahj,agZ,ag1,ag3,ahk]
  |cons s ah ihr=>
   intro i hd
   obtain⟨g1,g2,g3⟩:=aB hd
   have hs:=agY g1
   have so:=(St.gL s).1 (hl.2 s hs)
   obtain⟨o1,o2,o3,_⟩:=hl.th hs
   obtain⟨i1,i2,i3⟩:=ih s hs
   have hcl:(i:Int)<(l.length:Int):=by omega
   refine Ao ?_
   simp only[rk,D.bE,agV,hcl,aU g3,ag6,bn g1,St.CB,St.KA,St.kQ,St.CC,St.iI,Ex.re,ahZ,akN,aip,ahg,ag3,ag0,agZ,ag1,ahf,ahk]
   refine⟨_,_,_,rfl,Uj s.a so.2.2.2.2.2.2.2.2.1,?_⟩
   rintro _ rfl
   refine⟨fun h=>by simp at h,fun _=>⟨_,_,_,rfl,Uj s.b so.2.2.2.2.2.2.2.2.2.1,?_⟩⟩
   rintro _ rfl
   refine⟨fun h=>by simp at h,fun _=>⟨_,_,_,rfl,i1 o1,?_⟩⟩
   rintro _ rfl
   refine⟨fun h=>by simp at h,fun _=>⟨_,_,_,rfl,i2 o2,?_⟩⟩
   rintro _ rfl
   refine⟨fun h=>by simp at h,fun _=>⟨_,_,_,rfl,i3 o3,?_⟩⟩
   rintro _ rfl
   exact⟨fun h=>by simp at h,fun _=>lp2 s i g3 (so.2.2.2.2.2.2.2.2.2.2.2.2.2.2.2.2.1) (ihr (i+1) g2) s.wi 0 rfl⟩
 refine LR ?_
 simp only[rk,ahZ,agZ,ag1,ag3,ahk]
 exact lp1 l 0 rfl
def Lu (v:aE)(h:v.ok):fk pg fy [av,av] [v.ax,v.ax] [ai] (·= .b true):=by
 have:=UB v v h h
 rwa [(aE.Hq v v).2 rfl]at this
def W7 (y:Wh)(h:y.ok)(hs:y.sz<2^30):fk pg gR [aH,aH] [y.ax,y.ax] [ai] (·= .b true):=by
 have hov:=h.aJ
 have hls:=y.Ft
 simp only[Wh.sz]at hs
 have loop:∀(ah:List ga) (i:Nat),y.ns.drop i=ah->ay pg gR [ai] (.dQ (·= .b true)) (og y.ax y.ax i):=by
  intro ah
  induction ah with
  |nil=>
   intro i hd
   have:=drop_nil hd
   refine Ap ?_
   have hn:¬(i:Int)<(y.ns.length:Int):=by omega
   simp only[rk,Wh.fv,Wh.iI,agV,hn,ahj,agZ,ag1,ag3,ahk]
   refine⟨_,_,_,rfl,U4 y.co h.co,?_⟩
   rintro _ rfl
   rfl
  |cons n ah ihr=>
   intro i hd
   obtain⟨g1,g2,g3⟩:=aB hd
   have hn:=agY g1
   have hcl:(i:Int)<(y.ns.length:Int):=by omega
   refine Ap ?_
   simp only[rk,Wh.fv,agV,hcl,aU g3,ag6,bn g1,ga.mI,lK,akN,aip,ahg,ag3,ag0,agZ,ag1,ahf,ahk,bo g3 (by omega)]
   refine⟨_,_,_,rfl,Lu n.v (hov n.v (by simp only[Wh.aJ,ag9,ahd,ahp];exact .inr (.inr ⟨n,hn,rfl⟩))),?_⟩
   rintro _ rfl
   exact⟨fun h=>by simp at h,fun _=>ihr (i+1) g2⟩
 have lok:(aE.mk 3 0 [] y.vs 0).ok:=by
  rw[aE.gL]
  simp only[aE.k,aE.n,aE.s,aE.l,aE.r]
  refine⟨by omega,by omega,by omega,by omega,by simp,by omega,by omega,by omega,fun v hv=>hov v (by simp[Wh.aJ,hv])⟩
 have le:(aE.mk 3 0 [] y.vs 0).ax=D.r [.z 3,.z 0,.s [],.r (y.vs.map aE.ax),.z 0]:=aE.aD _
 refine LS ?_
 simp only[rk,Wh.mI,Wh.sP,lK,ahZ,akN,aip,agZ,ag1,ag3,ahk]
 refine⟨_,_,_,rfl,Lu y.v (hov _ (by simp[Wh.aJ])),?_⟩
 rintro _ rfl
 have rl:fk pg wO [dE] [.r (y.vs.map aE.ax)] [av] (·=(aE.mk 3 0 [] y.vs 0).ax):=by
  refine We ?_
  simp only[rk,D.bE,le]
 refine⟨fun h=>by simp at h,fun _=>⟨_,_,_,rfl,rl,?_⟩⟩
 rintro _ rfl
 refine⟨_,_,_,rfl,rl,?_⟩
 rintro _ rfl
 rw[lK]
 refine⟨_,_,_,rfl,Lu _ lok,?_⟩
 rintro _ rfl
 exact⟨fun h=>by simp at h,fun _=>loop y.ns 0 rfl⟩
def Lw (x:Wl)(hi:x.OU):fk pg dH [bu,bu] [x.ax,x.ax] [ai] (·= .b true):=by
 have hth:=hi.th
 have h1:=hi.par
 have h2:=hi.GO
 have hcu:x.cu.length<2^62:=by
  have:=hG (ks:=(List.range 17).map Int.ofNat) hi.Pr.lJ fun q hq=>by
   obtain⟨a,b⟩:=hi.cut q hq
   exact ahp.2 ⟨q.toNat,ai2.2 (by omega),by show (q.toNat:Int)=q;omega⟩
  simp at this;omega
 have lp4:∀(ah:List En) (i:Nat),x.th.drop i=ah->ay pg dH [ai] (.dQ (·= .b true)) (tE x.ax x.ax i):=by
  intro ah
  induction ah with
  |nil=>
   intro i hd
   have:=drop_nil hd
   refine E0 ?_
   have hn:¬(i:Int)<(x.th.length:Int):=by omega
   simp only[rk,Wl.kQ,agV,hn,ahj,agZ,ag1,ag3,ahk]
  |cons e ah ihr=>
   intro i hd
   obtain⟨g1,g2,g3⟩:=aB hd
   have he:=agY g1
   obtain⟨w1,w2,_⟩:=hi.w e he
   have hcl:(i:Int)<(x.th.length:Int):=by omega
   refine E0 ?_
   simp only[rk,Wl.kQ,agV,hcl,aU g3,ag6,bn g1,En.Ug,Wh.re,ahZ,ahg,ag3,ag0,agZ,ag1,ahf,ahk,bo g3 (by omega)]
   refine⟨_,_,_,rfl,W7 e.w w1 w2,?_⟩
   rintro _ rfl
   exact⟨fun h=>by simp at h,fun _=>ihr (i+1) g2⟩
 have lp3:∀(ah:List Int) (i:Nat),x.ma.drop i=ah->ay pg dH [ai] (.dQ (·= .b true)) (tD x.ax x.ax i):=by
  intro ah
  induction ah with
  |nil=>
   intro i hd
   have:=drop_nil hd
   refine EZ ?_
   have hn:¬(i:Int)<(x.ma.length:Int):=by omega
   simp only[rk,Wl.vi,agV,hn,ahj,agZ,ag1,ag3,ahk]
   exact lp4 x.th 0 rfl
  |cons e ah ihr=>
   intro i hd
   obtain⟨g1,g2,g3⟩:=aB hd
   have hcl:(i:Int)<(x.ma.length:Int):=by omega
   refine EZ ?_
   simp only[rk,Wl.vi,agV,hcl,aU g3,ahZ,ahg,ag3,ag0,agZ,ag1,ahf,ahk,bo g3 (by omega)]
   exact ihr (i+1) g2
 have lp2:∀(ah:List Int) (i:Nat),x.cu.drop i=ah->ay pg dH [ai] (.dQ (·= .b true)) (tC x.ax x.ax i):=by
  intro ah
  induction ah with
  |nil=>
   intro i hd
   have:=drop_nil hd
   refine EY ?_
   have hn:¬(i:Int)<(x.cu.length:Int):=by omega
   simp only[rk,Wl.Fj,agV,hn,ahj,agZ,ag1,ag3,ahk]
   exact lp3 x.ma 0 rfl
  |cons e ah ihr=>
   intro i hd
   obtain⟨g1,g2,g3⟩:=aB hd
   have hcl:(i:Int)<(x.cu.length:Int):=by omega
   refine EY ?_
   simp only[rk,Wl.Fj,agV,hcl,aU g3,ahZ,ahg,ag3,ag0,agZ,ag1,ahf,ahk,bo g3 (by omega)]
   exact ihr (i+1) g2
 have lp1:∀(ah:List Int) (i:Nat),x.pa.drop i=ah->ay pg dH [ai] (.dQ (·= .b true)) (vY x.ax x.ax i):=by
  intro ah
  induction ah with
  |nil=>
   intro i hd
   have:=drop_nil hd
   refine Hg ?_
   have hn:¬(i:Int)<(x.pa.length:Int):=by omega
   simp only[rk,Wl.nf,agV,hn,ahj,agZ,ag1,ag3,ahk]
   exact lp2 x.cu 0 rfl
  |cons e ah ihr=>
   intro i hd
   obtain⟨g1,g2,g3⟩:=aB hd
   have hcl:(i:Int)<(x.pa.length:Int):=by omega
   refine Hg ?_
   simp only[rk,Wl.nf,agV,hcl,aU g3,ahZ,ahg,ag3,ag0,agZ,ag1,ahf,ahk,bo g3 (by omega)]
   exact ihr (i+1) g2
 refine V9 ?_
 simp only[rk,ahZ,agZ,ag1,ag3,ahk]
 exact lp1 x.pa 0 rfl
def FX {x:Wl}{l:List Su}{r:List Int}{d:D}(h:QL x l r d):(d.aa 0).ae=aw (if l.all x.cN then r else [])/\(d.aa 1).int=if l.all x.cN then 0 else 190:=by
 simp only[QL]at h
 split at h<;>rename_i c
 ·rw[ag8 c,ag8 c];exact h
 ·rw[ag4 c,ag4 c];exact h
def Yx (x:Wl)(l:List Su):(x.fL l).length<=x.th.length/\(x.ah l).length<=x.th.length:=by
 unfold Wl.fL Wl.ah
 exact⟨ahD (ah1 _ _) (by simp),ahD (ah1 _ _) (by simp)⟩
noncomputable abbrev GT (x:Wl)(l:List Su):mR:= .bx 0 (gZ (jI x.ax (l.map Su.ax)) []) (fun d=>D.bool d=true)
def ZR (l:List Int)(hl:l.length<2^30):PH ie (wW (aw l) (aw l)) (wZ (aw l) (aw l)) 0 sA (fun d=>(d.aa 0).bool=true):=fun g w aq9' hr ha=>
 (Yu l hl g w aq9' hr ha).mono fun _ _ ⟨v,g',d,y,h1,h2,h3,_,h5,h6,h7⟩=>⟨v,g',d,y,h1,h2,h3,RC.zero _ _,h5,h6,h7⟩
def TH (PK:PH kr xP xR 0 tS (fun d=>D.bool d=true))(x:Wl)(l:List Su)(hx:x.vx)(hl:l.length<2^20)(hs:∀s∈l,s.vx)(hall:(gi l).length<2^30):
 PH fw (jI x.ax (l.map Su.ax)) [] 0 gZ (fun d=>D.bool d=true):=by
 have bj:∀d:D,D.bool d=true->fq.bx=some 0/\∃d',T.dy (BV.bool (D.bool d),([]:List (Nat×aI))) (gZ (jI x.ax (l.map Su.ax)) [] d')/\D.bool d'=true:=fun d h=>⟨rfl,d,.ret,h⟩
 have loop:SuS l->∀(n i:Nat) (x':Wl) (W:WS) (R:RS) (f:gX),2-i=n->i<=2->x'.O6->(∀p∈x'.pa,-2^63<=p/\p<2^63)->zC W (x'.wo f)->Fe R x'.ro->
  ay pg fw [ai] (GT x l) (jk x.ax (l.map Su.ax) W.pa W.cu.length W.la W.ma.length R.pa.length R.cu.length R.th.length R.la R.ma.length W.th W.st W.ck W.fa W.sf W.cf W.cu W.ma R.pa R.cu R.th R.ma i):=by
  intro hS n
  induction n with
  |zero=>
   intro i x' W R f hi hi2 hF hp hW hR
   refine u6 ?_
   have hn:¬(i:Int)<2:=by omega
   simp only[rk,hn,ahj,agZ,ag1,ag3,ahk]
   exact⟨_,_,rfl,PK,fun d hd=>bj d hd⟩
  |succ n ih=>
   intro i x' W R f hi hi2 hF hp hW hR
   have hcl:(i:Int)<2:=by omega
   have hlen:=Yx x' l
   have hth:=hF.len
   refine u6 ?_
   simp only[rk,hcl,ahg,ag3,ag0,ag1,ahf]
   refine⟨_,_,rfl,ZO hF.Ju hF.len hW hF.Rz.Mz hF.la l hS,?_⟩
   intro d0 hd0
   obtain⟨a0,e0⟩:=FX hd0
   refine⟨_,_,rfl,QI hF.Ju hF.len hR hF.Rz.Mz l hS,?_⟩
   intro d1 hd1
   obtain⟨a1,e1⟩:=FX hd1
   refine⟨_,_,rfl,ZP hF.Ju hF.len hW hF.Rz.Mz hF.la l hS,?_⟩
   intro d2 hd2
   obtain⟨a2,e2⟩:=FX hd2
   refine⟨_,_,rfl,QJ hF.Ju hF.len hR hF.Rz.Mz l hS,?_⟩
   intro d3 hd3
   obtain⟨a3,e3⟩:=FX hd3
   refine⟨_,_,rfl,acj hF.Ju hF.len hW hF.Rz.Mz hF.la l hS,?_⟩
   intro d4 hd4
   have hd4:(d4.aa 0).int=((aw (if l.all x'.cN then x'.fL l else [])).length:Int)/\(d4.aa 1).int=((aw (if l.all x'.cN then x'.ah l else [])).length:Int)/\(d4.aa 2).int=if l.all x'.cN then 0 else 190:=by
    split at hd4<;>rename_i c
    ·rw[ag8 c,ag8 c,ag8 c,agV,agV];exact hd4
    ·rw[ag4 c,ag4 c,ag4 c];exact hd4
   obtain⟨b0,b1,b2⟩:=hd4
   have lA:(if l.all x'.cN then x'.fL l else []).length<2^30:=by split<;>simp<;>omega
   have lR:(if l.all x'.cN then x'.ah l else []).length<2^30:=by split<;>simp<;>omega
   rw[a0,a1,a2,a3,e0,e1,e2,e3,b0,b1,b2]
   simp only[ahZ,agZ,ag1,ag3,ahk]
   refine⟨_,_,rfl,ZR _ lA,?_⟩
   intro d5 hd5
   rw[hd5]
   refine⟨fun h=>(by simp at h),fun _=>⟨_,_,rfl,ZR _ lR,?_⟩⟩
   intro d6 hd6
   rw[hd6]
   refine⟨fun h=>(by simp at h),fun _=>⟨_,_,rfl,Nn hF.Ju hW,?_⟩⟩
   rintro _ rfl
   refine⟨_,_,rfl,TV hF.Ju hR hp,?_⟩
   rintro _ rfl
   rw[Wl.re]
   refine⟨_,_,_,rfl,Lw x' hF.Ju,?_⟩
   rintro _ rfl
   refine⟨fun h=>(by simp at h),fun _=>⟨_,_,rfl,UK hF l hS hW,?_⟩⟩
   intro d10 hd10
   refine⟨_,_,rfl,WB hF l hS hR,?_⟩
   intro d11 hd11
   obtain⟨x2,r,e,f2,k1,k2,k3,k4,k5,k6,k7,k8,k9⟩:∃(x2:Wl) (r:List Int) (e:Int) (f2:gX),x2.O6/\x2.pa=x'.pa/\r.length<2^30/\(d10.aa 0).ae=aw r/\(d10.aa 1).int=e/\(d11.aa 0).ae=aw r/\(d11.aa 1).int=e/\
    zC (WS.mk W.pa W.cu (cn (D.aa d10 2)) (cK (D.aa d10 3)) (cJ (D.aa d10 4)) (cn (D.aa d10 5)) (cK (D.aa d10 6)) (cJ (D.aa d10 7)) W.la W.ma) (x2.wo f2)/\Fe (RS.mk R.pa R.cu (d11.aa 2).ae R.la R.ma) x2.ro:=by
    simp only[QS]at hd10
    simp only[QSr]at hd11
    by_cases c:l.all x'.cN=true
    ·rw[ag8 c]at hd10 hd11
     obtain⟨s1,s2,s3,f2,s4⟩:=hd10
     obtain⟨t1,t2,t3⟩:=hd11
     exact⟨x'.drop (x'.ah l),x'.ah l,0,f2,hF.drop (hF.Rz.ah c),rfl,by omega,s1,s2,t1,t2,⟨hW.pa,hW.cu,s3,s4,hW.la,hW.ma⟩,⟨hR.pa,hR.cu,t3,hR.la,hR.ma⟩⟩
    ·rw[ag4 c]at hd10 hd11
     obtain⟨s1,s2,s3,s4⟩:=hd10
     obtain⟨t1,t2,t3⟩:=hd11
     exact⟨x',[],190,f,hF,rfl,by simp,s1,s2,t1,t2,⟨hW.pa,hW.cu,s3.trans hW.th,s4.trans hW.fa,hW.la,hW.ma⟩,⟨hR.pa,hR.cu,t3.trans hR.th,hR.la,hR.ma⟩⟩
   rw[k4,k5,k6,k7]
   simp only[ahZ,agZ,ag1,ag3,ahk]
   refine⟨_,_,rfl,ZR _ k3,?_⟩
   intro d12 hd12
   rw[hd12]
   refine⟨fun h=>(by simp at h),fun _=>⟨_,_,rfl,Nn k1.Ju k8,?_⟩⟩
   rintro _ rfl
   refine⟨_,_,rfl,TV k1.Ju k9 (by rw[k2];exact hp),?_⟩
   rintro _ rfl
   rw[Wl.re]
   refine⟨_,_,_,rfl,Lw x2 k1.Ju,?_⟩
   rintro _ rfl
   refine⟨fun h=>(by simp at h),fun _=>?_⟩
   rw[bo (show i<2 by omega) (by decide)]
   exact ih (i+1) x2 (WS.mk W.pa W.cu (cn (D.aa d10 2)) (cK (D.aa d10 3)) (cJ (D.aa d10 4)) (cn (D.aa d10 5)) (cK (D.aa d10 6)) (cJ (D.aa d10 7)) W.la W.ma) (RS.mk R.pa R.cu (d11.aa 2).ae R.la R.ma) f2 (by omega) (by omega) k1 (by rw[k2];exact hp) k8 k9
 have hok:=hx.ok
 refine Is ?_
 simp only[rk,Wl.re]
 refine⟨_,_,_,rfl,ZA x l hx (by omega) (fun s h=>(hs s h).ok),?_⟩
 intro d0 hd0
 refine⟨fun _=>⟨_,_,rfl,PK,fun d hd=>bj d hd⟩,fun h0=>?_⟩
 have sh:=hd0 (by simpa using h0)
 have hS:SuS l:=⟨hl,fun s h=>⟨hs s h,by have:=sh.se s h;omega⟩,hall⟩
 refine⟨_,_,rfl,aeH x hx,?_⟩
 rintro d2 ⟨g1,g2⟩
 refine⟨fun h2=>⟨_,_,rfl,UC x hx,?_⟩,fun h2=>⟨_,_,rfl,UC x hx,?_⟩⟩
 ·rintro d3 ⟨m1,m2⟩
  have rj:=g1.1 h2
  obtain⟨f,_,a1,a2,a3,a4,a5,a6⟩:=g2 rj
  obtain⟨b1,b2,b3,b4,b5⟩:=m2 rj
  refine⟨fun _=>?_,fun h3=>absurd (m1.2 rj) (by rw[h3];decide)⟩
  exact loop hS 2 0 x (WS.mk (d2.aa 1).ae (d2.aa 2).ae (cn (D.aa d2 5)) (cK (D.aa d2 6)) (cJ (D.aa d2 7)) (cn (D.aa d2 8)) (cK (D.aa d2 9)) (cJ (D.aa d2 10)) (d2.aa 3).int (d2.aa 4).ae)
   (RS.mk (d3.aa 1).ae (d3.aa 2).ae (d3.aa 3).ae (d3.aa 4).int (d3.aa 5).ae) f rfl (by omega) (rj.agD hx (by have:=sh.th;omega)) (fun p hp=>hok.2.1 p hp) ⟨a1,a2,a5,a6,a3,a4⟩ ⟨b1,b2,b3,b4,b5⟩
 ·rintro d3 ⟨m1,_⟩
  refine⟨fun h3=>absurd (g1.2 (m1.1 h3)) (by rw[h2];decide),fun _=>⟨_,_,rfl,PK,fun d hd=>bj d hd⟩⟩
end Go.Proofs
end
