import Derived.Test.YtpanfgalkajgdaaGreatM21
set_option linter.all false
noncomputable section
open Go.IntKind renaming wrap→wp
namespace Go.Proofs
open Go Go.PB
def akU (t:St)(b:Bool):D.af (fmD t b) 0=t.ar:=rfl
def akV (t:St)(b:Bool):D.bool (D.af (fmD t b) 1)=b:=rfl
def ajS (a b:Nat):(((a:Nat):Int)==((b:Nat):Int))=(a==b):=by rw[amW];simp;omega
def tk {s t:St}{b:Bool}(e:s.ya=(b&&s.tR t)):∃A b',t=A/\b=b'/\s.ya=(b'&&s.tR A):=⟨t,b,rfl,rfl,e⟩
def ak6 (s:St)(h:s.fD):dZ pg Oj [aJ] [s.ar] [aj] (·= .b s.ya):=by
 obtain⟨O,I⟩:∃b:Bool,b=true:=⟨_,rfl⟩;refine ahZ ?_;simp only[rk,St.Yt,St.re,amY,amF,an3];refine⟨fun o1=>⟨_,_,_,rfl,acd s h,?_⟩,fun n1=>⟨fun o2=>⟨_,_,_,rfl,ace s h,?_⟩,fun n2=>⟨fun o3=>⟨_,_,_,rfl,ahy s h,?_⟩,fun n3=>⟨fun o4=>⟨_,_,_,rfl,acf s h,?_⟩,fun Y=>⟨fun o5=>⟨_,_,_,rfl,acg s h,?_⟩,fun U=>⟨fun V=>⟨_,_,_,rfl,ach s h,?_⟩,fun n6=>⟨fun o7=>⟨_,_,_,rfl,aci s h,?_⟩,fun n7=>⟨fun o8=>⟨_,_,_,rfl,(I▸acj s:dZ pg xy [aJ] [s.ar] [aJ,aj] (·=fmD s.Ve O)),?_⟩,fun n8=>⟨fun o9=>⟨_,_,_,rfl,ack s h,?_⟩,fun n9=>?_⟩⟩⟩⟩⟩⟩⟩⟩⟩;obtain⟨t,b,ht,hb,e⟩:=tk (show s.ya=(s.ok1&&s.tR s.OT)by simp[St.ya,St.fm,o1]);rw[ht,hb];clear ht hb;rotate_left;obtain⟨t,b,ht,hb,e⟩:=tk (show s.ya=(s.ok2&&s.tR s.aaw)by simp[St.ya,St.fm,o2]);rw[ht,hb];clear ht hb;rotate_left;obtain⟨t,b,ht,hb,e⟩:=tk (show s.ya=(s.okM&&s.tR s.Vf)by simp[St.ya,St.fm,o3]);rw[ht,hb];clear ht hb;rotate_left;obtain⟨t,b,ht,hb,e⟩:=tk (show s.ya=(s.ok3&&s.tR s.aax)by simp[St.ya,St.fm,o4]);rw[ht,hb];clear ht hb;rotate_left;obtain⟨t,b,ht,hb,e⟩:=tk (show s.ya=(s.ok4&&s.tR s.aay)by simp[St.ya,St.fm,o5]);rw[ht,hb];clear ht hb;rotate_left;obtain⟨t,b,ht,hb,e⟩:=tk (show s.ya=(s.ok5&&s.tR s.aaz)by simp[St.ya,St.fm,V]);rw[ht,hb];clear ht hb;rotate_left;obtain⟨t,b,ht,hb,e⟩:=tk (show s.ya=(s.a.XX&&s.tR s.aaA)by simp[St.ya,St.fm,o7]);rw[ht,hb];clear ht hb;rotate_left;obtain⟨t,b,ht,hb,e⟩:=tk (show s.ya=(O&&s.tR s.Ve)by simp[St.ya,St.fm,o8,I]);rw[ht,hb];clear ht hb;rotate_left;obtain⟨t,b,ht,hb,e⟩:=tk (show s.ya=(s.ok8&&s.tR s.OT)by simp[St.ya,St.fm,o9]);rw[ht,hb];clear ht hb;rotate_left;have:s.ya=false:=by simp[St.ya,St.fm,n1,n2,n3,Y,U,n6,n7,n8,n9]
 rw[this]
 all_goals
  intro J hd;subst hd;simp only[akU,akV,St.sT,St.PM,St.IN,St.PO,St.CB,St.JV,St.gD,St.BO,St.iz,St.BQ,amm,Ex.re,ajS,amJ,amP,D.bV];have no:∀q:Bool,q=false->D.b false=D.b q:=fun q Z=>by rw[Z]
  rw[e];refine⟨fun h=>no _ (by rw[h];rfl),fun c0=>?_⟩;rw[c0,anf];simp only[St.tR];refine⟨fun h=>no _ (by simp[h]),fun c1=>⟨fun h=>no _ (by simp[h]),fun c2=>⟨fun h=>no _ ?_,fun c3=>⟨fun h=>no _ ?_,fun c4=>⟨_,_,_,rfl,L0 _,?_⟩⟩⟩⟩⟩
  ·have e:(s.ab==t.ab)=false:=(by simpa using h);simp[e]
  ·have e:(s.wh==t.wh)=false:=(by simpa using h);simp[e]
  intro J hd;subst hd;refine⟨_,_,_,rfl,L0 _,?_⟩;intro J hd;subst hd;simp only[D.bV];refine⟨fun h=>no _ (by rw[h];simp),fun c5=>⟨_,_,_,rfl,L0 _,?_⟩⟩;intro J hd;subst hd;refine⟨_,_,_,rfl,L0 _,?_⟩;intro J hd;subst hd;simp only[D.bV];have e3:(s.ab==t.ab)=true:=by simpa using c3
  have e4:(s.wh==t.wh)=true:=by simpa using c4
  rw[c1,c2,e3,e4,c5];refine⟨fun h=>no _ (by rw[h];simp),fun c6=>⟨fun c7=>⟨fun c8=>⟨fun c9=>?_,fun h=>no _ ?_⟩,fun h=>no _ ?_⟩,fun h=>no _ ?_⟩⟩
  ·have d7:t.th.length=s.th.length:=(by omega);have d8:t.el.length=s.el.length:=(by omega);have A:t.co.length=s.co.length:=(by omega);rw[c6,d7,d8,A];simp
  ·have A:¬t.co.length=s.co.length:=(by omega);simp[A]
  ·have A:¬t.el.length=s.el.length:=(by omega);simp[A]
  have A:¬t.th.length=s.th.length:=by omega
  simp[A]
structure NI where
 (nm sc a b ab:Int) (wh bl cl:Bool)
def NI.ar (f:NI):D:= .r [.z f.nm,.z f.sc,.z f.a,.z f.b,.z f.ab,.b f.wh,.b f.bl,.b f.cl]
def vf (s:cg)(IU:Int):Bool:=if IU=0 then s==[]else cC s
def Ex.IU (e:Ex)(IU:Int):Bool:=if e.none then decide (IU<2)else decide (IU>0)&&e.fE
def lj (ab IU:Int):Bool:=!(IU==0&&ab !=0)&&!(IU==1&&!NT ab)&&!(IU==2&&decide (ab>63))
def Je (l:List cg):Bool:=decide (l.length<=64)&&decide l.Nodup&&l.all cC
namespace St
def IS (s:St):Option NI:=
 if s.op=1 then some ⟨2,0,1,0,0,false,false,false⟩
 else if s.op=2 then (if s.ab=1\/s.ab=32 then some ⟨2,0,2,0,1,false,false,false⟩else some ⟨2,0,2,1,1,false,false,false⟩)
 else if s.op=3 then
  if s.wh=1 then some ⟨2,0,1,0,0,true,false,false⟩
  else if s.wh=2\/s.wh=3\/s.wh=4\/s.wh=8 then some ⟨2,0,0,0,0,true,false,false⟩
  else if s.wh=14 then some ⟨2,0,2,0,2,true,false,false⟩
  else if s.wh=15\/s.wh=16 then some ⟨2,2,2,0,0,true,false,false⟩
  else if s.wh=5\/s.wh=10 then some ⟨2,2,0,0,0,true,false,false⟩
  else if s.wh=12 then some ⟨2,0,0,0,0,true,false,true⟩
  else none
 else if s.op=4 then some ⟨2,0,2,2,0,false,false,false⟩
 else if s.op=5 then some ⟨0,0,1,1,0,false,true,false⟩
 else if s.op=6 then some ⟨0,0,2,0,2,false,true,false⟩
 else if s.op=7 then some ⟨0,0,1,0,0,false,false,false⟩
 else if s.op=8 then some ⟨0,0,0,0,0,false,false,false⟩
 else if s.op=9 then some ⟨2,0,2,0,0,false,false,false⟩
 else none
def jB (s:St)(f:NI):Bool:=lj s.ab f.ab&&(f.wh||s.wh==0)&&(f.bl||s.th.length+s.el.length==0)&&(if f.cl then Je s.wi else s.co.length+s.wi.length==0)
def FF (s:St):Bool:=match s.IS with|none=>false|some f=>vf s.nm f.nm&&vf s.sc f.sc&&!(decide (f.sc>0)&&s.sc==s.nm)&&s.a.IU f.a&&s.b.IU f.b&&s.jB f
def xv:∀l:List St,2*l.length<=ml l
 | []=>by simp[ml]
 |v::r=>by have:=xv r;have:=v.x7;have:=v.a.fN;have:=v.b.fN;simp only[ml,amB];omega
def fD.ak9 {s:St}(h:s.fD):s.th.length<2^30/\s.el.length<2^30/\s.co.length<2^30/\s.wi.length<2^30:=by
 have:=s.x7;have:=h.2.1;have:=xv s.th;have:=xv s.el;have:=xv s.co;omega
end St
def RQ (s:St)(d:D):Prop:=match s.IS with|some f=>d= .r [f.ar,.b true]|none=>(d.af 1).bool=false
def aga (s:St)(h:s.ok):dZ pg Dy [aJ] [s.ar] [gn,aj] (RQ s):=by
 obtain⟨o1,o2,_⟩:=(St.fe s).1 h;refine Y9 ?_;simp only[rk,St.Yt,St.IN,St.PO,abz o1 o2,amY,amF,an3];have A:∀f:NI,s.IS=some f->RQ s (.r [f.ar,.b true]):=fun f hf=>by simp only[RQ,hf]
 have Y:∀x:D,s.IS=none->RQ s (.r [x,.b false]):=fun f hf=>by simp only[RQ,hf];rfl
 refine⟨fun o=>A ⟨2,0,1,0,0,false,false,false⟩ (by simp[St.IS,o]),fun n1=>⟨fun o=>⟨fun a=>A ⟨2,0,2,0,1,false,false,false⟩ (by simp[St.IS,o,a]),fun a=>⟨fun b=>A ⟨2,0,2,0,1,false,false,false⟩ (by simp[St.IS,o,b]),fun b=>A ⟨2,0,2,1,1,false,false,false⟩ (by simp[St.IS,o,a,b])⟩⟩,fun n2=>⟨fun o=>?_,fun n3=>⟨fun o=>A ⟨2,0,2,2,0,false,false,false⟩ (by simp[St.IS,o]),fun n4=>⟨fun o=>A ⟨0,0,1,1,0,false,true,false⟩ (by simp[St.IS,o]),fun n5=>⟨fun o=>A ⟨0,0,2,0,2,false,true,false⟩ (by simp[St.IS,o]),fun n6=>⟨fun o=>A ⟨0,0,1,0,0,false,false,false⟩ (by simp[St.IS,o]),fun n7=>⟨fun o=>A ⟨0,0,0,0,0,false,false,false⟩ (by simp[St.IS,o]),fun n8=>⟨fun o=>A ⟨2,0,2,0,0,false,false,false⟩ (by simp[St.IS,o]),fun n9=>Y _ (by simp[St.IS,n1,n2,n3,n4,n5,n6,n7,n8,n9])⟩⟩⟩⟩⟩⟩⟩⟩⟩;refine⟨fun w=>A ⟨2,0,1,0,0,true,false,false⟩ (by simp[St.IS,o,w]),fun w1=>⟨fun w=>A ⟨2,0,0,0,0,true,false,false⟩ (by simp[St.IS,o,w]),fun w2=>⟨fun w=>A ⟨2,0,0,0,0,true,false,false⟩ (by simp[St.IS,o,w]),fun w3=>⟨fun w=>A ⟨2,0,0,0,0,true,false,false⟩ (by simp[St.IS,o,w]),fun Z=>⟨fun w=>A ⟨2,0,0,0,0,true,false,false⟩ (by simp[St.IS,o,w]),fun w8=>⟨fun w=>A ⟨2,0,2,0,2,true,false,false⟩ (by simp[St.IS,o,w]),fun O=>⟨fun w=>A ⟨2,2,2,0,0,true,false,false⟩ (by simp[St.IS,o,w]),fun J=>⟨fun w=>A ⟨2,2,2,0,0,true,false,false⟩ (by simp[St.IS,o,w]),fun I=>⟨fun w=>A ⟨2,2,0,0,0,true,false,false⟩ (by simp[St.IS,o,w]),fun w5=>⟨fun w=>A ⟨2,2,0,0,0,true,false,false⟩ (by simp[St.IS,o,w]),fun V=>⟨fun w=>A ⟨2,0,0,0,0,true,false,true⟩ (by simp[St.IS,o,w]),fun U=>Y _ (by simp[St.IS,o,w1,w2,w3,Z,w8,O,J,I,w5,V,U])⟩⟩⟩⟩⟩⟩⟩⟩⟩⟩⟩
def Xc (s:cg)(k:Int)(h:s.length<2^63):dZ pg Ab [aq,ah] [.s s,.z k] [aj] (·= .b (vf s k)):=by
 refine Za ?_;simp only[rk,D.bu,D.dS,amY,amF,an3];refine⟨fun a=>by simp[vf,a],fun a=>⟨_,_,_,rfl,Bx s h,?_⟩⟩;rintro _ rfl;simp[vf,a]
def Xb (e:Ex)(k:Int)(h:e.ok)(hs:e.size<2^40):dZ pg mq [aI,ah] [e.ar,.z k] [aj] (·= .b (e.IU k)):=by
 have t:e.none=false->(0<k->∃O rs J,EF Dr.cj oG=some (O,rs)/\dZ pg oG O [e.ar] rs J/\∀d,J d->D.b (D.bool d)=D.b (e.IU k)):=fun A I=>⟨_,_,_,rfl,Xa e h hs,by rintro _ rfl;simp[Ex.IU,A,I]⟩;have f:e.none=false->¬k>0->D.b false=D.b (e.IU k):=fun A I=>by simp[Ex.IU,A,I]
 refine Y8 ?_;simp only[rk,Ex.ek,Ex.jP,Ex.pR,Ex.hI,Ex.re,D.bu,amm,amY,amF,an3,aml,amk];refine⟨fun a=>⟨fun b=>⟨fun c=>⟨fun d=>?_,fun d=>?_⟩,fun c=>?_⟩,fun b=>?_⟩,fun a=>?_⟩
 ·have:e.l.length=0:=by omega
  have A:e.none=true:=by simp[Ex.none,a,b,c];exact am3.1 this
  simp[Ex.IU,A]
 ·have hl:¬e.l.length=0:=by omega
  have A:e.none=false:=by simp[Ex.none,a,b,c];exact fun z=>hl (by simp[z])
  exact⟨t A,f A⟩
 ·have A:e.none=false:=by simp[Ex.none,c]
  exact⟨t A,f A⟩
 ·have A:e.none=false:=by simp[Ex.none,b]
  exact⟨t A,f A⟩
 have A:e.none=false:=by simp[Ex.none,a]
 exact⟨t A,f A⟩
section
section
variable (f:NI)
def NI.f0:D.int (D.af f.ar 0)=f.nm:=rfl
def NI.f1:D.int (D.af f.ar 1)=f.sc:=rfl
def NI.f2:D.int (D.af f.ar 2)=f.a:=rfl
def NI.f3:D.int (D.af f.ar 3)=f.b:=rfl
def NI.f4:D.int (D.af f.ar 4)=f.ab:=rfl
def NI.f5:D.bool (D.af f.ar 5)=f.wh:=rfl
def NI.f6:D.bool (D.af f.ar 6)=f.bl:=rfl
def NI.f7:D.bool (D.af f.ar 7)=f.cl:=rfl
end
def St.ajI {s:St}{f:NI}(h:s.IS=some f):f.ab=0\/f.ab=1\/f.ab=2:=by
 unfold St.IS at h
 repeat' split at h
 all_goals first| (cases h;done)| (injection h with h;subst h;simp)
def af7 (s:St)(h:s.fD):dZ pg cB [aJ] [s.ar] [aj] (·= .b s.FF):=by
 obtain⟨n1,n2,ha,hb,za,zb,a0,a1⟩:=h.b;obtain⟨l1,l2,l3,l4⟩:=h.ak9;have Z:∀w∈s.wi,w.length<2^63:=fun w hw=>by have:=h.2.2.2 w hw;omega
 unfold maxLen at n1 n2;have I:∀(rest:List cg) (i:Nat),s.wi.drop i=rest->aC pg cB [aj] (.cY (·= .b (rest.all cC))) (sr s.ar i):=by
  intro rest
  induction rest with
  |nil=>intro i hd;have:=drop_nil hd;refine Ep ?_;simp only[rk,St.BQ,amm,aml,amk];exact⟨fun h=>by omega,fun _=>rfl⟩
  |cons w rest ih=>intro i hd;obtain⟨g1,g2,g3⟩:=aF hd;refine Ep ?_;simp only[rk,St.BQ,amm,amq,bC (f:=D.s) g1,D.dS,aR g3,aml,amk,amJ,amP];refine⟨fun _=>⟨fun _=>⟨_,_,_,rfl,Bx w (Z w (amn g1)),?_⟩,fun h=>by simp at h⟩,fun h=>by omega⟩;rintro _ rfl;simp only[D.bV];refine⟨fun a=>by simp[a],fun a=>?_⟩;rw[bL g3];exact(ih _ g2).Ka fun d h=>by simp[h,a]
 have t63:aC pg cB [aj] (.cY (·= .b (Je s.wi))) (BU s.ar):=by
  refine RC ?_;simp only[rk,St.BQ,amm,aml,amk];refine⟨fun a=>?_,fun a=>⟨_,_,_,rfl,SL s.wi (by omega),?_⟩⟩
  ·have:¬s.wi.length<=64:=(by omega);simp[Je,this]
  rintro _ rfl;have a:s.wi.length<=64:=by omega
  simp only[D.bV,amJ,amP,aml,amk];refine⟨fun b=>by simp[Je,b],fun b=>(I s.wi 0 rfl).Ka fun d h=>by rw[h];simp[Je,a,b]⟩
 have a6:∀f:NI,aC pg cB [aj] (.cY (·= .b (if f.cl then Je s.wi else s.co.length+s.wi.length==0))) (gI s.ar f.ar):=by intro f;refine RB ?_;simp only[rk,NI.f7,St.iz,St.BQ,amm,amJ,amP];rw[bM];refine⟨fun a=>?_,fun a=>by rw[a];exact t63⟩;rw[a];simp only[amp,ann];congr 1;rw[amW];simp only[amY];omega
 have a7:∀f:NI,(f.ab=0\/f.ab=1\/f.ab=2)->aC pg cB [aj] (.cY (·= .b (s.jB f))) (wQ s.ar f.ar):=by
  intro f hf;refine RA ?_;simp only[rk,NI.f4,NI.f5,NI.f6,St.IN,St.PO,St.gD,St.BO,amm];rw[bM (x:=(s.th.length:Int)+s.el.length)];have no:s.jB f=false->D.b false=D.b (s.jB f):=fun h=>by rw[h]
  have O:lj s.ab f.ab=true->(f.wh||s.wh==0)=true->(f.bl||s.th.length+s.el.length==0)=true->aC pg cB [aj] (.cY (·= .b (s.jB f))) (gI s.ar f.ar):=fun J Y e3=>by refine(a6 f).Ka fun d h=>?_;rw[h];simp only[St.jB,J,Y,e3,anf]
  have bl:lj s.ab f.ab=true->(f.wh||s.wh==0)=true->((! f.bl)=true->(decide (((s.th.length:Int)+s.el.length)>0)=true->D.b false=D.b (s.jB f))/\(decide (((s.th.length:Int)+s.el.length)>0)=false->aC pg cB [aj] (.cY (·= .b (s.jB f))) (gI s.ar f.ar)))/\((! f.bl)=false->aC pg cB [aj] (.cY (·= .b (s.jB f))) (gI s.ar f.ar)):=fun J Y=>by
   simp only[amJ,amP,aml,amk];refine⟨fun a=>⟨fun b=>no ?_,fun b=>O J Y ?_⟩,fun a=>O J Y (by simp[a])⟩
   ·have e:(s.th.length+s.el.length==0)=false:=(by simp only[amF];omega);simp only[St.jB,a,e,apa,apk,aog]
   have:s.th.length+s.el.length=0:=(by omega);simp[this]
  have wh:lj s.ab f.ab=true->((! f.wh)=true->(((s.wh:Int)!=0)=true->D.b false=D.b (s.jB f))/\(((s.wh:Int)!=0)=false->((! f.bl)=true->(decide (((s.th.length:Int)+s.el.length)>0)=true->D.b false=D.b (s.jB f))/\(decide (((s.th.length:Int)+s.el.length)>0)=false->aC pg cB [aj] (.cY (·= .b (s.jB f))) (gI s.ar f.ar)))/\((! f.bl)=false->aC pg cB [aj] (.cY (·= .b (s.jB f))) (gI s.ar f.ar))))/\((! f.wh)=false->((! f.bl)=true->(decide (((s.th.length:Int)+s.el.length)>0)=true->D.b false=D.b (s.jB f))/\(decide (((s.th.length:Int)+s.el.length)>0)=false->aC pg cB [aj] (.cY (·= .b (s.jB f))) (gI s.ar f.ar)))/\((! f.bl)=false->aC pg cB [aj] (.cY (·= .b (s.jB f))) (gI s.ar f.ar))):=fun J=>by
   refine⟨fun a=>⟨fun b=>no ?_,fun b=>bl J ?_⟩,fun a=>bl J ?_⟩
   ·simp only[amJ]at a;have:(s.wh==0)=false:=(by simpa using b);simp[St.jB,a,this]
   ·have:(s.wh==0)=true:=(by simpa using b);simp[this]
   simp only[amP]at a;simp[a]
  simp only[amY,amF,an3];have A:lj s.ab f.ab=false->D.b false=D.b (s.jB f):=fun h=>no (by simp[St.jB,h]);rcases hf with hf|hf|hf
  ·refine⟨fun _=>⟨fun b=>A ?_,fun b=>⟨fun c=>by omega,fun _=>⟨fun c=>by omega,fun _=>wh ?_⟩⟩⟩,fun c=>absurd hf c⟩
   ·simp only[lj,hf,b];rfl
   have b:(s.ab !=0)=false:=(by simpa using b);simp only[lj,hf,b];rfl
  ·refine⟨fun c=>by omega,fun _=>⟨fun _=>⟨_,_,_,rfl,aie s.ab a0 a1,?_⟩,fun c=>absurd hf c⟩⟩;rintro _ rfl;simp only[D.bV,amJ,amP];refine⟨fun b=>A ?_,fun b=>⟨fun c=>by omega,fun _=>?_⟩⟩
   ·simp only[lj,hf,b];rfl
   have:=wh (by simp only[lj,hf,b];rfl);simp only[amJ,amP]at this;exact this
  refine⟨fun c=>by omega,fun _=>⟨fun c=>by omega,fun _=>⟨fun _=>⟨fun b=>A ?_,fun b=>wh ?_⟩,fun c=>absurd hf c⟩⟩⟩
  ·simp only[lj,hf,b];rfl
  simp only[lj,hf,b];rfl
 refine Y5 ?_;simp only[rk,St.re];refine⟨_,_,_,rfl,aga s h.1,?_⟩;intro d hd;unfold RQ at hd
 cases hf:s.IS with
 |none=>
  rw[hf]at hd;have:s.FF=false:=by simp[St.FF,hf]
  rw[this];exact⟨fun _=>rfl,fun h=>by rw[hd]at h;cases h⟩
 |some f=>
  rw[hf]at hd;subst hd;have hm:s.FF=(vf s.nm f.nm&&vf s.sc f.sc&&!(decide (f.sc>0)&&s.sc==s.nm)&&s.a.IU f.a&&s.b.IU f.b&&s.jB f):=by simp only[St.FF,hf]
  rw[hm];have f0:D.af (.r [f.ar,.b true]) 0=f.ar:=rfl;have f1:D.af (.r [f.ar,.b true]) 1= .b true:=rfl;simp only[f0,f1,NI.f0,NI.f1,NI.f2,NI.f3,St.sT,St.PM,St.CB,St.JV,Ex.re,D.bV];refine⟨fun h=>by simp at h,fun _=>⟨_,_,_,rfl,Xc s.nm f.nm (by omega),?_⟩⟩;rintro _ rfl;simp only[D.bV,amJ,amP];refine⟨fun a=>by simp[a],fun a=>⟨_,_,_,rfl,Xc s.sc f.sc (by omega),?_⟩⟩;rintro _ rfl;simp only[D.bV];have rest:∀q:Bool,q=false->(∃V rs U,EF nB.cj mq=some (V,rs)/\dZ pg mq V [s.a.ar,.z f.a] rs U/\∀d,U d->(D.bool d=false->D.b false=D.b (true&&true&&!q&&s.a.IU f.a&&s.b.IU f.b&&s.jB f))/\(D.bool d=true->∃V rs U,EF nB.cj mq=some (V,rs)/\dZ pg mq V [s.b.ar,.z f.b] rs U/\∀d,U d->(D.bool d=false->D.b false=D.b (true&&true&&!q&&s.a.IU f.a&&s.b.IU f.b&&s.jB f))/\(D.bool d=true->aC pg cB [aj] (.cY (·= .b (true&&true&&!q&&s.a.IU f.a&&s.b.IU f.b&&s.jB f))) (wQ s.ar f.ar)))):=by rintro _ rfl;refine⟨_,_,_,rfl,Xb s.a f.a ha (by omega),?_⟩;rintro _ rfl;simp only[D.bV];refine⟨fun a=>by simp[a],fun a=>⟨_,_,_,rfl,Xb s.b f.b hb (by omega),?_⟩⟩;rintro _ rfl;simp only[D.bV];refine⟨fun b=>by simp[b],fun b=>(a7 f (St.ajI hf)).Ka fun d h=>by rw[h];simp[a,b]⟩
  refine⟨fun b=>by simp[b],fun b=>⟨fun c=>⟨fun e=>?_,fun e=>?_⟩,fun c=>?_⟩⟩
  ·simp[a,b,c,e]
  ·rw[a,b];exact rest _ (by rw[c,e];rfl)
  rw[a,b];exact rest _ (by rw[c];rfl)
end
section
def Ex.alX (e:Ex):e.IU 0=e.none:=by unfold Ex.IU;cases h:e.none<;>simp
def Ex.alY (e:Ex):e.IU 1=e.XX:=by unfold Ex.IU Ex.XX;cases h:e.none<;>simp
def Ex.alZ (e:Ex):e.IU 2=e.fE:=by
 unfold Ex.IU
 cases h:e.none with
 |true=>simp[Ex.Wc h]
 |false=>simp
def Ex.ae9 {e:Ex}(h:e.fE=true):e.none=false:=by
 cases A:e.none with
 |true=>rw[Ex.Wc A]at h;cases h
 |false=>rfl
def ad6 (a:Int):lj a 0=(a==0):=by simp[lj];rfl
def ad7 (a:Int):lj a 1=NT a:=by simp[lj]
def ad8 (a:Int):lj a 2=decide (a<64):=by
 simp only[lj];rw[amW];simp;omega
def afn (s:cg):vf s 0=(s==[]):=by simp[vf]
def afo (s:cg):vf s 2=cC s:=by simp[vf]
def ame (a b:Nat):(a+b==0)=(a==0&&b==0):=by rw[amW];simp
def ami (a:Nat):((0:Nat)==a)=(a==0):=by rw[amW];simp;omega
section
variable (op:Int) (nm:cg) (sc:cg) (ab:Int) (wh:Int) (a:Ex) (b:Ex) (th:List St) (el:List St) (co:List St) (wi:List cg)
def St.alg:(St.mk op nm sc ab wh a b th el co wi).nm=nm:=rfl
def St.alh:(St.mk op nm sc ab wh a b th el co wi).sc=sc:=rfl
def St.ald:(St.mk op nm sc ab wh a b th el co wi).ab=ab:=rfl
def St.alj:(St.mk op nm sc ab wh a b th el co wi).wh=wh:=rfl
def St.al0:(St.mk op nm sc ab wh a b th el co wi).a=a:=rfl
def St.al1:(St.mk op nm sc ab wh a b th el co wi).b=b:=rfl
def St.ali:(St.mk op nm sc ab wh a b th el co wi).th=th:=rfl
def St.alf:(St.mk op nm sc ab wh a b th el co wi).el=el:=rfl
def St.ale:(St.mk op nm sc ab wh a b th el co wi).co=co:=rfl
def St.alk:(St.mk op nm sc ab wh a b th el co wi).wi=wi:=rfl
end
def eqt (b:Bool):(true==b)=b:=by cases b<;>rfl
def alT (b:Bool):(b==b)=true:=by cases b<;>rfl
attribute [local go_sem] St.ya St.fm St.FF St.IS St.jB am5 ann St.tR St.Vf St.OT St.aaw St.aax St.aay St.aaz St.aaA St.Ve St.ok1 St.ok2 St.ok3 St.ok4 St.ok5 St.ok8 St.okM St.alg St.alh St.ald St.alj St.al0 St.al1 St.ali St.alf St.ale St.alk apZ or_true true_or or_false aqk Ex.alX Ex.alY Ex.alZ ad6 ad7 ad8 afn afo ame ami Ex.acy eqt alT amM beq_self_eq_true anf anJ aog apk apC aqb aoD apa apS anY am2 ani amp
def St.ahD (s:St):s.ya=s.FF:=by
 have nm:s.b.XX=true->s.b.fE=true->s.b.none=false:=fun _=>Ex.ae9
 by_cases o1:s.op=1
 ·simp only[go_sem,Int.reduceEq,Int.reduceLT,o1]
  (rw[amW];simp only[amo];constructor<;>(intro h;simp only[h,am1,amS,aor]))
 by_cases Z:s.op=2
 ·by_cases w:s.ab=1\/s.ab=32
  ·have e:(s.ab !=1&&s.ab !=32)=false:=by rcases w with w|w<;>simp[w]
   have e2:(s.b.XX&&s.b.none)=s.b.none:=(by unfold Ex.XX;cases s.b.none<;>simp);simp only[go_sem,Int.reduceEq,Int.reduceLT,Z,w,e];rw[<-e2]
   (rw[amW];simp only[amo];constructor<;>(intro h;simp only[h,am1,amS,aor]))
  have e:(s.ab !=1&&s.ab !=32)=true:=by simp;omega
  simp only[go_sem,Int.reduceEq,Int.reduceLT,Z,w,e]
  (rw[amW];simp only[amo];constructor<;>(intro h;simp only[h,am1,amS,aor]))
 by_cases O:s.op=3
 ·by_cases U:s.wh=1
  ·simp only[go_sem,Int.reduceEq,Int.reduceLT,O,U]
   (rw[amW];simp only[amo];constructor<;>(intro h;simp only[h,am1,amS,aor]))
  by_cases V:s.wh=2\/s.wh=3\/s.wh=4\/s.wh=8
  ·have A:¬s.wh=14:=(by omega);have I:¬(s.wh=15\/s.wh=16):=(by omega);have Y:¬(s.wh=5\/s.wh=10):=(by omega);have J:¬s.wh=12:=(by omega);simp only[go_sem,Int.reduceEq,Int.reduceLT,O,U,V,A,I,Y,J]
   (rw[amW];simp only[amo];constructor<;>(intro h;simp only[h,am1,amS,aor]))
  by_cases A:s.wh=14
  ·simp only[go_sem,Int.reduceEq,Int.reduceLT,O,A]
   (rw[amW];simp only[amo];constructor<;>(intro h;simp only[h,am1,amS,aor]))
  by_cases I:s.wh=15\/s.wh=16
  ·simp only[go_sem,Int.reduceEq,Int.reduceLT,O,U,V,A,I]
   (rw[amW];simp only[amo];constructor<;>(intro h;simp only[h,am1,amS,aor]))
  by_cases Y:s.wh=5\/s.wh=10
  ·simp only[go_sem,Int.reduceEq,Int.reduceLT,O,U,V,A,I,Y]
   (rw[amW];simp only[amo];constructor<;>(intro h;simp only[h,am1,amS,aor]))
  by_cases J:s.wh=12
  ·simp only[go_sem,Int.reduceEq,Int.reduceLT,O,J,Je]
   (rw[amW];simp only[amo];constructor<;>(intro h;simp only[h,am1,amS,aor]))
  simp only[go_sem,Int.reduceEq,Int.reduceLT,O,U,V,A,I,Y,J]
 by_cases o4:s.op=4
 ·simp only[go_sem,Int.reduceEq,Int.reduceLT,o4]
  (rw[amW];simp only[amo];constructor<;>(intro h;simp only[h,am1,amS,aor]))
 by_cases o5:s.op=5
 ·simp only[go_sem,Int.reduceEq,Int.reduceLT,o5]
  (rw[amW];simp only[amo];constructor<;>(intro h;simp only[h,am1,amS,aor]))
 by_cases o6:s.op=6
 ·simp only[go_sem,Int.reduceEq,Int.reduceLT,o6]
  (rw[amW];simp only[amo];constructor<;>(intro h;simp only[h,am1,amS,aor]))
 by_cases o7:s.op=7
 ·simp only[go_sem,Int.reduceEq,Int.reduceLT,o7]
  (rw[amW];simp only[amo];constructor<;>(intro h;simp only[h,am1,amS,aor]))
 by_cases o8:s.op=8
 ·simp only[go_sem,Int.reduceEq,Int.reduceLT,o8]
  (rw[amW];simp only[amo];constructor<;>(intro h;simp only[h,am1,amS,aor]))
 by_cases o9:s.op=9
 ·simp only[go_sem,Int.reduceEq,Int.reduceLT,o9]
  (rw[amW];simp only[amo];constructor<;>(intro h;simp only[h,am1,amS,aor]))
 simp only[go_sem,Int.reduceEq,Int.reduceLT,o1,Z,O,o4,o5,o6,o7,o8,o9]
end
namespace St
mutual
def ajH:St->List St
 | .mk op nm sc ab wh a b th el co wi=> .mk op nm sc ab wh a b th el co wi::(cJ th++cJ el++cJ co)
def cJ:List St->List St
 | []=>[]
 |v::r=>ajH v++cJ r
end
def Oo (v:St):v.ajH=v::(cJ v.th++cJ v.el++cJ v.co):=by cases v;rfl
def DJ (v:St)(r:List St):cJ (v::r)=v.ajH++cJ r:=rfl
def Sv:cJ []=[]:=rfl
def fD.of {s:St}(h:s.ok)(h2:s.esz<2^30):s.fD:=by
 have e:=s.x7;have o:=(fe s).1 h;exact⟨h,h2,by omega,o.2.2.2.2.2.2.2.2.2.2.2.2.2.2.2.2.2⟩
def ab5 {l:List St}(h:vl l)(hs:ml l<2^30):∀x∈cJ l,x.fD:=by
 induction l using St.NS with|h l ih=>
 have key:∀rest:List St,(∀x∈rest,x∈l)->ml rest<=ml l->∀x∈cJ rest,x.fD:=by
  intro rest
  induction rest with
  |nil=>intro _ _ x hx;cases hx
  |cons v r A=>
   intro J he x hx;simp only[ml]at he;have I:=J v (by simp);obtain⟨o1,o2,O,_⟩:=h.th I;obtain⟨Z,Y,V⟩:=ih v I;have e:=v.x7;rw[DJ,Oo,amO,amz,amO,amO]at hx;rcases hx with (rfl| (hx|hx)|hx)|hx
   ·exact fD.of (h.2 _ I) (by omega)
   ·exact Z o1 (by omega) x hx
   ·exact Y o2 (by omega) x hx
   ·exact V O (by omega) x hx
   exact A (fun y U=>J y (by simp[U])) (by omega) x hx
 exact key l (fun x hx=>hx) (amG _)
end St
def nc:Int->List St->Option (Int×Int)
 |_,[]=>none
 |n,s::r=>if n=512 then some (512,4)else if s.FF=false then some (n,160)else nc (n+1) r
def Li (n:Int)(a b:List St):nc n (a++b)=match nc n a with|some x=>some x|none=>nc (n+a.length) b:=by
 induction a generalizing n with
 |nil=>simp[nc]
 |cons s r A=>
  simp only[anM,nc]
  by_cases h:n=512
  ·simp[h]
  by_cases h2:s.FF=false
  ·simp[h,h2]
  rw[amt h,amt h2,amt h,amt h2,A (n+1)];rw[show n+1+(r.length:Int)=n+((s::r).length:Nat)by simp;omega]
def aaj {n:Int}{l:List St}(h:nc n l=none)(I:n<=512):n+l.length<=512:=by
 induction l generalizing n with
 |nil=>simpa using I
 |cons s r A=>
  simp only[nc]at h
  by_cases h1:n=512
  ·simp[h1]at h
  rw[amt h1]at h
  by_cases h2:s.FF=false
  ·simp[h2]at h
  rw[amt h2]at h;have:=A h (by omega);simp only[amB];omega
def XU (l:List St)(n a:Int)(b:Bool)(J A I:Int):Prop:=match nc n l with
 |none=>b=true/\J=n+l.length/\A=a/\I=0
 |some (p,e)=>b=false/\A=p/\I=e
def ajM (l:List St):∀(U n a:Int),0<=n->n<=512->St.vl l->St.ml l<2^30->
 PH km (xk (l.map St.ar) U n a 0) (xl (l.map St.ar) U n a 0) 3 rv
  (fun d=>XU (St.cJ l) n a (d.af 0).bool (d.af 1).int (d.af 2).int (d.af 3).int):=by
 induction l using St.NS with|h l ih=>
 intro U n a h0 h1 hl hs;have leaf:∀(F:List St) (n' a':Int) (b:Bool) (m1 I m3:Int),XU F n' a' b m1 I m3->∃d,T.dV (BV.bool b,[(0,aE.cells [.int .i64 m1] ah false),(1,aE.cells [.int .i64 I] ah false),(2,aE.cells [.int .i64 m3] bn false)]) (rv (xk (l.map St.ar) U n a 0) (xl (l.map St.ar) U n a 0) d)/\XU F n' a' (d.af 0).bool (d.af 1).int (d.af 2).int (d.af 3).int:=
  fun F n' a' b m1 I m3 h=>⟨.r [.b b,.z m1,.z I,.z m3],.ret,h⟩
 have key:∀(rest:List St) (i:Nat) (m:Int),l.drop i=rest->0<=m->m<=512->
  aC pg km [aj] (.bK 3 (rv (xk (l.map St.ar) U n a 0) (xl (l.map St.ar) U n a 0)) fun d=>XU (St.cJ rest) m a (d.af 0).bool (d.af 1).int (d.af 2).int (d.af 3).int) (Be (l.map St.ar) U n a 0 i m a 0):=by
  intro rest
  induction rest with
  |nil=>intro i m hd m0 m1;have:=drop_nil hd;refine Ng ?_;simp only[rk,amm,aml,amk];exact⟨fun h=>by omega,fun _=>⟨rfl,leaf _ _ _ _ _ _ _ (by simp[XU,St.cJ,nc])⟩⟩
  |cons x rest d3=>
   intro i m hd m0 m1;obtain⟨g1,g2,g3⟩:=aF hd;have hx:=amn g1;obtain⟨o1,o2,o3,_⟩:=hl.th hx;obtain⟨i1,i2,i3⟩:=ih x hx;have d5:=x.x7;have d6:=St.Du hx;have Z:=St.fD.of (hl.2 x hx) (by omega);have hF:St.cJ (x::rest)=x::(St.cJ x.th++St.cJ x.el++St.cJ x.co++St.cJ rest):=(by rw[St.DJ,St.Oo];rfl);refine Ng ?_;simp only[rk,amm,amq,bC g1,aR g3,St.re,St.gD,St.BO,St.iz,amY,amF,an3,aml,amk,amJ,amP];rw[bM (x:=m+1)];refine⟨fun _=>⟨fun _=>⟨fun h=>by omega,fun _=>⟨fun h=>?_,fun hm=>⟨_,_,_,rfl,ak6 x Z,?_⟩⟩⟩,fun h=>by simp at h⟩,fun h=>by omega⟩
   ·refine⟨rfl,leaf _ _ _ _ _ _ _ ?_⟩;rw[hF];simp[XU,nc,h]
   rintro _ rfl;rw[x.ahD];simp only[D.bV];refine⟨fun h=>⟨rfl,leaf _ _ _ _ _ _ _ ?_⟩,fun h=>⟨fun h=>absurd trivial h,fun _=>?_⟩⟩
   ·rw[hF];simp[XU,nc,hm,h]
   have b6:∀(b:Bool) (n' a' e':Int),XU (St.cJ (x::rest)) m a b n' a' e'↔XU (St.cJ x.th++St.cJ x.el++St.cJ x.co++St.cJ rest) (m+1) a b n' a' e':=by
    intro b n' a' e';have d0:¬m=512:=hm;have h':¬x.FF=false:=(by rw[h];simp);rw[hF];unfold XU;simp only[nc,d0,h',ann]
    cases nc (m+1) (St.cJ x.th++St.cJ x.el++St.cJ x.co++St.cJ rest)with
    |none=>simp only[amB];exact⟨fun g=>⟨g.1,by have:=g.2.1;omega,g.2.2⟩,fun g=>⟨g.1,by have:=g.2.1;omega,g.2.2⟩⟩
    |some p=>rfl
   have a6:∀(q:Nat) (A:List (List St)) (I:Int) (j:Nat),j+A.length=3->([x.th,x.el,x.co]:List (List St)).drop j=A->0<=I->I<=512->
    aC pg km [aj] (.bK 3 (rv (xk (l.map St.ar) U n a 0) (xl (l.map St.ar) U n a 0)) fun d=>XU ((A.map St.cJ).flatten++St.cJ rest) I a (d.af 0).bool (d.af 1).int (d.af 2).int (d.af 3).int) (uJ (l.map St.ar) U n a 0 j I a 0 i [.r (x.th.map St.ar),.r (x.el.map St.ar),.r (x.co.map St.ar)]):=by
    intro q A
    induction A with
    |nil=>intro I j hj hb p0 p1;have hj:j=3:=(by simpa using hj);subst hj;refine FU ?_;simp only[rk,aml,amk];refine⟨fun h=>by omega,fun _=>?_⟩;rw[bL g3 hl.1];exact d3 (i+1) I g2 p0 p1
    |cons Y bs b4=>
     intro I j hj hb p0 p1;simp only[amB]at hj;have a8:j<3:=(by omega);obtain⟨O,b2,b3⟩:=aF hb;have d2:∀(J:Int),PH km (xk (Y.map St.ar) J I a 0) (xl (Y.map St.ar) J I a 0) 3 rv (fun d=>XU (St.cJ Y) I a (d.af 0).bool (d.af 1).int (d.af 2).int (d.af 3).int):=by
      intro J;rcases j with _|_|_|j
      ·simp only[anP,amD]at O;subst O;exact i1 J I a p0 p1 o1 (by omega)
      ·simp only[anr,anO,anP,amD]at O;subst O;exact i2 J I a p0 p1 o2 (by omega)
      ·simp only[anr,Nat.reduceAdd,anO,anP,amD]at O;subst O;exact i3 J I a p0 p1 o3 (by omega)
      omega
     have hat:D.ae (D.at [.r (x.th.map St.ar),.r (x.el.map St.ar),.r (x.co.map St.ar)] j)=Y.map St.ar:=by
      rcases j with _|_|_|j
      ·simp only[anP,amD]at O;subst O;rfl
      ·simp only[anr,anO,anP,amD]at O;subst O;rfl
      ·simp only[anr,Nat.reduceAdd,anO,anP,amD]at O;subst O;rfl
      omega
     refine FU ?_;simp only[rk,amq,hat,aR a8,amB,amM,aml,amk,amJ,amP];refine⟨fun _=>⟨fun _=>⟨fun _=>⟨_,_,rfl,d2 _,?_⟩,fun h=>by omega⟩,fun h=>by simp at h⟩,fun h=>by omega⟩;intro d hq;have d1:((Y::bs).map St.cJ).flatten++St.cJ rest=St.cJ Y++((bs.map St.cJ).flatten++St.cJ rest):=(by simp);rw[d1];simp only[XU]at hq
     cases V:nc I (St.cJ Y)with
     |some p=>rw[V]at hq;obtain⟨q1,q2,q3⟩:=hq;refine⟨fun _=>⟨rfl,leaf _ _ _ _ _ _ _ ?_⟩,fun h=>by rw[q1]at h;cases h⟩;simp only[XU,Li,V];exact⟨trivial,q2,q3⟩
     |none=>
      rw[V]at hq;obtain⟨q1,q2,q3,q4⟩:=hq;have d4:=aaj V p1;refine⟨fun h=>(by rw[q1]at h;cases h),fun _=>?_⟩;rw[q2,q3,q4,bL a8];have e:=b4 (I+(St.cJ Y).length) (j+1) (by omega) b2 (by omega) d4;refine e.Ah fun d hd=>?_;unfold XU at hd ⊢;rw[Li,V];simp only
      cases a7:nc (I+((St.cJ Y).length:Int)) ((bs.map St.cJ).flatten++St.cJ rest)with
      |some p=>rw[a7]at hd;exact hd
      |none=>rw[a7]at hd;refine⟨hd.1,?_,hd.2.2⟩;rw[hd.2.1];simp only[ams];omega
   have e:=a6 0 [x.th,x.el,x.co] (m+1) 0 rfl rfl (by omega) (by omega);refine e.Ah fun d hd=>?_;rw[b6];simpa [anK]using hd
 exact afL (key l 0 n rfl h0 h1)
def TB (l:List St):Int×Int:=(nc 0 (St.cJ l)).getD (0,0)
def ahx (l:List St)(hl:St.vl l)(hs:St.ml l<2^30):dZ pg GD [aQ] [.r (l.map St.ar)] [ah,bn] (·= .r [.z (TB l).1,.z (TB l).2]):=by
 refine acJ ?_;simp only[rk,D.aK];refine⟨_,_,rfl,ajM l 0 0 0 (by omega) (by omega) hl hs,?_⟩;intro d hd;unfold XU at hd;unfold TB
 cases h:nc 0 (St.cJ l)with
 |none=>rw[h]at hd;rw[hd.2.2.1,hd.2.2.2];rfl
 |some p=>rw[h]at hd;rw[hd.2.1,hd.2.2];rfl
def aa3 (l:List St)(hl:St.vl l)(hs:St.ml l<2^30):dZ pg zB [aQ] [.r (l.map St.ar)] [bn] (·= .z (TB l).2):=by
 refine acK ?_;simp only[rk,D.aK];refine⟨_,_,_,rfl,ahx l hl hs,?_⟩;rintro _ rfl;rfl
def y7 (l:List St):Bool:=(TB l).2==0
def ak4 (l:List St)(hl:St.vl l)(hs:St.ml l<2^30):dZ pg Oh [aQ] [.r (l.map St.ar)] [aj] (·= .b (y7 l)):=by
 refine ahX ?_;simp only[rk,D.aK];refine⟨_,_,_,rfl,aa3 l hl hs,?_⟩;rintro _ rfl;rfl
def qV (l:List D):List D:=l.map fun r=>D.af r 2
def j7 {α:Type}(n:Nat)(a b:List α):((a.take n)++b).take n=(a++b).take n:=by
 by_cases h:n<=a.length
 ·rw[anW (by simp;omega),anW h,apm,Nat.min_self]
 rw[amv (by omega:a.length<=n)]
def Qv (l:List St):∀(I:Int) (vI:Bool) (w:List D),w.length<=513->l.length<2^62->(∀x∈St.cJ l,x.th.length<2^62/\x.el.length<2^62/\x.co.length<2^62)->
 PH eP (vW (l.map St.ar) I vI w) (Dd (l.map St.ar) I vI w) 0 nt
  (fun d=>qV (D.ae d)=(qV w++(St.cJ l).map St.ar).take 513):=by
 induction l using St.NS with|h l ih=>
 intro I vI w hw hl hf;have key:∀(rest:List St) (i:Nat) (A:List D),l.drop i=rest->A.length<=513->(∀x∈St.cJ rest,x.th.length<2^62/\x.el.length<2^62/\x.co.length<2^62)->
  aC pg eP [dY] (.bK 0 (nt (vW (l.map St.ar) I vI w) (Dd (l.map St.ar) I vI w)) fun d=>qV (D.ae d)=(qV A++(St.cJ rest).map St.ar).take 513) (wR (l.map St.ar) I vI w A.length i A):=by
  intro rest
  induction rest with
  |nil=>intro i A hd hc hf;have:=drop_nil hd;refine HK ?_;simp only[rk,amm,aml,amk];refine⟨fun h=>by omega,fun _=>⟨rfl,.r A,.ret,?_⟩⟩;simp only[D.aK,St.Sv,ank,ana];rw[amv (by simp[qV];exact hc)]
  |cons x rest V=>
   intro i A hd hc hf;obtain⟨Y,g2,Z⟩:=aF hd;have hx:=amn Y;obtain⟨i1,i2,i3⟩:=ih x hx;have hF:St.cJ (x::rest)=x::(St.cJ x.th++St.cJ x.el++St.cJ x.co++St.cJ rest):=(by rw[St.DJ,St.Oo];rfl);rw[hF]at hf ⊢;have O:=hf x (by simp);have f1:∀y∈St.cJ x.th,_:=fun y J=>hf y (by simp[J]);have f2:∀y∈St.cJ x.el,_:=fun y J=>hf y (by simp[J]);have f3:∀y∈St.cJ x.co,_:=fun y J=>hf y (by simp[J]);have f4:∀y∈St.cJ rest,_:=fun y J=>hf y (by simp[J]);refine HK ?_;simp only[rk,amm,amq,bC Y,aR Z,St.re,St.gD,St.BO,St.iz,aml,amk,amo,ant];refine⟨fun _=>⟨fun h5=>⟨fun _=>⟨fun _=>?_,fun h=>?_⟩,fun h=>by simp at h⟩,fun h5=>⟨rfl,.r A,.ret,?_⟩⟩,fun h=>by omega⟩
   ·have a6:A.length<=512:=(by omega);have e0:∀(U:List D),U.length<=513->∀d:D,qV (D.ae d)=U.take 513->(D.ae d).length<=513:=fun U _ d h=>by have:=amZ List.length h;simp only[qV,amm,amI]at this;omega
    have len:∀(U:List D) (d:D),qV (D.ae d)=U.take 513->(D.ae d).length<=513:=fun U d h=>by have:=amZ List.length h;simp only[qV,amm,amI]at this;omega
    have w1:(A++[D.r [D.z I,D.b vI,x.ar]]).length=A.length+1:=(by simp);have c1:=i1 (wp .i64 (I+1)) vI (A++[.r [.z I,.b vI,x.ar]]) (by omega) O.1 f1;simp only[vW,w1]at c1;refine⟨_,_,rfl,c1,?_⟩;intro d0 h0;refine⟨_,_,rfl,i2 _ vI _ (len _ _ h0) O.2.1 f2,?_⟩;intro d1 h1;refine⟨_,_,rfl,i3 _ true _ (len _ _ h1) O.2.2 f3,?_⟩;intro d2 h2;rw[bL Z];refine(V (i+1) (D.ae d2) g2 (len _ _ h2) f4).Ah fun d hd=>?_;rw[hd,h2,j7,h1,anK,j7,h0,anK,anK,j7];congr 1;have:qV (A++[.r [.z I,.b vI,x.ar]])=qV A++[x.ar]:=(by simp[qV,D.af,D.at]);rw[this];simp
   ·rcases h with h|h
    ·exact absurd trivial h
    simp[bh]at h;omega
   have h6:A.length=513:=(by omega);simp only[D.aK];rw[anW (by simp[qV];omega),amv (by simp[qV];omega)]
 exact Zb (key l 0 w rfl hw hf)
def ZF (l:List St)(I:Int)(vI:Bool)(hl:l.length<2^62)(hf:∀x∈St.cJ l,x.th.length<2^62/\x.el.length<2^62/\x.co.length<2^62):
 PH eP (wD (l.map St.ar) I vI) [] 0 nt
  (fun d=>(d.af 0).bool=false/\qV (d.af 1).ae=((St.cJ l).map St.ar).take 513):=by
 have key:∀(rest:List St) (i:Nat) (A:List D),l.drop i=rest->A.length<=513->(∀x∈St.cJ rest,x.th.length<2^62/\x.el.length<2^62/\x.co.length<2^62)->
  aC pg rH [dY] (.bK 0 (BH (wD (l.map St.ar) I vI) []) fun d=>(d.af 0).bool=false/\qV (d.af 1).ae=(qV A++(St.cJ rest).map St.ar).take 513) (qK (l.map St.ar) I vI A.length i A):=by
  intro rest
  induction rest with
  |nil=>intro i A hd hc hf;have:=drop_nil hd;refine CY ?_;simp only[rk,amm,aml,amk];refine⟨fun h=>by omega,fun _=>⟨rfl,.r [.b false,.r A],.ff rfl .ret,rfl,?_⟩⟩;show qV A=_;simp only[St.Sv,ank,ana];rw[amv (by simp[qV];exact hc)]
  |cons x rest V=>
   intro i A hd hc hf;obtain⟨Y,g2,Z⟩:=aF hd;have hx:=amn Y;obtain⟨i1,i2,i3⟩:_/\_/\_:=⟨Qv x.th,Qv x.el,Qv x.co⟩;have hF:St.cJ (x::rest)=x::(St.cJ x.th++St.cJ x.el++St.cJ x.co++St.cJ rest):=(by rw[St.DJ,St.Oo];rfl);rw[hF]at hf ⊢;have O:=hf x (by simp);have f1:∀y∈St.cJ x.th,_:=fun y J=>hf y (by simp[J]);have f2:∀y∈St.cJ x.el,_:=fun y J=>hf y (by simp[J]);have f3:∀y∈St.cJ x.co,_:=fun y J=>hf y (by simp[J]);have f4:∀y∈St.cJ rest,_:=fun y J=>hf y (by simp[J]);refine CY ?_;simp only[rk,amm,amq,bC Y,aR Z,St.re,St.gD,St.BO,St.iz,aml,amk,amo,ant];refine⟨fun _=>⟨fun h5=>⟨fun _=>⟨fun _=>?_,fun h=>?_⟩,fun h=>by simp at h⟩,fun h5=>⟨rfl,.r [.b false,.r A],.ff rfl .ret,rfl,?_⟩⟩,fun h=>by omega⟩
   ·have a6:A.length<=512:=(by omega);have e0:∀(U:List D),U.length<=513->∀d:D,qV (D.ae d)=U.take 513->(D.ae d).length<=513:=fun U _ d h=>by have:=amZ List.length h;simp only[qV,amm,amI]at this;omega
    have len:∀(U:List D) (d:D),qV (D.ae d)=U.take 513->(D.ae d).length<=513:=fun U d h=>by have:=amZ List.length h;simp only[qV,amm,amI]at this;omega
    have w1:(A++[D.r [D.z I,D.b vI,x.ar]]).length=A.length+1:=(by simp);have c1:=i1 (wp .i64 (I+1)) vI (A++[.r [.z I,.b vI,x.ar]]) (by omega) O.1 f1;simp only[vW,w1]at c1;refine⟨_,_,rfl,c1,?_⟩;intro d0 h0;refine⟨_,_,rfl,i2 _ vI _ (len _ _ h0) O.2.1 f2,?_⟩;intro d1 h1;refine⟨_,_,rfl,i3 _ true _ (len _ _ h1) O.2.2 f3,?_⟩;intro d2 h2;rw[bL Z];refine(V (i+1) (D.ae d2) g2 (len _ _ h2) f4).Ah fun d hd=>⟨hd.1,?_⟩;rw[hd.2,h2,j7,h1,anK,j7,h0,anK,anK,j7];congr 1;have:qV (A++[.r [.z I,.b vI,x.ar]])=qV A++[x.ar]:=(by simp[qV,D.af,D.at]);rw[this];simp
   ·rcases h with h|h
    ·exact absurd trivial h
    simp[bh]at h;omega
   have h6:A.length=513:=(by omega);show qV A=_;rw[anW (by simp[qV];omega),amv (by simp[qV];omega)]
 have e:=key l 0 [] rfl (by simp) hf;simp only[qV,ank,an0]at e;exact Rr e
def af8 (l:List St)(hl:l.length<2^62)(hf:∀x∈St.cJ l,x.th.length<2^62/\x.el.length<2^62/\x.co.length<2^62):dZ pg Dx [aQ] [.r (l.map St.ar)] [dY] (fun d=>d= .r (D.ae d)/\qV (D.ae d)=((St.cJ l).map St.ar).take 513):=by
 refine Y6 ?_;simp only[rk,D.aK];refine⟨_,_,rfl,ZF l 0 false hl hf,?_⟩;rintro d ⟨h1,h2⟩;refine⟨fun h=>(by rw[h1]at h;cases h),fun _=>⟨fun _=>⟨trivial,h2⟩,fun h=>by simp at h⟩⟩
def adj (l:List St)(hl:St.vl l)(hs:St.ml l<2^30):dZ pg nj [aQ] [.r (l.map St.ar)] [ah,bn] (·= .r [.z (TB l).1,.z (TB l).2]):=by
 have A:=St.ab5 hl hs;have Y:=St.xv l;refine WL ?_;simp only[rk,D.aK];refine⟨_,_,_,rfl,af8 l (by omega) (fun x hx=>by have:=(A x hx).ak9;omega),?_⟩;rintro d ⟨_,hd⟩;generalize D.ae d=bY at hd;have O:bY.length=min 513 (St.cJ l).length:=by have:=amZ List.length hd;simpa [qV]using this
 have hat:∀i (h:i<(St.cJ l).length),i<bY.length->D.af (D.at bY i) 2=(St.cJ l)[i].ar:=fun i h h2=>by
  have U:(qV bY)[i]?=some (D.af (D.at bY i) 2):=by simp[qV,D.at,List.getD,h2]
  rw[hd,aoa (by omega)]at U;simp[h]at U;exact U.symm
 generalize Z:St.cJ l=F at A O hat;have key:∀(m i:Nat),m+i=min 512 F.length->nc 0 F=nc i (F.drop i)->aC pg nj [ah,bn] (.cY (·= .r [.z (TB l).1,.z (TB l).2])) (uN (.r (l.map St.ar)) bY i):=by
  intro m
  induction m with
  |zero=>
   intro i hi hw;refine FX ?_;have c1:∀h:i<512,nc 0 F=none:=fun h=>by rw[hw,apD (by omega)];rfl
   have c2:bY.length>512->nc 0 F=some (512,4):=fun h=>by rw[hw,anU (by omega)];simp only[nc];rw[ifP]
   have c3:¬bY.length>512->nc 0 F=none:=fun h=>by rw[hw,apD (by omega)];rfl
   have e:TB l=(nc 0 F).getD (0,0):=(by unfold TB;rw[Z]);have V:((((bY.length:Nat):Int)>512)->(D.r [D.z 512,D.z 4])= .r [.z (TB l).1,.z (TB l).2])/\(¬(((bY.length:Nat):Int)>512)->(D.r [D.z 0,D.z 0])= .r [.z (TB l).1,.z (TB l).2]):=
    ⟨fun h=>by rw[e,c2 (by omega)];rfl,fun h=>by rw[e,c3 (by omega)];rfl⟩
   simp only[rk,aml,amk];refine⟨fun h=>⟨fun h2=>by omega,fun h2=>V⟩,fun h=>V⟩
  |succ m ih=>
   intro i hi hw;have J:i<F.length:=(by omega);have I:i<bY.length:=(by omega);have hg:=A F[i] (apz J);have e:TB l=(nc 0 F).getD (0,0):=(by unfold TB;rw[Z]);rw[anU J]at hw;simp only[nc]at hw;rw[ifN]at hw;refine FX ?_;simp only[rk,amq,hat i J I,aR I,St.re,aml,amk,amJ,amP];refine⟨fun _=>⟨fun _=>⟨fun _=>⟨_,_,_,rfl,af7 _ hg,?_⟩,fun h=>by simp at h⟩,fun h=>by omega⟩,fun h=>by omega⟩;rintro _ rfl;simp only[D.bV];refine⟨fun h=>?_,fun h=>?_⟩
   ·rw[amu h]at hw;rw[e,hw];rfl
   rw[bL I];rw[amt (by rw[h];simp)]at hw;exact ih (i+1) (by omega) hw
 exact key (min 512 F.length) 0 (by omega) rfl
def aid (l:List St)(hl:St.vl l)(hs:St.ml l<2^30):dZ pg GI [aQ] [.r (l.map St.ar)] [aj] (·= .b (y7 l)):=by
 refine acQ ?_;simp only[rk,D.aK];refine⟨_,_,_,rfl,adj l hl hs,?_⟩;rintro _ rfl;rfl
end Go.Proofs
end
