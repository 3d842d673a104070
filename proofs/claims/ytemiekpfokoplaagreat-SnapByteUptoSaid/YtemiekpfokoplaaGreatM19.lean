import Derived.Test.YtemiekpfokoplaaGreatM18
set_option linter.all false
noncomputable section
open Go.IntKind renaming wrap→wp
namespace Go.Proofs
open Go Go.PB
section
inductive aQ.iy (t:aQ):Nat->Int->Prop where
 |au {r:Int} {x:Wh} (h:t.get r=some x) (hw:eo x.k=false):aQ.iy t 0 r
 |step {n:Nat} {r:Int} {x:Wh} (h:t.get r=some x) (hw:eo x.k=true) (he:aQ.iy t n x.of):aQ.iy t (n+1) r
def aQ.iy.aeN {t:aQ}:∀{n m:Nat} {r:Int},t.iy n r->t.iy m r->n=m:=by
 intro n
 induction n with
 |zero=>
  intro m r h1 h2
  cases h1 with
  |au e w1=>
   cases h2 with
   |au=>rfl
   |step e2 w2=>rw[e]at e2;cases e2;rw[w1]at w2;cases w2
 |succ n ih=>
  intro m r h1 h2
  cases h1 with
  |step e w1 he=>
   cases h2 with
   |au e2 w2=>rw[e]at e2;cases e2;rw[w1]at w2;cases w2
   |step e2 w2 he2=>rw[e]at e2;cases e2;rw[ih he he2]
def aQ.iy.chain {t:aQ}{n:Nat}{r:Int}(h:t.iy n r):t.chain n r=true:=by
 induction h with
 |au e w=>simp[aQ.chain,e,w]
 |step e w _ ih=>simp[aQ.chain,e,w,ih]
def aQ.Ja {t:aQ}:∀{n:Nat} {r:Int},t.chain n r=true->∃m,m<=n/\t.iy m r:=by
 intro n
 induction n with
 |zero=>
  intro r h
  simp only[aQ.chain]at h
  cases hg:t.get r with
  |none=>rw[hg]at h;cases h
  |some x=>simp only[hg]at h;exact⟨0,by omega,.au hg (by simpa using h)⟩
 |succ n ih=>
  intro r h
  simp only[aQ.chain]at h
  cases hg:t.get r with
  |none=>rw[hg]at h;cases h
  |some x=>
   simp only[hg]at h
   by_cases hw:eo x.k=true
   ·rw[aeZ hw]at h
    obtain⟨m,h1,h2⟩:=ih h
    exact⟨m+1,by omega,.step hg hw h2⟩
   ·exact⟨0,by omega,.au hg (by simpa using hw)⟩
def aQ.Lw (t:aQ)(r:Int):Prop:=(t.iu (t.length+1) r).length<=t.length/\∃q x,(t.iu (t.length+1) r).getLast?=some q/\t.get q=some x/\eo x.k=false
def aQ.iy.way {t:aQ}:∀{n:Nat} {r:Int},t.iy n r->∀k,n<k->(t.iu k r).length=n+1/\(t.iu k r).Nodup/\(∀q∈t.iu k r,q∈t.map (·.1)/\∃j,j<=n/\t.iy j q)/\∃q x,(t.iu k r).getLast?=some q/\t.get q=some x/\eo x.k=false:=by
 intro n
 induction n with
 |zero=>
  intro r h k hk
  cases h with
  |au e w=>
   cases k with
   |zero=>omega
   |succ k=>
    have e1:t.iu (k+1) r=[r]:=by simp[aQ.iu,e,w]
    rw[e1]
    exact⟨rfl,by simp,fun q hq=>by simp at hq;subst hq;exact⟨aQ.mO.1 (by simp[e]),0,afa _,.au e w⟩,r,_,rfl,e,w⟩
 |succ n ih=>
  intro r h k hk
  have h0:=h
  cases h with
  |step e w he=>
   rename_i x
   cases k with
   |zero=>omega
   |succ k=>
    have e1:t.iu (k+1) r=r::t.iu k x.of:=by simp[aQ.iu,e,w]
    obtain⟨a1,a2,a3,q,y,a4,a5,a6⟩:=ih he k (by omega)
    rw[e1]
    refine⟨by simp[a1],afD.2 ⟨fun hm=>?_,a2⟩,fun p hp=>?_,q,y,?_,a5,a6⟩
    ·obtain⟨_,j,hj,hj2⟩:=a3 r hm
     have:=hj2.aeN h0;omega
    ·rcases ae5.1 hp with rfl|hp
     ·exact⟨aQ.mO.1 (by simp[e]),_,afa _,h0⟩
     ·obtain⟨b1,j,b2,b3⟩:=a3 p hp
      exact⟨b1,j,by omega,b3⟩
    ·rw[aiw,a4];rfl
def aQ.X5 {t:aQ}:∀(k:Nat) (r:Int),(t.iu k r).length<k->(∃q x,(t.iu k r).getLast?=some q/\t.get q=some x/\eo x.k=false)->∃n,n<k/\t.iy n r:=by
 intro k
 induction k with
 |zero=>intro r h;omega
 |succ k ih=>
  intro r h hl
  obtain⟨q,y,h1,h2,h3⟩:=hl
  cases hg:t.get r with
  |none=>simp[aQ.iu,hg]at h1
  |some x=>
   by_cases hw:eo x.k=true
   ·have e1:t.iu (k+1) r=r::t.iu k x.of:=by simp[aQ.iu,hg,hw]
    rw[e1]at h h1
    rw[aiw]at h1
    cases hl2:(t.iu k x.of).getLast? with
    |none=>
     rw[hl2]at h1
     simp at h1
     subst h1
     rw[hg]at h2;cases h2
     rw[hw]at h3;cases h3
    |some p=>
     rw[hl2]at h1
     simp at h1
     subst h1
     obtain⟨n,hn,he⟩:=ih x.of (by simpa using h) ⟨p,y,hl2,h2,h3⟩
     exact⟨n+1,by omega,.step hg hw he⟩
   ·exact⟨0,by omega,.au hg (by simpa using hw)⟩
def aQ.Gs {t:aQ}(h1:t.one)(r:Int):t.chain t.length r=true↔t.Lw r:=by
 constructor
 ·intro h
  obtain⟨n,hn,he⟩:=aQ.Ja h
  obtain⟨a1,a2,a3,a4⟩:=he.way (t.length+1) (by omega)
  refine⟨?_,a4⟩
  have:=CI a2 fun q hq=>(a3 q hq).1
  simpa using this
 ·rintro⟨a1,a2⟩
  obtain⟨n,hn,he⟩:=aQ.X5 (t.length+1) r (by omega) a2
  exact aQ.Nq (by omega) he.chain
def aba (v:BitVec 8):IntKind.u8.wrap ((v.toNat:Nat):Int)=(v.toNat:Int):=by
 have e1:(IntKind.u8).bits=8:=rfl
 have e2:(IntKind.u8).signed=false:=rfl
 simp only[wp,e1,e2,ahk,ae0,afS]
 have:=v.isLt;omega
def of8 (v:BitVec 8):BitVec.ofInt 8 (v.toNat:Int)=v:=by simp
def Sk (a b:Int):pY a b=((BitVec.ofInt 8 a &&& BitVec.ofInt 8 b).toNat:Int):=aba _
def HT (a b:Int):kG a b=0↔BitVec.ofInt 8 a &&& BitVec.ofInt 8 b=BitVec.ofInt 8 a:=by
 rw[kG,aba]
 generalize BitVec.ofInt 8 a=u
 generalize BitVec.ofInt 8 b=v
 constructor
 ·intro h
  have h0:u &&& ~~~v=0#8:=ahu (by simpa using h)
  ext i hi
  have:=afg (·[i]) h0
  simp at this ⊢
  exact this
 ·intro h
  have h0:u &&& ~~~v=0#8:=by
   ext i hi
   have:=afg (·[i]) h
   simp at this ⊢
   exact this
  rw[h0];rfl
def QE {s set a:Int}(h:kG set a=0):pY (pY 63 (pY (pY 63 s) set)) a=pY (pY 63 s) set:=by
 rw[HT]at h
 simp only[Sk,of8]
 congr 1
 congr 1
 generalize BitVec.ofInt 8 s=u at*
 generalize BitVec.ofInt 8 set=v at*
 generalize BitVec.ofInt 8 a=w at*
 generalize BitVec.ofInt 8 63=x at*
 ext i hi
 have:=afg (·[i]) h
 simp at this ⊢
 revert this
 cases x[i]<;>cases u[i]<;>cases v[i]<;>cases w[i]<;>simp
def ZI {a:Int}(h0:0<=a)(h1:a<64):pY (pY 63 63) a=a:=by
 obtain⟨m,rfl⟩:=ahg h0
 have h:m<64:=by omega
 have key:∀m:Nat,m<64->pY (pY 63 63) (m:Int)=m:=by decide+kernel
 exact key m h
def aeu (a b:Int)(h0:0<=b)(h1:b<64):0<=pY a b/\pY a b<64:=by
 rw[Sk]
 have:(BitVec.ofInt 8 a &&& BitVec.ofInt 8 b).toNat<=(BitVec.ofInt 8 b).toNat:=by rw[BitVec.toNat_and];exact Nat.and_le_right
 have:(BitVec.ofInt 8 b).toNat=b.toNat:=by rw[agz];congr 1;omega
 omega
def Kb {a b:Int}(h:kG a b=0)(a0:0<=a)(a1:a<256)(h0:0<=b)(h1:b<64):a<64:=by
 rw[HT]at h
 have e:(BitVec.ofInt 8 a).toNat<=(BitVec.ofInt 8 b).toNat:=by rw[<-h,BitVec.toNat_and];exact Nat.and_le_right
 have e1:(BitVec.ofInt 8 b).toNat=b.toNat:=by rw[agz];congr 1;omega
 have e2:(BitVec.ofInt 8 a).toNat=a.toNat:=by rw[agz];congr 1;omega
 omega
def abv (k:Int):0<=CV k/\CV k<64:=by unfold CV;repeat' split;all_goals omega
def aQ.yE (t:aQ)(r:Int):Int:=(t.nM (t.length+1) r).getD 0
def aQ.iy.nM {t:aQ}:∀{n:Nat} {r:Int},t.iy n r->∃a,∀k,n<k->t.nM k r=some a:=by
 intro n
 induction n with
 |zero=>
  intro r h
  cases h with
  |au e w=>
   rename_i x
   refine⟨CV x.k,fun k hk=>?_⟩
   cases k with
   |zero=>omega
   |succ k=>
    simp only[eo,aeS]at w
    simp only[aQ.nM,e]
    rw[aeX (by omega),aeX (by omega)]
 |succ n ih=>
  intro r h
  cases h with
  |step e w he=>
   rename_i x
   obtain⟨a,ha⟩:=ih he
   simp only[eo,aeT]at w
   by_cases h14:x.k=14
   ·refine⟨x.set,fun k hk=>?_⟩
    cases k with
    |zero=>omega
    |succ k=>simp only[aQ.nM,e];rw[aeZ h14]
   ·refine⟨a,fun k hk=>?_⟩
    cases k with
    |zero=>omega
    |succ k=>simp only[aQ.nM,e];rw[aeX h14,aeZ (by omega)];exact ha k (by omega)
section
variable {t:aQ}
def aQ.ID (h1:t.one)(hch:∀r x,t.get r=some x->t.chain t.length r=true){r:Int}{x:Wh}(hx:t.get r=some x):∃n,n<t.length/\t.iy n r:=by
 obtain⟨n,hn,he⟩:=aQ.Ja (hch r x hx)
 obtain⟨a1,a2,a3,_⟩:=he.way (t.length+1) (by omega)
 have:=CI a2 fun q hq=>(a3 q hq).1
 exact⟨n,by simp at this;omega,he⟩
def aQ.iy.yE {n:Nat}{r:Int}(hn:n<=t.length)(h:t.iy n r)(k:Nat)(hk:n<k):t.nM k r=some (t.yE r):=by
 obtain⟨a,ha⟩:=h.nM
 rw[ha k hk]
 simp[aQ.yE,ha (t.length+1) (by omega)]
def aQ.LG (hset:∀r x,t.get r=some x->0<=x.set/\x.set<256)(hf:(∀r x,t.get r=some x->x.k=14->kG x.set (t.ab x.of)=0)\/(∀r x,t.get r=some x->x.k=14->kG x.set (t.yE x.of)=0)):
 ∀(n:Nat) (r:Int),n<=t.length->t.iy n r->(∀k,n<k->∀s,t.x7 k r s=some (pY (pY 63 s) (t.yE r)))/\t.ab r=t.yE r/\0<=t.yE r/\t.yE r<64:=by
 have bE:∀(n:Nat) (r:Int),n<=t.length->(∀k,n<k->∀s,t.x7 k r s=some (pY (pY 63 s) (t.yE r)))->0<=t.yE r->t.yE r<64->t.ab r=t.yE r:=fun n r hn h a0 a1=>by
  simp only[aQ.ab,h (t.length+1) (by omega) 63,af1,ZI a0 a1]
 intro n
 induction n with
 |zero=>
  intro r hn h
  have hA:=h.yE hn 1 (by omega)
  cases h with
  |au e w=>
   rename_i x
   simp only[eo,aeS]at w
   have hc:t.yE r=CV x.k:=by
    simp only[aQ.nM,e]at hA
    rw[aeX (by omega),aeX (by omega)]at hA
    exact(agT hA).symm
   have hlt:=abv x.k
   rw[<-hc]at hlt
   have hab:∀k,0<k->∀s,t.x7 k r s=some (pY (pY 63 s) (t.yE r)):=fun k hk s=>by
    cases k with
    |zero=>omega
    |succ k=>
     simp only[aQ.x7,e]
     rw[aeX (by omega),aeX (by omega),hc]
   exact⟨hab,bE 0 r hn hab hlt.1 hlt.2,hlt⟩
 |succ n ih=>
  intro r hn h
  have hA:=h.yE hn (n+2) (by omega)
  cases h with
  |step e w he=>
   rename_i x
   obtain⟨i1,i2,i3,i4⟩:=ih x.of (by omega) he
   have hO:=he.yE (by omega) (n+1) (by omega)
   simp only[eo,aeT]at w
   by_cases h14:x.k=14
   ·have hc:t.yE r=x.set:=by
     simp only[aQ.nM,e]at hA
     rw[aeZ h14]at hA
     exact(agT hA).symm
    have hw:kG x.set (t.yE x.of)=0:=by
     rcases hf with hf|hf
     ·rw[<-i2];exact hf r x e h14
     ·exact hf r x e h14
    have hs:=hset r x e
    have hlt:=Kb hw hs.1 hs.2 i3 i4
    rw[<-hc]at hlt
    have hab:∀k,n+1<k->∀s,t.x7 k r s=some (pY (pY 63 s) (t.yE r)):=fun k hk s=>by
     cases k with
     |zero=>omega
     |succ k=>
      simp only[aQ.x7,e]
      rw[aeZ h14,i1 k (by omega),QE hw,hc]
    exact⟨hab,bE (n+1) r hn hab (by rw[hc];exact hs.1) hlt,by rw[hc];exact hs.1,hlt⟩
   ·have hc:t.yE r=t.yE x.of:=by
     have hA2:t.nM (n+2) r=t.nM (n+1) x.of:=by rw[aQ.nM];simp only[e];rw[aeX h14,aeZ (by omega)]
     rw[hA2,hO]at hA;exact(agT hA).symm
    have hab:∀k,n+1<k->∀s,t.x7 k r s=some (pY (pY 63 s) (t.yE r)):=fun k hk s=>by
     cases k with
     |zero=>omega
     |succ k=>
      simp only[aQ.x7,e]
      rw[aeX h14,aeZ (by omega),i1 k (by omega),hc]
    exact⟨hab,bE (n+1) r hn hab (by rw[hc];exact i3) (by rw[hc];exact i4),by rw[hc];exact i3,by rw[hc];exact i4⟩
end
structure aQ.RE (t:aQ):Prop where
 one:t.one
 pos:∀r x,t.get r=some x->1<=r
 kind:∀r x,t.get r=some x->1<=x.k/\x.k<=16
 set:∀r x,t.get r=some x->0<=x.set/\x.set<256
def aQ.Si {t:aQ}(h:t.RE)(q:Int):t.kind q=0↔t.get q=none:=by
 unfold aQ.kind
 cases e:t.get q with
 |none=>simp
 |some x=>have:=h.kind q x e;simp;omega
def aQ.Og (t:aQ)(r k o:Int):t.pw r k o false=t.zh r k o:=by
 unfold aQ.pw aQ.zh;congr 1
def aQ.DJ {t:aQ}(h:t.RE)(r:Int)(x:Wh)(a:Int):t.ki r x a=0↔t.S1 x=true/\t.uD r x a=true:=by
 have e1:(aJ.cU x.aF).any (fun q=>decide (t.kind q=0))=!t.Fp x:=by
  rw[aQ.Fp,List.all_eq_not_any_not,Bool.not_not]
  congr 1
  funext q
  cases e:t.get q with
  |none=>simp[aQ.Si h,e]
  |some y=>
   have:¬t.kind q=0:=fun a=>by rw[(aQ.Si h q).1 a]at e;cases e
   simp[this]
 have iso:∀o:Option Wh,o.isNone=!o.isSome:=fun o=>by cases o<;>rfl
 rw[aQ.ki,e1]
 simp only[aQ.S1,Wh.Lv,iso]
 by_cases c1:t.Fp x=true
 ·by_cases c2:(t.get x.of).isSome=true
  ·by_cases c3:(t.get x.jj).isSome=true
   ·cases c4:t.uD r x a<;>simp[c1,c2,c3]
   ·cases c4:t.uD r x a<;>cases c5:uc x.k<;>simp[c1,c2,c3]
  ·cases c4:t.uD r x a<;>cases c5:uc x.k<;>cases c6:wu x.k<;>cases c3:(t.get x.jj).isSome<;>by_cases c7:(x.k=13/\x.of≠0)<;>simp[c1,c2,c7]
 ·simp[c1]
def aQ.Lq {t:aQ}(h:t.RE):((∀r x,t.get r=some x->x.k=14->x.set<64)/\t.IZ)↔(∀r x,t.get r=some x->t.Lw r)/\(∀r x,t.get r=some x->t.ki r x (t.yE x.of)=0):=by
 have mem:∀r x,t.get r=some x↔(r,x)∈t:=fun r x=>aQ.sA h.one
 have isof:∀x:Wh,t.S1 x=true->wu x.k=true->(t.get x.of).isSome=true:=fun x hs hk=>by
  simp only[aQ.S1,aeV,hk]at hs;simpa using hs.1.1.2
 have wr:∀k:Int,k=14\/k=15\/k=16->wu k=true:=fun k hk=>by simp[wu,eo];omega
 have endsOf:(∀r x,t.get r=some x->t.chain t.length r=true)->∀o,(t.get o).isSome=true->∃n,n<=t.length/\t.iy n o:=fun hch o ho=>by
  obtain⟨y,hy⟩:=afl.1 ho
  obtain⟨n,hn,he⟩:=aQ.ID h.one hch hy
  exact⟨n,by omega,he⟩
 constructor
 ·rintro⟨h64,hS,hS3,hP⟩
  have hch:∀r x,t.get r=some x->t.chain t.length r=true:=fun r x hx=>(hS r x hx).2
  have hf:∀r x,t.get r=some x->x.k=14->kG x.set (t.ab x.of)=0:=fun r x hx hk=>by
   have:=hP r x hx
   simp[aQ.PC,hk]at this
   exact this.2.2.2
  refine⟨fun r x hx=>(aQ.Gs h.one r).1 (hch r x hx),fun r x hx=>(aQ.DJ h r x _).2 ⟨(hS r x hx).1,?_⟩⟩
  have hs:=(hS r x hx).1
  have hp:=hP r x hx
  have hr:=h.pos r x hx
  have hab:x.k=14->t.yE x.of=t.ab x.of:=fun hk=>by
   obtain⟨n,hn,he⟩:=endsOf hch x.of (isof x hs (wr _ (.inl hk)))
   exact(aQ.LG h.set (.inl hf) n x.of hn he).2.1.symm
  have hkk:=h.kind r x hx
  by_cases k15:x.k=15
  ·simp[aQ.PC,k15]at hp
   have ho:t.pw r 15 x.jj true=false:=by
    rw[<-Bool.not_eq_true]
    intro hh
    simp only[aQ.pw,ag7,aeT,afq]at hh
    obtain⟨p,hp1,p2,p3,p4⟩:=hh
    have:=hP p.1 p.2 ((mem _ _).2 hp1)
    simp[aQ.PC,p3]at this
    rw[p4]at this
    exact p2 (by rw[<-this.2.2.2,hp.2.2.2])
   simp[aQ.uD,k15,hp,ho]
  ·by_cases k14:x.k=14
   ·simp[aQ.PC,k14]at hp
    have hn:t.xH r x=true:=by
     simp only[aQ.xH,afK,aeT]
     intro p hp1
     by_cases c1:p.2.k=14
     ·by_cases c2:p.2.of=x.of
      ·by_cases c3:p.2.set=x.set
       ·exact .inl (hS3 p.1 r p.2 x ((mem _ _).2 hp1) hx c1 k14 c2 c3)
       ·exact .inr (.inr (.inr c3))
      ·exact .inr (.inr (.inl c2))
     ·exact .inr (.inl c1)
    simp[aQ.uD,k14,hab k14,hp,hn]
   ·by_cases k16:x.k=16
    ·simp[aQ.PC,k16]at hp;simp[aQ.uD,k16,hp]
    ·simp only[aQ.PC,k14,k15,k16,afS]at hp
     simp only[aQ.uD,k14,k15,k16,afS,aQ.Og]
     exact hp
 ·rintro⟨hway,hask⟩
  have hch:∀r x,t.get r=some x->t.chain t.length r=true:=fun r x hx=>(aQ.Gs h.one r).2 (hway r x hx)
  have hS:∀r x,t.get r=some x->t.S1 x=true:=fun r x hx=>((aQ.DJ h r x _).1 (hask r x hx)).1
  have hR:∀r x,t.get r=some x->t.uD r x (t.yE x.of)=true:=fun r x hx=>((aQ.DJ h r x _).1 (hask r x hx)).2
  have hf:∀r x,t.get r=some x->x.k=14->kG x.set (t.yE x.of)=0:=fun r x hx hk=>by
   have:=hR r x hx
   simp[aQ.uD,hk]at this
   exact this.1.2.1
  have hab:∀r x,t.get r=some x->x.k=14->t.ab x.of=t.yE x.of/\0<=t.yE x.of/\t.yE x.of<64:=fun r x hx hk=>by
   obtain⟨n,hn,he⟩:=endsOf hch x.of (isof x (hS r x hx) (wr _ (.inl hk)))
   exact(aQ.LG h.set (.inr hf) n x.of hn he).2
  refine⟨fun r x hx hk=>?_,fun r x hx=>⟨hS r x hx,hch r x hx⟩,fun r q x y hx hy x14 y14 e1 e2=>?_,fun r x hx=>?_⟩
  ·have:=h.set r x hx
   exact Kb (hf r x hx hk) this.1 this.2 (hab r x hx hk).2.1 (hab r x hx hk).2.2
  ·have:=hR r x hx
   simp[aQ.uD,x14]at this
   have hn:=this.2
   simp only[aQ.xH,afK,aeT]at hn
   rcases hn (q,y) ((mem _ _).1 hy)with c|c|c|c
   ·exact c.symm
   ·exact absurd y14 c
   ·exact absurd e1.symm c
   ·exact absurd e2.symm c
  ·have hp:=hR r x hx
   have hs:=hS r x hx
   have hr:=h.pos r x hx
   by_cases k15:x.k=15
   ·have ho:=isof x hs (wr _ (.inr (.inl k15)))
    simp[aQ.uD,k15]at hp
    have hr0:¬r=0:=by omega
    simp[hr0]at hp
    simp[aQ.PC,k15,hp,ho]
   ·by_cases k14:x.k=14
    ·have ho:=isof x hs (wr _ (.inl k14))
     simp[aQ.uD,k14]at hp
     simp[aQ.PC,k14,(hab r x hx k14).1,hp,ho]
    ·by_cases k16:x.k=16
     ·have ho:=isof x hs (wr _ (.inr (.inr k16)))
      simp[aQ.uD,k16]at hp;simp[aQ.PC,k16,hp,ho]
     ·simp only[aQ.uD,k14,k15,k16,afS,aQ.Og]at hp
      simp only[aQ.PC,k14,k15,k16,afS]
      exact hp
end
def Bh {P:Program}{f:FuncId}{ags:List BV}{M M':List (Nat×ax)}{p:Nat}{R:RH}{Q:D->Prop}(h:M=M')(hp:pj P f ags M' p (R ags M') Q):pj P f ags M p (R ags M) Q:=by subst h;exact hp
def da (l:List Int):Prop:=∀(i:Nat) (a b:Int),l[i]?=some a->l[i+1]?=some b->a<b
def da.tail {a:Int}{l:List Int}(h:da (a::l)):da l:=fun i x y h1 h2=>h (i+1) x y (by simpa using h1) (by simpa using h2)
def da.lt:∀{l:List Int} {a:Int},da (a::l)->∀b∈l,a<b:=by
 intro l
 induction l with
 |nil=>intro a _ b hb;cases hb
 |cons c r ih=>
  intro a h b hb
  have h1:a<c:=h 0 a c rfl rfl
  rcases ae5.1 hb with rfl|hb
  ·exact h1
  ·have:=ih h.tail b hb;omega
def da.ze:∀{l:List Int},da l->l.Nodup:=by
 intro l
 induction l with
 |nil=>intro _;simp
 |cons a r ih=>
  intro h
  refine afD.2 ⟨fun hm=>?_,ih h.tail⟩
  have:=h.lt a hm;omega
namespace Wl
def aD (x:Wl):aQ:=x.th.map fun e=>(e.r,e.w)
def Pe (x:Wl):Int:=x.ma.foldr (·+·) 0
end Wl
def Gt (l:List En)(i:Nat):Nat:=(l.filter fun e=>decide (e.w.k≠14/\e.w.h=(i:Int))).length
def gI (n:Nat)(l:List Int):List Bool:=l.foldl (fun a c=>a.set c.toNat true) (List.replicate (n+1) false)
def Qa (n:Nat)(l:List Int)(c:Int):gI n (l++[c])=(gI n l).set c.toNat true:=by simp[gI]
def Df (l:List Int)(f:Int->Nat):∀a:List Bool,(l.foldl (fun a c=>a.set (f c) true) a).length=a.length:=by
 induction l with
 |nil=>intro a;rfl
 |cons c r ih=>intro a;simp[ih]
@[simp] def S7 (n:Nat)(l:List Int):(gI n l).length=n+1:=by simp[gI,Df]
structure Wl.zw (x:Wl):Prop where
 par:nO x.pa=true
 DU:x.ma.length=x.pa.length+1
 cut:∀c∈x.cu,1<=c/\c<=x.pa.length
 Nu:da x.cu
 mb:∀m∈x.ma,0<=m/\m<=512
 la0:0<=x.la
 la1:x.la<=64*x.Pe
 rb:∀e∈x.th,1<=e.r/\e.r<=x.la
 KD:da (x.th.map En.r)
 BC:∀e∈x.th,e.w.F (x.pa.length+1:Nat)/\(e.w.k=14->e.w.set<64)
 DS:∀(i:Nat) (m:Int),x.ma[i]?=some m->(Gt x.th i:Int)<=m
 XR:x.aD.IZ
 Lr:x.la+q7 (x.aD.ov x.aD.ab) (x.aD.map (·.1))<=64*x.Pe
structure Wl.Bf (x:Wl):Prop where
 ok:x.ok
 pa:x.pa.length<2^30
 cu:x.cu.length<2^30
 th:x.th.length<2^30
 ma:x.ma.length<2^30
 sz:∀e∈x.th,e.w.sz<2^30
def Wl.cX (x:Wl):x.aD.map (·.1)=x.th.map En.r:=by simp[Wl.aD]
def Pf (l:List Int)(h:∀m∈l,0<=m/\m<=512):0<=l.foldr (·+·) (0:Int)/\l.foldr (·+·) (0:Int)<=512*l.length:=by
 induction l with
 |nil=>simp
 |cons a r ih=>
  have h1:=h a (by simp)
  have h2:=ih fun m hm=>h m (by simp[hm])
  simp only[ah3,ae9]
  omega
def Pg (l:List Int)(a:Int):(l++[a]).foldr (·+·) (0:Int)=l.foldr (·+·) 0+a:=by
 induction l with
 |nil=>simp
 |cons b r ih=>simp only[af8,ah3,ih];omega
structure Ps (l:List D)(n:Nat)(pre:List En):Prop where
 len:l.length=n
 ni:∀i,i<n->D.at l i= .z (Gt pre i)
def Ps.adI (n:Nat):Ps (List.replicate n (D.z 0)) n []:=⟨by simp,fun i hi=>by simp[D.at,List.getD,hi,Gt]⟩
def K0 (pre:List En)(e:En)(i:Nat):Gt (pre++[e]) i=Gt pre i+if e.w.k≠14/\e.w.h=(i:Int)then 1 else 0:=by
 simp only[Gt,List.filter_append,ae4]
 by_cases h:e.w.k≠14/\e.w.h=(i:Int)
 ·rw[aeZ h,List.filter_cons_of_pos (by simpa using h)];rfl
 ·rw[aeX h,List.filter_cons_of_neg (by simpa using h)];rfl
def R2 (pre:List En)(i:Nat):Gt pre i<=pre.length:=aib _ _
def Ps.same {l:List D}{n:Nat}{pre:List En}(h:Ps l n pre){e:En}(he:e.w.k=14):Ps l n (pre++[e]):=⟨h.len,fun i hi=>by rw[h.ni i hi,K0,aeX (by simp[he])];rfl⟩
def Ps.step {l:List D}{n:Nat}{pre:List En}(h:Ps l n pre){e:En}(he:e.w.k≠14)(h0:0<=e.w.h)(h1:e.w.h<n):Ps (l.set e.w.h.toNat (.z ((Gt pre e.w.h.toNat:Int)+1))) n (pre++[e]):=by
 refine⟨by simp[h.len],fun i hi=>?_⟩
 rw[K0]
 by_cases hh:e.w.h=i
 ·have:e.w.h.toNat=i:=by omega
  rw[aeZ ⟨he,hh⟩,this]
  simp[D.at,List.getD,h.len,hi]
 ·have:e.w.h.toNat≠i:=by omega
  rw[aeX (by simp[hh])]
  have:=h.ni i hi
  simp only[D.at,List.getD,agh ‹_›]at this ⊢
  simpa using this
def da.MW {l:List Int}{b:Int}(h:da l)(hl:∀a,0<l.length->l[l.length-1]?=some a->a<b):da (l++[b]):=by
 intro i x y h1 h2
 have hi:=(ae1.1 h2).1
 simp only[ae4,aic]at hi
 rw[ago (by omega)]at h1
 by_cases e:i+1<l.length
 ·rw[ago e]at h2;exact h i x y h1 h2
 ·have:i+1=l.length:=by omega
  rw[ag1 (by omega),this,Nat.sub_self]at h2
  cases h2
  exact hl x (by omega) (by rw[<-this];exact h1)
def aQ.zZ (t u:aQ)(r:Int):aQ.get (t++u) r=(t.get r).or (u.get r):=by
 induction t with
 |nil=>simp[aQ.get]
 |cons p q ih=>simp only[af8,aQ.get];split<;>simp_all
abbrev adR (x:Wl)(cu:List D)(m:List (D×D))(st:List Nat)(c:Nat)(fm:List (D×D))(fs:List Nat)(fc:Nat):List (Nat×ax):=
 [(0,.cells [.bC bY (ba x.pa),.aV 3 (x.pa.length+1) true,.map 1,.map 2,.int .i64 0,.aV 4 (x.pa.length+1) true] aU false),(1,.bo bh (.cp 1 aO) m st c),(2,.bo aM (.data bh) fm fs fc),(3,.an aj cu true),(4,.an ah (List.replicate (x.pa.length+1) (D.z 0)) true)]
def Ai (x:Wl){cu:List D}(h:cu.length=x.pa.length+1)(m:List (D×D))(st:List Nat)(c:Nat)(fm:List (D×D))(fs:List Nat)(fc:Nat):
 adR x cu m st c fm fs fc=Wm (WS.mk (ba x.pa) cu m st c fm fs fc 0 (List.replicate (x.pa.length+1) (D.z 0))):=by
 simp only[adR,Wm,h,af5]
def aar (x:Wl)(cu:List Bool)(th:aQ)(fa:kb)(st:List Nat)(c:Nat)(fs:List Nat)(fc:Nat):
 Gl (WS.mk (ba x.pa) (cu.map D.b) th.az st c fa.az fs fc 0 (List.replicate (x.pa.length+1) (D.z 0))) ⟨x.pa,cu,th,fa,0,List.replicate (x.pa.length+1) 0⟩:=⟨rfl,rfl,rfl,rfl,rfl,by simp[ba]⟩
def G9 (x:Wl)(d:D):Prop:=((d.ae 0).bool=true↔x.zw)/\(x.zw->∃f:kb,f.Idx x.aD/\(d.ae 1).aa=ba x.pa/\(d.ae 2).aa=(gI x.pa.length x.cu).map D.b/\(d.ae 3).int=x.la/\(d.ae 4).aa=ba x.ma/\gu (D.ae d 5)=x.aD.az/\gu (D.ae d 8)=f.az)
def Ru (x:Wl)(hs:x.Bf):PH eO (jA x.az) [] 0 iP (G9 x):=by
 have no:¬x.zw->iR.bu=some 0/\∃d,T.dm (BV.tuple [.gT,.int .i64 71],([]:List (Nat×ax))) (iP (jA x.az) [] d)/\G9 x d:=fun h=>⟨rfl,.r [.b false],.ff rfl .ret,⟨fun a=>by simp[D.ae,D.at]at a,fun a=>(h a).elim⟩,fun a=>(h a).elim⟩
 have hok:=hs.ok
 have hpa:=hs.pa
 have hth:=hs.th
 have hma:=hs.ma
 have ewok:∀e∈x.th,e.w.ok:=fun e he=>(hok.2.2.2.2.2.1 e he).2.2
 have loop3:∀(rest:List Int) (i:Nat) (there:List D) (st:List Nat) (c:Nat),nO x.pa=true->x.ma.length=x.pa.length+1->(∀c∈x.cu,1<=c/\c<=x.pa.length)->da x.cu->(∀e∈x.th,1<=e.r/\e.r<=x.la)->da (x.th.map En.r)->
  (∀e∈x.th,e.w.F (x.pa.length+1:Nat)/\(e.w.k=14->e.w.set<64))->Ps there (x.pa.length+1) x.th->x.ma.drop i=rest->(∀m∈x.ma.take i,0<=m/\m<=512)->(∀(j:Nat) (m:Int),j<i->x.ma[j]?=some m->(Gt x.th j:Int)<=m)->
  aC pg eO [cq,aX] (.bu 0 (iP (jA x.az) []) (G9 x)) (sL x.az (x.pa.length+1) there x.aD.az st c ((gI x.pa.length x.cu).map D.b) ((x.ma.take i).foldr (·+·) 0) i):=by
  intro rest
  induction rest with
  |nil=>
   intro i there st c g1 g2 g3 g4 g5 g6 g7 hc hd hm hh
   have hi:=drop_nil hd
   rw[ae7 hi]at hm ⊢
   have hsb:=Pf x.ma hm
   have hla:-2^63<=x.la/\x.la<2^63:=⟨hok.2.2.2.2.2.2.1,hok.2.2.2.2.2.2.2.1⟩
   have hone:x.aD.one:=by rw[aQ.one,Wl.cX];exact g6.ze
   have hkeys:∀r y,x.aD.get r=some y->∃e∈x.th,e.r=r/\e.w=y:=fun r y hy=>by
    have:=aQ.qG hy
    simp only[Wl.aD,afy]at this
    obtain⟨e,he,h⟩:=this
    cases h
    exact⟨e,he,rfl,rfl⟩
   have hgood:x.aD.zw:=⟨hone,by simp[Wl.aD];omega,fun r y hy=>by obtain⟨e,he,_,rfl⟩:=hkeys r y hy;exact ewok e he,fun r y hy=>by obtain⟨e,he,_,rfl⟩:=hkeys r y hy;exact hs.sz e he,fun r y hy=>by obtain⟨e,he,_,rfl⟩:=hkeys r y hy;exact(g7 e he).1.fG⟩
   refine DE ?_
   simp only[rk,Wl.qv,Wl.zT,Wl.Br,aeW,aeT,aeS,D.bP]
   refine⟨fun h=>by omega,fun _=>⟨fun h=>no fun g=>by have:=g.la0;omega,fun l0=>?_⟩⟩
   rw[bL (x:=64*_) (by omega) (by omega)]
   refine⟨fun h=>no fun g=>by have:=g.la1;simp only[Wl.Pe]at this;omega,fun l1=>?_⟩
   refine⟨_,_,rfl,Bh (Ai x (by simp) x.aD.az st c [] [] 0) (YD (aar x _ x.aD [] st c [] 0) hgood rfl),?_⟩
   rintro d ⟨q1,q2⟩
   refine⟨fun h=>no fun g=>by rw[q1.2 g.XR]at h;simp at h,fun h=>?_⟩
   have hS:x.aD.IZ:=q1.1 (by simpa using h)
   obtain⟨f,hf,hidx⟩:=q2 hS
   have hset:∀r y,x.aD.get r=some y->0<=y.set/\y.set<256:=fun r y hy=>by
    have:=hgood.ok r y hy;simp only[Wh.ok]at this;omega
   have hab:∀r y,x.aD.get r=some y->0<=x.aD.ab r/\x.aD.ab r<64:=fun r y hy=>by
    obtain⟨n,hn,he⟩:=aQ.ID hone (fun r x h=>(hS.1 r x h).2) hy
    have hfc:∀r y,x.aD.get r=some y->y.k=14->kG y.set (x.aD.ab y.of)=0:=fun r y hy hk=>by
     have:=hS.2.2 r y hy
     simp[aQ.PC,hk]at this
     exact this.2.2.2
    have:=(aQ.LG hset (.inl hfc) n r (by omega) he).2
    omega
   have hsp:PH kY (vH _) (Wm _) 3 rM (fun d=>D.int d=q7 (x.aD.ov x.aD.ab) (x.aD.map (·.1))):=YE (aar x (gI x.pa.length x.cu) x.aD f st c (hG (D.ae d 2)) (hC (D.ae d 3))) hone (by simp[Wl.aD];omega) x.aD.ab fun r hr=>by
    obtain⟨y,hy⟩:=afl.1 (aQ.mO.2 hr)
    exact⟨⟨_,aQ.aaJ (hS.1 r y hy).2⟩,hab r y hy⟩
   rw[hf]
   refine⟨_,_,rfl,Bh (Ai x (by simp) x.aD.az st c f.az (hG (D.ae d 2)) (hC (D.ae d 3))) hsp,?_⟩
   intro d2 hd2
   rw[hd2]
   have hsb2:=Ro (t:=x.aD) (ab:=x.aD.ab) (x.aD.map (·.1))
   have hkl:(x.aD.map (·.1)).length=x.th.length:=by simp[Wl.aD]
   rw[hkl]at hsb2
   have hsum:x.Pe=x.ma.foldr (·+·) 0:=rfl
   rw[bL (x:=x.la+_) (by omega) (by omega)]
   refine⟨fun h=>no fun g=>by have:=g.Lr;omega,fun h=>?_⟩
   refine⟨_,_,rfl,S4 (ba x.ma) (by simpa using hma),?_⟩
   intro d3 hd3
   rw[hd3]
   have vg:x.zw:=⟨g1,g2,g3,g4,hm,by omega,by omega,g5,g6,g7,fun j m hj=>hh j m (by have:=(ae1.1 hj).1;omega) hj,hS,by omega⟩
   refine⟨rfl,.r [.b true,.r (ba x.pa),.r ((gI x.pa.length x.cu).map D.b),.z x.la,.r (ba x.ma),NB x.aD.az,NC st,.z c,NB f.az,NC (hG (D.ae d 2)),.z (hC (D.ae d 3))],.tt rfl (aS.2 ?_),⟨fun _=>vg,fun _=>rfl⟩,fun _=>⟨f,hidx,rfl,rfl,rfl,rfl,?_,?_⟩⟩
   ·simp only[D.ae,D.bP,D.at,af4,agl,s8,E1,E0,D.df,aeW,S7]
   ·simp only[D.ae,D.bP,D.at,af4,agl,s8]
   ·simp only[D.ae,D.bP,D.at,af4,agl,s8]
  |cons m rest ih=>
   intro i there st c g1 g2 g3 g4 g5 g6 g7 hc hd hm hh
   obtain⟨k1,k2,k3⟩:=aI hd
   have hi:i<x.pa.length+1:=by omega
   have hmem:=aeU k1
   have hsb:=Pf (x.ma.take i) hm
   have htl:(x.ma.take i).length<=x.ma.length:=ag3 ..
   refine DE ?_
   simp only[rk,Wl.zT,aeW,aeT,aeS,ae2,bS (f:=D.z) k1,hc.ni i hi,hc.len,D.df,aY k3,aY hi]
   refine⟨fun _=>⟨fun _=>⟨fun _=>⟨fun _=>⟨fun h=>no fun g=>by have:=g.DS i m k1;omega,fun h1=>⟨fun h=>no fun g=>by have:=g.mb m hmem;omega,fun h2=>?_⟩⟩,fun h=>by omega⟩,fun h=>by simp at h⟩,fun h=>by simp at h⟩,fun h=>by omega⟩
   have e:=ih (i+1) there st c g1 g2 g3 g4 g5 g6 g7 hc k2 (fun y hy=>?_) (fun j y hj hy=>?_)
   ·rw[bn k1,Pg]at e
    rw[bL (x:=_+m) (by omega) (by omega),bO k3 (by omega)]
    exact e
   ·rw[bn k1]at hy
    rcases afp.1 hy with hy|hy
    ·exact hm y hy
    ·simp only[afj]at hy;subst hy;omega
   ·by_cases ej:j=i
    ·subst ej;rw[k1]at hy;cases hy;omega
    ·exact hh j y (by omega) hy
 have loop2:∀(rest:List En) (i:Nat) (last:Int) (there:List D) (st:List Nat) (c:Nat),nO x.pa=true->x.ma.length=x.pa.length+1->(∀c∈x.cu,1<=c/\c<=x.pa.length)->da x.cu->x.th.drop i=rest->
  (∀e∈x.th.take i,1<=e.r/\e.r<=x.la/\e.r<=last)->(i=0->last=0)->(∀e,0<i->x.th[i-1]?=some e->last=e.r)->0<=last->da ((x.th.take i).map En.r)->(∀e∈x.th.take i,e.w.F (x.pa.length+1:Nat)/\(e.w.k=14->e.w.set<64))->Ps there (x.pa.length+1) (x.th.take i)->
  aC pg eO [cq,aX] (.bu 0 (iP (jA x.az) []) (G9 x)) (lx x.az (x.pa.length+1) there ((gI x.pa.length x.cu).map D.b) last i (aQ.az ((x.th.take i).map fun e=>(e.r,e.w))) st c):=by
  intro rest
  induction rest with
  |nil=>
   intro i last there st c g1 g2 g3 g4 hd hb h0 hl hl0 hr hf hc
   have hi:=drop_nil hd
   rw[ae7 hi]at hb hr hf hc ⊢
   refine DD ?_
   simp only[rk,Wl.qw,aeW,aeT,aeS]
   refine⟨fun h=>by omega,fun _=>?_⟩
   exact loop3 x.ma 0 there st c g1 g2 g3 g4 (fun e he=>⟨(hb e he).1,(hb e he).2.1⟩) hr hf hc rfl (by simp) (by intro j m hj;omega)
  |cons e rest ih=>
   intro i last there st c g1 g2 g3 g4 hd hb h0 hl hl0 hr hf hc
   obtain⟨k1,k2,k3⟩:=aI hd
   have hmem:=aeU k1
   have hew:=ewok e hmem
   have e1:D.ae e.az 1=e.w.az:=En.R6 e
   have MW:aQ.az ((x.th.take i).map fun e=>(e.r,e.w))++[(D.z e.r,e.w.az)]=aQ.az ((x.th.take (i+1)).map fun e=>(e.r,e.w)):=by rw[bn k1];simp[aQ.az]
   refine DD ?_
   simp only[rk,Wl.qv,Wl.qw,Wl.Br,aeW,aeT,aeS,ae2,bS k1,En.Dd,e1,Wh.re,aY k3]
   refine⟨fun _=>⟨fun _=>⟨fun h=>no fun g=>?_,fun r1=>⟨fun h=>no fun g=>by have:=(g.rb e hmem).2;omega,fun r2=>?_⟩⟩,fun h=>by simp at h⟩,fun h=>by omega⟩
   ·by_cases hi0:i=0
    ·have:=h0 hi0;have:=(g.rb e hmem).1;omega
    ·obtain⟨p,hp⟩:∃p,x.th[i-1]?=some p:=⟨_,aeY (by omega)⟩
     have h2:=hl p (by omega) hp
     have h3:=g.KD (i-1) p.r e.r (by simp[hp]) (by rw[show i-1+1=i by omega];simp[k1])
     omega
   have hnone:aQ.get ((x.th.take i).map fun e=>(e.r,e.w)) e.r=none:=by
    cases hg:aQ.get ((x.th.take i).map fun e=>(e.r,e.w)) e.r with
    |none=>rfl
    |some y=>
     have:=aQ.qG hg
     simp only[afy]at this
     obtain⟨q,hq,hq2⟩:=this
     have:=(hb q hq).2.2
     have hq3:=afg Prod.fst hq2
     simp only at hq3;omega
   have hget:aQ.get ((x.th.take (i+1)).map fun e=>(e.r,e.w)) e.r=some e.w:=by
    rw[bn k1,afI,aQ.zZ,hnone];simp[aQ.get]
   refine⟨_,_,rfl,Bh (Ai x (by simp) _ st c [] [] 0) (abh (aar x (gI x.pa.length x.cu) ((x.th.take i).map fun e=>(e.r,e.w)) [] st c [] 0) e.w hew (hs.sz e hmem)),?_⟩
   intro d hd2
   rw[hd2]
   simp only[af5]
   refine⟨fun h=>no fun g=>?_,fun hform=>?_⟩
   ·have:=(Wh.CE).2 (g.BC e hmem)
    rw[this]at h;simp at h
   have hform:e.w.F (x.pa.length+1:Nat)/\(e.w.k=14->e.w.set<64):=Wh.CE.1 (by simpa using hform)
   refine⟨_,_,_,rfl,G3 e.w hew (hs.sz e hmem) hform.1.fG,?_⟩
   rintro _ rfl
   simp only[Wh.re,MW,aQ.fv,hnone,hget,aQ.val hget,Wh.fA,Wh.qu,aiy,afY,ae0,ae6,afc,afe,afL,afm,agB,afF,agq,hc.len]
   have nx:∀there',Ps there' (x.pa.length+1) (x.th.take (i+1))->aC pg eO [cq,aX] (.bu 0 (iP (jA x.az) []) (G9 x)) (lx x.az (x.pa.length+1) there' ((gI x.pa.length x.cu).map D.b) e.r (IntKind.i64.wrap ((i:Int)+1)) (aQ.az ((x.th.take (i+1)).map fun e=>(e.r,e.w))) (st++[c]) (c+1)):=fun there' hc'=>by
    rw[bO k3 (by omega)]
    refine ih (i+1) e.r there' (st++[c]) (c+1) g1 g2 g3 g4 k2 (fun q hq=>?_) (by omega) (fun p _ hp=>by rw[Nat.add_sub_cancel,k1]at hp;cases hp;rfl) (by omega) ?_ (fun q hq=>?_) hc'
    ·rw[bn k1]at hq
     rcases afp.1 hq with hq|hq
     ·have:=hb q hq;omega
     ·simp only[afj]at hq;subst hq;omega
    ·rw[bn k1,afI]
     refine hr.MW fun a ha hla=>?_
     simp only[aeW,afC]at ha hla
     rw[show min i x.th.length=i by omega]at hla
     simp only[afE,agJ (show i-1<i by omega),afz]at hla
     obtain⟨p,hp,rfl⟩:=hla
     have:=hl p (by omega) hp
     omega
    ·rw[bn k1]at hq
     rcases afp.1 hq with hq|hq
     ·exact hf q hq
     ·simp only[afj]at hq;subst hq;exact hform
   refine⟨fun hk=>?_,fun hk=>nx there (by rw[bn k1];exact hc.same hk)⟩
   have hh:=hform.1.2.2.1 hk
   have hcl:=R2 (x.th.take i) e.w.h.toNat
   have htl:(x.th.take i).length<=x.th.length:=ag3 ..
   have hin:dy e.w.h (x.pa.length+1)=true:=by simp[dy];omega
   refine⟨fun _=>⟨fun _=>?_,fun h=>by omega⟩,fun h=>by rw[hin]at h;cases h⟩
   rw[hc.ni _ (by omega),D.df,bL (by omega) (by omega)]
   exact nx _ (by rw[bn k1];exact hc.step hk hh.1 hh.2)
 have loop1:∀(rest:List Int) (i:Nat),nO x.pa=true->x.ma.length=x.pa.length+1->x.cu.drop i=rest->(∀c∈x.cu.take i,1<=c/\c<=x.pa.length)->da (x.cu.take i)->
  aC pg eO [cq,aX] (.bu 0 (iP (jA x.az) []) (G9 x)) (nH x.az i ((gI x.pa.length (x.cu.take i)).map D.b)):=by
  intro rest
  induction rest with
  |nil=>
   intro i g1 g2 hd hc hr
   have hi:=drop_nil hd
   rw[ae7 hi]at hc hr ⊢
   refine FU ?_
   simp only[rk,Wl.qv,Wl.L4,aeW,aeT,aeS]
   refine⟨fun h=>by omega,fun _=>⟨_,_,rfl,Bh (Ai x (by simp) [] [] 0 [] [] 0) (w7 (w:=⟨x.pa,gI x.pa.length x.cu,[],[],0,List.replicate (x.pa.length+1) 0⟩) ⟨rfl,rfl,rfl,rfl,rfl,by simp[ba]⟩),?_⟩⟩
   intro d hd2
   rw[hd2]
   simp only[af5]
   refine⟨fun _=>?_,fun h=>by simp[rv]at h;omega⟩
   have e:=loop2 x.th 0 0 (List.replicate (x.pa.length+1) (D.z 0)) [] 0 g1 g2 hc hr rfl (by simp) (by simp) (by simp) (by omega) (by intro i a b h;simp at h) (by simp) (Ps.adI _)
   simpa [aQ.az]using e
  |cons c rest ih=>
   intro i g1 g2 hd hc hr
   obtain⟨k1,k2,k3⟩:=aI hd
   have hmem:=aeU k1
   have hcu:=hs.cu
   have cutE:=SO (aar x (gI x.pa.length (x.cu.take i)) [] [] [] 0 [] 0) c (by simp)
   simp only[af5]at cutE
   have after:(∀a,0<i->x.cu[i-1]?=some a->a<c)->∀d:D,((d.ae 0).int=(if 0<c/\c<(x.pa.length+1:Nat)then 0 else 2)/\(d.ae 1).aa=(if 0<c/\c<(x.pa.length+1:Nat)then (gI x.pa.length (x.cu.take i)).set c.toNat true else gI x.pa.length (x.cu.take i)).map D.b)->
    (((d.ae 0).int !=0)=true->iR.bu=some 0/\∃d,T.dm (BV.tuple [.gT,.int .i64 71],([]:List (Nat×ax))) (iP (jA x.az) [] d)/\G9 x d)/\
    (((d.ae 0).int !=0)=false->aC pg iR.f iR.rs (.bu 0 (iP (jA x.az) []) (G9 x)) (nH x.az (IntKind.i64.wrap ((i:Int)+1)) (d.ae 1).aa)):=by
    rintro hprev d ⟨q1,q2⟩
    by_cases hcc:0<c/\c<(x.pa.length+1:Nat)
    ·rw[aeZ hcc]at q1 q2
     rw[q1,q2]
     refine⟨fun h=>by simp at h,fun _=>?_⟩
     rw[bO k3 (by omega),<-Qa,<-bn k1]
     refine ih (i+1) g1 g2 k2 (fun y hy=>?_) ?_
     ·rw[bn k1]at hy
      rcases afp.1 hy with hy|hy
      ·exact hc y hy
      ·simp only[afj]at hy;subst hy;omega
     ·rw[bn k1]
      refine hr.MW fun a ha hla=>?_
      simp only[afC]at ha hla
      rw[show min i x.cu.length=i by omega,agJ (by omega)]at hla
      exact hprev a (by omega) hla
    ·rw[aeX hcc]at q1
     rw[q1]
     exact⟨fun _=>no fun g=>by have:=g.cut c hmem;omega,fun h=>by simp at h⟩
   refine FU ?_
   simp only[rk,Wl.qv,Wl.L4,aeW,aeT,aeS,ae2,bS (f:=D.z) k1,D.df,aY k3]
   refine⟨fun _=>⟨fun _=>⟨fun hi=>?_,fun hi=>⟨_,_,rfl,Bh (Ai x (by simp) [] [] 0 [] [] 0) cutE,after fun a ha=>by omega⟩⟩,fun h=>by simp at h⟩,fun h=>by omega⟩
   have hw:IntKind.i64.wrap ((i:Int)-1)=((i-1:Nat):Int):=by rw[bL (by omega) (by omega)];omega
   obtain⟨p,hp⟩:∃p,x.cu[i-1]?=some p:=⟨_,aeY (by omega)⟩
   simp only[hw,ae2,bS (f:=D.z) hp,D.df,aY (show i-1<x.cu.length by omega)]
   refine⟨fun _=>⟨fun h=>no fun g=>?_,fun h=>⟨_,_,rfl,Bh (Ai x (by simp) [] [] 0 [] [] 0) cutE,after fun a _ ha=>by rw[hp]at ha;cases ha;omega⟩⟩,fun h=>by simp at h⟩
   have:=g.Nu (i-1) p c hp (by rw[show i-1+1=i by omega];exact k1)
   omega
 refine Xo ?_
 simp only[rk,Wl.qv,Wl.zT,aeW]
 refine⟨_,_,rfl,aa9 x.pa hpa,?_⟩
 intro d hd
 rw[hd]
 refine⟨fun g1=>⟨_,_,rfl,Bh (Ai x (by simp) [] [] 0 [] [] 0) (w7 (w:=⟨x.pa,List.replicate (x.pa.length+1) false,[],[],0,List.replicate (x.pa.length+1) 0⟩) ⟨rfl,by simp,rfl,rfl,rfl,by simp[ba]⟩),?_⟩,fun g1=>no fun g=>by rw[g.par]at g1;cases g1⟩
 intro d2 hd2
 rw[hd2]
 simp only[af5]
 refine⟨fun h=>no fun g=>by have:=g.DU;simp at h;omega,fun h=>?_⟩
 have e:=loop1 x.cu 0 g1 (by simp at h;omega) rfl (by simp) (by intro i a b h;simp at h)
 simpa [gI]using e
end Go.Proofs
end
