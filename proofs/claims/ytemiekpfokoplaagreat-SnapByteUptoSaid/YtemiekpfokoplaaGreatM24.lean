import Derived.Below
import Derived.ChangeSame
import Derived.WalkKit
import Derived.ProofKit
import Derived.OpenShut
import Derived.WideKeyArgs
import Derived.Handed
import Derived.ChangeCalls
import Derived.Test.YtemiekpfokoplaaGreatM23
set_option linter.all false
noncomputable section
open Go.IntKind renaming wrap→wp
namespace Go.Proofs
open Go Go.PB
def fB (b:BitVec 64)(c:UInt8):BitVec 64:=(b ^^^ BitVec.ofNat 64 c.toNat)*1099511628211#64
def aeq (x:Int):IntKind.u64.wrap x=((BitVec.ofInt 64 x).toNat:Int):=by
 rw[IntKind.wrap_u64]
 simp only[agz]
 omega
def Zu (b:BitVec 64)(c:UInt8):K9 (b.toNat:Int) c=((fB b c).toNat:Int):=by
 unfold K9 fB
 simp only[aeq]
 have e1:∀b:BitVec 64,BitVec.ofInt 64 (b.toNat:Int)=b:=fun b=>by simp
 have e2:BitVec.ofInt 64 (((BitVec.ofInt 64 (c.toNat:Int)).toNat:Nat):Int)=BitVec.ofNat 64 c.toNat:=by simp
 rw[e1,e2,e1,BitVec.ofInt_mul,e1]
 rfl
def V3 (s:nh)(b:BitVec 64):s.foldl K9 (b.toNat:Int)=((s.foldl fB b).toNat:Int):=by
 induction s generalizing b with
 |nil=>rfl
 |cons c r ih=>rw[agm,Zu,ih,agm]
def Te (x:BitVec 64):x*1099511628211#64*14886173955864302971#64=x:=by
 rw[BitVec.mul_assoc,show 1099511628211#64*14886173955864302971#64=1#64 by decide,BitVec.mul_one]
def VY {a b:BitVec 64}{c d:UInt8}(h:fB a c=fB b d):a ^^^ BitVec.ofNat 64 c.toNat=b ^^^ BitVec.ofNat 64 d.toNat:=by
 have:=afg (·*14886173955864302971#64) h
 simpa only[fB,Te]using this
def abc {a b c:BitVec 64}(h:a ^^^ c=b ^^^ c):a=b:=by
 have:=afg (· ^^^ c) h
 simpa only[BitVec.xor_assoc,BitVec.xor_self,BitVec.xor_zero]using this
def adB {a b:BitVec 64}{c:UInt8}(h:fB a c=fB b c):a=b:=abc (VY h)
def adA {a:BitVec 64}{c d:UInt8}(h:fB a c=fB a d):c=d:=by
 have h:=VY h
 rw[BitVec.xor_comm a,BitVec.xor_comm a]at h
 have h:=afg BitVec.toNat (abc h)
 have hc:=agA c
 have hd:=agA d
 simp only[ahe]at h
 exact ah8.1 (by omega)
def ab4 (s:nh){a b:BitVec 64}(h:s.foldl fB a=s.foldl fB b):a=b:=by
 induction s generalizing a b with
 |nil=>exact h
 |cons c r ih=>exact adB (ih h)
def ab5 (s:nh):∀(a:BitVec 64) (k:Nat) (c d:UInt8),s[k]?=some c->(s.set k d).foldl fB a=s.foldl fB a->d=c:=by
 induction s with
 |nil=>intro a k c d h;simp at h
 |cons x r ih=>
  intro a k c d h e
  cases k with
  |zero=>
   simp only[af0,ae3]at h
   subst h
   exact adA (ab4 r (by simpa using e))
  |succ k=>exact ih _ k c d (by simpa using h) (by simpa using e)
def Zp {s:nh}{k:Nat}{c d:UInt8}(h:s[k]?=some c)(e:AF (s.set k d)=AF s):d=c:=by
 have e0:(14695981039346656037:Int)=((14695981039346656037#64:BitVec 64).toNat:Int):=rfl
 unfold AF at e
 rw[e0,V3,V3]at e
 exact ab5 s 14695981039346656037#64 k c d h (ahu (by omega))
def Zo (s:nh):∃b:BitVec 64,AF s=(b.toNat:Int):=⟨s.foldl fB 14695981039346656037#64,V3 s 14695981039346656037#64⟩
def num (n:Nat)(s:nh):Nat:=s.foldl (fun n c=>n*256+c.toNat) n
def UQ (n:Nat)(c:UInt8)(h:n<2^56):Ly (n:Int) c=((n*256+c.toNat:Nat):Int):=by
 have hc:=agA c
 unfold Ly
 have e1:IntKind.u64.wrap ((n:Int)*256)=((n*256:Nat):Int):=by rw[IntKind.wrap_u64];omega
 have e2:IntKind.u64.wrap (c.toNat:Int)=((c.toNat:Nat):Int):=by rw[IntKind.wrap_u64];omega
 have e3:n*256 ||| c.toNat=n*256+c.toNat:=by
  have:=Nat.shiftLeft_add_eq_or_of_lt (a:=n) (b:=c.toNat) (i:=8) (by omega)
  rw[Nat.shiftLeft_eq]at this
  exact this.symm
 rw[e1,e2]
 have e4:(BitVec.ofInt 64 ((n*256:Nat):Int) ||| BitVec.ofInt 64 ((c.toNat:Nat):Int)).toNat=n*256+c.toNat:=by
  rw[BitVec.toNat_or,aih,aih,ahe,ahe,ahX (by omega),ahX (by omega),e3]
 rw[e4,IntKind.wrap_u64];omega
def aeG (s:nh):∀n,num n s<(n+1)*256^s.length:=by
 induction s with
 |nil=>intro n;simp[num]
 |cons c r ih=>
  intro n
  have hc:=agA c
  have h:=ih (n*256+c.toNat)
  have:(n*256+c.toNat+1)*256^r.length<=(n+1)*256*256^r.length:=afR _ (by omega)
  rw[ae9,ahG,ah1 (256^r.length),<-Nat.mul_assoc]
  exact afk h this
def X7 (s:nh):∀n:Nat,(n+1)*256^s.length<=2^64->s.foldl Ly (n:Int)=(num n s:Int):=by
 induction s with
 |nil=>intro n _;rfl
 |cons c r ih=>
  intro n h
  have hc:=agA c
  rw[ae9,ahG,ah1 (256^r.length),<-Nat.mul_assoc]at h
  have hp:1<=256^r.length:=Nat.one_le_pow _ _ (by omega)
  have h2:(n+1)*256<=2^64:=afw (Nat.le_mul_of_pos_right _ hp) h
  rw[agm,UQ n c (by omega)]
  refine ih (n*256+c.toNat) (afw (afR _ (by omega)) h)
def Ed {s:nh}(h:s.length=8):sg s=(num 0 s:Int):=X7 s 0 (by rw[h];decide)
def ZR:∀(s t:nh) (n m:Nat),s.length=t.length->num n s=num m t->n=m/\s=t:=by
 intro s
 induction s with
 |nil=>intro t n m hl h;cases t with|nil=>exact⟨h,rfl⟩|cons _ _=>simp at hl
 |cons c r ih=>
  intro t n m hl h
  cases t with
  |nil=>simp at hl
  |cons d q=>
   have hc:=agA c
   have hd:=agA d
   obtain⟨e1,e2⟩:=ih q _ _ (by simpa using hl) h
   subst e2
   have e1:n*256+c.toNat=m*256+d.toNat:=e1
   have:c=d:=ah8.1 (by omega)
   exact⟨by omega,by rw[this]⟩
def abr (m:Nat):∀w:Nat,num (m/2^(8*w)) (bA (mg w (m:Int)))=m:=by
 intro w
 induction w with
 |zero=>simp[mg,bA,num]
 |succ w ih=>
  have e1:(m:Int).fdiv (2^(8*w))=((m/2^(8*w):Nat):Int):=by
   rw[Int.fdiv_eq_ediv_of_nonneg _ (by exact_mod_cast agr (2^(8*w)))]
   norm_cast
  have e2:(UInt8.ofNat (IntKind.u8.wrap ((m/2^(8*w):Nat):Int)).toNat).toNat=m/2^(8*w) % 256:=by
   rw[IntKind.wrap_u8]
   simp only[aiz]
   omega
  have e3:m/2^(8*(w+1))=m/2^(8*w)/256:=by
   rw[Nat.mul_succ,Nat.pow_add,Nat.div_div_eq_div_mul]
  have e4:bA (mg (w+1) (m:Int))=UInt8.ofNat (IntKind.u8.wrap ((m:Int).fdiv (2^(8*w)))).toNat::bA (mg w (m:Int)):=rfl
  rw[e4,num,agm,e1,e2,e3,<-num,show m/2^(8*w)/256*256+m/2^(8*w) % 256=m/2^(8*w)by omega]
  exact ih
def F8 (s:nh):sg (bA (mg 8 (AF s)))=AF s:=by
 obtain⟨b,hb⟩:=Zo s
 rw[Ed (by simp[gY,cG]),hb]
 have:=abr b.toNat 8
 rw[Nat.div_eq_of_lt (by have:=b.isLt;omega)]at this
 rw[this]
def O7 {s:nh}(h:Cg s){k:Nat}{c d:UInt8}(hk:s[k]?=some c)(hd:d≠c):RK (s.set k d):=by
 obtain⟨b,rfl,hb⟩:=h
 intro _ e
 have hl8:(bA (mg 8 (AF b))).length=8:=by simp[gY,cG]
 have hlen:((b++bA (mg 8 (AF b))).set k d).length-8=b.length:=by simp[hl8]
 rw[hlen]at e
 by_cases hkb:k<b.length
 ·rw[List.set_append_left _ _ hkb]at e
  have hl:(b.set k d).length=b.length:=agu
  rw[ah6 hl,ah2 hl,F8]at e
  exact hd (Zp (by rwa [ago hkb]at hk) e.symm)
 ·rw[List.set_append_right _ _ (by omega)]at e
  rw[ah6 rfl,ah2 rfl]at e
  have e:=e.trans (F8 b).symm
  rw[Ed (agu.trans hl8),Ed hl8]at e
  obtain⟨-,e2⟩:=ZR _ _ 0 0 agu (by exact_mod_cast e)
  rw[ag1 (by omega)]at hk
  have:=afg (·[k-b.length]?) e2
  rw[hk]at this
  have hlt:k-b.length<(bA (mg 8 (AF b))).length:=by
   rcases Nat.lt_or_ge (k-b.length) (bA (mg 8 (AF b))).length with h|h
   ·exact h
   ·rw[afH h]at hk;cases hk
  rw[agx hlt]at this
  exact hd (agT this)
def Uh {f:FuncId}{a:BV}{e:TypeId}{xs:List BV}{L:List (Nat×ax)}{p:Nat}{R:D->T (BV×List (Nat×ax))}{Q:D->Prop}(h:pj pg f (a:: .bC e []::xs) L p R Q):pj pg f (a:: .bJ::xs) L p R Q:=by
 intro g w as' hr ha
 obtain⟨v,vr,h1,h2,v2,vr2,h3,h4,h5⟩:=ha
 refine h g w as' hr ⟨v,vr,h1,h2,v2,vr2,h3,?_,h5⟩
 simp only[ai]at h4 ⊢
 exact .inl ⟨trivial,.inl h4⟩
def WE:PH ld (Eo) (Ew) 0 vJ (fun d=>(d.ae 1).int=1):=by
 refine My ?_
 simp only[rk]
 exact⟨rfl,.r [.s [],.z 1],.ret,rfl⟩
def Zi:iq pg kx [jU,jU] [.r [],.r []] [aj] (·= .b true):=by
 refine Mw ?_
 simp only[rk,D.bP]
 refine⟨fun h=>by simp at h,fun _=>Ii ?_⟩
 simp only[rk,D.bP]
 exact⟨fun h=>by simp at h,fun _=>trivial⟩
def VV (l:List Int)(hl:l.length<2^30):iq pg iS [oy,oy] [.r (ba l),.r (ba l)] [aj] (·= .b true):=by
 have loop:∀(rest:List Int) (i:Nat),l.drop i=rest->aC pg iS [aj] (.kE (·= .b true)) (qI (.r (ba l)) (.r (ba l)) i):=by
  intro rest
  induction rest with
  |nil=>
   intro i hd
   have:=drop_nil hd
   refine BR ?_
   simp only[rk,D.bP,aeW,aeT,aeS]
   exact⟨fun h=>by omega,fun _=>trivial⟩
  |cons x rest ih=>
   intro i hd
   obtain⟨k1,k2,k3⟩:=aI hd
   refine BR ?_
   simp only[rk,D.bP,aeW,aeT,aeS,aY k3,bne_self_eq_false,ae0,afc,afe,afL,afm,ae6,bO k3 (by omega)]
   exact⟨fun _=>ih (i+1) k2,fun h=>by omega⟩
 refine On ?_
 simp only[rk,D.bP,bne_self_eq_false,ae0,afc,afe,afL]
 exact loop l 0 rfl
def VU:PH eF (p7 [] []) [] 0 lZ (fun d=>D.bool d=true):=by
 refine FA ?_
 simp only[rk]
 refine⟨fun h=>by simp at h,fun _=>BQ ?_⟩
 simp only[rk]
 exact⟨fun h=>by simp at h,fun _=>⟨rfl,.b true,.ret,rfl⟩⟩
def Rz:x0.Yf where
 par:=by decide
 DU:=rfl
 cut:=by intro c hc;cases hc
 Nu:=by intro i a b h;cases h
 th:=by decide
 KD:=by intro i a b h;cases h
 w:=by intro e he;cases he
def Ya:Qc x0.az:=⟨rfl,rfl,rfl,rfl,rfl⟩
noncomputable def W0:WS:=⟨[],List.replicate 1 (.b false),[],[],0,[],[],0,0,List.replicate 1 (.z 0)⟩
def Vg:Gl W0 (x0.wp [] []):=⟨rfl,rfl,rfl,rfl,rfl,rfl⟩
def aez:AF []=14695981039346656037:=rfl
def pH:List D:=hd 99++mg 4 0
def Hc:PH dg G7 G8 0 Bc (fun d=>D.bool d=true):=by
 have x0b:D.bX x0.az=7:=by rw[acF];rfl
 have hb:61*D.bX x0.az<2^39:=by rw[x0b];decide
 have nok:∀e∈x0.th,e.w.k<=16:=by intro e he;cases he
 have pn:([]:aQ).Perm x0.aD:=ahl _
 refine OE ?_
 simp only[rk]
 refine⟨_,_,rfl,aa9 [] (by decide),fun d0 h0=>?_⟩
 rw[h0]
 refine⟨fun _=>?_,fun h=>absurd h (by decide)⟩
 refine⟨_,_,rfl,GR rfl (by kernel_rfl) (Sm Rz pn nok hb Vg),fun d1 h1=>?_⟩
 obtain⟨s1,s2⟩:=h1.2 Ya
 have s2:(d1.ae 0).bj=mE:=s2
 rw[s1,s2]
 refine⟨_,_,rfl,Mh (F8 _),fun d2 h2=>?_⟩
 obtain⟨r1,f2,r2⟩:=h2
 rw[r1]
 refine⟨fun h=>(by cases h),fun _=>?_⟩
 refine⟨_,_,rfl,Uh (sa [] (hd 99) (fun y hy=>by cases hy) (by decide)),fun d12 h12=>?_⟩
 have c1:D.aa d12=pH:=h12.2 rfl
 rw[c1]
 simp only[afW,afa,aft,afe,ae6,afc,afm]
 refine⟨_,_,_,rfl,Ht (bA pH) (by decide),?_⟩
 rintro _ rfl
 refine⟨_,_,rfl,Mj pH (AF (bA pH)) (by decide),fun d14 h14=>?_⟩
 rw[h14]
 have l13:pH.length=13:=rfl
 have l21:(pH++mg 8 (AF (bA pH))).length=21:=by rw[ae4,cG,l13]
 rw[l21]
 refine⟨fun h=>absurd h (by decide),fun _=>?_⟩
 have es:bA (pH++mg 8 (AF (bA pH)))=bA pH++bA (mg 8 (AF (bA pH))):=zK _ _
 have hl:(bA (pH++mg 8 (AF (bA pH)))).length=21:=by rw[gY,l21]
 have h13:(bA pH).length=13:=rfl
 have hs:sg ((bA (pH++mg 8 (AF (bA pH)))).drop (21-8))=AF ((bA (pH++mg 8 (AF (bA pH)))).take (21-8)):=by
  rw[es,ah2 h13,ah6 h13,F8]
 have h9:(bA (pH++mg 8 (AF (bA pH)))).getD 8 0=99:=by rw[es];rfl
 refine⟨_,_,rfl,BM _ (by rw[hl];decide) (fun _=> .inl (by rw[h9];decide)),fun d30 h30=>?_⟩
 obtain⟨t1,t2⟩:=h30
 have t2:(d30.ae 1).int=270:=by
  rcases t2 with h| ⟨-,h⟩
  ·exact h
  ·rw[hl]at h;exact absurd hs h
 rw[t1,t2,hl,h9]
 refine⟨fun _=>?_,fun h=>(by cases h)⟩
 refine⟨_,_,rfl,WE,fun d31 h31=>?_⟩
 rw[h31,zS]
 refine⟨fun _=>⟨fun _=>?_,fun h=>absurd h (by decide)⟩,fun h=>absurd h (by decide)⟩
 refine⟨_,_,rfl,Gn Rz (ahl _) r2,?_⟩
 rintro _ rfl
 refine⟨_,_,rfl,GR rfl (by kernel_rfl) (Gn Rz pn Vg),?_⟩
 rintro _ rfl
 refine⟨_,_,_,rfl,Zi,?_⟩
 rintro _ rfl
 refine⟨fun _=>?_,fun h=>(by cases h)⟩
 refine⟨_,_,_,rfl,VV [] (by decide),?_⟩
 rintro _ rfl
 refine⟨fun _=>⟨fun _=>?_,fun h=>absurd h (by simp)⟩,fun h=>(by cases h)⟩
 refine⟨_,_,_,rfl,VV [0] (by decide),?_⟩
 rintro _ rfl
 refine⟨fun _=>?_,fun h=>(by cases h)⟩
 refine⟨_,_,rfl,VU,fun d37 h37=>?_⟩
 rw[h37]
 refine⟨fun _=>⟨fun _=>⟨fun _=>⟨fun _=>⟨fun _=>⟨fun _=>?_,fun h=>absurd h (by decide)⟩,fun h=>absurd h (by decide)⟩,fun h=>absurd h (by decide)⟩,fun h=>absurd h (by decide)⟩,fun h=>absurd h (by decide)⟩,fun h=>(by cases h)⟩
 refine⟨_,_,_,rfl,Ht [] (by decide),?_⟩
 rintro _ rfl
 rw[D.df,aez]
 refine⟨fun _=>?_,fun h=>absurd h (by decide)⟩
 refine⟨_,_,_,rfl,Ht _ (by decide),?_⟩
 rintro _ rfl
 exact⟨rfl,.b _,.ret,by rw[D.cg];decide⟩
def aao (x:Wl)(hx:x.Bf):iq pg pR [bF] [x.az] [aj] (fun _=>True):=by
 have hth:=hx.th
 have loop:∀(rest:List En) (i:Nat),x.th.drop i=rest->aC pg pR [aj] (.kE (fun _=>True)) (vw x.az i):=by
  intro rest
  induction rest with
  |nil=>
   intro i hd
   have:=drop_nil hd
   refine FT ?_
   simp only[rk,Wl.qw,aeW,aeT,aeS]
   exact⟨fun h=>by omega,fun _=>trivial⟩
  |cons e rest ih=>
   intro i hd
   obtain⟨g1,g2,g3⟩:=aI hd
   have hem:=aeU g1
   refine FT ?_
   simp only[rk,Wl.qw,aeW,aeT,aeS,aY g3,bS g1,En.R6,Wh.re,ae2,bO g3 (show x.th.length<2^63 by omega)]
   refine⟨fun _=>⟨fun _=>⟨_,_,_,rfl,Ss e.w (hx.ok.2.2.2.2.2.1 e hem).2.2 (hx.sz e hem),?_⟩,fun h=>by cases h⟩,fun h=>by omega⟩
   rintro _ rfl
   exact⟨fun _=>trivial,fun _=>ih (i+1) g2⟩
 refine T9 ?_
 simp only[rk]
 exact⟨fun _=>trivial,fun _=>⟨fun _=>trivial,fun _=>⟨fun _=>trivial,fun _=>⟨fun _=>trivial,fun _=>loop x.th 0 rfl⟩⟩⟩⟩
structure Su.abd (s:Su):Prop where
 HL:s.Bf
 cn:St.cS s.co<2^30
 all:St.cS s.co+St.mF s.co+aJ.bI (s.ns.map jV.v)+s.ns.length+1<2^30
def Wh.TH (c:List St)(l:List jV):Wh:=⟨0,0,.zero,[],0,0,0,0,0,false,c,l⟩
def Wi (l:List Su)(hl:l.length<2^30)(hs:∀s∈l,s.abd):iq pg mH [cB] [.r (l.map Su.az)] [aj] (fun _=>True):=by
 have one:∀s∈l,iq pg jM [aO] [(D.r [(D.z 0),(D.z 0),(D.r [(D.z 0),(D.z 0),(D.s []),(D.r []),(D.z 0)]),(D.r []),(D.z 0),(D.z 0),(D.z 0),(D.z 0),(D.z 0),(D.b false),(D.r (s.co.map St.az)),(D.r (s.ns.map jV.az))])] [aj] (·= .b (Wh.TH s.co s.ns).tB):=by
  intro s h
  have hf:=hs s h
  have hok:=hf.HL.ok
  have hall:=hf.all
  have e0:(D.r [(D.z 0),(D.z 0),(D.r [(D.z 0),(D.z 0),(D.s []),(D.r []),(D.z 0)]),(D.r []),(D.z 0),(D.z 0),(D.z 0),(D.z 0),(D.z 0),(D.b false),(D.r (s.co.map St.az)),(D.r (s.ns.map jV.az))])=(Wh.TH s.co s.ns).az:=rfl
  rw[e0]
  refine Ss _ ?_ ?_
  ·obtain⟨a1,a2,a3,a4,a5,a6,a7,a8,a9,a10,a11,a12,a13,a14,a15,a16,a17,a18,a19,_,_⟩:=Wh.sN
   exact⟨a1,a2,a3,a4,a5,a6,a7,a8,a9,a10,a11,a12,a13,a14,a15,a16,a17,hok.2.2.1,hok.2.2.2.1,hok.2.2.2.2.1,hok.2.2.2.2.2.1⟩
  ·have h0:aJ.zero.size=1:=by decide
   have h1:(Wh.TH s.co s.ns).co=s.co:=rfl
   have hvals:(Wh.TH s.co s.ns).aF=aJ.zero::s.ns.map jV.v:=by simp[Wh.aF,Wh.TH]
   have h2:aJ.bI (Wh.TH s.co s.ns).aF=1+aJ.bI (s.ns.map jV.v):=by rw[hvals,aJ.bI,h0]
   simp only[Wh.sz,h1,h2];omega
 have loop:∀(rest:List Su) (i:Nat),l.drop i=rest->aC pg mH [aj] (.kE (fun _=>True)) (sC (.r (l.map Su.az)) i):=by
  intro rest
  induction rest with
  |nil=>
   intro i hd
   have:=drop_nil hd
   refine Ds ?_
   simp only[rk,D.bP,aeW,aeT,aeS]
   exact⟨fun h=>by omega,fun _=>trivial⟩
  |cons s rest ih=>
   intro i hd
   obtain⟨g1,g2,g3⟩:=aI hd
   have hem:=aeU g1
   refine Ds ?_
   simp only[rk,D.bP,aeW,aeT,aeS,aY g3,bS g1,Su.pq,Su.lC,ae2,bO g3 (show l.length<2^63 by omega)]
   refine⟨fun _=>⟨fun _=>⟨_,_,_,rfl,one s hem,?_⟩,fun h=>by cases h⟩,fun h=>by omega⟩
   rintro _ rfl
   exact⟨fun _=>trivial,fun _=>⟨fun _=>trivial,fun _=>ih (i+1) g2⟩⟩
 refine QP ?_
 simp only[rk]
 exact⟨fun _=>trivial,fun _=>loop l 0 rfl⟩
def Wl.zw.inv {x:Wl}(h:x.zw)(hs:x.Bf):x.Yf where
 par:=by
  have:=h.par
  simp only[nO,aeV,aeT]at this
  exact this.1
 DU:=h.DU
 cut:=h.cut
 Nu:=h.Nu
 th:=hs.th
 KD:=h.KD
 w:=fun e he=>⟨(hs.ok.2.2.2.2.2.1 e he).2.2,hs.sz e he,(h.BC e he).1.fG⟩
def We (a:Int)(c:Nat)(hc:0<c)(h:c<2^62):(if IntKind.i64.wrap (0-Int.tmod a (c:Int))>Int.tmod a (c:Int)then IntKind.i64.wrap (0-Int.tmod a (c:Int))else Int.tmod a (c:Int))=((a.natAbs % c:Nat):Int):=by
 have hb:a.natAbs % c<c:=ahy _ hc
 have e:Int.tmod a (c:Int)=((a.natAbs % c:Nat):Int)\/Int.tmod a (c:Int)=-((a.natAbs % c:Nat):Int):=by
  cases a with
  |ofNat n=>exact .inl rfl
  |negSucc n=>exact .inr rfl
 have hw:IntKind.i64.wrap (0-Int.tmod a (c:Int))=0-Int.tmod a (c:Int):=bL (by omega) (by omega)
 rw[hw]
 split<;>omega
def PT (s:nh):bA (cH s)=s:=by
 simp only[bA,cH,ahp]
 conv=>rhs;rw[<-aim s]
 refine ag9 fun b _=>?_
 simp[D.df]
def aaZ (c:UInt8)(v:Int):Int:=IntKind.u8.wrap (((BitVec.ofInt 8 (c.toNat:Int) ^^^ BitVec.ofInt 8 v).toNat:Nat):Int)
def V1 (c:UInt8){v:Int}(h0:v≠0)(h1:0<=v)(h2:v<256):UInt8.ofNat (aaZ c v).toNat≠c:=by
 intro e
 have e1:=afg UInt8.toNat e
 unfold aaZ at e1
 have hb:=(BitVec.ofInt 8 (c.toNat:Int) ^^^ BitVec.ofInt 8 v).isLt
 rw[IntKind.wrap_u8]at e1
 simp only[aiz]at e1
 have e2:(BitVec.ofInt 8 (c.toNat:Int) ^^^ BitVec.ofInt 8 v).toNat=c.toNat:=by omega
 have hc:=agA c
 have e3:BitVec.ofInt 8 (c.toNat:Int) ^^^ BitVec.ofInt 8 v=BitVec.ofInt 8 (c.toNat:Int):=by
  apply ahu
  rw[e2]
  simp only[agz]
  omega
 have e4:BitVec.ofInt 8 v=0#8:=by
  have:=afg (BitVec.ofInt 8 (c.toNat:Int) ^^^ ·) e3
  simpa only[<-BitVec.xor_assoc,BitVec.xor_self,BitVec.zero_xor]using this
 have e5:=afg BitVec.toNat e4
 simp only[agz,ahe]at e5
 omega
def Up (s:nh)(k:Nat)(v:Int):bA (List.take s.length ((cH s).set k (.z v)))=s.set k (UInt8.ofNat v.toNat):=by
 have hl:((cH s).set k (.z v)).length=s.length:=by rw[agu,gn]
 rw[<-hl,afW]
 have:=PT s
 simp only[bA]at this ⊢
 rw[aiC,this]
 rfl
section
def Js (P:Program)(t:TypeId):List TypeId:=match P.underlying t with|some (.struct fs)=>fs.toList.map (·.type)|_=>[]
section
variable {P:Program} {n:Nat} {t:TypeId} {d:D}
def SN (P:Program)(n:Nat):List TypeId->List D->Prop
 | [],l=>l=[]
 |t::ts,l=>∃x r,l=x::r/\cR P n t x/\SN P n ts r
def SN.of {m:Nat}:∀{fs:List Field} {l:List D},l.length=fs.length->(∀(i:Nat) (f:Field) (x:D),fs[i]?=some f->l[i]?=some x->cR P m f.type x)->SN P m (fs.map (·.type)) l
 | [],[],_,_=>rfl
 | [],_::_,h,_=>by simp at h
 |_::_,[],h,_=>by simp at h
 |f::fs,x::l,h,hi=>⟨x,l,rfl,hi 0 f x rfl rfl,SN.of (by simpa using h) fun i f x a b=>hi (i+1) f x (by simpa using a) (by simpa using b)⟩
def Bn {u:TypeId}{us:List TypeId}(hu:Js P t=u::us)(h:cR P n t d):∃m l,n=m+1/\d= .r l/\SN P m (u::us) l:=by
 cases n with
 |zero=>exact h.elim
 |succ m=>
  unfold cR at h
  unfold Js at hu
  cases hp:P.underlying t with
  |none=>rw[hp]at h;exact h.elim
  |some td=>
   rw[hp]at h hu
   cases td<;>try (cases hu;done)
   obtain⟨l,h1,h2,h3⟩:=h
   exact⟨m,l,rfl,h1,hu▸SN.of h2 h3⟩
def RX {k:IntKind}(hu:P.underlying t=some (.int k))(h:cR P n t d):∃a,d= .z a/\k.min<=a/\a<=k.max:=by
 cases n with
 |zero=>exact h.elim
 |succ m=>unfold cR at h;rw[hu]at h;exact h
def ko (hu:P.underlying t=some (.int .i64))(h:cR P n t d):∃a,d= .z a/\-2^63<=a/\a<2^63:=by
 obtain⟨a,h1,h2,h3⟩:=RX hu h
 have e1:IntKind.min .i64=-2^63:=by decide
 have e2:IntKind.max .i64=2^63-1:=by decide
 exact⟨a,h1,by omega,by omega⟩
def DM (hu:P.underlying t=some (.int .u8))(h:cR P n t d):∃a,d= .z a/\0<=a/\a<256:=by
 obtain⟨a,h1,h2,h3⟩:=RX hu h
 have e1:IntKind.min .u8=0:=by decide
 have e2:IntKind.max .u8=255:=by decide
 exact⟨a,h1,by omega,by omega⟩
def Vw (hu:P.underlying t=some .bool)(h:cR P n t d):∃a,d= .b a:=by
 cases n with
 |zero=>exact h.elim
 |succ m=>unfold cR at h;rw[hu]at h;exact h
def Cy (hu:P.underlying t=some .string)(h:cR P n t d):∃a,d= .s a/\a.length<2^63:=by
 cases n with
 |zero=>exact h.elim
 |succ m=>unfold cR at h;rw[hu]at h;exact h
def fK {e:TypeId}{α:Type}{f:α->D}{Q:α->Prop}(hu:P.underlying t=some (.slice e))(h:cR P n t d)(hf:∀m,m<n->∀x,cR P m e x->∃v,x=f v/\Q v):∃l:List α,d= .r (l.map f)/\l.length<2^63/\∀v∈l,Q v:=by
 cases n with
 |zero=>exact h.elim
 |succ m=>
  unfold cR at h;rw[hu]at h
  obtain⟨l,rfl,h1,h2⟩:=h
  have key:∀l:List D,(∀x∈l,cR P m e x)->∃k:List α,l=k.map f/\∀v∈k,Q v:=by
   intro l
   induction l with
   |nil=>intro _;exact⟨[],rfl,fun _ h=>(by cases h)⟩
   |cons a r ih=>
    intro h
    obtain⟨v,e1,e2⟩:=hf m (by omega) a (h a (by simp))
    obtain⟨k,e3,e4⟩:=ih fun x hx=>h x (by simp[hx])
    refine⟨v::k,by simp[e1,e3],fun y hy=>?_⟩
    rcases ae5.1 hy with rfl|hy
    ·exact e2
    ·exact e4 y hy
  obtain⟨k,rfl,hk⟩:=key l h2
  exact⟨k,rfl,by simpa using h1,hk⟩
end
def f1:Js pg ao=[Ea,UJ,bG,eQ,bh]:=by kernel_rfl
def f2:Js pg fT=[bG,ao]:=by kernel_rfl
def f3:Js pg aE=[G1,UJ,bG,Ec]:=by kernel_rfl
def f4:Js pg aT=[tOp,bG,bG,nP,q8,aE,aE,bB,bB,bB,je]:=by kernel_rfl
def f5:Js pg aO=[q8,bY,ao,eQ,UJ,UJ,bh,bh,nP,aj,bB,jT]:=by kernel_rfl
def f6:Js pg bQ=[bh,aO]:=by kernel_rfl
def f7:Js pg bF=[jU,oy,CS,bh,oy]:=by kernel_rfl
def f8:Js pg bZ=[bY,bB,jT,dS]:=by kernel_rfl
def uS:pg.underlying bY=some (.int .i64):=by kernel_rfl
def uR:pg.underlying bh=some (.int .i64):=by kernel_rfl
def uI:pg.underlying UJ=some (.int .i64):=by kernel_rfl
def uI1:pg.underlying ah=some (.int .i64):=by kernel_rfl
def uK:pg.underlying q8=some (.int .u8):=by kernel_rfl
def uA:pg.underlying nP=some (.int .u8):=by kernel_rfl
def uO:pg.underlying tOp=some (.int .u8):=by kernel_rfl
def uV:pg.underlying Ea=some (.int .u8):=by kernel_rfl
def uE:pg.underlying G1=some (.int .u8):=by kernel_rfl
def uB:pg.underlying aj=some .bool:=by kernel_rfl
def uT:pg.underlying bG=some .string:=by kernel_rfl
def lV:pg.underlying eQ=some (.slice ao):=by kernel_rfl
def lE:pg.underlying Ec=some (.slice aE):=by kernel_rfl
def lS:pg.underlying bB=some (.slice aT):=by kernel_rfl
def lT:pg.underlying je=some (.slice bG):=by kernel_rfl
def lN:pg.underlying jT=some (.slice fT):=by kernel_rfl
def lY:pg.underlying CS=some (.slice bQ):=by kernel_rfl
def lR:pg.underlying dS=some (.slice bh):=by kernel_rfl
def lD:pg.underlying jU=some (.slice bY):=by kernel_rfl
def lI:pg.underlying oy=some (.slice ah):=by kernel_rfl
def lU:pg.underlying cB=some (.slice bZ):=by kernel_rfl
def Rt:∀n d,cR pg n ao d->∃v:aJ,d=v.az/\v.ok:=by
 intro n
 induction n using Nat.strongRecOn with|ind n ih=>
 intro d h
 obtain⟨m,_,rfl,rfl,a0,_,rfl,H0,a1,_,rfl,H1,a2,_,rfl,H2,a3,_,rfl,H3,a4,_,rfl,H4,rfl⟩:=Bn f1 h
 obtain⟨k,rfl,k1,k2⟩:=DM uV H0
 obtain⟨b,rfl,b1,b2⟩:=ko uI H1
 obtain⟨s,rfl,s1⟩:=Cy uT H2
 obtain⟨l,rfl,l1,l2⟩:=fK (f:=aJ.az) (Q:=aJ.ok) lV H3 fun j hj x hx=>ih j (by omega) x hx
 obtain⟨r,rfl,r1,r2⟩:=ko uR H4
 exact⟨.mk k b s l r,by rw[aJ.ay];rfl,(aJ.lH _).2 ⟨k1,k2,b1,b2,s1,l1,r1,r2,l2⟩⟩
def aaX:∀n d,cR pg n aE d->∃v:Ex,d=v.az/\v.ok:=by
 intro n
 induction n using Nat.strongRecOn with|ind n ih=>
 intro d h
 obtain⟨m,_,rfl,rfl,a0,_,rfl,H0,a1,_,rfl,H1,a2,_,rfl,H2,a3,_,rfl,H3,rfl⟩:=Bn f3 h
 obtain⟨k,rfl,k1,k2⟩:=DM uE H0
 obtain⟨b,rfl,b1,b2⟩:=ko uI H1
 obtain⟨s,rfl,s1⟩:=Cy uT H2
 obtain⟨l,rfl,l1,l2⟩:=fK (f:=Ex.az) (Q:=Ex.ok) lE H3 fun j hj x hx=>ih j (by omega) x hx
 exact⟨.mk k b s l,by rw[Ex.ay];rfl,(Ex.lH _).2 ⟨k1,k2,b1,b2,s1,l1,l2⟩⟩
def aa5:∀n d,cR pg n aT d->∃v:St,d=v.az/\v.ok:=by
 intro n
 induction n using Nat.strongRecOn with|ind n ih=>
 intro d h
 obtain⟨m,_,rfl,rfl,a0,_,rfl,H0,a1,_,rfl,H1,a2,_,rfl,H2,a3,_,rfl,H3,a4,_,rfl,H4,a5,_,rfl,H5,a6,_,rfl,H6,a7,_,rfl,H7,a8,_,rfl,H8,a9,_,rfl,H9,a10,_,rfl,H10,rfl⟩:=Bn f4 h
 obtain⟨k,rfl,k1,k2⟩:=DM uO H0
 obtain⟨s,rfl,s1⟩:=Cy uT H1
 obtain⟨c,rfl,c1⟩:=Cy uT H2
 obtain⟨p,rfl,p1,p2⟩:=DM uA H3
 obtain⟨q,rfl,q1,q2⟩:=DM uK H4
 obtain⟨a,rfl,a1⟩:=aaX _ _ H5
 obtain⟨b,rfl,b1⟩:=aaX _ _ H6
 obtain⟨l,rfl,l1,l2⟩:=fK (f:=St.az) (Q:=St.ok) lS H7 fun j hj x hx=>ih j (by omega) x hx
 obtain⟨e,rfl,e1,e2⟩:=fK (f:=St.az) (Q:=St.ok) lS H8 fun j hj x hx=>ih j (by omega) x hx
 obtain⟨o,rfl,o1,o2⟩:=fK (f:=St.az) (Q:=St.ok) lS H9 fun j hj x hx=>ih j (by omega) x hx
 obtain⟨w,rfl,w1,w2⟩:=fK (f:=D.s) (Q:=fun x=>x.length<2^63) lT H10 fun j hj x hx=>Cy uT hx
 exact⟨.mk k s c p q a b l e o w,by rw[St.ay];rfl,(St.lH _).2 ⟨k1,k2,s1,c1,p1,p2,q1,q2,a1,b1,l1,l2,e1,e2,o1,o2,w1,w2⟩⟩
def WO (n:Nat)(d:D)(h:cR pg n fT d):∃v:jV,d=v.az/\v.ok:=by
 obtain⟨m,_,rfl,rfl,a0,_,rfl,H0,a1,_,rfl,H1,rfl⟩:=Bn f2 h
 obtain⟨s,rfl,s1⟩:=Cy uT H0
 obtain⟨v,rfl,v1⟩:=Rt _ _ H1
 exact⟨⟨s,v⟩,rfl,s1,v1⟩
set_option maxRecDepth 4000 in
def aeo (n:Nat)(d:D)(h:cR pg n aO d):∃v:Wh,d=v.az/\v.ok:=by
 obtain⟨m,_,rfl,rfl,a0,_,rfl,H0,a1,_,rfl,H1,a2,_,rfl,H2,a3,_,rfl,H3,a4,_,rfl,H4,a5,_,rfl,H5,a6,_,rfl,H6,a7,_,rfl,H7,a8,_,rfl,H8,a9,_,rfl,H9,a10,_,rfl,H10,a11,_,rfl,H11,rfl⟩:=Bn f5 h
 obtain⟨k,rfl,k1,k2⟩:=DM uK H0
 obtain⟨i,rfl,h1,h2⟩:=ko uS H1
 obtain⟨v,rfl,v1⟩:=Rt _ _ H2
 obtain⟨l,rfl,l1,l2⟩:=fK (f:=aJ.az) (Q:=aJ.ok) lV H3 fun j hj x hx=>Rt _ _ hx
 obtain⟨b,rfl,b1,b2⟩:=ko uI H4
 obtain⟨c,rfl,c1,c2⟩:=ko uI H5
 obtain⟨e,rfl,e1,e2⟩:=ko uR H6
 obtain⟨f,rfl,f1,f2⟩:=ko uR H7
 obtain⟨g,rfl,g1,g2⟩:=DM uA H8
 obtain⟨y,rfl⟩:=Vw uB H9
 obtain⟨o,rfl,o1,o2⟩:=fK (f:=St.az) (Q:=St.ok) lS H10 fun j hj x hx=>aa5 _ _ hx
 obtain⟨p,rfl,p1,p2⟩:=fK (f:=jV.az) (Q:=jV.ok) lN H11 fun j hj x hx=>WO _ _ hx
 exact⟨⟨k,i,v,l,b,c,e,f,g,y,o,p⟩,rfl,k1,k2,h1,h2,v1,l1,l2,b1,b2,c1,c2,e1,e2,f1,f2,g1,g2,o1,o2,p1,p2⟩
def adx (n:Nat)(d:D)(h:cR pg n bQ d):∃v:En,d=v.az/\v.ok:=by
 obtain⟨m,_,rfl,rfl,a0,_,rfl,H0,a1,_,rfl,H1,rfl⟩:=Bn f6 h
 obtain⟨r,rfl,r1,r2⟩:=ko uR H0
 obtain⟨w,rfl,w1⟩:=aeo _ _ H1
 exact⟨⟨r,w⟩,rfl,r1,r2,w1⟩
def aep (n:Nat)(d:D)(h:cR pg n bF d):∃v:Wl,d=v.az/\v.ok:=by
 obtain⟨m,_,rfl,rfl,a0,_,rfl,H0,a1,_,rfl,H1,a2,_,rfl,H2,a3,_,rfl,H3,a4,_,rfl,H4,rfl⟩:=Bn f7 h
 obtain⟨p,rfl,p1,p2⟩:=fK (f:=D.z) (Q:=fun x=>-2^63<=x/\x<2^63) lD H0 fun j hj x hx=>ko uS hx
 obtain⟨c,rfl,c1,c2⟩:=fK (f:=D.z) (Q:=fun x=>-2^63<=x/\x<2^63) lI H1 fun j hj x hx=>ko uI1 hx
 obtain⟨t,rfl,t1,t2⟩:=fK (f:=En.az) (Q:=En.ok) lY H2 fun j hj x hx=>adx _ _ hx
 obtain⟨r,rfl,r1,r2⟩:=ko uR H3
 obtain⟨o,rfl,o1,o2⟩:=fK (f:=D.z) (Q:=fun x=>-2^63<=x/\x<2^63) lI H4 fun j hj x hx=>ko uI1 hx
 exact⟨⟨p,c,t,r,o⟩,rfl,p1,p2,c1,c2,t1,t2,r1,r2,o1,o2⟩
def aek (n:Nat)(d:D)(h:cR pg n bZ d):∃v:Su,d=v.az/\v.ok:=by
 obtain⟨m,_,rfl,rfl,a0,_,rfl,H0,a1,_,rfl,H1,a2,_,rfl,H2,a3,_,rfl,H3,rfl⟩:=Bn f8 h
 obtain⟨s,rfl,s1,s2⟩:=ko uS H0
 obtain⟨o,rfl,o1,o2⟩:=fK (f:=St.az) (Q:=St.ok) lS H1 fun j hj x hx=>aa5 _ _ hx
 obtain⟨p,rfl,p1,p2⟩:=fK (f:=jV.az) (Q:=jV.ok) lN H2 fun j hj x hx=>WO _ _ hx
 obtain⟨r,rfl,r1,r2⟩:=fK (f:=D.z) (Q:=fun x=>-2^63<=x/\x<2^63) lR H3 fun j hj x hx=>ko uR hx
 exact⟨⟨s,o,p,r⟩,rfl,s1,s2,o1,o2,p1,p2,r1,r2⟩
def nj {α:Type}(f:α->D)(g:α->Nat)(gs:List α->Nat)(h0:gs []=0)(h1:∀v r,gs (v::r)=g v+gs r):∀l:List α,(∀x∈l,g x<=D.bX (f x))->gs l<=D.bm (l.map f)
 | [],_=>by rw[h0];exact agr _
 |v::r,h=>by
  rw[h1,afP,D.bm]
  have:=h v (by simp)
  have:=nj f g gs h0 h1 r fun x hx=>h x (by simp[hx])
  omega
def Vu (d:D):1<=D.bX d:=by cases d<;>simp[D.bX]
def rQ:∀l:List D,l.length<=D.bm l
 | []=>by simp
 |d::r=>by have:=Vu d;have:=rQ r;simp only[ae9,D.bm];omega
def Gr:∀{l:List D} {x:D},x∈l->D.bX x<=D.bm l
 |d::r,x,h=>by
  rw[D.bm]
  rcases ae5.1 h with rfl|h
  ·omega
  ·have:=Gr h;omega
def aJ.bX:∀v:aJ,v.size<=D.bX v.az:=by
 refine aJ.ind fun v ih=>?_
 have:=nj aJ.az aJ.size aJ.bI rfl (fun _ _=>rfl) v.l ih
 have e:v.size=1+aJ.bI v.l:=by cases v;rfl
 rw[e,aJ.ay];simp only[D.bX,D.bm];omega
def Ex.bX:∀v:Ex,v.size<=D.bX v.az:=by
 refine Ex.ind fun v ih=>?_
 have:=nj Ex.az Ex.size Ex.bI rfl (fun _ _=>rfl) v.l ih
 have e:v.size=1+Ex.bI v.l:=by cases v;rfl
 rw[e,Ex.ay];simp only[D.bX,D.bm];omega
def St.bX:∀v:St,v.cnt+v.Yw<=D.bX v.az:=by
 refine St.ind fun v i1 i2 i3=>?_
 have ha:=v.a.bX
 have hb:=v.b.bX
 have h1:=nj St.az (fun v=>v.cnt+v.Yw) (fun l=>St.cS l+St.mF l) rfl (fun v r=>by simp only[St.cS,St.mF];omega) v.th i1
 have h2:=nj St.az (fun v=>v.cnt+v.Yw) (fun l=>St.cS l+St.mF l) rfl (fun v r=>by simp only[St.cS,St.mF];omega) v.el i2
 have h3:=nj St.az (fun v=>v.cnt+v.Yw) (fun l=>St.cS l+St.mF l) rfl (fun v r=>by simp only[St.cS,St.mF];omega) v.co i3
 have h4:=rQ (Im v.wi)
 rw[aeW]at h4
 rw[St.DP,St.zU,St.ay];simp only[D.bX,D.bm];omega
def O9 (l:List St):St.cS l+St.mF l<=D.bm (l.map St.az):=
 nj St.az (fun v=>v.cnt+v.Yw) (fun l=>St.cS l+St.mF l) rfl (fun v r=>by simp only[St.cS,St.mF];omega) l fun x _=>x.bX
def UL (l:List aJ):aJ.bI l<=D.bm (l.map aJ.az):=nj aJ.az aJ.size aJ.bI rfl (fun _ _=>rfl) l fun x _=>x.bX
def Lh (l:List jV):aJ.bI (l.map jV.v)+l.length<=D.bm (l.map jV.az):=
 nj jV.az (fun n=>n.v.size+1) (fun l=>aJ.bI (l.map jV.v)+l.length) rfl (fun v r=>by simp only[afP,aJ.bI,ae9];omega) l fun x _=>by
  have:=x.v.bX
  rw[jV.ay];simp only[D.bX,D.bm];omega
def UB (l r:List aJ):aJ.bI (l++r)=aJ.bI l+aJ.bI r:=by
 induction l with
 |nil=>simp[aJ.bI]
 |cons a l ih=>simp only[af8,aJ.bI,ih];omega
def Wh.bX (v:Wh):v.sz<=D.bX v.az:=by
 have h1:=v.v.bX
 have h2:=UL v.vs
 have h3:=Lh v.ns
 have h4:=O9 v.co
 rw[Wh.ay];simp only[Wh.sz,Wh.aF,aJ.bI,UB,D.bX,D.bm];omega
def Wl.HL {x:Wl}(ho:x.ok)(h:D.bX x.az<2^30):x.Bf:=by
 rw[Wl.ay]at h
 simp only[D.bX,D.bm]at h
 have h1:=rQ (ba x.pa)
 have h2:=rQ (ba x.cu)
 have h3:=rQ (x.th.map En.az)
 have h4:=rQ (ba x.ma)
 simp only[aeW]at h1 h2 h3 h4
 refine⟨ho,by omega,by omega,by omega,by omega,fun e he=>?_⟩
 have h5:=Gr (air (f:=En.az) he)
 have h6:=e.w.bX
 rw[En.ay]at h5;simp only[D.bX,D.bm]at h5
 omega
def Su.aey {s:Su}(ho:s.ok)(h:D.bX s.az<2^30):s.abd:=by
 rw[Su.ay]at h
 simp only[D.bX,D.bm]at h
 have h1:=O9 s.co
 have h2:=Lh s.ns
 have h3:=rQ (ba s.se)
 simp only[aeW]at h3
 refine⟨⟨ho,by omega,by omega,by omega,fun n hn=>?_,by omega⟩,by omega,by omega⟩
 have:∀(l:List jV),n∈l->n.v.size<=aJ.bI (l.map jV.v):=fun l hl=>by
  induction l with
  |nil=>cases hl
  |cons a r ih=>
   simp only[afP,aJ.bI]
   rcases ae5.1 hl with rfl|hl
   ·omega
   ·have:=ih hl;omega
 have:=this s.ns hn
 omega
end
end Go.Proofs
namespace Go.PB
open Go Go.ChangeShapes Go.WideShapes Go.RowKit
section
section post
open Go.RowKit Go.WideShapes Go.ChangeShapes
variable {H:Type} {az:TypeId×Value->H} {P:Program}
def MI {f:Func}{s:ChangeSpec}{apart fresh handsOn again:Bool}{W W':World}{args:Array Value}{v:Value}{ds gs:List (DataW H)}{before pa pv:List MemPlace}
 (hW:DataW.Whole az P f.params.toList s.vars apart W args.toList ds gs before)
 (hres:∀(b:Nat) (sp:Nat->Bool) (hd:Bool),DataW.TrodAll az P W' b sp hd f.resultTypes.toList (v.resultList f.resultTypes.size) (s.fn H (ds++gs)).results [])
 (hargs:∀sp:Nat->Bool,(∀p∈before,sp p.block=true)->DataW.TrodAll az P W' 0 sp true f.params.toList args.toList (s.fn H (ds++gs)).args pa)
 (hvars:∀sp:Nat->Bool,(∀p∈before,sp p.block=true)->DataW.TrodVars az P W' sp s.vars (s.fn H (ds++gs)).vars pv)
 (hps:before=pa++pv)(hk:CU W W')
 (hok:∀(j:Nat) (t:TypeId) (r:Value),f.resultTypes[j]?=some t->(v.resultList f.resultTypes.size)[j]?=some r->Value.okWide P W' .any 0 t r):
 s.post az P f apart fresh handsOn again W args v W':=by
 have hb:=hk.below
 have hlt:∀p∈before,p.block<W.heap.size:=fun p hp=>hW.lt p hp
 have hold:∀p∈before,(fun b=>decide (b<W.heap.size)) p.block=true:=fun p hp=>by simpa using hlt p hp
 refine⟨ds,gs,before,[],pa,pv,hW,hres _ _ _,hargs _ hold,hvars _ hold,World.keptBut_mono (fun p hp=>⟨hp,?_⟩) (hb.frame (·∈before)),fun _=>?_⟩
 ·rw[hps,afp]at hp
  exact Or.inr hp
 ·obtain⟨_,_,_,_,_,hz,hn⟩:=hW
  refine⟨hok,_,_,([]++pa)++pv,⟨[]++pa,pv,trodAll_append (hargs _ (fun _ _=>rfl)) (hres _ _ _),hvars _ (fun _ _=>rfl),rfl,?_,?_⟩,?_⟩
  ·intro b off hp
   have hin:MemPlace.cell b off∈before:=by rw[hps];simpa using hp
   rw[hb.frozen (hlt _ hin)]
   exact hz b off hin
  ·intro ha
   have:=hn ha
   rw[hps]at this
   simpa using this
  ·intro p hp _
   rw[hps]
   simpa using hp
end post
section
variable {H:Type} {az:TypeId×Value->H} {P:Program} {W W':World}
def DI (hl:laidOutB P=true)(hb:Below W.heap.size W W'):∀{ts:List TypeId} {vs:List Value} {ds:List (DataW H)} {ps:List MemPlace},(∀t∈ts,P.readableRec t=true/\t<P.types.size)->
 DataW.TrodAll az P W 0 (fun _=>true) true ts vs ds ps->(∀x∈ps,x.block<W.heap.size)->∀sp:Nat->Bool,(∀x∈ps,sp x.block=true)->DataW.TrodAll az P W' 0 sp true ts vs ds ps
 | [],_,_,_,_,h,_,_,_=>by
   obtain⟨rfl,rfl,rfl⟩:=trodAll_nil h
   exact trodAll_mk0
 |t::ts,vs,ds,ps,Ju,h,hlt,sp,hsp=>by
  obtain⟨v,vr,d,dr,p,q,rfl,rfl,rfl,h1,h2⟩:=trodAll_cons h
  obtain⟨hr,hrow⟩:=Ju t afJ
  refine trodAll_cons_mk (Go.WideElems.Trod_stays hl hr hrow h1 (fun x hx=>hb.same (hlt x (agE _ hx))) (fun x hx=>hsp x (agE _ hx))) ?_
  exact DI hl hb (fun t ht=>Ju t (afn _ ht)) h2 (fun x hx=>hlt x (agC _ hx)) sp (fun x hx=>hsp x (agC _ hx))
def Xr (P:Program)(ts:List TypeId):Bool:=ts.all fun t=>P.readableRec t&&decide (t<P.types.size)
end
section
variable {H:Type} {az:TypeId×Value->H}
def abu {C:Checked}{f:FuncId}{fn:Func}{s:ChangeSpec}{tb:TypeId}{W:World}{args:Array Value}{ds gs:List (DataW H)}{before:List MemPlace}
 (hl:laidOutB C.prog=true)(hps:Xr C.prog fn.params.toList=true)(hvars:s.vars=[])
 (hspec:∀ds:List (DataW H),ds.length=fn.params.toList.length->s.fn H ds={results:=[.lit (.bool true)],args:=ds})
 (hres:fn.resultTypes=#[tb])(htb:C.prog.underlying tb=some .bool)
 (hW:DataW.Whole az C.prog fn.params.toList s.vars false W args.toList ds gs before)
 (hc:Calls C.prog f args W fun e W'=>e= .returned (.bool true)/\CU W W'):
 Calls C.prog f args W fun e W'=>∃v,e= .returned v/\s.post az C.prog fn false true false false W args v W':=by
 have hW':=hW
 obtain⟨p,q,hA,hV,hpq,hfz,hnd⟩:=hW
 rw[hvars]at hV
 obtain⟨hgs,hq⟩:=trodVars_none hV
 have hlen:=trodAll_length hA
 refine hc.mono fun e W' ⟨he,hk⟩=>?_
 subst he
 have hds:s.fn H (ds++gs)={results:=[.lit (.bool true)],args:=ds}:=by rw[hgs,afU];exact hspec ds hlen.2
 have hbp:before=p:=by rw[hpq,hq,afU]
 have hlt:∀x∈p,x.block<W.heap.size:=fun x hx=>hW'.lt x (by rw[hbp];exact hx)
 have hparams:∀t∈fn.params.toList,C.prog.readableRec t=true/\t<C.prog.types.size:=fun t ht=>by
  have:=afK.1 hps t ht
  simpa using this
 refine⟨_,rfl,MI (pa:=p) (pv:=[]) hW' (fun _ _ _=>?_) (fun sp hsp=>?_) (fun sp hsp=>?_) (by rw[hbp,afU]) hk ?_⟩
 ·rw[hds,hres]
  exact trodAll_cons_mk (shut_bool htb _) trodAll_mk0
 ·rw[hds]
  exact DI hl hk.below hparams hA hlt sp (fun x hx=>hsp x (by rw[hbp];exact hx))
 ·rw[hds,hvars];rfl
 ·exact ok_one hres rfl (okWide_bool_mk htb _)
end
def Fj (b:Nat):(hL []).get b=none:=by
 unfold hL af.get Ko
 cases b<;>rfl
def gE (w:World):Gh:=⟨fun _=>none,fun c=>c<w.heap.size,fun _ _=>none⟩
def adG (P:Program)(w:World):aR P (gE w) (hL []) w where
 HY:=fun b o h=>by rw[Fj]at h;cases h
 lt:=fun b x h=>by cases h
 Eh:=fun f k x h=>by cases h
 AE:=fun b o f h=>by rw[Fj]at h;cases h
 fu:=fun b b' o o' f h=>by rw[Fj]at h;cases h
 sk:=fun b o f k x h=>by rw[Fj]at h;cases h
 al:=fun b b' f k h=>by rw[Fj]at h;cases h
 mR:=fun l aA au h=>by cases l<;>cases h
 mS:=fun l l' aA au base' o o' _ _ h=>by cases l<;>cases h
 pZ:=fun l o aA au _ h=>by cases l<;>cases h
 lF:=fun c h=>h
def Ug {P:Program}{f:FuncId}{uq0:List BV}{R:D->T (BV×List (Nat×ax))}(h:pj P f uq0 [] 0 R (fun d=>D.bool d=true))(hR:∀x d,T.dm x (R d)->x=(.bool (D.bool d),[])){w:World}{as':Array Value}(ha:ak P (gE w) w uq0 as'.toList):
 Calls P f as' w fun e w'=>e= .returned (.bool true)/\CU w w':=by
 refine(h (gE w) w as' (adG P w) ha).mono ?_
 rintro e w' ⟨v',g',d,x,rfl,h1,h2,_,_,h3,h4⟩
 have:=hR x d h1
 subst this
 simp only[ai]at h3
 subst h3
 rw[h4]
 refine⟨rfl,h2.size,fun c hc=>h2.AV c hc ?_,h2.os.1,h2.os.2.1,h2.os.2.2⟩
 rintro⟨l,o,au,_,hb⟩
 cases l<;>cases hb
end
end Go.PB
namespace Go.Proofs
open Go Go.PB
section
section
variable {y:D} {l:List D} {ni jj:Int}
noncomputable abbrev GS (y:D)(l:List D)(ni jj:Int):sS:= .bu 0 (jB (mu y l ni jj) []) (fun d=>D.bool d=true)
def Hm (d:D)(h:D.bool d=true):gZ.bu=some 0/\∃d',T.dm (BV.bool (D.bool d),([]:List (Nat×ax))) (jB (mu y l ni jj) [] d')/\D.bool d'=true:=⟨rfl,d,.ret,h⟩
def UD (hby:jj≠0)(h0:0<=jj)(h1:jj<256)(s t:nh)(hs:Cg s)(ht:Cg t):aC pg eK [aj] (GS y l ni jj) (cZ y l ni jj s.length t.length (cH s) (cH t) 0):=by
 have len:∀{s:nh},Cg s->8<=s.length/\s.length<=67108864:=by
  rintro _ ⟨b,rfl,hb⟩
  simp only[ae4,gY,cG]
  omega
 have e2:∀l2 l3,aC pg eK [aj] (GS y l ni jj) (cZ y l ni jj s.length t.length l2 l3 2):=by
  intro l2 l3
  refine nV ?_
  simp only[rk]
  exact⟨fun h=>absurd h (by decide),fun _=>⟨_,_,rfl,Hc,fun d hd=>Hm d hd⟩⟩
 have w1:IntKind.i64.wrap ((1:Int)+1)=2:=by decide
 have w0:IntKind.i64.wrap ((0:Int)+1)=1:=by decide
 have chg:∀{s:nh},Cg s->∀k:Nat,k<s.length->RK (bA (List.take s.length ((cH s).set k (.z (IntKind.u8.wrap (((BitVec.ofInt 8 (D.int (D.at (cH s) k)) ^^^ BitVec.ofInt 8 jj).toNat:Nat):Int))))))/\(bA (List.take s.length ((cH s).set k (.z (IntKind.u8.wrap (((BitVec.ofInt 8 (D.int (D.at (cH s) k)) ^^^ BitVec.ofInt 8 jj).toNat:Nat):Int)))))).length<=67108864:=by
  intro s hs k hk
  have hg:s[k]?=some s[k]:=aeY hk
  have hat:D.at (cH s) k= .z (s[k].toNat:Int):=wv (by simp[cH,hg])
  rw[hat,D.df,Up]
  exact⟨O7 hs hg (V1 s[k] hby h0 h1),by rw[agu];exact(len hs).2⟩
 have e1:∀l2,aC pg eK [aj] (GS y l ni jj) (cZ y l ni jj s.length t.length l2 (cH t) 1):=by
  intro l2
  obtain⟨t0,t1⟩:=len ht
  have hk:ni.natAbs % t.length<t.length:=ahy _ (by omega)
  obtain⟨c1,c2⟩:=chg ht _ hk
  refine nV ?_
  simp only[rk]
  rw[We ni t.length (by omega) (by omega)]
  simp only[rk,w1,ae2,aY hk,agu,gn,aeT,aeS]
  refine⟨fun _=>⟨fun h=>absurd h (by decide),fun _=>⟨fun _=>⟨fun _=>⟨fun _=>⟨fun _=>⟨fun _=>⟨_,_,rfl,WD _ c2 c1,fun d0 g0=>⟨_,_,rfl,BM _ c2 (fun h=> .inr (c1 h)),fun d1 g1=>?_⟩⟩,fun h=>by omega⟩,fun h=>by omega⟩,fun h=>by cases h⟩,fun h=>by omega⟩,fun h=>absurd h (by decide)⟩⟩,fun h=>absurd h (by decide)⟩
  obtain⟨b1,b2⟩:=g1
  rw[b1]
  refine⟨fun _=>?_,fun h=>by cases h⟩
  rcases g0 with g0|g0<;>rcases b2 with b2| ⟨b2,-⟩<;>rw[g0,b2]<;>simp<;>exact e2 _ _
 obtain⟨t0,t1⟩:=len hs
 have hk:ni.natAbs % s.length<s.length:=ahy _ (by omega)
 obtain⟨c1,c2⟩:=chg hs _ hk
 refine nV ?_
 simp only[rk]
 rw[We ni s.length (by omega) (by omega)]
 simp only[rk,w0,ae2,aY hk,agu,gn,aeT,aeS]
 refine⟨fun _=>⟨fun _=>⟨fun _=>⟨fun _=>⟨fun _=>⟨fun _=>⟨_,_,rfl,WD _ c2 c1,fun d0 g0=>⟨_,_,rfl,BM _ c2 (fun h=> .inr (c1 h)),fun d1 g1=>?_⟩⟩,fun h=>by omega⟩,fun h=>by omega⟩,fun h=>by cases h⟩,fun h=>by omega⟩,fun h=>absurd h (by decide)⟩,fun h=>absurd h (by decide)⟩
 obtain⟨b1,b2⟩:=g1
 rw[b1]
 refine⟨fun _=>?_,fun h=>by cases h⟩
 rcases g0 with g0|g0<;>rcases b2 with b2| ⟨b2,-⟩<;>rw[g0,b2]<;>simp<;>exact e1 _
end
def XQ (x:Wl)(l:List Su)(ni jj:Int)(hx:x.Bf)(hbx:61*D.bX x.az<2^39)(hl:91*D.bm (l.map Su.az)<2^30)(hs:∀s∈l,s.abd)(h0:0<=jj)(h1:jj<256):
 PH eK (mu x.az (l.map Su.az) ni jj) [] 0 jB (fun d=>D.bool d=true):=by
 have hll:=db (l.map Su.az)
 rw[aeW]at hll
 refine JN ?_
 simp only[rk,Wl.re]
 refine⟨_,_,_,rfl,aao x hx,fun d0 _=>⟨fun _=>⟨_,_,rfl,Hc,fun d hd=>Hm d hd⟩,fun _=>?_⟩⟩
 refine⟨_,_,rfl,aaj x hx,fun d2 g2=>?_⟩
 obtain⟨m1,-⟩:=g2
 refine⟨fun q2=>⟨_,_,rfl,Ru x hx,fun d3 g3=>?_⟩,fun q2=>⟨_,_,rfl,Ru x hx,fun d19 g19=>?_⟩⟩
 ·have vg:=m1.1 q2
  obtain⟨f,-,a1,a2,a3,a4,a5,a6⟩:=g3.2 vg
  have hi:=vg.inv hx
  have hla:∀e∈x.th,e.r<=x.la:=fun e he=>(vg.rb e he).2
  have hk:∀e∈x.th,e.w.k<=16:=fun e he=>(vg.BC e he).1.1.2
  refine⟨fun _=>⟨_,_,_,rfl,Wi l (by omega) hs,fun d4 _=>⟨fun _=>⟨_,_,rfl,Hc,fun d hd=>Hm d hd⟩,fun _=>?_⟩⟩,fun h=>absurd (g3.1.2 vg) (by rw[h];decide)⟩
  have hW:Gl (WS.mk (d3.ae 1).aa (d3.ae 2).aa (gu (D.ae d3 5)) (hG (D.ae d3 6)) (hC (D.ae d3 7)) (gu (D.ae d3 8)) (hG (D.ae d3 9)) (hC (D.ae d3 10)) (d3.ae 3).int (d3.ae 4).aa) (x.wo f):=⟨a1,a2,a5,a6,a3,a4⟩
  refine⟨_,_,rfl,aec hi hla hW l (by omega) (fun s h=>⟨(hs s h).HL,(hs s h).cn⟩),fun d6 g6=>?_⟩
  obtain⟨n1,n2⟩:=g6
  refine⟨fun q6=>?_,fun q6=>?_⟩
  ·obtain⟨t,f',p1,p2,p3⟩:=n2 q6
   have hown:∀s:Su,D.bX s.gH.az<=D.bX s.az:=fun s=>by
    unfold Su.gH
    split
    ·exact afa _
    ·rw[Su.ay,Su.ay];simp[D.bX,D.bm]
   have hbs:∀l:List Su,D.bm ((l.map Su.gH).map Su.az)<=D.bm (l.map Su.az):=fun l=>by
    induction l with
    |nil=>simp
    |cons s r ih=>have:=hown s;simp only[afP,D.bm];omega
   have hbl:=hbs l
   have hlist:(d6.ae 5).aa=(l.map Su.gH).map Su.az:=by rw[p3,ahp];rfl
   have hs2:∀s∈l.map Su.gH,s.ok/\St.cS s.co<2^30/\St.mF s.co<2^30/\s.ns.length<2^30/\s.se.length<2^30:=by
    intro s' h'
    obtain⟨s,h,rfl⟩:=afy.1 h'
    have hf:=hs s h
    have ho:=hf.HL.ok
    have hc:s.gH.co=s.co\/s.gH.co=[]:=by
     unfold Su.gH
     split
     ·exact .inl rfl
     ·exact .inr rfl
    refine⟨⟨ho.1,ho.2.1,?_,?_,ho.2.2.2.2⟩,?_,?_,hf.HL.ns,hf.HL.se⟩
    ·rcases hc with h|h<;>rw[h]
     ·exact ho.2.2.1
     ·decide
    ·rcases hc with h|h<;>rw[h]
     ·exact ho.2.2.2.1
     ·simp
    ·rcases hc with h|h<;>rw[h]
     ·exact hf.cn
     ·decide
    ·rcases hc with h|h<;>rw[h]
     ·exact hf.HL.co
     ·decide
   refine⟨fun _=>⟨_,_,rfl,Hc,fun d hd=>Hm d hd⟩,fun hby=>?_⟩
   have hby:jj≠0:=by simpa using hby
   rw[hlist]
   refine⟨_,_,rfl,ZN (V:=HX (D.ae d6 2)) hi p1 hk hbx p2 (d6.ae 4).aa (l.map Su.gH) (by omega) hs2,fun d8 g8=>?_⟩
   refine⟨_,_,rfl,LC hi p1 p2,fun d9 g9=>?_⟩
   obtain⟨t',f'',u1,u2⟩:=g9
   refine⟨_,_,rfl,Sm hi u1 hk hbx u2,fun d10 g10=>?_⟩
   obtain⟨g10,-⟩:=g10
   simp only[afv,afd,agq,agB,afF]
   refine⟨fun _=>⟨_,_,rfl,Hc,fun d hd=>Hm d hd⟩,fun k8=>⟨fun _=>⟨_,_,rfl,Hc,fun d hd=>Hm d hd⟩,fun k10=>?_⟩⟩
   obtain⟨v8,z8⟩:=g8.resolve_left k8
   obtain⟨v10,z10⟩:=g10.resolve_left k10
   exact⟨fun h=>absurd v8 h,fun _=>⟨fun h=>absurd v10 h,fun _=>UD hby h0 h1 _ _ z8 z10⟩⟩
  ·refine⟨fun _=>⟨_,_,rfl,Hc,fun d hd=>Hm d hd⟩,fun h=>?_⟩
   exact absurd (by simpa using h) (n1 q6)
 ·refine⟨fun q19=>?_,fun _=>⟨_,_,rfl,Hc,fun d hd=>Hm d hd⟩⟩
  exact absurd (m1.2 (g19.1.1 q19)) (by rw[q2];decide)
end
end Go.Proofs
namespace Go.Proofs
open Go Go.PB Go.ChangeShapes Go.WideShapes Go.RowKit
def aeh:List TypeId:=[bF,cB,bZ,bQ,aO,fT,ao,aT,aE,jU,oy,CS,dS,bB,jT,eQ,Ec,je,bG,aj,bY,bh,UJ,ah,q8,nP,tOp,Ea,G1]
def OS:Xu pg aeh=true:=by kernel_rfl
def dW:cy pg bF=true:=by kernel_rfl
def dU:cy pg cB=true:=by kernel_rfl
def gU:hY pg cB=some false:=by kernel_rfl
def sU (d:D):ch pg cB d= .bC bZ d.aa:=by kernel_rfl
def aeM:pg.underlying ah=some (.int .i64):=by kernel_rfl
def uU8:pg.underlying mn=some (.int .u8):=by kernel_rfl
set_option maxRecDepth 100000 in
def aeR {H:Type}{az:TypeId×Value->H}{w:World}{sp:Nat->Bool}{r:Reach}{au:Nat}{args:Array Value}{ds:List (DataW H)}{p:List MemPlace}{ub:DataW H->Nat}{uba:List (DataW H)->Nat}(hb:U4 ub uba)
 (hw:∀v,args[0]?=some v->Value.okWide pg w r au bF v)(hs:∀v,args[1]?=some v->Value.okWide pg w r au cB v)
 (hi:∀v,args[2]?=some v->Value.okWide pg w r au ah v)(hj:∀v,args[3]?=some v->Value.okWide pg w r au mn v)
 (hA:DataW.TrodAll az pg w 0 sp true [bF,cB,ah,mn] args.toList ds p)(hu:uba ds<=1048576):
 Calls pg eK args w fun e w'=>e= .returned (.bool true)/\CU w w':=by
 obtain⟨args⟩:=args
 obtain⟨v0,vr,d0,dr,p0,q,e1,rfl,rfl,h0,hA⟩:=trodAll_cons hA
 obtain⟨v1,vr,d1,dr,p1,q,rfl,rfl,rfl,h1,hA⟩:=trodAll_cons hA
 obtain⟨v2,vr,d2,dr,p2,q,rfl,rfl,rfl,h2,hA⟩:=trodAll_cons hA
 obtain⟨v3,vr,d3,dr,p3,q,rfl,rfl,rfl,h3,hA⟩:=trodAll_cons hA
 obtain⟨rfl,rfl,rfl⟩:=trodAll_nil hA
 replace e1:args=[v0,v1,v2,v3]:=e1
 subst e1
 have hw0:=hw v0 (by simp)
 have hs0:=hs v1 (by simp)
 obtain⟨cs,rfl,_⟩:∃cs,v0= .agg cs/\cs.size=pg.cellsOf bF:=by
  have hf:=f7
  unfold Js at hf
  cases hp:pg.underlying bF with
  |none=>rw[hp]at hf;cases hf
  |some td=>
   rw[hp]at hf
   cases td<;>try (cases hf;done)
   exact okWide_struct hp hw0
 obtain⟨a,len,cap,rfl⟩:=okWide_slice lU hs0
 obtain⟨n,rfl,rfl,rfl,_⟩:=open_int aeM (hi v2 (by simp)) h2
 obtain⟨b,rfl,rfl,rfl,hbw⟩:=open_int uU8 (hj v3 (by simp)) h3
 have hbw:0<=b/\b<=255:=by simpa [Lit.wf,IntKind.min,IntKind.max,IntKind.signed,IntKind.bits]using hbw
 obtain⟨n0,h0⟩:=h0
 obtain⟨n1,h1⟩:=h1
 obtain⟨x0,g0,c0,b0⟩:=Sx OS hb n0 bF _ _ (.head _) h0
 obtain⟨x1,g1,c1,b1⟩:=Sx OS hb n1 cB _ _ (.tail _ (.head _)) h1
 obtain⟨x,rfl,hx⟩:=aep _ _ c0
 obtain⟨l,rfl,hl,hl2⟩:=fK (f:=Su.az) (Q:=Su.ok) lU c1 fun j _ y hy=>aek _ _ hy
 rw[hb.cons,hb.cons,hb.cons,hb.cons,hb.bJ]at hu
 dsimp only at b0 b1
 rw[D.bX]at b1
 refine Ug (XQ x l n b (Wl.HL hx (by omega)) (by omega) (by omega) (fun s hs=>Su.aey (hl2 s hs) ?_) hbw.1 (by omega)) (fun y d h=>?_) ?_
 ·have:=Gr (air (f:=Su.az) hs)
  omega
 ·simp only[jB]at h
  exact aS.1 h
 ·refine⟨_,_,rfl,?_,_,_,rfl,?_,_,_,rfl,rfl,_,_,rfl,rfl,rfl⟩
  ·exact⟨cs,rfl,mW.shape dW g0⟩
  ·have:=YL dU gU g1
   rw[sU]at this
   exact this
end Go.Proofs
end
