import Derived.Test.YtpanfgalkajgdaaGreatM25
set_option linter.all false
noncomputable section
open Go.IntKind renaming wrap→wp
namespace Go.Proofs
open Go Go.PB
abbrev Mv (s:cg)(p q:Int):List (Nat×aE):=[(0,.cells [.func (.func kA) [] [.ie 1 0],.func (.func kB) [] [.ie 1 0],.int .i64 p,.int .i64 q] fZ false),(1,.cells [.ax s] aq false)]
def Nq (p:Pa Int)(s:cg)(x y:Int)(d:D):Prop:=match p s with
 |some (n,r)=>(d.af 0).bool=true/\(d.af 1).int=n/\(d.af 2).ax=r/\(d.af 3).int=x/\(d.af 4).int=y
 |none=>(d.af 0).bool=false
def OG (s:cg)(p q:Int)(k:Nat)(hk:k<=8):PH dM (qn s p q k) (qp s p q k) 2 mR (Nq (cT k) s p q):=by
 refine Mo ?_;simp only[rk,aml,amk,z7,anx,amo,ant];refine⟨fun h=>?_,fun h=>⟨fun _=>⟨fun _=>⟨fun _=>?_,fun h=>by omega⟩,fun h=>by omega⟩,fun h=>by omega⟩⟩
 ·refine rj ?_;simp only[rk];refine⟨fun h=>absurd h (by decide),fun _=>⟨rfl,.r [.b false,.z 0,.s s,.z p,.z q],.ret,?_⟩⟩;rw[Nq,Kj (zE (.inr h))];rfl
 have J:=Aj (n:=k) (s:=s) (by omega) (by omega);have A:=I0 J;have hl:(s.take (k:Int).toNat).length<=8:=by rw[amI];omega
 generalize s.take (k:Int).toNat=t at A hl;generalize s.drop (k:Int).toNat=r at A;have loop:∀(rest:cg) (i:Nat),t.drop i=rest->aC pg dM [dA,aj] (.bK 2 (mR (qn s p q k) (qp s p q k)) (Nq (cT k) s p q)) (jF s p q k true t.length t.length r (kf t) (jN (t.take i)) i):=by
  intro rest
  induction rest with
  |nil=>intro i I;have:=drop_nil I;refine rj ?_;simp only[rk,aml,amk];refine⟨fun h=>by omega,fun _=>⟨rfl,.r [.b true,.z _,.s r,.z p,.z q],.ret,?_⟩⟩;rw[amv this,Nq,A];exact⟨rfl,rfl,rfl,rfl,rfl⟩
  |cons c rest Z=>intro i I;obtain⟨O,Y,U⟩:=aF I;have hb:=Dn O;have V:=Gw (s:=t) (i:=i+1) (by omega);refine rj ?_;have hat:D.at (kf t) i= .z (c.toNat:Int):=Vc (by simp[kf,O]);simp only[rk,aml,amk,aR U,amq,zZ,hat,D.bu];refine⟨fun _=>⟨fun _=>⟨fun _=>?_,fun h=>by omega⟩,fun h=>by cases h⟩,fun h=>by omega⟩;rw[bL U,OD (by omega),<-hb];exact Z (i+1) Y
 exact loop t 0 rfl
def KT (s:cg)(k:Nat)(V:k<=8):dZ pg i0 [aq,ah] [.s s,.z k] [dA,aq,aj] (fun d=>match cT k s with
 |some (n,r)=>d= .r [.z n,.s r,.b true]
 |none=>(d.af 2).bool=false):=by
 refine WW ?_;simp only[rk,D.dS,D.bu,aml,amk];refine⟨fun h=>?_,fun h=>?_⟩
 ·rw[Kj (zE (.inr h))];rfl
 have I:=Aj (n:=k) (s:=s) (by omega) (by omega);have A:=I0 I;rw[A,amq];have loop:∀(j i:Nat),i+j=k->aC pg i0 [dA,aq,aj] (.cY fun d=>d= .r [.z (jN (s.take k)),.s (s.drop k),.b true]) (sA (.s s) (.z k) (jN (s.take i)) i):=by
  intro j
  induction j with
  |zero=>intro i hi;refine Ew ?_;simp only[rk,D.dS,D.bu,aml,amk,amq,z7,amo,ant];rw[show i=k by omega];exact⟨fun h=>by omega,fun _=>⟨fun _=>⟨fun _=>rfl,fun h=>by omega⟩,fun h=>by omega⟩⟩
  |succ j U=>intro i hi;have J:s[i]?=some (s[i]'(by omega)):=amr _;have hb:=Dn J;have O:=Gw (s:=s) (i:=i+1) (by omega);refine Ew ?_;have hat:s.getD i 0=s[i]'(by omega):=(by rw[anR,J];rfl);simp only[rk,D.dS,D.bu,aml,amk,aR (show i<s.length by omega),amq,hat];refine⟨fun _=>⟨fun _=>?_,fun h=>by cases h⟩,fun h=>by omega⟩;rw[bL (show i<9 by omega) (by decide),OD (by omega),<-hb];exact U (i+1) (by omega)
 exact loop k 0 (by omega)
def ai8 (k n:Int)(s:cg)(l:List D)(r:Int):aH pg ak (.r [.z k,.z n,.s s,.r l,.z r])=[.int .u8 k,.int .i64 n,.ax s,.bx ak l,.int .i64 r]:=by kernel_rfl
def al2 (c:UInt8)(r:cg):cT 1 (c::r)=some (((c.toNat:Nat):Int),r):=by
 rw[I0 (k:=1) (t:=[c]) (r:=r) (by rw[Aj (by decide) (by simp;omega)];rfl)];simp[jN]
def XI (d:Nat)(s:cg):ja d 0 s=none:=by unfold ja;rfl
def abw (d A:Nat):ja d A []=none:=by
 unfold ja
 split
 ·rfl
 rfl
def FL (d A:Nat)(k:Int):Pa aA:=
 if k=0 then .ret (.mk 0 0 [] [] 0)
 else if k=1 then Ai.bind fun n=> .ret (.mk 1 n [] [] 0)
 else if k=2 then (cT 2).bind fun n=>if n<=256 then (px n).bind fun t=> .ret (.mk 2 0 t [] 0)else fun _=>none
 else if k=3 then (cT 2).bind fun n=>match d with
  |0=>fun _=>none
  |d+1=>if n<A then (q6 (ja d) n.toNat (A-1)).bind fun l=> .ret (.mk 3 0 [] l 0)else fun _=>none
 else if k=4 then (cT 4).bind fun n=>if n=0 then fun _=>none else .ret (.mk 4 0 [] [] n)
 else fun _=>none
def Lf (d A:Nat)(h:A≠0)(c:UInt8)(r:cg):ja d A (c::r)=FL d A ((c.toNat:Nat):Int) r:=by
 unfold ja;rw[amt h,Pa.bind_some (al2 c r)];unfold FL
 cases d<;>rfl
def SZ (d:Nat):∀(n m:Nat) (s:cg) (v:aA) (r:cg),ja d m s=some (v,r)->q6 (ja d) (n+1) m s=match q6 (ja d) n (m-v.size) r with|some (l,t)=>some (v::l,t)|none=>none:=by
 intro n m s v r h;rw[q6,Pa.bind_some h]
 cases h':q6 (ja d) n (m-v.size) r with
 |none=>rw[Pa.cw h']
 |some x=>rw[Pa.bind_some h'];rfl
def Fq (p:Pa aA)(s:cg)(d:D):Prop:=match p s with|some (v,r)=>d= .r [v.ar,.s r,.z v.size]|none=>(d.af 2).int=-1
def tf {P:Prop}(h:true=false):P:=by cases h
def ft {P:Prop}(h:false=true):P:=by cases h
def YW (d A:Nat):FL d A 1=Ai.bind fun n=> .ret (.mk 1 n [] [] 0):=rfl
def YX (d A:Nat):FL d A 2=(cT 2).bind fun n=>if n<=256 then (px n).bind fun t=> .ret (.mk 2 0 t [] 0)else fun _=>none:=rfl
def T3 (d A:Nat):FL (d+1) A 3=(cT 2).bind fun n=>if n<A then (q6 (ja d) n.toNat (A-1)).bind fun l=> .ret (.mk 3 0 [] l 0)else fun _=>none:=rfl
def abc (A:Nat):FL 0 A 3=(cT 2).bind fun n=>fun _=>none:=rfl
def YY (d A:Nat):FL d A 4=(cT 4).bind fun n=>if n=0 then fun _=>none else .ret (.mk 4 0 [] [] n):=rfl
def Wj {d A:Nat}{k:Int}(h0:k≠0)(h1:k≠1)(h2:k≠2)(J:k≠3)(I:k≠4)(s:cg):FL d A k s=none:=by
 rw[FL,amt h0,amt h1,amt h2,amt J,amt I]
def YF {s r:cg}{n:Int}(h:cT 8 s=some (n,r)):Ai s=some (n-2^63,r):=by rw[Ai,Pa.bind_some h];rfl
def aA.zH (l r:List aA):aA.bA (l++r)=aA.bA l+aA.bA r:=by
 induction l with
 |nil=>simp[aA.bA]
 |cons a l A=>simp only[anM,aA.bA,A];omega
abbrev R2F (q:Nat):Prop:=∀(p:Nat),p<=512->∀s:cg,s.length<2^62->dZ pg kx [aq,ah,ah] [.s s,.z p,.z q] [ak,aq,ah] (Fq (ja q p) s)
def UB {q p:Nat}(hp:p<=512)(h0:p≠0){c:UInt8}{r:cg}(hc:((c.toNat:Nat):Int)=3)(ih:R2F q)(hq:q<=16){n:Int}{t:cg}(h2:cT 2 r=some (n,t))(hn:n<p)(ht:t.length<2^62):
 aC pg kx [ak,aq,ah] (.cY (Fq (ja (q+1) p) (c::r))) (jE (.s (c::r)) (.z p) (.z (q+1:Nat)) t n 1 0 0 []):=by
 obtain⟨-,b0,-⟩:=bo h2;have hv:ja (q+1) p (c::r)=match q6 (ja q) n.toNat (p-1) t with|some (l,u)=>some (.mk 3 0 [] l 0,u)|none=>none:=by
  rw[Lf _ _ h0,hc,T3,Pa.bind_some h2,amu hn]
  cases h':q6 (ja q) n.toNat (p-1) t with
  |none=>rw[Pa.cw h']
  |some x=>rw[Pa.bind_some h'];rfl
 have loop:∀(j:Nat) (l:List aA) (u:cg),l.length+j=n.toNat->1+aA.bA l<=p->u.length<2^62->
  (ja (q+1) p (c::r)=match q6 (ja q) j (p-1-aA.bA l) u with|some (k,u)=>some (.mk 3 0 [] (l++k) 0,u)|none=>none)->
  aC pg kx [ak,aq,ah] (.cY (Fq (ja (q+1) p) (c::r))) (jE (.s (c::r)) (.z p) (.z (q+1:Nat)) u n ((1+aA.bA l:Nat):Int) l.length l.length (l.map aA.ar)):=by
  intro j
  induction j with
  |zero=>intro l u hj hl U he;refine yr ?_;simp only[rk,aml,amk,amm,D.dS,anB,hc];refine⟨fun h=>by omega,fun _=>⟨fun _=>?_,fun h=>absurd h (by simp)⟩⟩;have he:ja (q+1) p (c::r)=some (.mk 3 0 [] (l++[]) 0,u):=he;rw[ana]at he;rw[Fq,he];simp only[aA.az,aA.size,aA.k,aA.n,aA.s,aA.l,aA.r]
  |succ j J=>
   intro l u hj hl U he;refine yr ?_;simp only[rk,aml,amk,amm,D.dS,D.bu,amo,ant];have Y:IntKind.i64.wrap ((p:Int)-((1+aA.bA l:Nat):Int))=((p-1-aA.bA l:Nat):Int):=(by rw[bM];omega);have w2:IntKind.i64.wrap (((q+1:Nat):Int)-1)=(q:Int):=(by rw[bM];omega);rw[Y,w2];refine⟨fun _=>⟨_,_,_,rfl,ih _ (by omega) u U,fun d hd=>?_⟩,fun h=>by omega⟩
   cases I:ja q (p-1-aA.bA l) u with
   |none=>rw[Fq,I]at hd;have hd:(d.af 2).int=-1:=hd;rw[q6,Pa.cw I]at he;rw[hd];exact⟨fun _=>by rw[Fq,he];rfl,fun h=>absurd (by decide) h⟩
   |some x=>
    obtain⟨v,A⟩:=x;rw[Fq,I]at hd;have hd:d= .r [v.ar,.s A,.z v.size]:=hd;subst hd;have hs:=XJ I;have a6:=aad I;have f2:D.af (.r [v.ar,.s A,.z v.size]) 2= .z v.size:=rfl;have f1:D.af (.r [v.ar,.s A,.z v.size]) 1= .s A:=rfl;have f0:D.af (.r [v.ar,.s A,.z v.size]) 0=v.ar:=rfl;rw[f2,f1,f0,D.bu,D.dS,eN];refine⟨fun h=>by omega,fun _=>⟨fun _=>?_,fun h=>by simp[bh]at h;omega⟩⟩
    have O:=J (l++[v]) A (by simp;omega) (by rw[aA.zH];simp only[aA.bA];omega) (by omega) (by
     rw[he,SZ _ _ _ _ _ _ I,aA.zH];simp only[aA.bA,anN,<-Nat.sub_sub]
     cases q6 (ja q) j (p-1-aA.bA l-v.size) A with
     |none=>rfl
     |some y=>simp)
    have Z:IntKind.i64.wrap (((1+aA.bA l:Nat):Int)+(v.size:Int))=((1+aA.bA (l++[v]):Nat):Int):=(by rw[bM,aA.zH];simp only[aA.bA];omega);have V:IntKind.u64.wrap ((l.length:Int)+1)=(((l++[v]).length:Nat):Int):=(by rw[zn];simp);rw[Z,V,show l.map aA.ar++[v.ar]=(l++[v]).map aA.ar by simp,show l.length+1=(l++[v]).length by simp];exact O
 have:=loop n.toNat [] t (by simp) (by simp only[aA.bA];omega) ht (by simpa [aA.bA]using hv);simpa [aA.bA]using this
def KS (q:Nat)(hq:q<=16)(ih:∀I,q=I+1->R2F I):R2F q:=by
 intro p hp s hs;refine Zt ?_;simp only[rk,D.dS,D.bu,aml,amk,z7]
 cases s with
 |nil=>exact⟨fun _=>by rw[Fq,abw];rfl,fun h=>by cases h⟩
 |cons c r=>
  refine⟨fun h=>(by cases h),fun _=>⟨fun h=>?_,fun h=>⟨fun _=>?_,fun h=>by cases h⟩⟩⟩
  ·rw[Fq,show p=0 by omega,XI];rfl
  have O:p≠0:=by omega
  simp only[amB]at hs;simp only[Fq,Lf _ _ O,anB,List.drop_one,aoy,amB,amo,ant,aml,amk,amY,amF,an3,amJ,amP];have hk:(0:Int)<=(c.toNat:Int)/\(c.toNat:Int)<256:=by have:=c.toNat_lt;omega
  refine⟨fun _=>⟨fun U=>?_,fun U=>⟨fun Y=>?_,fun Y=>⟨fun e2=>?_,fun e2=>⟨fun Z=>?_,fun Z=>⟨fun J=>?_,fun J=>?_⟩⟩⟩⟩⟩,fun h=>by omega⟩
  ·rw[U];rfl
  ·rw[Y];refine⟨_,_,_,rfl,KT r 8 (by decide),fun d hd=>?_⟩
   cases A:cT 8 r with
   |none=>rw[A]at hd;rw[YW,Pa.cw (show Ai r=none from Pa.cw A)];exact⟨fun _=>rfl,fun g=>tf (g.symm.trans hd)⟩
   |some x=>obtain⟨n,t⟩:=x;rw[A]at hd;obtain⟨V,b2,b3⟩:=bo A;subst hd;rw[YW,Pa.bind_some (YF A)];refine⟨fun g=>tf g,fun _=>?_⟩;have f0:D.int (D.af (.r [.z n,.s t,.b true]) 0)=n:=D.bu n;rw[f0,QY b2 (by omega)];rfl
  ·rw[e2];refine⟨_,_,_,rfl,KT r 2 (by decide),fun d hd=>?_⟩
   cases A:cT 2 r with
   |none=>rw[A]at hd;rw[YX,Pa.cw A];exact⟨fun _=>rfl,fun g=>tf (g.symm.trans hd)⟩
   |some x=>
    obtain⟨n,t⟩:=x;rw[A]at hd;obtain⟨V,b2,b3⟩:=bo A;subst hd;rw[YX,Pa.bind_some A];have f0:D.int (D.af (.r [.z n,.s t,.b true]) 0)=n:=D.bu n;have f1:D.ax (D.af (.r [.z n,.s t,.b true]) 1)=t:=D.dS t;rw[f0,f1,zn];refine⟨fun g=>tf g,fun _=>⟨fun h=>?_,fun h=>?_⟩⟩
    ·rw[ifN];rfl
    rw[ifP];refine⟨fun h=>?_,fun h'=>⟨fun _=>⟨fun _=>⟨fun _=>?_,fun h=>by omega⟩,fun h=>by omega⟩,fun h=>by omega⟩⟩
    ·rw[Pa.cw (zE (.inr h))];rfl
    rw[Pa.bind_some (Aj b2 (by omega)),anx];rfl
  ·rw[Z];refine⟨_,_,_,rfl,KT r 4 (by decide),fun d hd=>?_⟩
   cases A:cT 4 r with
   |none=>rw[A]at hd;rw[YY,Pa.cw A];exact⟨fun g=>tf (g.symm.trans hd),fun _=>rfl⟩
   |some x=>
    obtain⟨n,t⟩:=x;rw[A]at hd;obtain⟨V,b2,b3⟩:=bo A;subst hd;rw[YY,Pa.bind_some A];have f0:D.int (D.af (.r [.z n,.s t,.b true]) 0)=n:=D.bu n;rw[f0,bM];refine⟨fun _=>⟨fun h=>?_,fun h=>?_⟩,fun g=>tf g⟩
    ·rw[ifP];rfl
    rw[ifN];rfl
  ·refine⟨_,_,_,rfl,KT r 2 (by decide),fun d hd=>?_⟩
   cases A:cT 2 r with
   |none=>rw[A]at hd;have:FL q p 3 r=none:=(by cases q<;>exact Pa.cw A);rw[J,this];exact⟨fun _=>rfl,fun g=>tf (g.symm.trans hd)⟩
   |some x=>
    obtain⟨n,t⟩:=x;rw[A]at hd;obtain⟨V,b2,b3⟩:=bo A;subst hd;have f0:D.int (D.af (.r [.z n,.s t,.b true]) 0)=n:=D.bu n;have f1:D.ax (D.af (.r [.z n,.s t,.b true]) 1)=t:=D.dS t;rw[f0,f1,zn (show (0:Int)<=p by omega)];refine⟨fun g=>tf g,fun _=>⟨fun h=>?_,fun h=>⟨fun h'=>?_,fun h'=>?_⟩⟩⟩
    ·rw[J,show q=0 by omega,abc,Pa.bind_some A];rfl
    ·obtain⟨I,rfl⟩:∃I,q=I+1:=⟨q-1,by omega⟩;rw[J,T3,Pa.bind_some A,ifN];rfl
    obtain⟨I,rfl⟩:∃I,q=I+1:=⟨q-1,by omega⟩;have:=UB hp O J (ih I rfl) (by omega) A (by omega) (by omega);exact this
  rw[Wj U Y e2 J Z];rfl
def Nn:∀q,q<=16->R2F q
 |0,h=>KS 0 h fun A e=>by omega
 |q+1,h=>KS (q+1) h fun A e=>by cases e;exact Nn q (by omega)
def aih (s:cg)(hs:s.length<2^62):dZ pg DC [aq] [.s s] [ak,aq,ah] (fun d=>match ja 16 512 s with|some (v,r)=>d= .r [v.ar,.s r,.z 0]|none=>d= .r [V0.ar,.s [],.z 20]):=by
 refine Zp ?_;simp only[rk,D.dS];refine⟨_,_,_,rfl,Nn 16 (by decide) 512 (by decide) s hs,fun d hd=>?_⟩
 cases h:ja 16 512 s with
 |none=>rw[Fq,h]at hd;have hd:(d.af 2).int=-1:=hd;rw[hd];exact⟨fun _=>rfl,fun h=>absurd h (by decide)⟩
 |some x=>obtain⟨v,r⟩:=x;rw[Fq,h]at hd;have hd:d= .r [v.ar,.s r,.z v.size]:=hd;subst hd;have f2:D.af (.r [v.ar,.s r,.z v.size]) 2= .z v.size:=rfl;have f1:D.af (.r [v.ar,.s r,.z v.size]) 1= .s r:=rfl;have f0:D.af (.r [v.ar,.s r,.z v.size]) 0=v.ar:=rfl;rw[f2,f1,f0,D.bu,D.dS,eN];simp only[aml,amk];exact⟨fun h=>by omega,fun _=>trivial⟩
def Vq (q p:Nat)(s:cg)(d:D):Prop:=match ja q p s with
 |some (v,r)=>(d.af 0).bool=true/\D.af d 1=v.ar/\(d.af 2).ax=r/\(d.af 3).int=((p-v.size:Nat):Int)/\(d.af 4).int=(q:Int)
 |none=>(d.af 0).bool=false
abbrev VVF (q:Nat):Prop:=∀(p:Nat),p<=512->∀s:cg,s.length<2^62->PH ey (nS s p q) (nU s p q) 2 gb (Vq q p s)
def vV (A:List BV)(M:List (Nat×aE))(k n:Int)(t:cg)(l:List D)(r:Int)(b:Bool)(s:cg)(p q:Int):
 T.dV (BV.tuple [.agg [.int .u8 k,.int .i64 n,.ax t,.bx ak l,.int .i64 r],.bool b],Mv s p q) (gb A M (.r [.b b,.r [.z k,.z n,.s t,.r l,.z r],.s s,.z p,.z q])):=by
 have e:gb A M (.r [.b b,.r [.z k,.z n,.s t,.r l,.z r],.s s,.z p,.z q])= .ret (BV.tuple [.agg (aH pg ak (.r [.z k,.z n,.s t,.r l,.z r])),.bool (D.bool (.b b))],Mv (D.ax (.s s)) (D.int (.z p)) (D.int (.z q))):=rfl;rw[e,ai8,D.dS,D.bu,D.bu,D.bV];exact .ret
def Vq.NH {q p:Nat}{s r:cg}{v:aA}(h:ja q p s=some (v,r)):Vq q p s (.r [.b true,v.ar,.s r,.z ((p-v.size:Nat):Int),.z q]):=by rw[Vq,h];exact⟨rfl,rfl,rfl,rfl,rfl⟩
def Vq.no {q p:Nat}{s:cg}{b:Bool}{x y z w:D}(h:ja q p s=none)(hb:b=false):Vq q p s (.r [.b b,x,y,z,w]):=by subst hb;rw[Vq,h];rfl
def Nq.pc {p:Pa Int}{s:cg}{x y:Int}{d:D}(h:p s=none)(hd:Nq p s x y d):(d.af 0).bool=false:=by simpa [Nq,h]using hd
def Nq.fD {p:Pa Int}{s r:cg}{x y n:Int}{d:D}(h:p s=some (n,r))(hd:Nq p s x y d):(d.af 0).bool=true/\(d.af 1).int=n/\(d.af 2).ax=r/\(d.af 3).int=x/\(d.af 4).int=y:=by simpa [Nq,h]using hd
def alI {n:Int}(h0:0<=n)(h1:n<2^64):IntKind.i64.wrap (IntKind.u64.wrap (n-9223372036854775808))=n-2^63:=by
 have J:(IntKind.i64).bits=64:=rfl;have I:(IntKind.i64).signed=true:=rfl;have O:(IntKind.u64).bits=64:=rfl;have A:(IntKind.u64).signed=false:=rfl;simp only[wp,J,I,O,A,anf,aog,amp,ann,aml];omega
def XL {q p:Nat}(hp:p<=512)(h0:p≠0){c:UInt8}{r:cg}(hc:((c.toNat:Nat):Int)=3)(ih:VVF q)(hq:q<=16){n:Int}{t:cg}(h2:cT 2 r=some (n,t))(hn:n<p)(ht:t.length<2^62):
 aC pg ey [ak,aj] (.bK 2 (gb (nS (c::r) p (q+1:Nat)) (nU (c::r) p (q+1:Nat))) (Vq (q+1) p (c::r))) (fV (c::r) p (q+1:Nat) n (p-1:Nat) q t 0 0 []):=by
 obtain⟨-,b0,-⟩:=bo h2;have hv:ja (q+1) p (c::r)=match q6 (ja q) n.toNat (p-1) t with|some (l,u)=>some (.mk 3 0 [] l 0,u)|none=>none:=by
  rw[Lf _ _ h0,hc,T3,Pa.bind_some h2,amu hn]
  cases h':q6 (ja q) n.toNat (p-1) t with
  |none=>rw[Pa.cw h']
  |some x=>rw[Pa.bind_some h'];rfl
 have loop:∀(j:Nat) (l:List aA) (u:cg),l.length+j=n.toNat->1+aA.bA l<=p->u.length<2^62->
  (ja (q+1) p (c::r)=match q6 (ja q) j (p-1-aA.bA l) u with|some (k,u)=>some (.mk 3 0 [] (l++k) 0,u)|none=>none)->
  aC pg ey [ak,aj] (.bK 2 (gb (nS (c::r) p (q+1:Nat)) (nU (c::r) p (q+1:Nat))) (Vq (q+1) p (c::r))) (fV (c::r) p (q+1:Nat) n ((p-1-aA.bA l:Nat):Int) q u l.length l.length (l.map aA.ar)):=by
  intro j
  induction j with
  |zero=>intro l u hj hl Y he;refine rY ?_;simp only[rk,aml,amk,amm,anB,anx,aoP,aoJ,hc];refine⟨fun h=>by omega,fun _=>⟨fun _=>?_,fun h=>absurd h (by simp)⟩⟩;have he:ja (q+1) p (c::r)=some (.mk 3 0 [] (l++[]) 0,u):=he;rw[ana]at he;have w2:IntKind.i64.wrap ((q:Int)+1)=((q+1:Nat):Int):=(by rw[bM];omega);have U:=Vq.NH he;have e1:(aA.mk 3 0 [] l 0).ar= .r [.z 3,.z 0,.s [],.r (l.map aA.ar),.z 0]:=aA.az _;rw[e1]at U;have e2:p-(aA.mk 3 0 [] l 0).size=p-1-aA.bA l:=(by simp only[aA.size];omega);rw[e2]at U;rw[w2];exact⟨rfl,_,vV _ _ _ _ _ _ _ _ _ _ _,U⟩
  |succ j J=>
   intro l u hj hl Y he;refine rY ?_;simp only[rk,aml,amk,amm,amo,ant,amJ,amP];refine⟨fun _=>⟨_,_,rfl,ih (p-1-aA.bA l) (by omega) u Y,fun d hd=>?_⟩,fun h=>by omega⟩
   cases A:ja q (p-1-aA.bA l) u with
   |none=>rw[Vq,A]at hd;have hd:(d.af 0).bool=false:=hd;rw[q6,Pa.cw A]at he;exact⟨fun _=>⟨fun _=>⟨rfl,_,vV _ _ _ _ _ _ _ _ _ _ _,Vq.no he rfl⟩,fun h=>absurd h (by simp)⟩,fun g=>tf (g.symm.trans hd)⟩
   |some x=>
    obtain⟨v,O⟩:=x;rw[Vq,A]at hd;obtain⟨d0,d1,d2,d3,d4⟩:(d.af 0).bool=true/\D.af d 1=v.ar/\(d.af 2).ax=O/\(d.af 3).int=((p-1-aA.bA l-v.size:Nat):Int)/\(d.af 4).int=(q:Int):=hd;have hs:=XJ A;have a6:=aad A;rw[d0,d1,d2,d3,d4,eN];refine⟨fun g=>tf g,fun _=>⟨fun _=>?_,fun h=>by simp[bh]at h;omega⟩⟩;have I:aA.bA (l++[v])=aA.bA l+v.size:=by rw[aA.zH];simp only[aA.bA];omega
    have V:=J (l++[v]) O (by simp;omega) (by rw[I];omega) (by omega) (by
     rw[he,SZ _ _ _ _ _ _ A,I];simp only[<-Nat.sub_sub]
     cases q6 (ja q) j (p-1-aA.bA l-v.size) O with
     |none=>rfl
     |some y=>simp)
    have Z:IntKind.u64.wrap ((l.length:Int)+1)=(((l++[v]).length:Nat):Int):=(by rw[zn];simp);rw[Z,show l.map aA.ar++[v.ar]=(l++[v]).map aA.ar by simp,show l.length+1=(l++[v]).length by simp,show p-1-aA.bA l-v.size=p-1-aA.bA (l++[v])by rw[I];omega];exact V
 have:=loop n.toNat [] t (by simp) (by simp only[aA.bA];omega) ht (by simpa [aA.bA]using hv);simpa [aA.bA]using this
def ND (q:Nat)(hq:q<=16)(ih:∀J,q=J+1->VVF J):VVF q:=by
 intro p hp s hs;refine N4 ?_;simp only[rk,aml,amk,z7]
 cases s with
 |nil=>exact⟨fun _=>⟨rfl,_,vV _ _ _ _ _ _ _ _ _ _ _,Vq.no (abw _ _) rfl⟩,fun h=>absurd (by decide) h⟩
 |cons c r=>
  simp only[amB]at hs;simp only[anB,anx,List.drop_one,aoy,aoP,aoJ,amB,amM,amo,ant,aml,amk,amY,amF,an3,amJ,amP];refine⟨fun h=>by omega,fun _=>⟨fun _=>⟨fun _=>⟨fun h=>⟨rfl,_,vV _ _ _ _ _ _ _ _ _ _ _,Vq.no ?_ rfl⟩,fun h=>⟨fun _=>?_,fun h=>absurd h (by decide)⟩⟩,fun h=>by omega⟩,fun h=>by omega⟩⟩
  ·rw[show p=0 by omega];exact XI _ _
  have a6:p≠0:=by omega
  have A:=Lf q p a6 c r;have hk:(0:Int)<=(c.toNat:Int)/\(c.toNat:Int)<256:=by have:=c.toNat_lt;omega
  have wp:IntKind.i64.wrap ((p:Int)-1)=((p-1:Nat):Int):=by rw[bM];omega
  rw[wp];refine⟨fun e0=>?_,fun e0=>⟨fun e1=>?_,fun e1=>⟨fun e4=>?_,fun e4=>⟨fun e2=>?_,fun e2=>⟨fun e3=>?_,fun e3=>?_⟩⟩⟩⟩⟩
  ·rw[e0]at A ⊢;have A:ja q p (c::r)=some (.mk 0 0 [] [] 0,r):=A;exact⟨rfl,_,vV _ _ _ _ _ _ _ _ _ _ _,Vq.NH A⟩
  ·rw[e1]at A ⊢;rw[YW]at A;refine⟨_,_,rfl,OG r (p-1:Nat) q 8 (by decide),fun d hd=>?_⟩
   cases I:cT 8 r with
   |none=>have hd:=Nq.pc I hd;rw[Pa.cw (show Ai r=none from Pa.cw I)]at A;exact⟨rfl,_,vV _ _ _ _ _ _ _ _ _ _ _,Vq.no A hd⟩
   |some x=>obtain⟨n,t⟩:=x;obtain⟨Y,V,O,U,Z⟩:=Nq.fD I hd;obtain⟨b1,b2,b3⟩:=bo I;rw[Pa.bind_some (YF I)]at A;rw[Y,V,O,U,Z,alI b2 (by omega)];have A:ja q p (c::r)=some (.mk 1 (n-2^63) [] [] 0,t):=A;exact⟨rfl,_,vV _ _ _ _ _ _ _ _ _ _ _,Vq.NH A⟩
  ·rw[e4]at A ⊢;rw[YY]at A;refine⟨_,_,rfl,OG r (p-1:Nat) q 4 (by decide),fun d hd=>?_⟩
   cases I:cT 4 r with
   |none=>have hd:=Nq.pc I hd;rw[Pa.cw I]at A;exact⟨fun g=>tf (g.symm.trans hd),fun _=>⟨rfl,_,vV _ _ _ _ _ _ _ _ _ _ _,Vq.no A rfl⟩⟩
   |some x=>
    obtain⟨n,t⟩:=x;obtain⟨Y,V,O,U,Z⟩:=Nq.fD I hd;obtain⟨b1,b2,b3⟩:=bo I;rw[Pa.bind_some I]at A;rw[Y,V,O,U,Z,bM];refine⟨fun _=>?_,fun g=>tf g⟩
    by_cases hn:n=0
    ·rw[amu hn]at A;exact⟨rfl,_,vV _ _ _ _ _ _ _ _ _ _ _,Vq.no A (by simp;omega)⟩
    rw[amt hn]at A;have A:ja q p (c::r)=some (.mk 4 0 [] [] n,t):=A;rw[show decide (n>0)=true by simp;omega];exact⟨rfl,_,vV _ _ _ _ _ _ _ _ _ _ _,Vq.NH A⟩
  ·rw[e2]at A ⊢;rw[YX]at A;refine⟨_,_,rfl,OG r (p-1:Nat) q 2 (by decide),fun d hd=>?_⟩
   cases I:cT 2 r with
   |none=>have hd:=Nq.pc I hd;rw[Pa.cw I]at A;exact⟨fun _=>⟨rfl,_,vV _ _ _ _ _ _ _ _ _ _ _,Vq.no A rfl⟩,fun g=>tf (g.symm.trans hd)⟩
   |some x=>
    obtain⟨n,t⟩:=x;obtain⟨Y,V,O,U,Z⟩:=Nq.fD I hd;obtain⟨b1,b2,b3⟩:=bo I;rw[Pa.bind_some I]at A;rw[Y,V,O,U,Z,bM];refine⟨fun g=>tf g,fun _=>⟨fun h=>?_,fun h=>?_⟩⟩
    ·rw[ifN]at A;exact⟨rfl,_,vV _ _ _ _ _ _ _ _ _ _ _,Vq.no A rfl⟩
    rw[ifP]at A;refine⟨fun h=>?_,fun h'=>⟨fun _=>⟨fun _=>⟨fun _=>?_,fun h=>by omega⟩,fun h=>by omega⟩,fun h=>by omega⟩⟩
    ·rw[Pa.cw (zE (.inr h))]at A;exact⟨rfl,_,vV _ _ _ _ _ _ _ _ _ _ _,Vq.no A rfl⟩
    rw[Pa.bind_some (Aj b2 (by omega))]at A;have A:ja q p (c::r)=some (.mk 2 0 (t.take n.toNat) [] 0,t.drop n.toNat):=A;exact⟨rfl,_,vV _ _ _ _ _ _ _ _ _ _ _,Vq.NH A⟩
  ·refine⟨_,_,rfl,OG r (p-1:Nat) q 2 (by decide),fun d hd=>?_⟩
   cases I:cT 2 r with
   |none=>have hd:=Nq.pc I hd;have:FL q p 3 r=none:=(by cases q<;>exact Pa.cw I);rw[e3,this]at A;exact⟨fun _=>⟨rfl,_,vV _ _ _ _ _ _ _ _ _ _ _,Vq.no A rfl⟩,fun g=>tf (g.symm.trans hd)⟩
   |some x=>
    obtain⟨n,t⟩:=x;obtain⟨Y,V,O,U,Z⟩:=Nq.fD I hd;obtain⟨b1,b2,b3⟩:=bo I;rw[Y,V,O,U,Z,bM];refine⟨fun g=>tf g,fun _=>⟨fun h=>?_,fun h=>⟨fun h'=>?_,fun h'=>?_⟩⟩⟩
    ·have h:q=0:=(by omega);subst h;rw[e3,abc,Pa.bind_some I]at A;exact⟨rfl,_,vV _ _ _ _ _ _ _ _ _ _ _,Vq.no A rfl⟩
    ·obtain⟨J,rfl⟩:∃J,q=J+1:=⟨q-1,by omega⟩;rw[e3,T3,Pa.bind_some I,ifN]at A;exact⟨rfl,_,vV _ _ _ _ _ _ _ _ _ _ _,Vq.no A rfl⟩
    obtain⟨J,rfl⟩:∃J,q=J+1:=⟨q-1,by omega⟩;have wq:IntKind.i64.wrap (((J+1:Nat):Int)-1)=(J:Int):=(by rw[bM];omega);rw[wq];exact XL hp a6 e3 (ih J rfl) (by omega) I (by omega) (by omega)
  exact⟨rfl,_,vV _ _ _ _ _ _ _ _ _ _ _,Vq.no (A.trans (Wj e0 e1 e2 e3 e4 r)) rfl⟩
def QT:∀q,q<=16->VVF q
 |0,h=>ND 0 h fun A e=>by omega
 |q+1,h=>ND (q+1) h fun A e=>by cases e;exact QT q (by omega)
def ake (s:cg)(hs:s.length<2^62):dZ pg GJ [aq] [.s s] [ak,aq,bn] (fun d=>match ja 16 512 s with|some (v,r)=>d= .r [v.ar,.s r,.z 0]|none=>d= .r [V0.ar,.s [],.z 20]):=by
 refine ada ?_;simp only[rk,D.dS];refine⟨_,_,rfl,QT 16 (by decide) 512 (by decide) s hs,fun d hd=>?_⟩
 cases h:ja 16 512 s with
 |none=>rw[Vq,h]at hd;have hd:(d.af 0).bool=false:=hd;rw[hd];exact⟨fun _=>rfl,fun h=>tf h⟩
 |some x=>obtain⟨v,r⟩:=x;rw[Vq,h]at hd;obtain⟨A,J,I,-⟩:=hd;rw[A,J,I,eN];exact⟨fun h=>ft h,fun _=>rfl⟩
section
def Vg {α:Type}(f:Int->Pa α)(s:cg):Ai.bind f s=(cT 8).bind (fun n=>f (n-2^63)) s:=by
 cases h:cT 8 s with
 |none=>rw[Pa.cw h,Pa.cw (show Ai s=none from Pa.cw h)]
 |some x=>rw[Pa.bind_some h,Pa.bind_some (YF h)]
abbrev Ms (s:cg):List (Nat×aE):=[(0,.cells [.ax s] ao false)]
abbrev RT2:=D->T (BV×List (Nat×aE))
section
variable {α β:Type} {e:α->D} {p:Pa α} {f:α->Pa β} {eX:β->D} {X:Pa β} {S s:cg} {C:cK} {R:RT2} {Rg:RH} {g:FuncId} {ags:List BV} {K:D->RT}
def ZI (he:C.bK=some 1)(I:∀d,(d.af 0).bool=true->T.dV (BV.nX aX 270,Ms (d.af 2).ax) (R d))(A:X S=none)(t:cg):
 rk pg C (.bK 1 R (Rq eX X S)) (.aT (.nX aX 270) (Ms t)):=
 ⟨he,.r [.b true,.z 0,.s t],by have:=I (.r [.b true,.z 0,.s t]) rfl;rwa [show D.ax (D.af (.r [.b true,.z 0,.s t]) 2)=t from D.dS t]at this,Rq.mkB A⟩
def qh (he:C.bK=some 1)(I:∀d,(d.af 0).bool=true->T.dV (BV.nX aX 270,Ms (d.af 2).ax) (R d))(hs:rp C.bJ g=some Rg)
 (hc:PH g ags (Ms s) 1 Rg (Rq e p s))(A:X S=p.bind f s)
 (J:∀v r d,p s=some (v,r)->X S=f v r->D.af d 1=e v->(d.af 2).ax=r->rk pg C (.bK 1 R (Rq eX X S)) (K d)):
 rk pg C (.bK 1 R (Rq eX X S)) (.au g ags (Ms s) 1 fun d=> .ite (d.af 0).bool (.aT (.nX aX 270) (Ms (d.af 2).ax)) (K d)):=by
 refine⟨Rg,_,hs,hc,fun d hd=>?_⟩
 cases h:p s with
 |none=>exact⟨fun _=>ZI he I (A.trans (Pa.cw h)) _,fun g=>tf (g.symm.trans (Rq.pc h hd)).symm⟩
 |some x=>obtain⟨h0,h1,h2⟩:=Rq.fD h hd;exact⟨fun g=>tf (g.symm.trans h0),fun _=>J x.1 x.2 d h (A.trans (Pa.bind_some h)) h1 h2⟩
def AA {t:TypeId}{v:β}{r:cg}{L:List BV}(he:C.bK=some 1)(A:∀d,(d.af 0).bool=false->T.dV (BV.agg (aH pg t (D.af d 1)),Ms (d.af 2).ax) (R d))(I:X S=Pa.ret v r)(hL:aH pg t (eX v)=L):
 rk pg C (.bK 1 R (Rq eX X S)) (.aT (.agg L) (Ms r)):=
 ⟨he,.r [.b false,eX v,.s r],by have:=A (.r [.b false,eX v,.s r]) rfl;rwa [show D.ax (D.af (.r [.b false,eX v,.s r]) 2)=r from D.dS r,show D.af (.r [.b false,eX v,.s r]) 1=eX v from rfl,hL]at this,Rq.mk I⟩
def alA {v:List β}{Y:Pa (List β)}{t:TypeId}{r:cg}(he:C.bK=some 1)(A:∀d,(d.af 0).bool=false->T.dV (BV.hY 1 ((d.af 1).ae).length true,[(0,.cells [.ax (d.af 2).ax] ao false),(1,.bY t (d.af 1).ae true)]) (R d))(I:Y S=some (v,r)):
 rk pg C (.bK 1 R (Rq (fun l=>D.r (l.map eX)) Y S)) (.aT (.hY 1 v.length true) [(0,.cells [.ax r] ao false),(1,.bY t (v.map eX) true)]):=
 ⟨he,.r [.b false,.r (v.map eX),.s r],by
   have:=A (.r [.b false,.r (v.map eX),.s r]) rfl
   rwa [show D.ax (D.af (.r [.b false,.r (v.map eX),.s r]) 2)=r from D.dS r,show D.ae (D.af (.r [.b false,.r (v.map eX),.s r]) 1)=v.map eX from D.aK _,amm]at this,Rq.mk (e:=fun l=>D.r (l.map eX)) I⟩
end
abbrev EL {α:Type}(e:α->D)(l:List α):D:= .r (l.map e)
def Io {α:Type}{c:Nat}{e:α->D}{φ:α->Prop}{p:Pa α}{S:cg}{C:cK}{R:RT2}{Rg:RH}{g:FuncId}{ags:List BV}{t:TypeId}{z:Nat}{el:D->D}{h:Int->cg->Nat->Int->List D->av}
 (hf:XZ c e φ p)(hc:1<=c)(hS:S.length<2^32)(hz:z<=1024)(he:C.bK=some 1)
 (hR:∀d,(d.af 0).bool=true->T.dV (BV.nX aX 270,Ms (d.af 2).ax) (R d))
 (a6:∀d,(d.af 0).bool=false->T.dV (BV.hY 1 ((d.af 1).ae).length true,[(0,.cells [.ax (d.af 2).ax] ao false),(1,.bY t (d.af 1).ae true)]) (R d))
 (h1:rp C.bJ aB=some cH)(h2:rp C.bJ cx=some fP)(h3:rp C.bJ g=some Rg)
 (Y:∀v d,D.af d 1=e v->el d=e v)
 (hg:∀s:cg,s.length+4<=S.length->PH g ags (Ms s) 1 Rg (Rq e p s))
 (hq:∀(n0:Int) (s1:cg) (J:Nat) (n3:Int) (U:List D),rk pg C (.bK 1 R (Rq (EL e) (cQ p) S))
   (.ite (decide (n3<n0)) (.au g ags (Ms s1) 1 fun d=> .ite (d.af 0).bool (.aT (.nX aX 270) (Ms (d.af 2).ax)) (.ite (decide (J=U.length)&&bh z (J+1)) (.bz (h n0 (d.af 2).ax (J+1) (wp .i64 (n3+1)) (U++[el d]))) .bT))
     (.aT (.hY 1 J true) [(0,.cells [.ax s1] ao false),(1,.bY t U true)]))->aC pg C.f C.rs (.bK 1 R (Rq (EL e) (cQ p) S)) (h n0 s1 J n3 U)):
 rk pg C (.bK 1 R (Rq (EL e) (cQ p) S)) (.au aB [.ie 0 0] (Ms S) 1 fun d=> .ite (d.af 0).bool (.aT (.nX aX 270) (Ms (d.af 2).ax))
  (.ite (decide ((d.af 1).int>wp .i64 (Int.tdiv (((d.af 2).ax).length:Int) c))) (.au cx [] [] 0 fun _=> .aT (.nX aX 270) (Ms (d.af 2).ax)) (.bz (h (d.af 1).int (d.af 2).ax 0 0 [])))):=by
 refine qh he hR h1 (fF S) rfl fun n r d hn O a b=>?_;obtain⟨n1,n2,n3⟩:=bo hn;rw[a,b,D.bu];have hw:IntKind.i64.wrap (Int.tdiv (r.length:Int) c)=((r.length/c:Nat):Int):=by have h2:=Nat.div_le_self r.length c;rw[show Int.tdiv (r.length:Int) (c:Int)=((r.length/c:Nat):Int)by rw[Int.tdiv_eq_ediv_of_nonneg (by omega)];rfl];generalize r.length/c=m at h2;exact bM
 rw[hw];refine⟨fun A=>⟨_,_,h2,ve,fun _ _=>ZI he hR ?_ _⟩,fun A=>?_⟩
 ·have A:=amU A;rw[O];refine Xj hf (by omega) ?_;exact Nat.lt_mul_of_div_lt (show r.length/c<n.toNat by omega) hc
 have A:=amE A;have a7:n.toNat<=r.length:=am8 (by omega) (Nat.div_le_self r.length c);have loop:∀(j:Nat) (l:List α) (u:cg),l.length+j=n.toNat->u.length<=r.length->(cQ p S=match rep p j u with|some (k,u)=>some (l++k,u)|none=>none)->
  aC pg C.f C.rs (.bK 1 R (Rq (EL e) (cQ p) S)) (h n u l.length l.length (l.map e)):=by
  intro j
  induction j with
  |zero=>intro l u hj hu hl;have hl:cQ p S=some (l++[],u):=hl;rw[ana]at hl;refine hq _ _ _ _ _ ⟨fun h=>absurd (amU h) (by omega),fun _=>?_⟩;exact alA he a6 hl
  |succ j ih=>
   intro l u hj hu hl;refine hq _ _ _ _ _ ⟨fun _=>?_,fun h=>absurd (amE h) (by omega)⟩;have O:cQ p S=(p.bind fun v=>fun u=>match rep p j u with|some (k,u)=>some (l++v::k,u)|none=>none) u:=by
    rw[hl,rep]
    cases I:p u with
    |none=>rw[Pa.cw I,Pa.cw I]
    |some x=>
     rw[Pa.bind_some I,Pa.bind_some I]
     cases hk:rep p j x.2 with
     |none=>rw[Pa.cw hk]
     |some y=>rw[Pa.bind_some hk];rfl
   refine qh he hR h3 (hg u (by omega)) O fun v Z d I V a b=>?_;have a8:=(hf u v Z (by omega) I).1;rw[b,Y v d a,amm];refine⟨fun _=>?_,fun hr=>?_⟩
   rotate_left
   ·have:(2*(l.length+1)+1024)*z<=2^34*2^10:=Nat.mul_le_mul (by omega) (by omega);simp[bh]at hr;omega
   have:=ih (l++[v]) Z (by simp;omega) (by omega) (by
    rw[V]
    cases rep p j Z with
    |none=>rfl
    |some y=>simp)
   rw[bL (show l.length<2^32 by omega) (by decide),show l.map e++[e v]=(l++[v]).map e by simp,show l.length+1=(l++[v]).length by simp];exact this
 refine loop n.toNat [] r (by simp) (amG _) ?_;rw[O]
 cases rep p n.toNat r with
 |none=>rfl
 |some y=>rfl
end
abbrev Td {α:Type}(f:FuncId)(ags:List BV)(Rg:RH)(e:α->D)(p:Pa α)(s:cg):Prop:=PH f ags (Ms s) 1 Rg (Rq e p s)
def ajG {v:Int}{d:D}(h:D.af d 1= .z v):D.z (d.af 1).int= .z v:=by rw[h,D.bu]
def alS {v:cg}{d:D}(h:D.af d 1= .s v):D.s (d.af 1).ax= .s v:=by rw[h,D.dS]
def ZN (S:cg)(hS:S.length<2^32):Td iE [.ie 0 0,.int .i64 4,.func (.func uf) [.ie 0 0] []] qt (EL D.z) (cQ (cT 4)) S:=
 Mm (s:=S) (Io qf (by decide) hS (by decide) rfl (fun _ g=> .tt g .ret) (fun _ g=> .ff g .ret) rfl rfl rfl (fun _ _ h=>ajG h) (fun s _=>fF s) fun _ _ _ _ _ x=>Gf (s:=S) x)
def SP (S:cg)(hS:S.length<2^32):Td hT [.ie 0 0,.int .i64 4,.func (.func aB) [.ie 0 0] []] sb (EL D.z) (cQ (cT 4)) S:=
 N3 (s:=S) (Io qf (by decide) hS (by decide) rfl (fun _ g=> .tt g .ret) (fun _ g=> .ff g .ret) rfl rfl rfl (fun _ _ h=>ajG h) (fun s _=>fF s) fun _ _ _ _ _ x=>Hd (s:=S) x)
def adm (S:cg)(hS:S.length<2^32):Td jo [.ie 0 0,.int .i64 4,.func (.func wJ) [.ie 0 0] []] sa (EL D.z) (cQ (cT 4)) S:=
 N2 (s:=S) (Io qf (by decide) hS (by decide) rfl (fun _ g=> .tt g .ret) (fun _ g=> .ff g .ret) rfl rfl rfl (fun _ _ h=>ajG h) (fun s _=>fF s) fun _ _ _ _ _ x=>Hc (s:=S) x)
def UK (S:cg)(hS:S.length<2^32):Td gl [.ie 0 0,.int .i64 4,.func (.func dh) [.ie 0 0] []] nv (EL D.s) (cQ Bq) S:=
 I6 (s:=S) (Io QN (by decide) hS (by decide) rfl (fun _ g=> .tt g .ret) (fun _ g=> .ff g .ret) rfl rfl rfl (fun _ _ h=>alS h) (fun s _=>Xl s) fun _ _ _ _ _ x=>D3 (s:=S) x)
def aiA (v:Ex):aH pg aI v.ar=[.int .u8 v.k,.int .i64 v.n,.ax v.s,.bx aI (v.l.map Ex.ar)]:=by rw[Ex.az];kernel_rfl
def ZM (F:Nat)(S:cg)(hS:S.length<2^32)(h:∀s:cg,s.length<=S.length->Td eo [.ie 0 0] pF Ex.ar (pEx F) s):
 Td iD [.ie 0 0,.int .i64 17,.func (.func eo) [.ie 0 0] []] qq (EL Ex.ar) (cQ (pEx F)) S:=
 Mk (s:=S) (Io (IP F) (by decide) hS (by decide) rfl (fun _ g=> .tt g .ret) (fun _ g=> .ff g .ret) rfl rfl rfl (fun _ _ h=>by rw[h,Ex.re]) (fun s hs=>h s (by omega)) fun _ _ _ _ _ x=>Gd (s:=S) x)
def aaW (F:Nat)(s:cg)(h:s.length<=F):pEx F s=((cT 1).bind fun k=>Ai.bind fun n=>Bq.bind fun t=>(cQ (pEx (F-1))).bind fun l=> .ret (.mk k n t l)) s:=by
 cases F with
 |zero=>have:s=[]:=aob (by omega);subst this;rfl
 |succ F=>rfl
def ai7:∀(F:Nat) (s:cg),s.length<=F->s.length<2^32->Td eo [.ie 0 0] pF Ex.ar (pEx F) s:=by
 intro F
 induction F with
 |zero=>intro s h hs;refine FN (s:=s) (qh rfl (fun _ g=> .tt g .ret) rfl (Im s) (aaW 0 s h) fun k r d I A a b=>?_);have:=(bo I).1;omega
 |succ F U=>intro s h hs;refine FN (s:=s) (qh rfl (fun _ g=> .tt g .ret) rfl (Im s) (aaW _ s h) fun k s1 d I A a b=>?_);have Y:=(bo I).1;(try dsimp only);rw[a,b];rw[Vg]at A;refine qh rfl (fun _ g=> .tt g .ret) rfl (SQ s1) A fun n s2 d J A a b=>?_;obtain⟨Z,n0,n1⟩:=bo J;(try dsimp only);rw[a,b];refine qh rfl (fun _ g=> .tt g .ret) rfl (Xl s2) A fun t O d ht A a b=>?_;have l3:=vF ht;(try dsimp only);rw[a,b];refine qh rfl (fun _ g=> .tt g .ret) rfl (ZM F O (by omega) fun s hs=>U s (by omega) (by omega)) A fun l V d hl A a b=>?_;(try dsimp only);rw[a,b];simp only[D.bu,D.dS,D.aK,rk,am2,amx,amy,amA,amS,QY n0 (show n<2^64 by omega)];exact AA rfl (fun _ g=> .ff g .ret) A (aiA _)
def amc (v:St):aH pg aJ v.ar=[.int .u8 v.op,.ax v.nm,.ax v.sc,.int .u8 v.ab,.int .u8 v.wh]++(aH pg aI v.a.ar++(aH pg aI v.b.ar++[.bx aJ (v.th.map St.ar),.bx aJ (v.el.map St.ar),.bx aJ (v.co.map St.ar),.bx aq (zi v.wi)])):=by
 rw[St.az,aiA,aiA,Ex.az,Ex.az];kernel_rfl
def wC (F:Nat)(S:cg)(hS:S.length<2^32)(h:∀s:cg,s.length<=S.length->Td ep [.ie 0 0] tM St.ar (GW F) s):
 Td cL [.ie 0 0,.int .i64 61,.func (.func ep) [.ie 0 0] []] iw (EL St.ar) (cQ (GW F)) S:=
 Mn (s:=S) (Io (vB F) (by decide) hS (by decide) rfl (fun _ g=> .tt g .ret) (fun _ g=> .ff g .ret) rfl rfl rfl (fun _ _ h=>by rw[h,St.re]) (fun s hs=>h s (by omega)) fun _ _ _ _ _ x=>Gg (s:=S) x)
def abt (F:Nat)(s:cg)(h:s.length<=F):GW F s=((cT 1).bind fun op=>Bq.bind fun nm=>Bq.bind fun sc=>(cT 1).bind fun ab=>(cT 1).bind fun wh=>(pEx (F-1)).bind fun a=>(pEx (F-1)).bind fun b=>
 (cQ (GW (F-1))).bind fun th=>(cQ (GW (F-1))).bind fun el=>(cQ (GW (F-1))).bind fun co=>(cQ Bq).bind fun wi=> .ret (.mk op nm sc ab wh a b th el co wi)) s:=by
 cases F with
 |zero=>have:s=[]:=aob (by omega);subst this;rfl
 |succ F=>rfl
def agp:∀(F:Nat) (s:cg),s.length<=F->s.length<2^32->Td ep [.ie 0 0] tM St.ar (GW F) s:=by
 intro F
 induction F with
 |zero=>intro s h hs;refine FO (s:=s) (qh rfl (fun _ g=> .tt g .ret) rfl (Im s) (abt 0 s h) fun k r d hk A a b=>?_);have:=(bo hk).1;omega
 |succ F O=>intro s h hs;refine FO (s:=s) (qh rfl (fun _ g=> .tt g .ret) rfl (Im s) (abt _ s h) fun op s1 d h1 A a b=>?_);have l1:=(bo h1).1;(try dsimp only);rw[a,b];refine qh rfl (fun _ g=> .tt g .ret) rfl (Xl s1) A fun nm s2 d h2 A a b=>?_;have l2:=vF h2;(try dsimp only);rw[a,b];refine qh rfl (fun _ g=> .tt g .ret) rfl (Xl s2) A fun sc s3 d h3 A a b=>?_;have l3:=vF h3;(try dsimp only);rw[a,b];refine qh rfl (fun _ g=> .tt g .ret) rfl (Im s3) A fun ab U d h4 A a b=>?_;have l4:=(bo h4).1;(try dsimp only);rw[a,b];refine qh rfl (fun _ g=> .tt g .ret) rfl (Im U) A fun wh s5 d h5 A a b=>?_;have l5:=(bo h5).1;(try dsimp only);rw[a,b];refine qh rfl (fun _ g=> .tt g .ret) rfl (ai7 F s5 (by omega) (by omega)) A fun xa s6 d h6 A a b=>?_;have l6:=(IP F _ _ _ (by omega) h6).1;(try dsimp only);rw[a,b];refine qh rfl (fun _ g=> .tt g .ret) rfl (ai7 F s6 (by omega) (by omega)) A fun xb s7 d h7 A a b=>?_;have l7:=(IP F _ _ _ (by omega) h7).1;(try dsimp only);rw[a,b];refine qh rfl (fun _ g=> .tt g .ret) rfl (wC F s7 (by omega) fun s hs=>O s (by omega) (by omega)) A fun th V d h8 A a b=>?_;have l8:=(dR (vB F) (by omega) h8).1;(try dsimp only);rw[a,b];refine⟨fun _=>?_,fun h=>absurd (amE h) (by simp)⟩;refine qh rfl (fun _ g=> .tt g .ret) rfl (wC F V (by omega) fun s hs=>O s (by omega) (by omega)) A fun el Z d h9 A a b=>?_;have l9:=(dR (vB F) (by omega) h9).1;(try dsimp only);rw[a,b];refine⟨fun _=>?_,fun h=>absurd (amE h) (by simp)⟩;refine qh rfl (fun _ g=> .tt g .ret) rfl (wC F Z (by omega) fun s hs=>O s (by omega) (by omega)) A fun co J d I A a b=>?_;have Y:=(dR (vB F) (by omega) I).1;(try dsimp only);rw[a,b];refine⟨fun _=>?_,fun h=>absurd (amE h) (by simp)⟩;refine qh rfl (fun _ g=> .tt g .ret) rfl (UK J (by omega)) A fun wi s11 d a6 A a b=>?_;(try dsimp only);rw[a,b];refine⟨fun _=>?_,fun h=>absurd (amE h) (by simp)⟩;simp only[D.bu,D.dS,D.aK];exact AA rfl (fun _ g=> .ff g .ret) A (amc _)
end Go.Proofs
end
