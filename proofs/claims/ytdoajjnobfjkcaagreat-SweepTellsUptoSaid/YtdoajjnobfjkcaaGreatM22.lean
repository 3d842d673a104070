import Derived.WalkKit
import Derived.ProofKit
import Derived.OpenShut
import Derived.Lib.ConvBytes
import Derived.Test.YtdoajjnobfjkcaaGreatM21
set_option linter.all false
noncomputable section
namespace Go.Proofs
open Go Go.PB
def ch.cons {a:Int}{l:List Int}(h:ch l)(hl:∀b∈l,a<b):ch (a::l):=fun i x y h1 h2=>by
 cases i with
 |zero=>simp at h1 h2;subst h1;exact hl y (by cases l with|nil=>simp at h2|cons c r=>simp at h2;subst h2;simp)
 |succ i=>exact h i x y (by simpa using h1) (by simpa using h2)
def Lh:∀{a b:List Int},ch a->ch b->(∀z,z∈a↔z∈b)->a=b:=by
 intro a
 induction a with
 |nil=>intro b _ _ h;cases b with|nil=>rfl|cons y r=>have:=(h y).2 (by simp);cases this
 |cons x l ih=>
  intro b ha hb h
  cases b with
  |nil=>have:=(h x).1 (by simp);cases this
  |cons y r=>
   have h1:=(h x).1 (by simp)
   have h2:=(h y).2 (by simp)
   have hxy:x=y:=by
    rcases ag9.1 h1 with e|e
    ·exact e
    ·rcases ag9.1 h2 with e2|e2
     ·exact e2.symm
     ·have:=ha.lt y e2;have:=hb.lt x e;omega
   subst hxy
   rw[ih ha.tail hb.tail fun z=>?_]
   constructor
   ·intro hz
    rcases ag9.1 ((h z).1 (by simp[hz]))with e|e
    ·have:=ha.lt z hz;omega
    ·exact e
   ·intro hz
    rcases ag9.1 ((h z).2 (by simp[hz]))with e|e
    ·have:=hb.lt z hz;omega
    ·exact e
def Tj:∀{l:List Int},l.Pairwise (·<=·)->l.Nodup->ch l:=by
 intro l
 induction l with
 |nil=>intro _ _ i a b h;simp at h
 |cons a r ih=>
  intro h1 h2
  rw[aio]at h1
  rw[ahO]at h2
  refine(ih h1.2 h2.2).cons fun b hb=>?_
  have:=h1.1 b hb
  have:a≠b:=fun e=>h2.1 (e▸hb)
  omega
def M4 {l k:List Int}(hp:l.Perm k)(hk:ch k):(l.mergeSort fun x y=>decide (x<=y))=k:=by
 have hs:(l.mergeSort fun x y=>decide (x<=y)).Perm l:=aks l _
 have hpw:(l.mergeSort fun x y=>decide (x<=y)).Pairwise (·<=·):=by
  have:=aj8 (le:=fun x y:Int=>decide (x<=y)) (by intro a b c;simp;omega) (by intro a b;simp;omega) l
  exact this.imp (by intro a b h;simpa using h)
 have hn:(l.mergeSort fun x y=>decide (x<=y)).Nodup:=(hs.trans hp).nodup_iff.2 hk.lJ
 exact Lh (Tj hpw hn) hk fun z=>(hs.trans hp).mem_iff
def kC:Int->List Bool->List Int
 |_,[]=>[]
 |n,b::r=>if b then n::kC (n+1) r else kC (n+1) r
def TQ:∀(l:List Bool) (n:Int) (b:Bool),kC n (l++[b])=kC n l++if b then [n+l.length]else []:=by
 intro l
 induction l with
 |nil=>intro n b;cases b<;>simp[kC]
 |cons a r ih=>
  intro n b
  simp only[aia,kC,ih,ahv]
  rw[show n+1+(r.length:Int)=n+((r.length+1:Nat):Int)by omega]
  cases a<;>rfl
def Ip:∀{l:List Bool} {n z:Int},z∈kC n l↔n<=z/\l[(z-n).toNat]?=some true:=by
 intro l
 induction l with
 |nil=>intro n z;simp[kC]
 |cons a r ih=>
  intro n z
  have key:(n+1<=z/\r[(z-(n+1)).toNat]?=some true)↔(n<=z/\z≠n/\(a::r)[(z-n).toNat]?=some true):=by
   by_cases hz:n+1<=z
   ·rw[show (z-n).toNat=(z-(n+1)).toNat+1 by omega,aik]
    constructor
    ·rintro⟨_,h⟩;exact⟨by omega,by omega,h⟩
    ·rintro⟨_,_,h⟩;exact⟨hz,h⟩
   ·constructor
    ·rintro⟨h,_⟩;exact absurd h hz
    ·rintro⟨h1,h2,_⟩;omega
  simp only[kC]
  cases a with
  |true=>
   simp only[ahz,ag9,ih,key]
   constructor
   ·rintro(rfl| ⟨h1,h2,h3⟩)
    ·exact⟨by omega,by simp⟩
    ·exact⟨h1,h3⟩
   ·rintro⟨h1,h2⟩
    by_cases e:z=n
    ·exact .inl e
    ·exact .inr ⟨h1,e,h2⟩
  |false=>
   simp only[agZ,ahN,ih,key]
   constructor
   ·rintro⟨h1,h2,h3⟩;exact⟨h1,h3⟩
   ·rintro⟨h1,h2⟩
    refine⟨h1,fun e=>?_,h2⟩
    subst e;simp at h2
def LA:∀(l:List Bool) (n:Int),ch (kC n l):=by
 intro l
 induction l with
 |nil=>intro n i a b h;simp[kC]at h
 |cons a r ih=>
  intro n
  simp only[kC]
  cases a with
  |true=>exact(ih (n+1)).cons fun b hb=>by have:=(Ip.1 hb).1;omega
  |false=>exact ih (n+1)
def I0 (f:Int->Nat):∀(l:List Int) (a:List Bool) (i:Nat),(l.foldl (fun a c=>a.set (f c) true) a)[i]?=some true↔i<a.length/\(a[i]?=some true\/∃c∈l,f c=i):=by
 intro l
 induction l with
 |nil=>
  intro a i
  simp only[List.foldl_nil]
  constructor
  ·intro h;exact⟨(aha.1 h).1,.inl h⟩
  ·rintro⟨_,h| ⟨c,hc,_⟩⟩
   ·exact h
   ·cases hc
 |cons c r ih=>
  intro a i
  simp only[ajt,ih,List.length_set,aiK,ag9]
  constructor
  ·rintro⟨h1,h2| ⟨c',h2,h3⟩⟩
   ·split at h2
    ·exact⟨h1,.inr ⟨c,.inl rfl,‹_›⟩⟩
    ·exact⟨h1,.inl h2⟩
   ·exact⟨h1,.inr ⟨c',.inr h2,h3⟩⟩
  ·rintro⟨h1,h2| ⟨c',rfl|h2,h3⟩⟩
   ·refine⟨h1,.inl ?_⟩
    split
    ·rename_i e;subst e;simp
     exact h1
    ·exact h2
   ·refine⟨h1,.inl ?_⟩
    rw[ag8 h3];subst h3;rw[ag8 h1]
   ·exact⟨h1,.inr ⟨c',h2,h3⟩⟩
def U9 {n:Nat}{l:List Int}(hr:ch l)(hb:∀c∈l,1<=c/\c<=n):kC 0 (iE n l)=l:=by
 refine Lh (LA _ _) hr fun z=>?_
 rw[Ip,iE,I0]
 simp only[ah8,aim]
 constructor
 ·rintro⟨h1,h2,h3| ⟨c,h3,h4⟩⟩
  ·split at h3<;>simp at h3
  ·have:=hb c h3
   rw[show z=c by omega];exact h3
 ·intro h
  have:=hb z h
  exact⟨by omega,by omega,.inr ⟨z,h,by omega⟩⟩
def U7 {n:Nat}{l:List Int}(hr:ch l)(hb:∀c∈l,1<=c/\c<=n):kC 1 (iD n l)=l:=by
 refine Lh (LA _ _) hr fun z=>?_
 rw[Ip,iD,I0]
 simp only[ah8,aim]
 constructor
 ·rintro⟨h1,h2,h3| ⟨c,h3,h4⟩⟩
  ·split at h3<;>simp at h3
  ·have:=hb c h3
   rw[show z=c by omega];exact h3
 ·intro h
  have:=hb z h
  exact⟨by omega,by omega,.inr ⟨z,h,by omega⟩⟩
def Rf {l:List Bool}{i:Nat}{b:Bool}(h:l[i]?=some b)(n:Int):kC n (l.take (i+1))=kC n (l.take i)++if b then [n+i]else []:=by
 have hi:=(aha.1 h).1
 rw[List.take_add_one,h]
 simp only[Option.toList_some]
 rw[TQ,ahx,aiF (by omega)]
def Nf:∀(l:List Bool) (n:Int),(kC n l).length<=l.length:=by
 intro l
 induction l with
 |nil=>intro n;simp[kC]
 |cons a r ih=>intro n;have:=ih (n+1);cases a<;>simp[kC]<;>omega
structure Wl.OU (x:Wl):Prop where
 par:x.pa.length<16
 GO:x.ma.length=x.pa.length+1
 cut:∀c∈x.cu,1<=c/\c<=x.pa.length
 Pr:ch x.cu
 th:x.th.length<2^30
 Iy:ch (x.th.map En.r)
 w:∀e∈x.th,e.w.ok/\e.w.sz<2^30/\∀v∈e.w.aJ,v.cN=true
abbrev Wl.wo (x:Wl)(f:gX):Wo:=⟨x.pa,iE x.pa.length x.cu,x.an,f,x.la,x.ma⟩
abbrev Wl.ro (x:Wl):Wo:=⟨x.pa,iD x.pa.length x.cu,x.an,[],x.la,x.ma⟩
def Wl.OU.one {x:Wl}(h:x.OU):x.an.one:=by rw[aV.one,Wl.ct];exact h.Iy.lJ
def By {x:Wl}(h:x.an.one){i:Nat}{e:En}(he:x.th[i]?=some e):x.an.get e.r=some e.w:=by
 have hm:(e.r,e.w)∈x.an:=ahp.2 ⟨e,agY he,rfl⟩
 exact(aV.jF h).2 hm
section
def R7 (l:List D)(h:l.length<2^30):PH fQ (wT l) (wX l) 1 qk (fun d=>D.ae d=l):=by
 have hr:aO 8 (0+l.length)=true:=by simp[aO];omega
 refine KZ ?_
 have res:∀l':List D,l'=l->∃d,T.dy (BV.aZ 1 (0+l'.length) true,[(0,aI.ak af l true),(1,aI.ak af ([]++l') true)]) (Ch (wT l) (wX l) d)/\D.ae d=l:=by
  intro l' h
  rw[h,ah2,aiE];exact⟨.r l,.ret,rfl⟩
 simp only[rk,hr,aib,ag3,agZ,ag0,ag1,ahf,aif,aho,ahg]
 refine⟨fun he=>⟨⟨rfl,.r l,?_,rfl⟩,rfl,res l rfl⟩,fun _=>⟨rfl,res l rfl⟩⟩
 have:l=[]:=by simpa using he
 subst this;exact .ret
section
variable {W:WS} {R:RS} {x:Wl} {f:gX} (hi:x.OU)
include hi
def Nn (hW:zC W (x.wo f)):PH ic (zq W) (Wm W) 3 tR (·=x.ax):=by
 have hma:=hi.GO
 have hpa:=hi.par
 have hcu:(iE x.pa.length x.cu).length=x.pa.length+1:=by simp
 have hth:=hi.th
 have loop2:∀(ah:List En) (i:Nat),x.th.drop i=ah->i<=x.th.length->ay pg ic [bu] (.bx 3 (tR (zq W) (Wm W)) (·=x.ax))
  (vR W x.th.length x.th.length x.pa.length x.ma.length (aw (x.th.map En.r)) (aw x.pa) (aw x.ma) x.cu.length (aw x.cu) i i ((x.th.take i).map En.ax)):=by
  intro ah
  induction ah with
  |nil=>
   intro i hd hil
   have hl:=drop_nil hd
   have hil:i=x.th.length:=by omega
   subst hil
   refine G7 ?_
   rw[aif]
   simp only[rk,agV,ahg,ag3,ag0,ag1,ahf,aj4,ahj,agZ,ahk]
   refine⟨rfl,x.ax,?_,rfl⟩
   rw[Wl.aD,hW.la]
   exact .ret
  |cons e ah ih=>
   intro i hd hil
   obtain⟨g1,g2,g3⟩:=aB hd
   obtain⟨w1,w2,w3⟩:=hi.w e (agY g1)
   have hg:=By hi.one g1
   refine G7 ?_
   have hat:D.at (aw (x.th.map En.r)) i= .z e.r:=bn (by rw[ahQ,g1];rfl)
   have hcl:(i:Int)<(x.th.length:Int):=by omega
   have hr:aO 200 (i+1)=true:=by simp[aO];omega
   simp only[rk,hcl,hat,aU g3,hW.th,aV.cS,aV.val hg,hg,Wh.re,D.bV,ag6,agV,g3,ahg,ag3,ag0,ag1,ahf,ahU,ahx,aiF (akJ g3),hr,ahI,bo g3 (by omega)]
   refine⟨_,_,_,rfl,Ef e.w w1 w2 w3,?_⟩
   intro d hd
   subst hd
   have:=ih (i+1) g2 (by omega)
   rw[<-zo (f:=En.ax) g1]at this
   simp only[En.aD]at this
   simp only[Wh.re]
   exact this
 have loop1:∀(ah:List Bool) (i:Nat),(iE x.pa.length x.cu).drop i=ah->i<=x.pa.length+1->ay pg ic [bu] (.bx 3 (tR (zq W) (Wm W)) (·=x.ax))
  (rv W x.pa.length x.ma.length (aw x.pa) (aw x.ma) i (kC 0 ((iE x.pa.length x.cu).take i)).length (aw (kC 0 ((iE x.pa.length x.cu).take i)))):=by
  intro ah
  induction ah with
  |nil=>
   intro i hd hil
   have hl:=drop_nil hd
   refine G6 ?_
   rw[ag5 hl,U9 hi.Pr hi.cut]
   have hn:¬(i:Int)<((iE x.pa.length x.cu).length:Int):=by omega
   simp only[rk,hW.cu,agV,hn,ahj,agZ,ag1,ag3,ahk]
   have c:=Xy hW hi.one (by simpa [Wl.an]using hth)
   refine⟨_,_,rfl,c,?_⟩
   rintro d ⟨l,hp,hd⟩
   rw[Wl.ct]at hp
   rw[M4 hp hi.Iy]at hd
   have:=loop2 x.th 0 rfl (by omega)
   simpa [hd]using this
  |cons b ah ih=>
   intro i hd hil
   obtain⟨g1,g2,g3⟩:=aB hd
   refine G6 ?_
   have hat:D.at ((iE x.pa.length x.cu).map D.b) i= .b b:=bn g1
   have hcl:(i:Int)<((iE x.pa.length x.cu).length:Int):=by omega
   have:=ih (i+1) g2 (by omega)
   rw[Rf g1 0]at this
   have hy:=Nf ((iE x.pa.length x.cu).take i) 0
   rw[ahx]at hy
   have hr:aO 8 ((kC 0 ((iE x.pa.length x.cu).take i)).length+1)=true:=by simp[aO];omega
   simp only[rk,hW.cu,agV,hcl,hat,aU g3,g3,D.bz,ag6,ahg,ag3,ag0,ag1,ahf,hr,ahI,bo g3 (by omega)]
   refine⟨fun hb=>?_,fun hb=>?_⟩
   ·subst hb;simpa using this
   ·subst hb;simpa using this
 refine Y1 ?_
 simp only[rk,D.bE,hW.pa,hW.ma]
 refine⟨_,_,rfl,Kq _ (by simp;omega),?_⟩
 intro d hd
 have c2:=R7 (aw x.ma) (by simp;omega)
 refine⟨_,_,rfl,c2,?_⟩
 intro d2 hd2
 rw[hd,hd2]
 have:=loop1 _ 0 rfl (by omega)
 simpa [kC]using this
end
end
def Yu (l:List Int)(hl:l.length<2^30):PH ie (wW (aw l) (aw l)) (wZ (aw l) (aw l)) 1 sA (fun d=>(d.aa 0).bool=true):=by
 have loop:∀(ah:List Int) (i:Nat) (o:List D),l.drop i=ah->o.length=l.length->(∀j,i<=j->j<l.length->D.at o j=D.at (aw l) j)->
  ay pg ie [ai] (.bx 1 (sA (wW (aw l) (aw l)) (wZ (aw l) (aw l))) (fun d=>(d.aa 0).bool=true)) (nq (aw l) (aw l) true i o):=by
  intro ah
  induction ah with
  |nil=>
   intro i o hd ho hj
   have hil:=drop_nil hd
   refine C3 ?_
   have hn:¬(i:Int)<(l.length:Int):=by omega
   simp only[rk,agV,hn,ahj,agZ,ag1,ag3,ahk]
   exact⟨rfl,.r [.b true,.r o],.ret,rfl⟩
  |cons a ah ih=>
   intro i o hd ho hj
   obtain⟨g1,g2,g3⟩:=aB hd
   refine C3 ?_
   have hcl:(i:Int)<(l.length:Int):=by omega
   have h0:=hj i (aho _) g3
   have hat:D.at (aw l) i= .z a:=bn g1
   rw[hat]at h0
   simp only[rk,agV,hcl,hat,h0,aU g3,ho,g3,D.bV,ag6,ahg,ag3,ag0,ag1,ahf,beq_self_eq_true,bo g3 (by omega)]
   refine ih (i+1) _ g2 (by simpa using ho) fun j h1 h2=>?_
   rw[<-hj j (by omega) h2]
   simp only[D.at,List.getD]
   rw[ain (by omega)]
 refine SL ?_
 simp only[rk,agV,ahZ,agZ,ag1,ag3,ahk]
 exact loop l 0 _ rfl (by simp) fun _ _ _=>rfl
def D8:∀{l:List Int},ch l↔l.Pairwise (·<·):=by
 intro l
 induction l with
 |nil=>exact⟨fun _=> .nil,fun _ i a b h=>by simp at h⟩
 |cons a r ih=>
  rw[aio,<-ih]
  exact⟨fun h=>⟨fun b hb=>h.lt b hb,h.tail⟩,fun h=>h.2.cons h.1⟩
def ZM {o:List Int}{a:Int}{k:Nat}(ho:ch o)(hn:a∉o)(h1:∀b∈o.take k,b<a)(h2:∀b,o[k]?=some b->¬b<a):ch (o.take k++[a]++o.drop k):=by
 rw[D8]at ho ⊢
 have hd:∀b∈o.drop k,a<b:=by
  intro b hb
  have hne:a≠b:=fun e=>hn (e▸List.mem_of_mem_drop hb)
  cases hdk:o.drop k with
  |nil=>rw[hdk]at hb;cases hb
  |cons c r=>
   obtain⟨g1,_,_⟩:=aB hdk
   have hc:=h2 c g1
   have hp:(o.drop k).Pairwise (·<·):=ho.sublist (List.drop_sublist _ _)
   rw[hdk]at hb hp
   rcases ag9.1 hb with rfl|hb
   ·omega
   ·have:=(aio.1 hp).1 b hb;omega
 have ht:(o.take k).Pairwise (·<·):=ho.sublist (List.take_sublist _ _)
 have hdp:(o.drop k).Pairwise (·<·):=ho.sublist (List.drop_sublist _ _)
 rw[ako,ako]
 refine⟨⟨ht,List.pairwise_singleton _ _,fun x hx y hy=>?_⟩,hdp,fun x hx y hy=>?_⟩
 ·rw[ahb]at hy;subst hy;exact h1 x hx
 ·rcases ahd.1 hx with hx|hx
  ·have:=h1 x hx;have:=hd y hy;omega
  ·rw[ahb]at hx;subst hx;exact hd y hy
def xc (l r:List Int):Prop:=ch r/\∀z,z∈r↔z∈l
def MD (l:List D)(k:Nat):kg l 0 k=l.take k:=by rw[JQ];rfl
def MC (l:List D)(k:Nat):kg l k l.length=l.drop k:=by rw[JQ,aif]
noncomputable abbrev adh (l:List Int):mR:= .bx 0 (iV (qM (aw l)) []) (fun d=>∃r,D.ae d=aw r/\xc l r)
def Bs (l:List Int)(hl:l.length<2^30):PH cv (qM (aw l)) [] 0 iV (fun d=>∃r,D.ae d=aw r/\xc l r):=by
 have inner:∀(a:Int) (i:Nat) (o:List Int),l[i]?=some a->i<l.length->ch o->a∉o->o.length<2^30->
  (∀r,xc (a::o) r->ay pg cv [aW] (adh l) (iR (aw l) ((i+1:Nat):Int) r.length (aw r)))->
  ∀(ah:List Int) (k:Nat),o.drop k=ah->k<=o.length->(∀b∈o.take k,b<a)->ay pg cv [aW] (adh l) (kX (aw l) i (aw o) k):=by
  intro a i o ha hi ho hn hol done ah
  have hat:D.at (aw l) i= .z a:=bn ha
  have bj:∀k,k<=o.length->(∀b∈o.take k,b<a)->(∀b,o[k]?=some b->¬b<a)->xc (a::o) (o.take k++[a]++o.drop k):=fun k hk h1 h2=>
   ⟨ZM ho hn h1 h2,fun z=>by
     conv=>rhs;rw[ag9,<-aii k o,ahd]
     simp only[ahd,ahb]
     constructor
     ·rintro((h|h)|h)
      ·exact .inr (.inl h)
      ·exact .inl h
      ·exact .inr (.inr h)
     ·rintro(h|h|h)
      ·exact .inl (.inr h)
      ·exact .inl (.inl h)
      ·exact .inr h⟩
  have Yw:∀k,k<=o.length->(kg (aw o) 0 k).length=k/\(kg (aw o) k o.length).length=o.length-k:=fun k hk=>by
   have:=MC (aw o) k
   rw[agV]at this
   rw[this,MD];simp;omega
  have bw:∀k,aw (o.take k++[a]++o.drop k)=kg (aw o) 0 k++[D.z a]++kg (aw o) k o.length:=fun k=>by
   have:=MC (aw o) k
   rw[agV]at this
   rw[this,MD];simp[List.map_take,List.map_drop]
  induction ah with
  |nil=>
   intro k hd hk h1
   have hk2:=drop_nil hd
   refine xE ?_
   have hcl:¬(k:Int)<(o.length:Int):=by omega
   obtain⟨e1,e2⟩:=Yw k hk
   have r1:aO 8 k=true:=by simp[aO];omega
   have r2:aO 8 (k+1)=true:=by simp[aO];omega
   have r3:aO 8 (k+1+(o.length-k))=true:=by simp[aO];omega
   have hle:(0:Int)<=(k:Int):=by omega
   have:=done _ (bj k hk h1 fun b hb=>by rw[ahS (by omega)]at hb;cases hb)
   rw[bw]at this
   have hfl:(o.take k++[a]++o.drop k).length=k+1+(o.length-k):=by simp;omega
   rw[hfl]at this
   simp only[rk,agV,hcl,hle,hk,hat,aU hi,e1,e2,r1,r2,r3,D.bE,D.bV,ag6,ahg,ahj,ag3,ag0,agZ,ag1,ahf,ahk,ahI,ai3,aho,ahc,ah9,bo hi (by omega)]
   exact this
  |cons b ah ih=>
   intro k hd hk h1
   obtain⟨g1,g2,g3⟩:=aB hd
   refine xE ?_
   have hcl:(k:Int)<(o.length:Int):=by omega
   have hatk:D.at (aw o) k= .z b:=bn g1
   obtain⟨e1,e2⟩:=Yw k hk
   have r1:aO 8 k=true:=by simp[aO];omega
   have r2:aO 8 (k+1)=true:=by simp[aO];omega
   have r3:aO 8 (k+1+(o.length-k))=true:=by simp[aO];omega
   have hle:(0:Int)<=(k:Int):=by omega
   simp only[rk,agV,hcl,hle,hk,hat,hatk,aU hi,aU g3,e1,e2,r1,r2,r3,D.bE,D.bV,ag6,ahg,ag3,ag0,agZ,ag1,ahf,ahk,ahI,ai3,aho,ahc,ah9,bo hi (by omega),bo g3 (by omega)]
   refine⟨fun hlt=>?_,fun hlt=>?_⟩
   ·refine ih (k+1) g2 (by omega) fun c hc=>?_
    rw[aQ g1]at hc
    rcases ahd.1 hc with hc|hc
    ·exact h1 c hc
    ·rw[ahb]at hc;subst hc;simpa using hlt
   ·have:=done _ (bj k hk h1 fun c hc=>by rw[g1]at hc;cases hc;simpa using hlt)
    rw[bw]at this
    have hfl:(o.take k++[a]++o.drop k).length=k+1+(o.length-k):=by simp;omega
    rw[hfl]at this
    exact this
 have outer:∀(ah:List Int) (i:Nat) (o:List Int),l.drop i=ah->xc (l.take i) o->o.length<=i->ay pg cv [aW] (adh l) (iR (aw l) i o.length (aw o)):=by
  intro ah
  induction ah with
  |nil=>
   intro i o hd ho hol
   have hil:=drop_nil hd
   rw[ag5 hil]at ho
   refine BN ?_
   have hn:¬(i:Int)<(l.length:Int):=by omega
   simp only[rk,D.bE,agV,hn,ahj,agZ,ag1,ag3,ahk]
   exact⟨rfl,.r (aw o),by rw[<-agV (f:=D.z)];exact .ret,o,rfl,ho⟩
  |cons a ah ih=>
   intro i o hd ho hol
   obtain⟨g1,g2,g3⟩:=aB hd
   refine BN ?_
   have hcl:(i:Int)<(l.length:Int):=by omega
   have hat:D.at (aw l) i= .z a:=bn g1
   simp only[rk,D.bE,agV,hcl,hat,aU g3,D.bV,ag6,ahg,ag3,ag0,ag1,ahf,bo g3 (by omega)]
   refine⟨_,_,_,rfl,Te o a (by omega),?_⟩
   intro d hd
   subst hd
   simp only[D.bz,agW,agX]
   have mem:∀z,z∈l.take (i+1)↔z∈l.take i\/z=a:=fun z=>by rw[aQ g1];simp
   refine⟨fun ha=>?_,fun ha=>?_⟩
   ·exact ih (i+1) o g2 ⟨ho.1,fun z=>by rw[mem,ho.2];exact⟨.inl,fun h=>by rcases h with h|rfl;exact h;exact(ho.2 z).1 ha⟩⟩ (by omega)
   ·refine inner a i o g1 g3 ho.1 ha (by omega) (fun r hr=>?_) o 0 rfl (by omega) (by simp)
    refine ih (i+1) r g2 ⟨hr.1,fun z=>by rw[mem,hr.2,ag9,ho.2];exact or_comm⟩ ?_
    have hp:(a::o).Nodup:=ahO.2 ⟨ha,ho.1.lJ⟩
    have:=hG hr.1.lJ (ks:=a::o) fun q hq=>(hr.2 q).1 hq
    simp at this;omega
 refine Om ?_
 exact outer l 0 [] rfl ⟨fun i a b h=>by simp at h,fun z=>by simp⟩ (by simp)
end Go.Proofs
namespace Go.Proofs
open Go Go.PB Go.ChangeShapes Go.WideShapes Go.ChangeAt Go.RowKit Go.Op
def ld (c:UInt8):Bool:=decide (97<=c.toNat)&&decide (c.toNat<=122)
def sN (c:UInt8):Bool:=decide (48<=c.toNat)&&decide (c.toNat<=57)
def bR (s:List UInt8):Bool:=decide (0<s.length)&&decide (s.length<=32)&&ld (s.getD 0 0)&&s.all fun c=>ld c||sN c
def RV (w:World)(e:TypeId)(s:ByteArray):Eh w (Go.Lib.bytesWorld w e s):=by
 refine⟨by rw[Go.Lib.bytesWorld_size];omega,fun c hc=>Go.Lib.bytesWorld_at_old w e s c hc,?_,?_,?_⟩<;>rfl
def RW (s:ByteArray):∀(n i:Nat) (r:List UInt8),s.size-i=n->r.length<=(ByteArray.toList.loop s i r).length:=by
 intro n
 induction n with
 |zero=>
  intro i r h
  unfold ByteArray.toList.loop
  rw[ag4 (by omega)];simp
 |succ n ih=>
  intro i r h
  unfold ByteArray.toList.loop
  rw[ag8 (by omega)]
  have:=ih (i+1) (s.get! i::r) (by omega)
  simp only[ahv]at this;omega
def Mw {s:ByteArray}(h:s.toList=[]):s.size=0:=by
 rcases ajw s.size with h0|h0
 ·exact h0
 ·have h1:s.toList=ByteArray.toList.loop s 1 [s.get! 0]:=by
   show ByteArray.toList.loop s 0 []=_
   rw[ByteArray.toList.loop,ag8 h0]
  have:=RW s (s.size-1) 1 [s.get! 0] rfl
  rw[<-h1,h]at this
  simp at this
def IQ {s:ByteArray}(h:s.size=0):s=ByteArray.empty:=akv (ajG h)
set_option maxRecDepth 20000
def PN (s:ByteArray)(w:World)(hs:s.size<=maxLen):
 Calls pg 184 #[.string s] w fun e w'=>e= .returned (.bool (bR s.data.toList))/\Eh w w':=by
 unfold maxLen at hs
 have hsz:s.data.toList.length=s.size:=rfl
 have h0:∀h:0<s.size,s.data.toList.getD 0 0=s[0]:=fun h=>by
  simp only[List.getD,ahW]
  rw[ahF h];rfl
 go_enter Tryz.func184,Tryz.ntmps184
 go_wp2
 ·rename_i h
  go_ret
  refine⟨?_,Eh.refl w⟩
  have h:s=ByteArray.empty:=IQ (Mw h)
  subst h
  rfl
 ·rename_i h1 h2 h3 h4
  go_ret
  refine⟨?_,Eh.refl w⟩
  have:¬(s[0].toNat<=122):=by
   rcases h4 with ((h4|h4)|h4)|h4
   ·have:=Mw (aj7.1 h4);omega
   ·omega
   ·omega
   ·omega
  have e:bR s.data.toList=false:=by unfold bR;rw[h0 h2];simp[ld,this]
  rw[e];rfl
 ·rw[Go.Lib.run_convert_string_bytes w 9 229 5 s (u:= .string) (by kernel_rfl) (by kernel_rfl) (by kernel_rfl)]
  have hk:=RV w 5 s
  have hcell:∀j,j<s.size->(Go.Lib.bytesWorld w 5 s).cell? ⟨w.heap.size,j,none⟩=some (.int .u8 (s.data.toList.getD j 0).toNat):=fun j hj=>Go.Lib.bytesWorld_cell w 5 s j hj
  generalize Go.Lib.bytesWorld w 5 s=w1 at hk hcell ⊢
  go_wp2
  go_loop [25] (fun i=>∃k:Nat,k<=s.size/\i= .int .i64 k/\(s.data.toList.take k).all (fun c=>ld c||sN c)=true) (fun i=>s.size-(intOf i).toNat)
  case atStart=>exact⟨0,ai3 _,rfl,rfl⟩
  case round=>
   obtain⟨k,hk1,rfl,hall⟩:=hrel
   by_cases hlt:k<s.size
   ·have hc:=hcell k hlt
    have hat:s.data.toList.getD k 0=s.data[k]:=by
     simp only[List.getD,ahW]
     rw[ahF hlt];rfl
    have htk:s.data.toList.take (k+1)=s.data.toList.take k++[s.data[k]]:=by
     rw[aiS (by simpa using hlt)];rfl
    have hmem:s.data[k]∈s.data.toList:=by simp
    have go:(ld s.data[k]||sN s.data[k])=true->(∃k_1,k_1<=s.size/\Value.int IntKind.i64 ((k:Int)+1)=Value.int IntKind.i64 ((k_1:Nat):Int)/\((s.data.toList.take k_1).all fun c=>ld c||sN c)=true)/\
     s.size-(intOf (Value.int IntKind.i64 ((k:Int)+1))).toNat<s.size-(intOf (Value.int IntKind.i64 (k:Int))).toNat:=fun h=>by
     refine⟨⟨k+1,by omega,rfl,?_⟩,by simp[intOf];omega⟩
     rw[htk,aiL,hall];simpa using h
    have bad:(ld s.data[k]||sN s.data[k])=false->bR s.data.toList=false:=fun h=>by
     have:(s.data.toList.all fun c=>ld c||sN c)=false:=by
      rw[ajb];exact⟨_,hmem,by simp[h]⟩
     unfold bR;rw[this];simp
    simp only[ld,sN,aiB,ag2,agW]at go
    simp only[ld,sN,ajK,ai9,agX]at bad
    go_wp2
    all_goals first
     |exact go (by omega)
     | (go_ret;refine⟨?_,hk⟩;rw[bad (by omega)];rfl)
   ·have hkk:k=s.size:=by omega
    have e:bR s.data.toList=true:=by
     rw[hkk,ag5 (by rw[hsz];exact aho _)]at hall
     have q3:0<s.size:=by assumption
     unfold bR
     rw[hall,h0 q3]
     simp[ld,hsz];omega
    go_wp2
    go_ret
    exact⟨by first|rfl| (rw[e];rfl),hk⟩
 ·rename_i h1 h2 h3 h4
  go_ret
  refine⟨?_,Eh.refl w⟩
  have:¬97<=s[0].toNat:=by omega
  have e:bR s.data.toList=false:=by unfold bR;rw[h0 h3];simp[ld,this]
  rw[e];rfl
 ·rename_i K h1 h2 h3
  have h4:s=ByteArray.empty:=IQ (by omega)
  subst h4
  have h5:ByteArray.empty.toList=[]:=by
   unfold ByteArray.toList ByteArray.toList.loop
   rw[ag4 (by decide)];rfl
  exact absurd h5 (by assumption)
 ·rename_i h1 h2
  go_ret
  refine⟨?_,Eh.refl w⟩
  have h3:¬s.size<=32:=by omega
  have e:bR s.data.toList=false:=by unfold bR;rw[hsz];simp[h3]
  rw[e];rfl
def iT (s:List UInt8)(hs:s.length<=maxLen):fk pg bH [bX] [.s s] [ai] (·= .b (bR s)):=by
 intro fz w as' hfz ha
 have e1:xO pg [bX] [.s s]=[.b8 s]:=by kernel_rfl
 have e2:∀b,Hp pg [ai] (.b b)= .bool b:=fun b=>by kernel_rfl
 rw[e1]at ha
 obtain⟨v,h1,h2⟩:=aq.one ha
 simp only[ao]at h2
 subst h2
 obtain⟨l⟩:=as'
 have h1:l=[.string ⟨s.toArray⟩]:=h1
 subst h1
 refine(PN ⟨s.toArray⟩ w (show s.toArray.size<=maxLen by simpa using hs)).mono ?_
 rintro ed w' ⟨rfl,hk⟩
 exact⟨_,fz,_,rfl,hk,fun _ h=>h,fun c h=>ahC (hfz c h) hk.size,fun c h _=>h,by rw[e2];simp[ao],rfl⟩
end Go.Proofs
namespace Go.Proofs
open Go Go.PB
def yQ (s:List UInt8)(hs:s.length<2^63):fk pg cL [bX] [.s s] [ai] (·= .b (bR s)):=by
 have loop:∀(ah:List UInt8) (i:Nat),s.drop i=ah->(0<i->ld (s.getD 0 0)=true)->((s.take i).all (fun c=>ld c||sN c))=true->
  ay pg cL [ai] (.dQ (·= .b (bR s))) (jX (.s s) i):=by
  intro ah
  induction ah with
  |nil=>
   intro i hd h0 hall
   have hi:=drop_nil hd
   rw[ag5 hi]at hall
   refine Ak ?_
   simp only[rk,D.Lq,agW,agX]
   refine⟨fun h=>by omega,fun _=>⟨fun h=>?_,fun h=>?_⟩⟩
   ·have hl:0<s.length:=by omega
    have e0:ld (s.getD 0 0)=true:=h0 (by omega)
    unfold bR
    rw[hall,e0]
    simp[hl];omega
   ·have hl:¬0<s.length:=by omega
    unfold bR
    simp[hl]
  |cons c ah ih=>
   intro i hd h0 hall
   obtain⟨g1,g2,g3⟩:=aB hd
   have hat:s.getD i 0=c:=by simp[List.getD,g1]
   have hmem:=agY g1
   have no:ld c=false->(sN c=false\/i=0)->D.b false=D.b (bR s):=fun h1 h2=>by
    rcases h2 with h2|h2
    ·have:s.all (fun c=>ld c||sN c)=false:=by rw[ajb];exact⟨c,hmem,by simp[h1,h2]⟩
     unfold bR;rw[this];simp
    ·subst h2
     unfold bR;rw[hat,h1];simp
   have nx:(ld c=true\/sN c=true/\i≠0)->ay pg cL [ai] (.dQ (·= .b (bR s))) (jX (.s s) (IntKind.i64.wrap ((i:Int)+1))):=fun h=>by
    rw[bo g3 (by omega)]
    refine ih (i+1) g2 (fun _=>?_) ?_
    ·by_cases hi:i=0
     ·subst hi;rw[hat];rcases h with h|h
      ·exact h
      ·exact absurd rfl h.2
     ·exact h0 (by omega)
    ·rw[aQ g1,aiL,hall]
     rcases h with h|h
     ·simp[h]
     ·simp[h.1]
   have hc:=c.toNat_lt
   simp only[ld,sN,ag2,agW,ai9,agX]at no nx
   refine Ak ?_
   simp only[rk,D.Lq,ag6,hat,aU g3,ahl,ahq,agW,agX,aht,ahe]
   refine⟨fun _=>⟨fun _=>⟨fun a1=>⟨fun a2=>⟨fun a3=>⟨fun a4=>no (by omega) (by omega),fun a4=>⟨fun a5=>no (by omega) (by omega),fun a5=>nx (by omega)⟩⟩,fun a3=>nx (by omega)⟩,fun a2=>by omega⟩,fun a1=>⟨fun a2=>⟨fun a3=>no (by omega) (by omega),fun a3=>⟨fun a5=>no (by omega) (by omega),fun a5=>nx (by omega)⟩⟩,fun a2=>no (by omega) (by omega)⟩⟩,fun h=>by simp at h⟩,fun h=>by omega⟩
 exact LP (loop s 0 rfl (by omega) rfl)
namespace Ex
def iw (v:Ex):Bool:=
 if v.k=1 then v.s==[]&&v.l.length==0
 else if v.k=2 then v.n==0&&decide (v.s.length<=256)&&v.l.length==0
 else if v.k=3 then v.n==0&&v.s==[]
 else if v.k=4 then v.n==0&&bR v.s&&v.l.length==0
 else false
mutual
def jg:Ex->Bool
 | .mk k n s l=>fC l&&iw (.mk k n s l)
def fC:List Ex->Bool
 | []=>true
 |v::r=>jg v&&fC r
end
mutual
def mD:Ex->Nat
 | .mk k _ _ l=>if k=3 then gf l+1 else 0
def gf:List Ex->Nat
 | []=>0
 |v::r=>max (mD v) (gf r)
end
def CK (v:Ex):v.jg=(fC v.l&&v.iw):=by cases v;rfl
def ME (v:Ex):v.mD=if v.k=3 then gf v.l+1 else 0:=by cases v;rfl
mutual
def IW:∀v:Ex,v.mD<=v.size
 | .mk k n s l=>by have:=Gw l;simp only[mD,size];split<;>omega
def Gw:∀l:List Ex,gf l<=bB l
 | []=>by simp[gf]
 |v::r=>by have:=IW v;have:=Gw r;simp only[gf,bB];omega
end
def A8 {v:Ex}(h:v.iw=true)(hk:v.k≠3):v.l=[]:=by
 unfold iw at h
 by_cases h1:v.k=1
 ·rw[ag8 h1]at h;simp at h;exact h.2
 ·rw[ag4 h1]at h
  by_cases h2:v.k=2
  ·rw[ag8 h2]at h;simp at h;exact h.2
  ·rw[ag4 h2,ag4 hk]at h
   by_cases h4:v.k=4
   ·rw[ag8 h4]at h;simp at h;exact h.2
   ·rw[ag4 h4]at h;cases h
mutual
def MM:∀v:Ex,v.jg=true->v.ht<=v.mD
 | .mk k n s l,h=>by
   simp only[jg,ag2]at h
   have:=KJ l h.1
   simp only[ht,mD]
   by_cases hk:k=3
   ·rw[ag8 hk];exact this
   ·rw[ag4 hk]
    have hl:l=[]:=A8 h.2 hk
    rw[hl];simp[AA]
def KJ:∀l:List Ex,fC l=true->AA l<=gf l+1
 | [],_=>by simp[AA]
 |v::r,h=>by
  simp only[fC,ag2]at h
  have:=MM v h.1;have:=KJ r h.2;simp only[AA,gf];omega
end
def cN (v:Ex):Bool:=decide (v.size<=512)&&decide (v.mD<=16)&&v.jg
end Ex
def Ww (v:Ex):∀k:Int,0<=k->k<=17->v.ok->v.size<2^40->fk pg gP [aG,af] [v.ax,.z k] [af] (fun d=>d= .z (D.int d)/\vg v.size v.ht k (D.int d)):=by
 induction v using Ex.GM with|h v ih=>
 intro k h0 h1 hv hs
 have hse:=v.eo
 have loop:∀(ah:List Ex) (i:Nat) (n:Int),k<=16->v.l.drop i=ah->1<=n->n+513*Ex.bB ah<=513*v.size->(n+Ex.bB ah=v.size/\n<=512/\k+v.ht<=16/\v.size<=512\/¬(k+v.ht<=16/\v.size<=512)/\(n<=512->n+Ex.bB ah>512\/k+Ex.AA ah>16))->
  ay pg gP [af] (.dQ (fun d=>d= .z (D.int d)/\vg v.size v.ht k (D.int d))) (pO v.ax (.z k) n i):=by
  intro ah
  induction ah with
  |nil=>
   intro i n hk hd h1 h2 h3
   have:=drop_nil hd
   refine BK ?_
   simp only[Ex.bB,Ex.AA]at h2 h3
   simp[this,vg];omega
  |cons x ah ihr=>
   intro i n hk hd hn1 hn2 hn3
   obtain⟨h1,h2,h3⟩:=aB hd
   have hx:=agY h1
   have hsx:=Ex.eb hx
   have hhx:=Ex.Sn hx
   have hhv:=v.Us
   refine BK ?_
   simp only[Ex.bB,Ex.AA]at hn2 hn3
   simp[-exists_and_left,h3,aU,bn h1,bo h3 hv.len]
   refine⟨fun hn=>?_,fun hn=>by simp only[vg];omega⟩
   rw[bO (by omega) (by omega)]
   refine⟨_,_,_,rfl,ih x hx (k+1) (by omega) (by omega) (hv.mem hx) (by omega),?_⟩
   rintro d ⟨_,hq⟩
   obtain⟨q1,q2,q3,q4⟩:=hq
   rw[bO (by omega) (by omega)]
   refine ihr _ _ hk h2 (by omega) (by omega) ?_
   rw[show ((max (x.ht+1) (Ex.AA ah):Nat):Int)=max ((x.ht:Int)+1) (Ex.AA ah)by omega]at hn3
   omega
 refine Qk ?_
 simp
 refine⟨fun h=>by simp only[vg];have:=v.eo;omega,fun h=>loop v.l 0 1 h rfl (by omega) (by omega) ?_⟩
 have:=v.Us
 omega
def Zy (v:Ex):v.ok->v.size<2^40->fk pg jz [aG] [v.ax] [af] (·= .z v.mD):=by
 induction v using Ex.GM with|h v ih=>
 intro hv hs
 have hse:=v.eo
 have loop:∀(ah:List Ex) (i:Nat) (n:Int),v.l.drop i=ah->0<=n->n<2^40->ay pg jz [af] (.dQ (·= .z (max n (Ex.gf ah)+1))) (rC v.ax n i):=by
  intro ah
  induction ah with
  |nil=>
   intro i n hd hn0 hn
   have:=drop_nil hd
   refine C6 ?_
   simp[this,Ex.gf,ake hn0]
   exact⟨by omega,bO (by omega) (by omega)⟩
  |cons x ah ihr=>
   intro i n hd hn0 hn
   obtain⟨h1,h2,h3⟩:=aB hd
   have hx:=agY h1
   have hsx:=Ex.eb hx
   have hdx:=x.IW
   refine C6 ?_
   simp[-exists_and_left,-gt_iff_lt,h3,aU,bn h1,bo h3 hv.len]
   refine⟨_,_,_,rfl,ih x hx (hv.mem hx) (by omega),?_⟩
   rintro d hd
   rw[N2]
   subst hd
   have e:=ihr (i+1) (max n x.mD) h2 (by omega) (by omega)
   rw[show max (max n (x.mD:Int)) (Ex.gf ah)=max n (Ex.gf (x::ah))by rw[show Ex.gf (x::ah)=max x.mD (Ex.gf ah)from rfl];omega]at e
   exact e
 have e:=loop v.l 0 0 rfl (by omega) (by omega)
 rw[show max (0:Int) (Ex.gf v.l)+1=((Ex.gf v.l+1:Nat):Int)by omega]at e
 refine SO ?_
 rw[v.ME]
 simp
 exact⟨fun h=>by rw[ag4 h];rfl,fun h=>by rw[ag8 h];exact e⟩
def Tc (v:Ex):v.ok->fk pg fG [aG] [v.ax] [ai] (·= .b v.jg):=by
 induction v using Ex.GM with|h v ih=>
 intro hv
 have hf:=v.CK
 have hsl:v.s.length<2^63:=by have:=(Ex.gL v).1 hv;omega
 have loop:∀(ah:List Ex) (i:Nat),v.l.drop i=ah->(Ex.fC ah=Ex.fC v.l)->ay pg fG [ai] (.dQ (·= .b v.jg)) (pN v.ax i):=by
  intro ah
  induction ah with
  |nil=>
   intro i hd hq
   have:=drop_nil hd
   refine BJ ?_
   simp only[rk,Ex.cU,Ex.lu,Ex.BD,Ex.vA,agV,agW,agX,aht,ahe,aic]
   have hff:v.jg=v.iw:=by rw[hf,<-hq];simp[Ex.fC]
   rw[hff]
   have lz:(((v.l.length:Nat):Int)==0)=(v.l.length==0):=by rw[ahu];simp
   unfold Ex.iw
   refine⟨fun h=>by omega,fun _=>⟨fun k1=>⟨fun a=>?_,fun a=>?_⟩,fun k1=>⟨fun k2=>⟨fun a=>⟨fun b=>?_,fun b=>?_⟩,fun a=>?_⟩,fun k2=>⟨fun k3=>⟨fun a=>?_,fun a=>?_⟩,fun k3=>⟨fun k4=>⟨fun a=>⟨_,_,_,rfl,yQ v.s ?_,?_⟩,fun a=>?_⟩,fun k4=>?_⟩⟩⟩⟩⟩
   ·simp[k1,a,lz]
   ·simp[k1,a]
   ·have b:v.s.length<=256:=by omega
    simp[k2,a,b,lz]
   ·have b:¬v.s.length<=256:=by omega
    simp[k2,a,b]
   ·simp[k2,a]
   ·simp[k3,a]
   ·simp[k3,a]
   ·exact hsl
   ·rintro _ rfl
    simp only[D.bz]
    exact⟨fun b=>by simp[k4,a,b,lz],fun b=>by simp[k4,a,b]⟩
   ·simp[k4,a]
   ·simp[k1,k2,k3,k4]
  |cons x ah ihr=>
   intro i hd hq
   obtain⟨h1,h2,h3⟩:=aB hd
   have hx:=agY h1
   refine BJ ?_
   simp[-exists_and_left,h3,aU,bn h1,bo h3 hv.len]
   refine⟨_,_,_,rfl,ih x hx (hv.mem hx),?_⟩
   rintro _ rfl
   simp only[D.bz]
   refine⟨fun h=>?_,fun h=>?_⟩
   ·rw[hf,<-hq];simp[Ex.fC,h]
   ·refine ihr _ h2 ?_
    rw[<-hq];simp[Ex.fC,h]
 exact Ol (loop v.l 0 rfl rfl)
def QF (v:Ex)(hv:v.ok)(hs:v.size<2^40):fk pg ey [aG] [v.ax] [ai] (·= .b v.cN):=by
 refine LO ?_
 simp only[rk,Ex.re,agW,agX]
 refine⟨_,_,_,rfl,Ww v 0 (by omega) (by omega) hv hs,?_⟩
 rintro d ⟨_,hq⟩
 simp only[vg]at hq
 obtain⟨q1,q2,q3,q4⟩:=hq
 refine⟨fun h=>⟨_,_,_,rfl,Zy v hv hs,?_⟩,fun h=>?_⟩
 ·rintro _ rfl
  simp only[D.bV]
  have hsz:v.size<=512:=by omega
  refine⟨fun h2=>⟨_,_,_,rfl,Tc v hv,?_⟩,fun h2=>?_⟩
  ·rintro _ rfl
   have h2:v.mD<=16:=by omega
   simp[Ex.cN,hsz,h2]
  ·have h2:¬v.mD<=16:=by omega
   simp[Ex.cN,h2]
 ·cases hf:v.jg with
  |false=>simp[Ex.cN,hf]
  |true=>
   have:=v.MM hf
   have h3:¬(v.size<=512/\v.mD<=16):=by omega
   have:(decide (v.size<=512)&&decide (v.mD<=16))=false:=by simpa using h3
   simp[Ex.cN,this]
def MY (l:List Ei)(hl:l.length<2^62):fk pg dY [gD] [.r (Dm l)] [ai] (·= .b (!decide l.Nodup)):=by
 have hnd:l.Nodup↔∀i j (hi:i<l.length) (hj:j<l.length),i<j->l[i]≠l[j]:=by rw[List.Nodup,aj0]
 have hat:∀i (h:i<l.length),D.at (Dm l) i= .s l[i]:=fun i h=>bn (f:=D.s) (ag7 h)
 have outer:∀(m i:Nat),m+i=l.length->(∀a b (ha:a<l.length) (hb:b<l.length),a<b->b<i->l[a]≠l[b])->ay pg dY [ai] (.dQ (·= .b (!decide l.Nodup))) (rB (.r (Dm l)) i):=by
  intro m
  induction m with
  |zero=>
   intro i hm hp
   refine C5 ?_
   simp only[rk,D.bE,agV,agW,agX]
   refine⟨fun h=>by omega,fun _=>?_⟩
   have:l.Nodup:=hnd.2 fun a b ha hb hab=>hp a b ha hb hab (by omega)
   simp[this]
  |succ m ih=>
   intro i hm hp
   have hi:i<l.length:=by omega
   have inner:∀(q k:Nat),q+k=i->(∀a (ha:a<l.length),a<k->l[a]≠l[i])->ay pg dY [ai] (.dQ (·= .b (!decide l.Nodup))) (od (.r (Dm l)) i k):=by
    intro q
    induction q with
    |zero=>
     intro k hq hk
     refine Al ?_
     simp only[rk,agW,agX]
     refine⟨fun h=>by omega,fun _=>?_⟩
     rw[bo hi (by omega)]
     refine ih (i+1) (by omega) fun a b ha hb hab hbi=>?_
     by_cases e:b=i
     ·subst e;exact hk a ha (by omega)
     ·exact hp a b ha hb hab (by omega)
    |succ q ihq=>
     intro k hq hk
     have hkl:k<l.length:=by omega
     refine Al ?_
     simp only[rk,D.bE,agV,agW,agX,ag6,aU hi,aU hkl,hat i hi,hat k hkl,D.Lq,aht,ahe]
     refine⟨fun _=>⟨fun _=>⟨fun _=>⟨fun h=>?_,fun h=>?_⟩,fun h=>by simp at h⟩,fun h=>by simp at h⟩,fun h=>by omega⟩
     ·have:¬l.Nodup:=fun n=>hnd.1 n k i hkl hi (by omega) h.symm
      simp[this]
     ·rw[bo hkl (by omega)]
      refine ihq (k+1) (by omega) fun a ha hak=>?_
      by_cases e:a=k
      ·subst e;exact fun e2=>h e2.symm
      ·exact hk a ha (by omega)
   refine C5 ?_
   simp only[rk,D.bE,agV,agW,agX]
   exact⟨fun _=>inner i 0 (by omega) (by intro a ha h;omega),fun h=>by omega⟩
 exact Qj (outer l.length 0 (by omega) (by intro a b ha hb h1 h2;omega))
def dk (l:List ga):Bool:=decide (l.length<=64)&&l.all (fun n=>bR n.nm&&n.v.cN)&&decide (l.map ga.nm).Nodup
def OB (l:List ga)(hl:l.length<2^62)(hok:∀n∈l,n.ok):fk pg fS [ke] [.r (l.map ga.ax)] [ai] (·= .b (dk l)):=by
 have loop:∀(ah:List ga) (i:Nat),l.length<=64->i<=l.length->l.drop i=ah->((l.take i).all (fun n=>bR n.nm&&n.v.cN))=true->
  ay pg fS [ai] (.dQ (·= .b (dk l))) (kW (.r (l.map ga.ax)) i i (Dm ((l.take i).map ga.nm))):=by
  intro ah
  induction ah with
  |nil=>
   intro i h64 hile hd hall
   have hi:=drop_nil hd
   have hil:i=l.length:=by omega
   rw[ag5 hi]at hall ⊢
   subst hil
   refine xD ?_
   simp only[rk,D.bE,agV,agW,agX]
   refine⟨fun h=>by omega,fun _=>⟨fun _=>⟨_,_,_,rfl,MY (l.map ga.nm) (by simpa using hl),?_⟩,fun h=>absurd trivial h⟩⟩
   rintro _ rfl
   simp[dk,h64,hall]
  |cons n ah ih=>
   intro i h64 hile hd hall
   obtain⟨g1,g2,g3⟩:=aB hd
   have hmem:=agY g1
   obtain⟨ho1,ho2⟩:=hok n hmem
   have no:(bR n.nm&&n.v.cN)=false->D.b false=D.b (dk l):=fun h=>by
    have:l.all (fun n=>bR n.nm&&n.v.cN)=false:=by rw[ajb];exact⟨n,hmem,by rw[h];simp⟩
    simp only[dk,this];simp
   refine xD ?_
   simp only[rk,D.bE,agV,agW,agX,ag6,bn g1,ga.xj,ga.mI,lK,aU g3]
   refine⟨fun _=>⟨fun _=>⟨_,_,_,rfl,yQ n.nm ho1,?_⟩,fun h=>by simp at h⟩,fun h=>by omega⟩
   rintro _ rfl
   simp only[D.bz,ahl,ahq]
   refine⟨fun h=>no (by simp[h]),fun h1=>⟨_,_,_,rfl,Iv n.v ho2,?_⟩⟩
   rintro _ rfl
   simp only[D.bz,ahl,ahq]
   refine⟨fun h=>no (by simp[h]),fun h2=>⟨fun _=>?_,fun h=>?_⟩⟩
   ·rw[bo g3 (by omega)]
    have e:=ih (i+1) h64 (by omega) g2 (by rw[aQ g1,aiL,hall];simp[h1,h2])
    rw[aQ g1]at e
    simpa using e
   ·simp[aO]at h;omega
 refine K1 ?_
 simp only[rk,D.bE,agV,agW,agX]
 refine⟨fun h=>?_,fun h=>loop l 0 (by omega) (by omega) rfl rfl⟩
 have:¬l.length<=64:=by omega
 simp[dk,this]
def ZB (v:aE):v.ok->v.size<2^30->v.eK=true->fk pg jA [av] [v.ax] [aW] (·= .r (aw v.dt)):=by
 induction v using aE.GM with|h v ih=>
 intro hv hs hf
 have hse:=v.eo
 have hre:=v.OF
 have hrl:=aE.Av v
 have loop:∀(ah:List aE) (i:Nat) (o:List Int),v.l.drop i=ah->o++aE.bD ah=v.dt->ay pg jA [aW] (.dQ (·= .r (aw v.dt))) (rE v.ax o.length i (aw o)):=by
  intro ah
  induction ah with
  |nil=>
   intro i o hd ho
   have:=drop_nil hd
   refine C8 ?_
   simp only[aE.bD,ahM]at ho
   subst ho
   simp[this]
   omega
  |cons x ah ihr=>
   intro i o hd ho
   obtain⟨g1,g2,g3⟩:=aB hd
   have hx:=agY g1
   have hsx:=aE.eb hx
   have hol:=ahE List.length ho
   simp only[aE.bD,ahc]at hol
   refine C8 ?_
   simp[-exists_and_left,-List.map_append,g3,aU,bn g1,bo g3 hv.len]
   refine⟨_,_,_,rfl,ih x hx (hv.mem hx) (by omega) (hv.aa hf hx),?_⟩
   rintro _ rfl
   simp only[D.bE,agV]
   refine⟨fun _=>?_,by simp[aO];omega⟩
   have e:=ihr (i+1) (o++x.dt) g2 (by simpa [aE.bD]using ho)
   simpa using e
 refine SV ?_
 simp
 refine⟨fun h=>?_,fun h=>?_⟩
 ·have:v.l=[]:=by
   rw[aE.nT]at hf
   simp only[aE.field,h,ag2]at hf
   simp at hf;exact hf.2.1.2
  simp[hre,h,this,aE.bD]
 ·exact loop v.l 0 [] rfl (by simp[hre,h])
def D.Yb (k:D):D.A5 k k=true:=by simp[D.A5]
def D.afF (a b:Ei):D.A5 (.s a) (.s b)=decide (a=b):=by
 unfold D.A5
 by_cases h:a=b
 ·subst h;simp
 ·simp[h]
def D.VD (m:List (D×D))(k v:D):D.ep (D.fE m k v) k=(D.ep m k).map fun _=>v:=by
 induction m with
 |nil=>rfl
 |cons p q ih=>
  cases h:D.A5 p.1 k with
  |true=>simp only[D.fE,h,D.ep];rfl
  |false=>simp only[D.fE,h,D.ep];exact ih
def D.VE {m:List (D×D)}{k v:D}(h:D.ep m k=none):D.ep (m++[(k,v)]) k=some v:=by
 induction m with
 |nil=>simp only[aiE,D.ep,D.Yb]
 |cons p q ih=>
  cases e:D.A5 p.1 k with
  |true=>simp only[D.ep,e]at h;cases h
  |false=>simp only[D.ep,e]at h;simp only[aia,D.ep,e];exact ih h
def PS (l:List Ei):List (D×D):=l.map fun s=>(D.s s,D.z 1)
def YF (l:List Ei)(s:Ei):D.ep (PS l) (.s s)=if s∈l then some (.z 1)else none:=by
 induction l with
 |nil=>rfl
 |cons a r ih=>
  simp only[PS,ahJ,D.ep,D.afF]at ih ⊢
  by_cases h:a=s
  ·simp[h]
  ·have:¬s=a:=fun e=>h e.symm
   simp only[h,ahj,ag9,this,akO];exact ih
def Ut (l:List Ei)(hl:l.length<2^62):fk pg mo [gD] [.r (Dm l)] [ai] (·= .b (!decide l.Nodup)):=by
 have loop:∀(ah:List Ei) (i:Nat) (st:List Nat) (c:Nat),l.drop i=ah->(l.take i).Nodup->ay pg mo [ai] (.dQ (·= .b (!decide l.Nodup))) (ry (.r (Dm l)) i (PS (l.take i)) st c):=by
  intro ah
  induction ah with
  |nil=>
   intro i st c hd hn
   have hi:=drop_nil hd
   rw[ag5 hi]at hn
   refine Ha ?_
   simp only[rk,D.bE,agV,agW,agX]
   exact⟨fun h=>by omega,fun _=>by simp[hn]⟩
  |cons s ah ih=>
   intro i st c hd hn
   obtain⟨g1,g2,g3⟩:=aB hd
   have hg:=YF (l.take i) s
   refine Ha ?_
   simp only[rk,D.bE,agV,agW,agX,ag6,bn (f:=D.s) g1,D.Lq,aU g3]
   refine⟨fun _=>⟨fun _=>⟨fun h=>?_,fun h=>?_⟩,fun h=>by simp at h⟩,fun h=>by omega⟩
   ·have hin:s∈l.take i:=by
     by_cases e:s∈l.take i
     ·exact e
     ·rw[ag4 e]at hg;simp[D.cS,hg]at h
    rw[ag8 hin]at hg
    have hv:D.val (PS (l.take i)) (.s s)= .z 1:=by simp[D.val,hg]
    have h2:D.ep (D.fE (PS (l.take i)) (.s s) (.z 2)) (.s s)=some (.z 2):=by rw[D.VD,hg];rfl
    have hw:IntKind.i64.wrap ((1:Int)+1)=2:=by rfl
    rw[hv,D.bV,hw]
    have hno:¬l.Nodup:=fun n=>by
     have n2:(l.take (i+1)).Nodup:=n.sublist (List.take_sublist _ _)
     rw[aQ g1,ah5]at n2
     exact n2.2.2 s hin s (by simp) rfl
    refine⟨fun _=>⟨fun _=>by simp[hno],fun h3=>?_⟩,fun h3=>?_⟩
    ·simp[D.val,h2]at h3
    ·simp[D.cS,h2]at h3
   ·have hnin:¬s∈l.take i:=fun e=>by rw[ag8 e]at hg;simp[D.cS,hg]at h
    rw[ag4 hnin]at hg
    have h2:=D.VE (v:= .z 1) hg
    have e:=ih (i+1) (st++[c]) (c+1) g2 (by
     rw[aQ g1,ah5]
     exact⟨hn,by simp,fun a ha b hb=>by simp only[ahb]at hb;subst hb;exact fun e=>hnin (e▸ha)⟩)
    have e3:PS (l.take (i+1))=PS (l.take i)++[(.s s,.z 1)]:=by rw[aQ g1];simp[PS]
    rw[e3]at e
    rw[bo g3 (by omega)]
    refine⟨fun _=>⟨fun h3=>?_,fun _=>e⟩,fun h3=>?_⟩
    ·simp[D.val,h2]at h3
    ·simp[D.cS,h2]at h3
 exact V0 (loop l 0 [] 0 rfl (by simp))
def Sv (l:List ga)(hl:l.length<2^62)(hok:∀n∈l,n.ok):fk pg jc [ke] [.r (l.map ga.ax)] [ai] (·= .b (dk l)):=by
 have loop:∀(ah:List ga) (i:Nat),l.length<=64->i<=l.length->l.drop i=ah->((l.take i).all (fun n=>bR n.nm&&n.v.cN))=true->
  ay pg jc [ai] (.dQ (·= .b (dk l))) (oc (.r (l.map ga.ax)) i i (Dm ((l.take i).map ga.nm))):=by
  intro ah
  induction ah with
  |nil=>
   intro i h64 hile hd hall
   have hi:=drop_nil hd
   have hil:i=l.length:=by omega
   rw[ag5 hi]at hall ⊢
   subst hil
   refine Aj ?_
   simp only[rk,D.bE,agV,agW,agX]
   refine⟨fun h=>by omega,fun _=>⟨fun _=>⟨_,_,_,rfl,Ut (l.map ga.nm) (by simpa using hl),?_⟩,fun h=>absurd trivial h⟩⟩
   rintro _ rfl
   simp[dk,h64,hall]
  |cons n ah ih=>
   intro i h64 hile hd hall
   obtain⟨g1,g2,g3⟩:=aB hd
   have hmem:=agY g1
   obtain⟨ho1,ho2⟩:=hok n hmem
   have no:(bR n.nm&&n.v.cN)=false->D.b false=D.b (dk l):=fun h=>by
    have:l.all (fun n=>bR n.nm&&n.v.cN)=false:=by rw[ajb];exact⟨n,hmem,by rw[h];simp⟩
    simp only[dk,this];simp
   refine Aj ?_
   simp only[rk,D.bE,agV,agW,agX,ag6,bn g1,ga.xj,ga.mI,lK,aU g3]
   refine⟨fun _=>⟨fun _=>⟨_,_,_,rfl,iT n.nm (by unfold maxLen;omega),?_⟩,fun h=>by simp at h⟩,fun h=>by omega⟩
   rintro _ rfl
   simp only[D.bz,ahl,ahq]
   refine⟨fun h=>no (by simp[h]),fun h1=>⟨_,_,_,rfl,Lt n.v ho2,?_⟩⟩
   rintro _ rfl
   simp only[D.bz,ahl,ahq]
   refine⟨fun h=>no (by simp[h]),fun h2=>⟨fun _=>?_,fun h=>?_⟩⟩
   ·rw[bo g3 (by omega)]
    have e:=ih (i+1) h64 (by omega) g2 (by rw[aQ g1,aiL,hall];simp[h1,h2])
    rw[aQ g1]at e
    simpa using e
   ·simp[aO]at h;omega
 refine Oj ?_
 simp only[rk,D.bE,agV,agW,agX]
 refine⟨fun h=>?_,fun h=>loop l 0 (by omega) (by omega) rfl rfl⟩
 have:¬l.length<=64:=by omega
 simp[dk,this]
end Go.Proofs
end
