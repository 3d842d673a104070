import Derived.Test.YtemiekpfokoplaaGreatM14
import Derived.Test.YtemiekpfokoplaaGreatM22
set_option linter.all false
noncomputable section
open Go.IntKind renaming wrap→wp
namespace Go.Proofs
open Go Go.PB
def Ns (l:List D)(h:l.length<2^30):PH qz (tX l) (ua l) 1 zB (fun d=>D.aa d=l):=by
 have hr:bg 1 (0+l.length)=true:=by simp[bg];omega
 refine Ia ?_
 have res:∀l':List D,l'=l->∃d,T.dm (BV.aV 1 (0+l'.length) true,[(0,ax.an aj l true),(1,ax.an aj ([]++l') true)]) (Ay (tX l) (ua l) d)/\D.aa d=l:=by
  intro l' h
  rw[h,afT,agv];exact⟨.r l,.ret,rfl⟩
 simp only[rk,hr,af2,afe,ae0,ae6,afc,afm,afW,afa,aft]
 refine⟨fun he=>⟨⟨rfl,.r l,?_,rfl⟩,rfl,res l rfl⟩,fun _=>⟨rfl,res l rfl⟩⟩
 have:l=[]:=by simpa using he
 subst this;exact .ret
def Lc (v:Ex):v.ok->v.size<2^30->iq pg fM [aE] [v.az] [aE] (·=v.az):=by
 induction v using Ex.ind with|h v ih=>
 intro hv hs
 have hse:=v.gj
 have hsl:v.l.length<=Ex.bI v.l:=by
  generalize v.l=l
  induction l with
  |nil=>simp
  |cons a r ih=>have:=a.gj;simp only[Ex.bI,ae9];omega
 have loop:∀(rest:List Ex) (i:Nat) (l:List D),v.l.drop i=rest->l.length=v.l.length->l.take i=(v.l.take i).map Ex.az->l.drop i=(v.l.drop i).map Ex.az->aC pg fM [aE] (.kE (·=v.az)) (qL v.az v.l.length v.l.length v.l.length l i):=by
  intro rest
  induction rest with
  |nil=>
   intro i l hd hl ht hdr
   have:=drop_nil hd
   refine BS ?_
   rw[ae7 (by omega),ae7 (by omega)]at ht
   simp[this,hl,ht]
   exact(v.ay).symm
  |cons x rest ihr=>
   intro i l hd hl ht hdr
   obtain⟨g1,g2,g3⟩:=aI hd
   have hx:=aeU g1
   have hsx:x.size<2^30:=by have:=Ex.fh hx;omega
   have hat:D.at l i=x.az:=by
    have:l[i]?=some x.az:=by
     have:=afg (·[0]?) hdr
     simpa [g1]using this
    exact wv this
   refine BS ?_
   simp[-exists_and_left,g3,aY,hat,bO g3 hv.len,hl]
   refine⟨_,_,_,rfl,ih x hx (hv.mem hx) hsx,?_⟩
   rintro _ rfl
   rw[Ex.re]
   exact ihr _ _ g2 (by simpa using hl) (by rw[tT (by omega),bn g1,ht];simp) (by rw[agw (show i<i+1 by omega),<-agk,hdr];simp)
 refine OC ?_
 simp only[rk,D.bP,Ex.Bq]
 refine⟨_,_,rfl,Jb (v.l.map Ex.az) (by simp;omega),?_⟩
 intro d hd
 rw[hd]
 have e:=loop v.l 0 (v.l.map Ex.az) rfl (by simp) (by simp) (by simp)
 simpa using e
def adO (l:List St):St.AW l->St.cS l<2^30->St.mF l<2^30->iq pg oQ [bB] [.r (l.map St.az)] [bB] (·= .r (l.map St.az)):=by
 induction l using St.Qs with|h l ih=>
 intro hl hc he
 have hlc:=St.xq l
 have one:∀x∈l,iq pg tv [aT] [x.az] [aT] (·=x.az):=by
  intro x hx
  obtain⟨o1,o2,o3,oa,ob,ow⟩:=hl.th hx
  obtain⟨i1,i2,i3⟩:=ih x hx
  have e1:=x.DP
  have e2:=St.EZ hx
  have e3:=x.zU
  have e4:=St.zV hx
  refine OD ?_
  simp only[rk,St.Dc,St.K3,St.qw,St.Jn,St.pq,St.Qg,Ex.re,D.bP,aft,ae6,afc,afe,afm]
  refine⟨_,_,_,rfl,Lc _ oa (by omega),?_⟩
  rintro _ rfl
  refine⟨_,_,_,rfl,Lc _ ob (by omega),?_⟩
  rintro _ rfl
  refine⟨_,_,_,rfl,i1 o1 (by omega) (by omega),?_⟩
  rintro _ rfl
  refine⟨_,_,_,rfl,i2 o2 (by omega) (by omega),?_⟩
  rintro _ rfl
  refine⟨_,_,_,rfl,i3 o3 (by omega) (by omega),?_⟩
  rintro _ rfl
  refine⟨_,_,rfl,EY (Im x.wi) (by simp;omega),?_⟩
  intro d6 hd6
  simp only[Ex.re,D.bP,hd6,St.VQ,St.wC,St.Qd,St.Jm,St.Qf]
  exact(x.ay).symm
 have loop:∀(rest:List St) (i:Nat) (m:List D),l.drop i=rest->m.length=l.length->m.take i=(l.take i).map St.az->m.drop i=(l.drop i).map St.az->
  aC pg oQ [bB] (.kE (·= .r (l.map St.az))) (Aa (.r (l.map St.az)) l.length l.length l.length m i):=by
  intro rest
  induction rest with
  |nil=>
   intro i m hd hm ht hdr
   have:=drop_nil hd
   refine JT ?_
   rw[ae7 (by omega),ae7 (by omega)]at ht
   simp[this,hm,ht]
  |cons x rest ihr=>
   intro i m hd hm ht hdr
   obtain⟨g1,g2,g3⟩:=aI hd
   have hx:=aeU g1
   have hat:D.at m i=x.az:=by
    have:m[i]?=some x.az:=by
     have:=afg (·[0]?) hdr
     simpa [g1]using this
    exact wv this
   refine JT ?_
   simp[-exists_and_left,-List.map_append,g3,aY,hat,bO g3 hl.1,hm]
   refine⟨_,_,_,rfl,one x hx,?_⟩
   rintro _ rfl
   rw[St.re]
   exact ihr _ _ g2 (by simpa using hm) (by rw[tT (by omega),bn g1,ht];simp) (by rw[agw (show i<i+1 by omega),<-agk,hdr];simp)
 refine Z4 ?_
 simp only[rk,D.bP]
 refine⟨_,_,rfl,Jc (l.map St.az) (by simp;omega),?_⟩
 intro d hd
 rw[hd]
 have e:=loop l 0 (l.map St.az) rfl (by simp) (by simp) (by simp)
 simpa using e
def adM (l:List St)(hl:St.AW l)(hc:St.cS l<2^30)(he:St.mF l<2^30):iq pg E9 [bB] [.r (l.map St.az)] [bB,aX] (fun d=>(d.ae 0).aa=(if (chk l).2=0 then l else []).map St.az):=by
 refine Z2 ?_
 simp only[rk,D.bP]
 refine⟨_,_,_,rfl,Sg l hl he,?_⟩
 rintro _ rfl
 simp only[D.df,agB,agq,afF]
 refine⟨fun h=>by rw[aeX h];rfl,fun h=>⟨_,_,_,rfl,adO l hl hc he,?_⟩⟩
 rintro _ rfl
 rw[aeZ h];rfl
def aed (v:aJ)(hv:v.ok):iq pg Fc [ao] [v.az] [ao] (·=v.az):=by
 refine Z8 ?_
 simp only[rk,ml]
 refine⟨_,_,_,rfl,SJ v hv,?_⟩
 rintro _ rfl
 cases v.fG with
 |true=>simp only[afq];exact⟨fun _=>ml v,fun h=>by simp[D.ae,D.at,D.int]at h⟩
 |false=>simp only[ae0,afS];exact⟨fun h=>by simp[D.ae,D.at,D.int]at h,fun _=>trivial⟩
def Z6 (l:List jV)(hl:l.length<2^30)(hok:∀n∈l,n.ok):iq pg pP [jT] [.r (l.map jV.az)] [jT] (·= .r (l.map jV.az)):=by
 have loop:∀(rest:List jV) (i:Nat),i<=l.length->l.drop i=rest->aC pg pP [jT] (.kE (·= .r (l.map jV.az))) (vl (.r (l.map jV.az)) i i ((l.take i).map jV.az)):=by
  intro rest
  induction rest with
  |nil=>
   intro i hi hd
   have:=drop_nil hd
   refine FL ?_
   rw[ae7 this]
   simp only[rk,D.bP,aeW,aeT,aeS]
   exact⟨fun h=>by omega,fun _=>⟨fun _=>trivial,fun h=>by omega⟩⟩
  |cons x rest ih=>
   intro i hi hd
   obtain⟨k1,k2,k3⟩:=aI hd
   have hx:=aeU k1
   refine FL ?_
   have hr:bg 80 (i+1)=true:=by simp[bg];omega
   simp only[rk,D.bP,aeW,aeT,aeS,ae2,bS k1,aY k3,jV.rq,jV.wC,ml,afC,agn hi,aft,afB,hr,ae6,afc,afm,afe,bO k3 (by omega)]
   refine⟨fun _=>⟨_,_,_,rfl,aed x.v (hok x hx).2,?_⟩,fun h=>by omega⟩
   rintro _ rfl
   rw[ml]
   have e:=ih (i+1) (by omega) k2
   rw[<-sM (f:=jV.az) k1]at e
   rw[<-x.ay];exact e
 refine TY ?_
 exact loop l 0 (by omega) rfl
def Su.gH (s:Su):Su:={s with co:=if (chk s.co).2=0 then s.co else []}
def D4 (l:List Su)(hl:l.length<2^30)(hs:∀s∈l,s.ok/\St.cS s.co<2^30/\St.mF s.co<2^30/\s.ns.length<2^30/\s.se.length<2^30):iq pg eL [cB] [.r (l.map Su.az)] [cB] (·= .r (l.map fun s=>s.gH.az)):=by
 have loop:∀(rest:List Su) (i:Nat),i<=l.length->l.drop i=rest->aC pg eL [cB] (.kE (·= .r (l.map fun s=>s.gH.az))) (oS (.r (l.map Su.az)) i i ((l.take i).map fun s=>s.gH.az)):=by
  intro rest
  induction rest with
  |nil=>
   intro i hi hd
   have:=drop_nil hd
   refine AJ ?_
   rw[ae7 this]
   simp only[rk,D.bP,aeW,aeT,aeS]
   exact⟨fun h=>by omega,fun _=>⟨fun _=>trivial,fun h=>by omega⟩⟩
  |cons x rest ih=>
   intro i hi hd
   obtain⟨k1,k2,k3⟩:=aI hd
   have hx:=aeU k1
   obtain⟨o,c1,c2,c3,c4⟩:=hs x hx
   refine AJ ?_
   have hr:bg 80 (i+1)=true:=by simp[bg];omega
   simp only[rk,D.bP,aeW,aeT,aeS,ae2,bS k1,aY k3,Su.VR,Su.pq,Su.lC,Su.Qe,afC,agn hi,aft,afB,hr,ae6,afc,afm,afe,bO k3 (by omega)]
   refine⟨fun _=>⟨_,_,_,rfl,adM x.co ⟨o.2.2.1,o.2.2.2.1⟩ c1 c2,fun d0 h0=>⟨_,_,_,rfl,Z6 x.ns c3 o.2.2.2.2.2.1,?_⟩⟩,fun h=>by omega⟩
   rintro _ rfl
   refine⟨_,_,rfl,S2 (ba x.se) (by simp;omega),fun d2 h2=>?_⟩
   have e:=ih (i+1) (by omega) k2
   rw[<-sM (f:=fun s=>Su.az (Su.gH s)) k1]at e
   rw[h0,h2]
   exact e
 refine ME ?_
 exact loop l 0 (by omega) rfl
section
noncomputable def ND (V:WS):D:= .r [.r V.pa,.r V.cu,NB V.th,NC V.st,.z V.ck,NB V.fa,NC V.sf,.z V.cf,.z V.la,.r V.ma]
def E2 (V:WS):HX (ND V)=V:=by
 simp only[HX,ND,D.ae,D.bP,D.at,af4,agl,s8,E1,E0,D.df]
def aQ.met (t:aQ)(l:List Int):aQ:=l.reverse.map fun r=>(r,t.at r)
def aQ.Wv (t:aQ)(l:List Int):(t.met l).map (·.1)=l.reverse:=by simp[aQ.met,Function.comp_def]
def aQ.N6 (t:aQ){l:List Int}{n:Int}(h:n∉l):((t.met l).get n).isSome=false:=by
 cases e:((t.met l).get n).isSome with
 |false=>rfl
 |true=>rw[aQ.mO,aQ.Wv,List.mem_reverse]at e;exact absurd e h
def aQ.N5 (t:aQ)(n:Int)(l:List Int):t.met (n::l)=t.met l++[(n,t.at n)]:=by simp[aQ.met]
def aQ.Ww {t:aQ}(h1:t.one){l:List Int}(hn:l.Nodup)(hs:∀q∈l,q∈t.map (·.1))(ha:∀p∈t,p.1∈l):(t.met l).Perm t:=by
 have hp:l.reverse.Perm (t.map (·.1)):=(List.reverse_perm l).trans ((ag4 hn h1).2 fun q=>⟨hs q,fun h=>by
  obtain⟨p,hp,rfl⟩:=afy.1 h
  exact ha p hp⟩)
 have h2:=hp.map fun r=>(r,t.at r)
 have h3:(t.map (·.1)).map (fun r=>(r,t.at r))=t:=by
  rw[ahp]
  conv=>rhs;rw[<-aim t]
  refine ag9 fun p hp=>?_
  have hg:=(aQ.sA h1).2 (show (p.1,p.2)∈t from hp)
  simp[aQ.at,hg]
 rw[h3]at h2
 exact h2
section
variable {W:WS} {x:Wl} {t:aQ} {f:kb} (hi:x.Yf) (ht:t.Perm x.aD)
include hi ht
theorem aco {n:Int}{y:Wh}(h:t.get n=some y):y.ok/\y.sz<2^30/\∀v∈y.aF,v.fG=true:=by
 have hm:=ht.mem_iff.1 (aQ.qG h)
 simp only[Wl.aD,afy]at hm
 obtain⟨e,he,h2⟩:=hm
 cases h2
 exact hi.w e he
theorem LC (hW:Gl W (x.wp t f)):PH iT (A5 W) (Wm W) 3 qi (fun d=>∃t' f',t'.Perm x.aD/\Gl (HX d) (x.wp t' f')):=by
 have h1:=JQ ht hi.one
 have hma:=hi.DU
 have hpa:=hi.par
 have hcu:(gI x.pa.length x.cu).length=x.pa.length+1:=by simp
 have loop:∀(st7:List Nat) (c8:Nat) (f':kb) (st10:List Nat) (c11:Nat),aC pg iT [cq] (.bu 3 (qi (A5 W) (Wm W)) (fun d=>∃t' f',t'.Perm x.aD/\Gl (HX d) (x.wp t' f')))
  (qJ W W.pa W.cu.length W.ma.length W.cu W.ma (ba []) (aQ.az (t.met [])) st7 c8 f'.az st10 c11):=by
  refine sd (M:=fun l=>∀(st7:List Nat) (c8:Nat) (f':kb) (st10:List Nat) (c11:Nat),aC pg iT [cq] (.bu 3 (qi (A5 W) (Wm W)) (fun d=>∃t' f',t'.Perm x.aD/\Gl (HX d) (x.wp t' f')))
   (qJ W W.pa W.cu.length W.ma.length W.cu W.ma (ba l) (aQ.az (t.met l)) st7 c8 f'.az st10 c11)) (t.map (·.1)) fun l hl hnd ih=>?_
  intro st7 c8 f' st10 c11
  refine MK (Am hW (fun hall=>?_) fun n hn1 hn2=>?_)
  ·refine⟨rfl,ND (WS.mk W.pa W.cu (aQ.az (t.met l)) st7 c8 f'.az st10 c11 W.la W.ma),?_,t.met l,f',(aQ.Ww h1 hnd hl hall).trans ht,?_⟩
   ·simp only[qi,E2]
    exact .ret
   ·rw[E2]
    exact⟨hW.pa,hW.cu,rfl,rfl,hW.la,hW.ma⟩
  ·obtain⟨y,hy⟩:=afl.1 (aQ.mO.2 hn1)
   obtain⟨w1,w2,w3⟩:=aco hi ht hy
   have hat:t.at n=y:=by simp[aQ.at,hy]
   simp only[rk,hW.th,aQ.fv,hy,afY,aQ.val hy,Wh.re,D.df,aQ.N6 t hn2,afe,ae6,ae0,afc,afm,afL]
   refine⟨_,_,_,rfl,G3 y w1 w2 w3,?_⟩
   rintro _ rfl
   rw[Wh.re]
   have hm:aQ.az (t.met l)++[(D.z n,y.az)]=aQ.az (t.met (n::l)):=by rw[aQ.N5,hat];simp[aQ.az]
   rw[hm]
   have hW2:Gl (WS.mk W.pa W.cu (aQ.az (t.met (n::l))) (st7++[c8]) (c8+1) f'.az st10 c11 W.la W.ma) (x.wp (t.met (n::l)) f'):=⟨hW.pa,hW.cu,rfl,rfl,hW.la,hW.ma⟩
   have hg:(t.met (n::l)).get n=some y:=by
    rw[aQ.N5,hat,aQ.zZ]
    have:=aQ.N6 t hn2
    rw[ahM,ahP]at this
    simp[this,aQ.get]
   refine⟨_,_,rfl,RI hW2 n y hg,fun d2 hd2=>?_⟩
   rw[hd2]
   exact ih n hn1 hn2 _ _ _ _ _
 refine W6 ?_
 simp only[rk,D.bP,aft,afe,ae6,afc,afm]
 refine⟨_,_,rfl,DN _ (by rw[hW.pa];simp;omega),fun d0 h0=>?_⟩
 refine⟨_,_,rfl,Ns _ (by rw[hW.cu];simp;omega),fun d1 h1=>?_⟩
 refine⟨_,_,rfl,Jd _ (by rw[hW.ma];simp;omega),fun d2 h2=>?_⟩
 rw[h0,h1,h2]
 exact loop [] 0 [] [] 0
end
end

section
abbrev DY (l:List Int)(v:D):List (D×D):=l.map fun r=>(D.z r,v)
def Of (l:List Int)(v:D)(r:Int):D.eu (DY l v) (.z r)=if r∈l then some v else none:=by
 induction l with
 |nil=>rfl
 |cons a q ih=>
  simp only[DY,afP,D.GM,D.aaW]
  by_cases h:a=r
  ·simp[h]
  ·simp only[h,age,ae5,Ne.symm h,aiH];exact ih
@[simp] def Fy (l:List Int)(v:D)(r:Int):D.fv (DY l v) (.z r)=decide (r∈l):=by
 simp only[D.fv,Of];by_cases h:r∈l<;>simp[h]
def JK {l:List Int}{r:Int}(v:D)(h:r∈l):D.val (DY l v) (.z r)=v:=by simp[D.val,Of,h]
def TI (l:List Int)(v:D)(r:Int):DY l v++[(.z r,v)]=DY (l++[r]) v:=by simp[DY]
def Wy {m:List (D×D)}{k v:D}(h:D.fv m k=true):D.fv (D.jP m k v) k=true:=by
 have:=D.mT (v:=v) m h
 simp[D.fv,this]
def Wz {m:List (D×D)}{k v:D}(h:D.fv m k=true):D.val (D.jP m k v) k=v:=by
 have:=D.mT (v:=v) m h
 simp[D.val,this]
structure Su.Bf (s:Su):Prop where
 ok:s.ok
 co:St.mF s.co<2^30
 ns:s.ns.length<2^30
 se:s.se.length<2^30
 sz:∀n∈s.ns,n.v.size<2^30
 nz:aJ.bI (s.ns.map jV.v)+1<2^30
def Wl.Jt (x:Wl)(s:Su)(r:Int):Bool:=(x.aD.get r).isSome&&decide (r∈s.se)
def Wl.fG (x:Wl)(s:Su):Bool:=
 decide (0<=s.si/\s.si<=x.pa.length)&&Fm s.co&&kR s.ns&&(decide s.se.Nodup&&s.se.all fun r=>decide (1<=r/\r<=x.la))&&s.ns.all fun n=>n.v.mq.all (x.Jt s)
def Wl.im (x:Wl)(s:Su):x.fG s=true↔(0<=s.si/\s.si<=x.pa.length)/\Fm s.co=true/\kR s.ns=true/\(s.se.Nodup/\∀r∈s.se,1<=r/\r<=x.la)/\∀n∈s.ns,∀r∈n.v.mq,x.Jt s r=true:=by
 simp only[Wl.fG,aeV,aeT,afK,aio]
def QD {l:List jV}(h:kR l=true):∀n∈l,n.v.fG=true:=fun n hn=>by
 simp only[kR,aeV,afK]at h
 exact(h.1.2 n hn).2
def N3 {l:List Int}{i:Nat}{a:Int}(h:l[i]?=some a)(hn:l.Nodup):a∉l.take i:=by
 intro hm
 obtain⟨j,hj⟩:=aid.1 hm
 have hj2:=(ae1.1 hj).1
 rw[afC]at hj2
 rw[afA,aeZ (by omega)]at hj
 have hi:=(ae1.1 h).1
 have h1:l[i]?=l[j]?:=by rw[h,hj]
 have:=(agZ hi hn).1 h1
 omega
def Mn {l:List Int}{i:Nat}{a:Int}(h:l[i]?=some a)(hm:a∈l.take i):¬l.Nodup:=fun hn=>N3 h hn hm
section
variable {W:WS} {w:Wo} (hW:Gl W w)
include hW
theorem acx (h:w.ma.length≠0):PH By (Nc W) (Wm W) 3 IW (fun d=>D.bool d=false):=by
 refine Xj ?_
 simp only[rk]
 refine⟨_,_,rfl,w7 hW,?_⟩
 intro d hd
 exact⟨rfl,BF (by rw[hd];exact beq_false_of_ne (by omega))⟩
theorem acy (s:Int):PH Bz (Nd W s) (Wm W) 3 IX (fun d=>D.bool d=decide (0<=s/\s<w.ma.length)):=by
 refine Xk ?_
 simp only[rk,aeT,aeS]
 refine⟨fun h=>⟨_,_,rfl,w7 hW,?_⟩,fun h=>⟨rfl,BF (by simp;omega)⟩⟩
 intro d hd
 exact⟨rfl,BF (by rw[hd];simp;omega)⟩
end
section
variable {W:WS} {R:RS} {x:Wl} {f:kb} (hi:x.Yf) (hla:∀e∈x.th,e.r<=x.la)
include hi hla
theorem aaC (hW:Gl W (x.wo f))(s:Su)(hs:s.Bf):PH eW (jz W s.az) (Wm W) 3 iC (fun d=>D.int d=if x.fG s then 0 else 190):=by
 have hok:=hs.ok
 have hns:=hs.ns
 have hse:=hs.se
 have hisla:∀r,(x.aD.get r).isSome=true->r<=x.la:=fun r h=>by
  obtain⟨y,hy⟩:=afl.1 h
  have:=aQ.qG hy
  simp only[Wl.aD,afy]at this
  obtain⟨e,he,h1⟩:=this
  cases h1;exact hla e he
 have no:¬x.fG s=true->jJ.bu=some 3/\∃d,T.dm (BV.int .i64 190,Wm W) (iC (jz W s.az) (Wm W) d)/\D.int d=if x.fG s then 0 else 190:=fun h=>⟨rfl,CY (by rw[aeX h])⟩
 have is:=fun r=>Gm hW r
 have loop3:∀(n:jV) (j:Nat) (st:List Nat) (c:Nat),s.ns[j]?=some n->j<s.ns.length->n.v.mq.length<2^40->
  ((∀r∈n.v.mq,x.Jt s r=true)->aC pg eW [aX] (.bu 3 (iC (jz W s.az) (Wm W)) (fun d=>D.int d=if x.fG s then 0 else 190)) (ou W s.az (DY s.se (.z 1)) st c ((j+1:Nat):Int)))->
  ∀(rest:List Int) (i:Nat),n.v.mq.drop i=rest->(∀r∈n.v.mq.take i,x.Jt s r=true)->
  aC pg eW [aX] (.bu 3 (iC (jz W s.az) (Wm W)) (fun d=>D.int d=if x.fG s then 0 else 190)) (nG W s.az n.v.mq.length n.v.mq.length (ba n.v.mq) (DY s.se (.z 1)) st c i j):=by
  intro n j st c hj hjl hrl done rest
  induction rest with
  |nil=>
   intro i hd hall
   have hil:=drop_nil hd
   rw[ae7 hil]at hall
   refine zm ?_
   have hn:¬(i:Int)<(n.v.mq.length:Int):=by omega
   simp only[rk,hn,age,ae0,afc,afe,afL,bO hjl (by omega)]
   exact done hall
  |cons a rest ih=>
   intro i hd hall
   obtain⟨g1,g2,g3⟩:=aI hd
   refine zm ?_
   have hcl:(i:Int)<(n.v.mq.length:Int):=by omega
   have hat:D.at (ba n.v.mq) i= .z a:=bS g1
   simp only[rk,hcl,hat,aY g3,D.df,ae2,aeW,g3,aft,afe,ae6,afc,afm,Fy,bO g3 (by omega)]
   refine⟨_,_,rfl,is a,?_⟩
   intro d hd
   rw[hd]
   have bad:x.Jt s a=false->¬x.fG s=true:=fun hh hm=>by
    have:=((x.im s).1 hm).2.2.2.2 n (aeU hj) a (aeU g1)
    rw[hh]at this;cases this
   refine⟨fun h=>no (bad ?_),fun h=>⟨fun h2=>⟨fun h3=>?_,fun h3=>?_⟩,fun h2=>no (bad ?_)⟩⟩
   ·simp only[Wl.Jt];simp at h;simp[h]
   ·rw[JK _ (by simpa using h2)]at h3;simp at h3
   ·refine ih (i+1) g2 fun r hr=>?_
    rw[bn g1]at hr
    rcases afp.1 hr with hr|hr
    ·exact hall r hr
    ·rw[afj]at hr;subst hr
     simp at h h2
     simp[Wl.Jt,h,h2]
   ·simp only[Wl.Jt];simp at h2;simp[h2]
 have loop2:∀(rest:List jV) (j:Nat) (st:List Nat) (c:Nat),(0<=s.si/\s.si<=x.pa.length)->Fm s.co=true->kR s.ns=true->(s.se.Nodup/\∀r∈s.se,1<=r/\r<=x.la)->s.ns.drop j=rest->(∀n∈s.ns.take j,∀r∈n.v.mq,x.Jt s r=true)->
  aC pg eW [aX] (.bu 3 (iC (jz W s.az) (Wm W)) (fun d=>D.int d=if x.fG s then 0 else 190)) (ou W s.az (DY s.se (.z 1)) st c j):=by
  intro rest
  induction rest with
  |nil=>
   intro j st c k1 k2 k3 k4 hd hall
   have hil:=drop_nil hd
   rw[ae7 hil]at hall
   refine DC ?_
   have hn:¬(j:Int)<(s.ns.length:Int):=by omega
   simp only[rk,Su.lC,aeW,hn,age,ae0,afc,afe,afL]
   exact⟨rfl,CY (by rw[aeZ ((x.im s).2 ⟨k1,k2,k3,k4,hall⟩)])⟩
  |cons n rest ih=>
   intro j st c k1 k2 k3 k4 hd hall
   obtain⟨g1,g2,g3⟩:=aI hd
   have hm:=aeU g1
   refine DC ?_
   have hcl:(j:Int)<(s.ns.length:Int):=by omega
   have hat:D.at (s.ns.map jV.az) j=n.az:=bS g1
   have hvm:=QD k3 n hm
   simp only[rk,Su.lC,aeW,hcl,hat,jV.rq,aY g3,ae2,aft,afe,ae6,afc,afm]
   refine⟨_,_,rfl,Ka n.v (hok.2.2.2.2.2.1 n hm).2,?_⟩
   intro d hd
   rw[aeZ hvm]at hd
   rw[hd]
   have hrl:n.v.mq.length<2^40:=by
    have:=aJ.B3 n.v;have:=hs.sz n hm;omega
   simp only[aeW]
   refine loop3 n j st c g1 g3 hrl (fun hh=>ih (j+1) st c k1 k2 k3 k4 g2 fun n' hn'=>?_) n.v.mq 0 rfl (by simp)
   rw[bn g1]at hn'
   rcases afp.1 hn' with hn'|hn'
   ·exact hall n' hn'
   ·rw[afj]at hn';subst hn';exact hh
 have loop1:∀(rest:List Int) (i:Nat) (st:List Nat) (c:Nat),(0<=s.si/\s.si<=x.pa.length)->Fm s.co=true->kR s.ns=true->s.se.drop i=rest->((s.se.take i).Nodup/\∀r∈s.se.take i,1<=r/\r<=x.la)->
  aC pg eW [aX] (.bu 3 (iC (jz W s.az) (Wm W)) (fun d=>D.int d=if x.fG s then 0 else 190)) (lv W s.az i (DY (s.se.take i) (.z 1)) st c):=by
  intro rest
  induction rest with
  |nil=>
   intro i st c k1 k2 k3 hd hall
   have hil:=drop_nil hd
   rw[ae7 hil]at hall ⊢
   refine DB ?_
   have hn:¬(i:Int)<(s.se.length:Int):=by omega
   simp only[rk,Su.Qe,aeW,hn,age,ae0,afc,afe,afL]
   exact loop2 s.ns 0 st c k1 k2 k3 hall rfl (by simp)
  |cons a rest ih=>
   intro i st c k1 k2 k3 hd hall
   obtain⟨g1,g2,g3⟩:=aI hd
   have hm:=aeU g1
   refine DB ?_
   have hcl:(i:Int)<(s.se.length:Int):=by omega
   have hat:D.at (ba s.se) i= .z a:=bS g1
   have bad:a∈s.se.take i->¬x.fG s=true:=fun hh hmm=>Mn g1 hh ((x.im s).1 hmm).2.2.2.1.1
   have bad2:¬(1<=a/\a<=x.la)->¬x.fG s=true:=fun hh hmm=>hh (((x.im s).1 hmm).2.2.2.1.2 a hm)
   simp only[rk,Su.Qe,aeW,hcl,hat,aY g3,D.df,ae2,aft,afe,ae6,afc,afm,Fy,aeT,aeS,bO g3 (by omega)]
   refine⟨fun hin=>⟨fun _=>no (bad hin),fun _=>⟨_,_,rfl,is a,?_⟩⟩,fun hin=>⟨fun h1=>no (bad2 (by omega)),fun h1=>⟨_,_,rfl,is a,?_⟩⟩⟩
   ·intro d hd
    have hh:D.fv (DY (s.se.take i) (.z 1)) (.z a)=true:=(Fy _ _ _).trans (decide_eq_true hin)
    simp only[Wy hh,Wz hh,JK _ hin,D.df,afe,ae6,afc,afm]
    have e2:IntKind.i64.wrap ((1:Int)+1)=2:=by rw[bL (by omega) (by omega)];rfl
    rw[e2]
    refine⟨fun _=>⟨_,_,rfl,Gn hi (ahl _) hW,?_⟩,fun _=>⟨fun _=>no (bad hin),fun h=>absurd h (by omega)⟩⟩
    intro d2 hd2
    exact⟨fun _=>no (bad hin),fun _=>⟨fun _=>no (bad hin),fun h=>absurd h (by omega)⟩⟩
   ·intro d hd
    have e1:DY (s.se.take i) (.z 1)++[(D.z a,D.z 1)]=DY (s.se.take (i+1)) (.z 1):=by rw[bn g1];exact TI _ _ _
    have hin2:a∈s.se.take (i+1):=by rw[bn g1];simp
    simp only[e1,Fy,hin2,JK _ hin2,D.df,aft,afe,ae6,afc,afm,Int.lt_irrefl,aiE,not_false_eq_true,afL]
    have go:a<=x.la->aC pg eW [aX] (.bu 3 (iC (jz W s.az) (Wm W)) (fun d=>D.int d=if x.fG s then 0 else 190)) (lv W s.az ((i+1:Nat):Int) (DY (s.se.take (i+1)) (.z 1)) (st++[c]) (c+1)):=fun hal=>by
     refine ih (i+1) _ _ k1 k2 k3 g2 ?_
     rw[bn g1]
     refine⟨ag0.2 ⟨hall.1,by simp,fun p hp q hq=>?_⟩,fun r hr=>?_⟩
     ·rw[afj]at hq;subst hq;rintro rfl;exact hin hp
     ·rcases afp.1 hr with hr|hr
      ·exact hall.2 r hr
      ·rw[afj]at hr;subst hr;exact⟨by omega,hal⟩
    refine⟨fun hb=>⟨_,_,rfl,Gn hi (ahl _) hW,?_⟩,fun hb=>go (hisla a (by rw[<-hd];simpa using hb))⟩
    intro d2 hd2
    subst hd2
    rw[Wl.Br]
    exact⟨fun h2=>no (bad2 (by omega)),fun h2=>go (by omega)⟩
 have hma:=hi.DU
 refine Ua ?_
 simp only[rk,Su.VR,Su.pq,Su.lC]
 refine⟨_,_,rfl,acx hW (by show x.ma.length≠0;omega),?_⟩
 intro d0 hd0
 rw[hd0]
 refine⟨fun h=>(by cases h),fun _=>⟨_,_,rfl,acy hW s.si,?_⟩⟩
 intro d1 hd1
 rw[hd1]
 refine⟨fun h=>no fun hm=>?_,fun h=>⟨_,_,_,rfl,adL s.co ⟨hok.2.2.1,hok.2.2.2.1⟩ hs.co,?_⟩⟩
 ·have:=((x.im s).1 hm).1
  simp at h;omega
 intro d2 hd2
 subst hd2
 refine⟨fun h2=>no fun hm=>?_,fun h2=>⟨_,_,_,rfl,Qz s.ns (by omega) hok.2.2.2.2.2.1,?_⟩⟩
 ·have:=((x.im s).1 hm).2.1
  simp[this]at h2
 intro d3 hd3
 subst hd3
 refine⟨fun h3=>no fun hm=>?_,fun h3=>?_⟩
 ·have:=((x.im s).1 hm).2.2.1
  simp[this]at h3
 ·refine loop1 s.se 0 [] 0 ?_ (by simpa using h2) (by simpa using h3) rfl (by simp)
  simp at h;omega
end
end
section
def Cg (s:nh):Prop:=∃b:nh,s=b++bA (mg 8 (AF b))/\b.length+8<=67108864
def QSn (d:D):Prop:=(d.ae 1).int=4\/(d.ae 1).int=0/\Cg (d.ae 0).bj
def zK (a b:List D):bA (a++b)=bA a++bA b:=by simp[bA]
def Sb {M:List (Nat×ax)}{Q:D->Prop}{s:nh}{e:Int}(h:Q (.r [.s s,.z e])):∃d,T.dm (BV.tuple [.bj s,.int .i64 e],M) (T.ret (BV.tuple [.bj (d.ae 0).bj,.int .i64 (d.ae 1).int],M))/\Q d:=⟨.r [.s s,.z e],.ret,h⟩
def hd (c:Int):List D:=[(D.z 112),(D.z 111),(D.z 115),(D.z 116),(D.z 101),(D.z 114),(D.z 110),(D.z 10)]++[(D.z c)]
def lB:nh:=bA (hd 119++Yd)
def SK {x:Wl}(hok:∀e∈x.th,e.w.ok)(hk:∀e∈x.th,e.w.k<=16):wOK x.az:=by
 intro d hd
 rw[Wl.qw]at hd
 obtain⟨e,he,rfl⟩:=afy.1 hd
 have ho:=hok e he
 have hv:=ho.aF
 simp only[tOK,En.R6,Wh.fA,Wh.rq,Wh.Bs,Wh.lC]
 refine⟨ho.1,hk e he,⟨_,hv _ (by simp[Wh.aF]),rfl⟩,fun z hz=>?_,fun z hz=>?_⟩
 ·obtain⟨v,hv2,rfl⟩:=afy.1 hz
  exact⟨v,hv _ (by simp[Wh.aF,hv2]),rfl⟩
 ·obtain⟨n,hn,rfl⟩:=afy.1 hz
  rw[jV.rq]
  exact⟨n.v,hv _ (by simp[Wh.aF];exact .inr (.inr ⟨n,hn,rfl⟩)),rfl⟩
def aat {s:Su}(h:s.ok):sOK s.az:=by
 intro d hd
 rw[Su.lC]at hd
 obtain⟨n,hn,rfl⟩:=afy.1 hd
 rw[jV.rq]
 exact⟨n.v,(h.2.2.2.2.2.1 n hn).2,rfl⟩
section
variable {W:WS} {x:Wl} {t:aQ} {f:kb} (hi:x.Yf) (ht:t.Perm x.aD) (hk:∀e∈x.th,e.w.k<=16) (hb:61*D.bX x.az<2^39)
include hi ht hk hb
theorem Sm (hW:Gl W (x.wp t f)):PH pO (KQ W) (Wm W) 3 Ce (fun d=>QSn d/\(Qc x.az->(d.ae 1).int=0/\(d.ae 0).bj=lB++bA (mg 8 (AF lB)))):=by
 have hma:=hi.DU
 refine TV ?_
 simp only[rk]
 refine⟨_,_,rfl,w7 hW,fun d0 h0=>?_⟩
 have h0:D.int d0=x.ma.length:=h0
 simp only[afv,afd,agq]
 refine⟨fun h=>by omega,fun _=>⟨_,_,rfl,Gn hi ht hW,?_⟩⟩
 rintro _ rfl
 refine⟨_,_,rfl,Sp x.az (SK (fun e he=>(hi.w e he).1) hk) (hd 119) (by simp[hd];omega),fun d2 h2=>?_⟩
 obtain⟨l2,e2⟩:=h2
 simp only[hd,ae4,ae9,afX]at l2
 simp only[afW,afa,aft,afe,ae6,afc,afm]
 refine⟨_,_,_,rfl,Ht (bA (D.aa d2)) (by rw[gY];omega),?_⟩
 rintro _ rfl
 refine⟨_,_,rfl,Mj (D.aa d2) (AF (bA (D.aa d2))) (by omega),fun d4 h4=>?_⟩
 have l4:=afg List.length h4
 simp only[ae4,cG]at l4
 simp only[aeT,aeS]
 refine⟨fun hl=>⟨rfl,Sb ⟨.inl rfl,fun e=>?_⟩⟩,fun hl=>⟨rfl,Sb ⟨.inr ⟨rfl,bA (D.aa d2),?_,?_⟩,fun e=>⟨rfl,?_⟩⟩⟩⟩
 ·have:=afg List.length (e2 e)
  simp[hd,Yd]at this
  omega
 ·show bA (D.aa d4)=_
  rw[h4,zK]
 ·rw[gY];omega
 ·show bA (D.aa d4)=_
  rw[h4,zK,e2 e];rfl
end
section
variable {W:WS} {x:Wl} {f:kb} (hi:x.Yf) (hla:∀e∈x.th,e.r<=x.la)
include hi hla
def abe (x:Wl)(l:List Su)(d:D):Prop:=((d.ae 0).bool=false->(d.ae 1).int≠0)/\((d.ae 0).bool=true->∃t f,t.Perm x.aD/\Gl (HX (D.ae d 3)) (x.wp t f)/\(d.ae 5).aa=l.map fun s=>s.gH.az)
theorem aec (hW:Gl W (x.wo f))(l:List Su)(hl:l.length<2^30)(hs:∀s∈l,s.Bf/\St.cS s.co<2^30):PH xv (Ep W (l.map Su.az)) (Wm W) 3 Cf (abe x l):=by
 have hp:x.aD.Perm x.aD:=ahl _
 have hsub:∀s∈l,s.ok/\St.cS s.co<2^30/\St.mF s.co<2^30/\s.ns.length<2^30/\s.se.length<2^30:=fun s h=>⟨(hs s h).1.ok,(hs s h).2,(hs s h).1.co,(hs s h).1.ns,(hs s h).1.se⟩
 have no:∀e:Int,e≠0->zM.bu=some 3/\∃d,T.dm (BV.tuple [.gT,.int .i64 e],Wm W) (Cf (Ep W (l.map Su.az)) (Wm W) d)/\abe x l d:=fun e he=>⟨rfl,.r [.b false,.z e],.ff rfl .ret,fun _=>he,fun h=>by simp[D.ae,D.at]at h⟩
 have loop:∀(rest:List Su) (i:Nat),l.drop i=rest->aC pg xv [tV,aX] (.bu 3 (Cf (Ep W (l.map Su.az)) (Wm W)) (abe x l)) (xA W (l.map Su.az) i):=by
  intro rest
  induction rest with
  |nil=>
   intro i hd
   have:=drop_nil hd
   refine Hy ?_
   simp only[rk,aeW,aeT,aeS]
   refine⟨fun h=>by omega,fun _=>⟨_,_,rfl,LC hi hp hW,fun d1 h1=>⟨_,_,rfl,LC hi hp hW,fun d2 h2=>⟨_,_,_,rfl,D4 l hl hsub,?_⟩⟩⟩⟩
   rintro _ rfl
   refine⟨_,_,_,rfl,D4 l hl hsub,?_⟩
   rintro _ rfl
   refine⟨rfl,.r [.b true,.z 0,d1,d2,.r (l.map fun s=>s.gH.az),.r (l.map fun s=>s.gH.az)],.tt rfl .ret,fun h=>by simp[D.ae,D.at]at h,fun _=>?_⟩
   obtain⟨t,f',g1,g2⟩:=h2
   exact⟨t,f',g1,g2,rfl⟩
  |cons s rest ih=>
   intro i hd
   obtain⟨k1,k2,k3⟩:=aI hd
   have hm:=aeU k1
   refine Hy ?_
   simp only[rk,aeW,aeT,aeS,ae2,bS k1,aY k3,agB,agq,afF]
   refine⟨fun _=>⟨fun _=>⟨_,_,rfl,aaC hi hla hW s (hs s hm).1,fun d hd2=>⟨fun h=>no _ h,fun _=>?_⟩⟩,fun h=>by cases h⟩,fun h=>by omega⟩
   rw[bO k3 (by omega)]
   exact ih (i+1) k2
 refine Z7 ?_
 simp only[rk,aeW,afv,afd,agq,aeT,aeS]
 exact⟨_,_,rfl,w7 hW,fun d0 h0=>⟨fun _=>no 1 (by decide),fun _=>⟨fun _=>no 4 (by decide),fun _=>loop l 0 rfl⟩⟩⟩
end
section
variable {V U:WS} {x:Wl} {t:aQ} {f:kb} (hi:x.Yf) (ht:t.Perm x.aD) (hk:∀e∈x.th,e.w.k<=16) (hb:61*D.bX x.az<2^39)
include hi ht hk hb
theorem ZN (hW:Gl U (x.wp t f))(l0:List D)(l:List Su)(hl:91*D.bm (l.map Su.az)<2^30)(hs:∀s∈l,s.ok/\St.cS s.co<2^30/\St.mF s.co<2^30/\s.ns.length<2^30/\s.se.length<2^30):PH ld (KR V U l0 (l.map Su.az)) (KS V U l0 (l.map Su.az)) 5 vJ QSn:=by
 have hll:=db (l.map Su.az)
 rw[aeW]at hll
 have hown:∀s:Su,D.bX s.gH.az<=D.bX s.az:=fun s=>by
  unfold Su.gH
  split
  ·exact afa _
  ·rw[Su.ay,Su.ay];simp[D.bX,D.bm]
 have hbs:∀l:List Su,D.bm (l.map fun s=>s.gH.az)<=D.bm (l.map Su.az):=fun l=>by
  induction l with
  |nil=>simp
  |cons s r ih=>have:=hown s;simp only[afP,D.bm];omega
 have hbl:=hbs l
 refine TW ?_
 simp only[rk]
 refine⟨_,_,rfl,LC hi ht hW,fun d0 h0=>?_⟩
 obtain⟨t',f',g1,g2⟩:=h0
 refine⟨_,_,rfl,Gn hi g1 g2,?_⟩
 rintro _ rfl
 refine⟨_,_,rfl,Sp x.az (SK (fun e he=>(hi.w e he).1) hk) (hd 112) (by simp[hd];omega),fun d2 h2=>?_⟩
 obtain⟨l2,-⟩:=h2
 simp only[hd,ae4,ae9,afX]at l2
 refine⟨_,_,_,rfl,D4 l (by omega) hs,?_⟩
 rintro _ rfl
 rw[D.bP]
 refine⟨_,_,rfl,Km _ _ (fun y hy l' hl'=>?_) (by omega),fun d4 h4=>?_⟩
 ·obtain⟨s,hs2,rfl⟩:=afy.1 hy
  have ho:=(hs s hs2).1
  refine TF _ (aat (s:=s.gH) ?_) l' hl'
  have hc:s.gH.co=s.co\/s.gH.co=[]:=by
   unfold Su.gH
   split
   ·exact .inl rfl
   ·exact .inr rfl
  refine⟨ho.1,ho.2.1,?_,?_,ho.2.2.2.2⟩
  ·rcases hc with h|h<;>rw[h]
   ·exact ho.2.2.1
   ·decide
  ·rcases hc with h|h<;>rw[h]
   ·exact ho.2.2.2.1
   ·simp
 obtain⟨l4,-⟩:=h4
 simp only[afW,afa,aft,afe,ae6,afc,afm]
 refine⟨_,_,_,rfl,Ht (bA (D.aa d4)) (by rw[gY];omega),?_⟩
 rintro _ rfl
 refine⟨_,_,rfl,Mj (D.aa d4) (AF (bA (D.aa d4))) (by omega),fun d6 h6=>?_⟩
 have l6:=afg List.length h6
 simp only[ae4,cG]at l6
 simp only[aeT,aeS]
 refine⟨fun hl=>⟨rfl,Sb (.inl rfl)⟩,fun hl=>⟨rfl,Sb (.inr ⟨rfl,bA (D.aa d4),?_,?_⟩)⟩⟩
 ·show bA (D.aa d6)=_
  rw[h6,zK]
 ·rw[gY];omega
end
end
section
def Ly (n:Int)(c:UInt8):Int:=IntKind.u64.wrap (((BitVec.ofInt 64 (IntKind.u64.wrap (n*256)) ||| BitVec.ofInt 64 (IntKind.u64.wrap (c.toNat:Int))).toNat:Nat):Int)
def sg (s:nh):Int:=s.foldl Ly 0
def Mi (s:nh)(h:s.length=8):PH dJ (qa s) (qe s) 1 jC (fun d=>(d.ae 0).int=sg s):=by
 have e8:List.drop 0 (List.take 8 s)=s:=by rw[<-h];simp
 have loop:∀(rest:nh) (i:Nat) (n:Int),s.drop i=rest->aC pg dJ [q9] (.bu 1 (jC (qa s) (qe s)) (fun d=>(d.ae 0).int=rest.foldl Ly n)) (mh s n i):=by
  intro rest
  induction rest with
  |nil=>
   intro i n hd
   have:=drop_nil hd
   refine xJ ?_
   simp only[rk,e8,aeT,aeS]
   exact⟨fun h=>by omega,fun _=>⟨rfl,.r [.z n,.s (List.drop 8 (List.take s.length s))],.ret,rfl⟩⟩
  |cons c rest ih=>
   intro i n hd
   obtain⟨k1,k2,k3⟩:=aI hd
   refine xJ ?_
   have hat:D.at (cH s) i= .z (c.toNat:Int):=wv (by simp[cH,k1])
   simp only[rk,e8,aeT,aeS,aY k3,ae2,gn,hat,D.df]
   refine⟨fun _=>⟨fun _=>⟨fun _=>?_,fun h=>by omega⟩,fun h=>by cases h⟩,fun h=>by omega⟩
   rw[bO k3 (by omega)]
   exact ih (i+1) (Ly n c) k2
 refine JO ?_
 simp only[rk,aeT,aeS,h,afa,aft,afB,agr,afe,ae6,afc,afm]
 exact⟨fun h=>by omega,fun _=>loop s 0 0 rfl⟩
def zd (k:UInt8)(r:nh)(hk:k=0\/k=1):PH bU (As (0::0::0::k::r)) (Aw (0::0::0::k::r)) 1 iB (fun d=>(d.ae 0).int=k.toNat/\(d.ae 1).bj=r):=by
 refine Ie ?_
 have e4:List.drop 0 (List.take 4 ((0:UInt8)::0::0::k::r))=[0,0,0,k]:=rfl
 have er:List.drop 4 (List.take ((0:UInt8)::0::0::k::r).length (0::0::0::k::r))=r:=by rw[afW];rfl
 rw[e4,er]
 have b0:dy 0 [(0:UInt8),0,0,k].length=true:=rfl
 have b1:dy 1 [(0:UInt8),0,0,k].length=true:=rfl
 have b2:dy 2 [(0:UInt8),0,0,k].length=true:=rfl
 have b3:dy 3 [(0:UInt8),0,0,k].length=true:=rfl
 have hlen:4<=((0:UInt8)::0::0::k::r).length:=by simp
 simp only[rk,b0,b1,b2,b3,aeT,aeS,hlen,afa,aft,ahb,agr,afe,ae6,afc,afm]
 refine⟨fun h=>by omega,fun _=>⟨rfl,.r [.z k.toNat,.s r],?_,rfl,rfl⟩⟩
 rcases hk with rfl|rfl<;>exact .ret
def YP (n k:Nat)(K:Int)(hK:K=k)(h:n<2^60):IntKind.i64.wrap (Int.tdiv (n:Int) K)=((n/k:Nat):Int):=by
 subst hK
 have e:Int.tdiv (n:Int) (k:Int)=((n/k:Nat):Int):=by rw[Int.tdiv_eq_ediv_of_nonneg (by omega)];rfl
 have h2:=Nat.div_le_self n k
 rw[e]
 generalize n/k=m at h2
 exact bL (by omega) (by omega)
def acb (r:nh)(hr:r.length<2^60):PH fq (rF (0::0::0::0::r)) (rI (0::0::0::0::r)) 1 ng (fun d=>(d.ae 0).aa=[]/\(d.ae 1).bj=r):=by
 refine GQ ?_
 simp only[rk]
 refine⟨_,_,rfl,zd 0 r (.inl rfl),fun d hd=>?_⟩
 obtain⟨h1,h2⟩:=hd
 rw[h1,h2]
 refine⟨fun h=>?_,fun _=>BZ ?_⟩
 ·have:=YP r.length 4 4 rfl hr
  simp only[aeT]at h
  have e0:((0:UInt8).toNat:Int)=0:=rfl
  omega
 ·simp only[rk]
  exact⟨fun h=>by simp at h,fun _=>⟨rfl,.r [.r [],.s r],.ret,rfl,rfl⟩⟩
def ZD (r:nh)(hr:r.length<2^60):PH eM (qb (0::0::0::0::r)) (qf (0::0::0::0::r)) 1 me (fun d=>(d.ae 0).aa=[]/\(d.ae 1).bj=r):=by
 refine FH ?_
 simp only[rk]
 refine⟨_,_,rfl,zd 0 r (.inl rfl),fun d hd=>?_⟩
 obtain⟨h1,h2⟩:=hd
 rw[h1,h2]
 refine⟨fun h=>?_,fun _=>A1 ?_⟩
 ·have:=YP r.length 5 5 rfl hr
  simp only[aeT]at h
  have e0:((0:UInt8).toNat:Int)=0:=rfl
  omega
 ·simp only[rk]
  exact⟨fun h=>by simp at h,fun _=>⟨rfl,.r [.r [],.s r],.ret,rfl,rfl⟩⟩
def acd (r:nh)(hr:r.length<2^60):PH dQ (oB (0::0::0::0::r)) (oC (0::0::0::0::r)) 1 kH (fun d=>(d.ae 0).aa=[]/\(d.ae 1).bj=r):=by
 refine AH ?_
 simp only[rk]
 refine⟨_,_,rfl,zd 0 r (.inl rfl),fun d hd=>?_⟩
 obtain⟨h1,h2⟩:=hd
 rw[h1,h2]
 refine⟨fun h=>?_,fun _=>nW ?_⟩
 ·have:=YP r.length 4 4 rfl hr
  simp only[aeT]at h
  have e0:((0:UInt8).toNat:Int)=0:=rfl
  omega
 ·simp only[rk]
  exact⟨fun h=>by simp at h,fun _=>⟨rfl,.r [.r [],.s r],.ret,rfl,rfl⟩⟩
def ace (r:nh)(hr:r.length<2^59):PH dQ (oB (0::0::0::1::0::0::0::0::r)) (oC (0::0::0::1::0::0::0::0::r)) 1 kH (fun d=>(d.ae 0).aa=[.z 0]/\(d.ae 1).bj=r):=by
 refine AH ?_
 simp only[rk]
 refine⟨_,_,rfl,zd 1 _ (.inr rfl),fun d hd=>?_⟩
 obtain⟨h1,h2⟩:=hd
 rw[h1,h2]
 refine⟨fun h=>?_,fun _=>nW ?_⟩
 ·have e:=YP ((0:UInt8)::0::0::0::r).length 4 4 rfl (by simp only[ae9];omega)
  simp only[aeT]at h
  have e0:((1:UInt8).toNat:Int)=1:=rfl
  have e1:1<=((0:UInt8)::0::0::0::r).length/4:=by simp only[ae9];omega
  simp only[ae9]at h e e1
  omega
 ·simp only[rk]
  refine⟨fun _=>⟨_,_,rfl,zd 0 r (.inl rfl),fun d2 hd2=>?_⟩,fun h=>absurd h (by decide)⟩
  obtain⟨g1,g2⟩:=hd2
  rw[g1,g2]
  refine⟨fun _=>nW ?_,fun h=>absurd h (by decide)⟩
  simp only[rk]
  exact⟨fun h=>absurd h (by decide),fun _=>⟨rfl,.r [.r [.z 0],.s r],.ret,rfl,rfl⟩⟩
def x0:Wl:=⟨[],[],[],0,[0]⟩
def acF:x0.az= .r [.r [],.r [],.r [],.z 0,.r [.z 0]]:=rfl
def Ke:aK pg bF x0.az=[.bC bY [],.bC ah [],.bC bQ [],.int .i64 0,.bC ah [.z 0]]:=by kernel_rfl
def jr:nh:=[0,0,0,0,0,0,0,0,0,0,0,0,0,0,0,1,0,0,0,0,0,0,0,0]
def WL:PH kL (Au jr) (Ax jr) 1 oG (fun d=>D.ae d 0=x0.az/\(d.ae 1).bj=[]):=by
 refine Ig ?_
 simp only[rk,aft,afe,ae6,afc,afm]
 refine⟨_,_,rfl,acb [0,0,0,0,0,0,0,0,0,0,0,1,0,0,0,0,0,0,0,0] (by decide),fun d0 h0=>?_⟩
 obtain⟨a0,b0⟩:=h0
 rw[a0,b0]
 refine⟨_,_,rfl,acd [0,0,0,0,0,0,0,1,0,0,0,0,0,0,0,0] (by decide),fun d1 h1=>?_⟩
 obtain⟨a1,b1⟩:=h1
 rw[a1,b1]
 refine⟨_,_,rfl,zd 0 [0,0,0,1,0,0,0,0,0,0,0,0] (.inl rfl),fun d2 h2=>?_⟩
 obtain⟨a2,b2⟩:=h2
 rw[a2,b2]
 refine⟨_,_,rfl,ace [0,0,0,0] (by decide),fun d3 h3=>?_⟩
 obtain⟨a3,b3⟩:=h3
 rw[a3,b3]
 refine⟨_,_,rfl,ZD [] (by decide),fun d4 h4=>?_⟩
 obtain⟨a4,b4⟩:=h4
 rw[a4,b4]
 refine⟨rfl,.r [x0.az,.s []],?_,rfl,rfl⟩
 simp only[oG,aS,D.bP]
 have e:D.ae (D.r [x0.az,D.s []]) 0=x0.az:=rfl
 rw[e,Ke]
 rfl
def RK (s:nh):Prop:=17<=s.length->sg (s.drop (s.length-8))≠AF (s.take (s.length-8))
section
variable {s:nh} (hl:s.length<=67108864)
include hl
theorem WI (hw:RK s):PH iF (Gf s 112) (Cb s 112) 2 nf (fun d=>D.int d=270\/D.int d=271):=by
 have no:∀e:Int,e=270\/e=271->yM.bu=some 2/\∃d,T.dm (BV.int .i64 e,Cb s 112) (nf (Gf s 112) (Cb s 112) d)/\(D.int d=270\/D.int d=271):=fun e h=>⟨rfl,.z e,.ret,h⟩
 refine TX ?_
 simp only[rk,aeT,aeS]
 refine⟨fun h=>by omega,fun _=>⟨fun _=>no _ (.inl rfl),fun h17=>?_⟩⟩
 have ew:IntKind.i64.wrap ((s.length:Int)-8)=((s.length-8:Nat):Int):=by rw[bL (by omega) (by omega)];omega
 have hb:dy 8 s.length=true:=by simp[dy];omega
 have h8:8<=s.length:=by omega
 have h8b:s.length-8<=s.length:=by omega
 simp only[ew,ae2,hb,h8,h8b,afa,aft,ahb,agr,afe,ae6,afc,afm,afW,agO]
 refine⟨fun _=>no _ (.inl rfl),fun _=>⟨fun _=>no _ (.inl rfl),fun _=>⟨fun _=>⟨_,_,rfl,Mi _ (by simp;omega),fun d0 h0=>⟨_,_,_,rfl,Ht _ (by simp;omega),?_⟩⟩,fun h=>by omega⟩⟩⟩
 rintro _ rfl
 rw[h0]
 refine⟨fun _=>no _ (.inr rfl),fun h=>?_⟩
 exact absurd (by simpa using h) (hw (by omega))
theorem WJ (hw:17<=s.length->s.getD 8 0≠119\/sg (s.drop (s.length-8))≠AF (s.take (s.length-8))):PH iF (p8 s 119) (mZ s 119) 1 nf (fun d=>(d.ae 0).bool=true/\((d.ae 1).int=270\/(d.ae 1).int=271/\sg (s.drop (s.length-8))≠AF (s.take (s.length-8)))):=by
 have no:∀e:Int,(e=270\/e=271/\sg (s.drop (s.length-8))≠AF (s.take (s.length-8)))->km.bu=some 1/\∃d,T.dm (BV.int .i64 e,mZ s 119) (nf (p8 s 119) (mZ s 119) d)/\(d.ae 0).bool=true/\((d.ae 1).int=270\/(d.ae 1).int=271/\sg (s.drop (s.length-8))≠AF (s.take (s.length-8))):=fun e h=>⟨rfl,.r [.b true,.z e],.tt rfl .ret,rfl,h⟩
 refine FC ?_
 simp only[rk,aeT,aeS]
 refine⟨fun h=>by omega,fun _=>⟨fun _=>no _ (.inl rfl),fun h17=>?_⟩⟩
 have ew:IntKind.i64.wrap ((s.length:Int)-8)=((s.length-8:Nat):Int):=by rw[bL (by omega) (by omega)];omega
 have hb:dy 8 s.length=true:=by simp[dy];omega
 have h8:8<=s.length:=by omega
 have h8b:s.length-8<=s.length:=by omega
 simp only[ew,ae2,hb,h8,h8b,afa,aft,ahb,agr,afe,ae6,afc,afm,afW,agO]
 refine⟨fun _=>no _ (.inl rfl),fun _=>⟨fun _=>no _ (.inl rfl),fun hc=>⟨fun _=>⟨_,_,rfl,Mi _ (by simp;omega),fun d0 h0=>⟨_,_,_,rfl,Ht _ (by simp;omega),?_⟩⟩,fun h=>by omega⟩⟩⟩
 rintro _ rfl
 rw[h0]
 refine⟨fun h=>no _ (.inr ⟨rfl,by simpa using h⟩),fun h=>?_⟩
 rcases hw (by omega)with g|g
 ·refine absurd (ah8.1 ?_) g
  simp only[afF]at hc
  have:(s.getD 8 0).toNat=119:=by omega
  exact this
 ·exact absurd (by simpa using h) g
end
end
def WD (s:nh)(hl:s.length<=67108864)(hw:RK s):PH tw (Nb s) [] 0 IV (fun d=>D.int d=270\/D.int d=271):=by
 refine Xf ?_
 simp only[rk]
 refine⟨_,_,rfl,WI hl hw,fun d hd=>⟨fun _=>⟨rfl,d,.ret,hd⟩,fun h=>?_⟩⟩
 simp only[afF]at h
 omega
def BM (s:nh)(hl:s.length<=67108864)(hw:17<=s.length->s.getD 8 0≠119\/sg (s.drop (s.length-8))≠AF (s.take (s.length-8))):PH ey (xS s) [] 0 oc (fun d=>(d.ae 0).bool=true/\((d.ae 1).int=270\/(d.ae 1).int=271/\sg (s.drop (s.length-8))≠AF (s.take (s.length-8)))):=by
 refine Dl ?_
 simp only[rk]
 refine⟨_,_,rfl,WJ hl hw,fun d hd=>?_⟩
 obtain⟨h1,h2⟩:=hd
 rw[h1]
 refine⟨fun _=>⟨fun _=>⟨rfl,d,.tt h1 .ret,h1,h2⟩,fun h=>?_⟩,fun h=>by cases h⟩
 simp only[afF]at h
 omega
def mE:nh:=lB++bA (mg 8 (AF lB))
def rW:lB=[112,111,115,116,101,114,110,10,119]++jr:=by decide
def zS:mE.length=41:=by simp[mE,rW,jr,gY,cG]
def Hj:mE.take 33=lB:=by
 have:lB.length=33:=by rw[rW];rfl
 rw[mE,<-this,List.take_left]
def Nz:mE.drop 33=bA (mg 8 (AF lB)):=by
 have:lB.length=33:=by rw[rW];rfl
 rw[mE,<-this,List.drop_left]
def VP:(mE.take 33).drop 9=jr:=by rw[Hj,rW];rfl
def VO:mE.getD 8 0=119:=by rw[mE,rW];rfl
def NA:mE.take 8=[112,111,115,116,101,114,110,10]:=by rw[mE,rW];rfl
def WK (hsum:sg (bA (mg 8 (AF lB)))=AF lB):PH iF (p8 mE 119) (mZ mE 119) 1 nf (fun d=>(d.ae 0).bool=false/\(d.ae 2).aa=[]/\(d.ae 3).aa=[]/\(d.ae 4).aa=[]/\(d.ae 5).int=0/\(d.ae 6).aa=[.z 0]):=by
 refine FC ?_
 have ew:IntKind.i64.wrap (((41:Nat):Int)-8)=33:=by decide
 have e33:Int.toNat 33=33:=rfl
 have b8:dy 8 41=true:=rfl
 have hd:([({toBitVec:=112#8}),({toBitVec:=111#8}),({toBitVec:=115#8}),({toBitVec:=116#8}),({toBitVec:=101#8}),({toBitVec:=114#8}),({toBitVec:=110#8}),({toBitVec:=10#8})]:nh)=[112,111,115,116,101,114,110,10]:=rfl
 have hlet:(((119:UInt8).toNat:Int)!=(119:Int))=false:=rfl
 have hall:List.take 41 mE=mE:=by rw[<-zS,afW]
 simp only[rk,zS,ew,e33,b8,hd,VO,NA,hlet,hall,agO,Nz,Hj,beq_self_eq_true,agI,ae0,ae6,afc,afe,afm,afL,aeT,aeS]
 refine⟨fun h=>absurd h (by decide),fun _=>⟨fun h=>absurd h (by decide),fun _=>⟨fun _=>⟨fun _=>⟨fun _=>⟨fun _=>?_,fun h=>absurd h (by decide)⟩,fun h=>absurd h (by decide)⟩,fun h=>absurd h (by decide)⟩,fun h=>absurd h (by decide)⟩⟩⟩
 refine⟨_,_,rfl,Mi _ (by simp[gY,cG]),fun d0 h0=>⟨_,_,_,rfl,Ht _ (by rw[rW];decide),?_⟩⟩
 rintro _ rfl
 rw[h0,hsum,D.df]
 refine⟨fun h=>by simp at h,fun _=>GV ?_⟩
 simp only[rk,zS,ew,e33,VP,afe,aeT,aeS]
 refine⟨fun _=>⟨fun _=>⟨_,_,rfl,WL,fun d4 h4=>?_⟩,fun h=>absurd h (by decide)⟩,fun h=>absurd h (by decide)⟩
 obtain⟨g1,g2⟩:=h4
 rw[g1,g2,Ke]
 exact⟨fun h=>absurd h (by decide),fun _=>⟨rfl,.r [.b false,.z 0,.r [],.r [],.r [],.z 0,.r [.z 0]],.ff rfl .ret,rfl,rfl,rfl,rfl,rfl,rfl⟩⟩
def GR {f:FuncId}{ags ags':List BV}{L L':List (Nat×ax)}{p:Nat}{R:RH}{Q:D->Prop}(h1:ags=ags')(h2:L=L')(h:PH f ags' L' p R Q):PH f ags L p R Q:=by
 subst h1 h2;exact h
def aer:x0.ok:=by
 refine⟨by decide,(fun x h=>by cases h),by decide,(fun x h=>by cases h),by decide,(fun x h=>by cases h),by decide,by decide,by decide,fun x h=>?_⟩
 have:x=0:=by simpa [x0]using h
 omega
def Yb:x0.Bf:=⟨aer,by decide,by decide,by decide,by decide,by intro e he;cases he⟩
def M5 (r:Int)(y:Wh):x0.aD.get r≠some y:=by
 intro h;cases h
def SL:x0.zw where
 par:=by decide
 DU:=rfl
 cut:=by intro c hc;cases hc
 Nu:=by intro i a b h;cases h
 mb:=by
  intro m hm
  have:m=0:=by simpa [x0]using hm
  omega
 la0:=by decide
 la1:=by decide
 rb:=by intro e he;cases he
 KD:=by intro i a b h;cases h
 BC:=by intro e he;cases he
 DS:=by
  intro i m h
  have hm:m∈x0.ma:=aeU h
  have:m=0:=by simpa [x0]using hm
  subst this
  simp[Gt,x0]
 XR:=⟨fun r y h=>absurd h (M5 r y),fun r q y z h=>absurd h (M5 r y),fun r y h=>absurd h (M5 r y)⟩
 Lr:=by decide
def Mh (hsum:sg (bA (mg 8 (AF lB)))=AF lB):PH ey (xS mE) [] 0 oc (fun d=>(d.ae 0).bool=false/\∃f:kb,Gl (HX (D.ae d 2)) (x0.wo f)):=by
 refine Dl ?_
 simp only[rk]
 refine⟨_,_,rfl,WK hsum,fun d hd=>?_⟩
 obtain⟨h0,h2,h3,h4,h5,h6⟩:=hd
 rw[h0,h2,h3,h4,h5,h6]
 refine⟨fun h=>(by cases h),fun _=>?_⟩
 have ea:([.agg [.bC bY [],.bC ah [],.bC bQ [],.int .i64 0,.bC ah [.z 0]]]:List BV)=jA x0.az:=by rw[<-Ke]
 refine⟨_,_,rfl,GR ea rfl (Ru x0 Yb),fun d2 hd2=>?_⟩
 obtain⟨f,-,g1,g2,g3,g4,g5,g6⟩:=hd2.2 SL
 refine⟨fun _=>⟨rfl,.r [.b false,.z 0,ND ⟨(d2.ae 1).aa,(d2.ae 2).aa,gu (D.ae d2 5),hG (D.ae d2 6),hC (D.ae d2 7),gu (D.ae d2 8),hG (D.ae d2 9),hC (D.ae d2 10),(d2.ae 3).int,(d2.ae 4).aa⟩],.ff rfl ?_,rfl,f,?_⟩,fun h=>?_⟩
 ·have e:D.ae (D.r [.b false,.z 0,ND ⟨(d2.ae 1).aa,(d2.ae 2).aa,gu (D.ae d2 5),hG (D.ae d2 6),hC (D.ae d2 7),gu (D.ae d2 8),hG (D.ae d2 9),hC (D.ae d2 10),(d2.ae 3).int,(d2.ae 4).aa⟩]) 2=ND ⟨(d2.ae 1).aa,(d2.ae 2).aa,gu (D.ae d2 5),hG (D.ae d2 6),hC (D.ae d2 7),gu (D.ae d2 8),hG (D.ae d2 9),hC (D.ae d2 10),(d2.ae 3).int,(d2.ae 4).aa⟩:=rfl
  rw[e,E2]
  exact .ret
 ·have e:D.ae (D.r [.b false,.z 0,ND ⟨(d2.ae 1).aa,(d2.ae 2).aa,gu (D.ae d2 5),hG (D.ae d2 6),hC (D.ae d2 7),gu (D.ae d2 8),hG (D.ae d2 9),hC (D.ae d2 10),(d2.ae 3).int,(d2.ae 4).aa⟩]) 2=ND ⟨(d2.ae 1).aa,(d2.ae 2).aa,gu (D.ae d2 5),hG (D.ae d2 6),hC (D.ae d2 7),gu (D.ae d2 8),hG (D.ae d2 9),hC (D.ae d2 10),(d2.ae 3).int,(d2.ae 4).aa⟩:=rfl
  rw[e,E2]
  exact⟨g1,g2,g5,g6,g3,g4⟩
 ·have:=hd2.1.2 SL
  rw[this]at h;cases h
end Go.Proofs
end
