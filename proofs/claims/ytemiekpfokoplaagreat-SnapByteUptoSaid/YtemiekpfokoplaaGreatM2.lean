import Derived.Laws.Strings
import Derived.Test.YtemiekpfokoplaaGreatM1
set_option linter.all false
noncomputable section
open Go.IntKind renaming wrap→wp
namespace Go.PB
open Go
section
section
variable {P:Program} {g:Gh} {h:af} {w:World}
def HF (z:List BV)(n:Nat):(GW z n).length=n*z.length:=by
 induction n with
 |zero=>simp[GW]
 |succ n ih=>simp[GW,ih,Nat.succ_mul];omega
def XF (z:List BV)(hz:0<z.length):∀(n i:Nat),i<n*z.length->(GW z n)[i]?=z[i % z.length]?:=by
 intro n
 induction n with
 |zero=>intro i h;omega
 |succ n ih=>
  intro i hi
  simp only[GW]
  rw[afG]
  split
  ·rename_i hlt;rw[ahX hlt]
  ·rename_i hge
   rw[Nat.succ_mul]at hi
   rw[ih _ (by omega)]
   congr 1
   conv=>rhs;rw[show i=(i-z.length)+z.length by omega,Nat.add_mod_right]
def ak.GW {z:List BV}{zs:Array Value}(hz:ak P g w z zs.toList)(hp:0<z.length)(n:Nat):
 ak P g w (GW z n) ((Array.range (n*z.length)).map (fun i=>zs[i % zs.size]!)).toList:=by
 have hl:=hz.length
 simp at hl
 refine ak.qU (by simp[HF]) fun i b v hb hv=>?_
 have hi:i<n*z.length:=by
  have:=(ae1.1 hb).1
  rwa [HF]at this
 rw[XF z hp n i hi]at hb
 obtain⟨u,hu,hr⟩:=hz.get hb
 have:v=u:=by
  simp only[ahx,Array.toList_range,afE,aip hi,afb,ae3]at hv
  rw[<-hv]
  simp only[afM]at hu
  rw[<-hl]at hu
  simp[getElem!_def,hu]
 rw[this];exact hr
def Ik (hr:aR P g h w){b:Nat}{t:TypeId}{len:Nat}{ps:List (Nat×BV)}{qs:List (Nat×Value)}{v:BV}{h1 h2:af}
 (hp:PG P g w ps qs)(e:xa P h1 t len ps=some (v,h2))(hb:h.get b=h2.get h1.next)(hbn:b=h1.next)(hm:g.m b=none):
 Kh P g h w b v ((Instr.buildSlice t len qs.toArray).run P w):=by
 unfold xa at e
 split at e
 ·rename_i el hu
  split at e
  ·rename_i size' z hs hz
   dsimp only at e
   split at e
   ·cases e
   ·rename_i hc
    simp only[aiI,Nat.not_lt,Decidable.not_not]at hc
    obtain⟨hc1,hc2,hc3⟩:=hc
    cases hf:De (fun i=>some (i*(size'+1),size'+1)) (GW z.cells len) ps with
    |none=>simp[hf]at e
    |some cs=>
     simp only[hf]at e
     split at e
     ·rename_i hone
      obtain⟨z',hz',hzr⟩:=D6 hz w
      have hzc:=(hzr g).cells hc3
      have hzl:=hzc.length
      simp at hzl
      obtain⟨c',hf1,hf2⟩:=J3 ps qs _ cs ((Array.range (len*(size'+1))).map (fun i=>z'.cells[i % z'.cells.size]!)) hp (by
       have:=hzc.GW (by omega) len
       rw[hc2]at this;exact this) hf
      have hrun:(Instr.buildSlice t len qs.toArray).run P w= .ok (.slice (some ⟨w.heap.size,0,none⟩) len len) {w with heap:=w.heap.push (.cells c' el)}:=by
       simp only[Instr.buildSlice,Sem.run_bind,aB hu,Result.andThen_ok,jQ hs]
       rw[aeX (by simp only[ait];omega)]
       simp only[ait]
       by_cases h0:len*(size'+1)=0
       ·rw[aeZ h0]
        have hl0:len=0:=by rcases Nat.mul_eq_zero.1 h0 with h0|h0<;>omega
        subst hl0
        have hfe:Instr.fill (fun i=>some (i*(size'+1),size'+1)) ((Array.range (0*(size'+1))).map (fun i=>(#[]:Array Value)[i % (#[]:Array Value).size]!)) qs=some c':=by
         have e0:(Array.range (0*(size'+1))).map (fun i=>(#[]:Array Value)[i % (#[]:Array Value).size]!)=(Array.range (0*(size'+1))).map (fun i=>z'.cells[i % z'.cells.size]!):=by simp
         rw[e0];exact hf1
        simp only[Sem.run_bind,Sem.run_pure,Result.andThen_ok]
        rw[hfe]
        simp[newRow]
       ·rw[aeX h0]
        simp only[Sem.run_bind,Sem.run_pure,hz',Result.andThen_ok]
        rw[hf1]
        simp[newRow]
      split at e
      ·
       rename_i l hl
       simp only[ae3,afQ]at e
       obtain⟨rfl,rfl⟩:=e
       rw[af.dR,aeZ rfl]at hb
       split at hl
       ·rename_i hsy
        simp only[aeV]at hsy
        obtain⟨hd,hcl⟩:=hsy
        have hcl:=ae8 hcl
        have hso:P.cellsOf el=size'+1:=nL hs
        rw[<-hso]at hl
        obtain⟨hll,hrows⟩:=Rs (g:=g) (w:=w) len hl (by rw[hso];exact hcl)
        have hrv:=hrows _ hf2
        refine⟨_,_,hrun,?_⟩
        have h1':=hr.real (w':={w with heap:=w.heap.push (.cells c' el)}) hb hm rfl ⟨rfl,rfl,rfl⟩ (fun hmono=>by
         simp only[cL]
         exact⟨c',0,0,rfl,xZ.zero _ _ _,c'.toList,hrv.mono hmono.mf hmono.mc,fun i x hi=>by simpa using hi⟩)
        refine⟨h1'.1,h1'.2,?_⟩
        simp only[ai]
        refine .inr ⟨_,_,len,by rw[<-hbn];exact Gh.fU _ _ _ _,rfl,afa _,el,c'.size,by simp[World.shape?],?_⟩
        have:=hf2.length
        simp at this
        rw[hso,this,hcl];omega
       ·cases hl
      simp only[ae3,afQ]at e
      obtain⟨rfl,rfl⟩:=e
      rw[af.dR,aeZ rfl]at hb
      refine⟨_,_,hrun,?_⟩
      have h1':=OT hr (vs:=c'.toList) (c:=c') (lo:=0) (hi:=0) (w':={w with heap:=w.heap.push (.cells c' el)}) hb hm hf2 (fun i x hi=>by simpa using hi) rfl ⟨rfl,rfl,rfl⟩ (by omega) (fun _=>⟨rfl,rfl⟩)
      refine⟨h1'.1,h1'.2,?_⟩
      simp only[ai]
      exact⟨_,_,by rw[<-hbn];exact Gh.fU _ _ _ _,rfl⟩
     ·cases e
  ·cases e
 ·cases e
def Kc {c:Int}(h0:0<=c)(h1:c<2^40):IntKind.i64.wrap c=c:=by
 have e1:(IntKind.i64).bits=64:=rfl
 have e2:(IntKind.i64).signed=true:=rfl
 simp only[wp,e1,e2,afB,aeT]
 have:c % (2^64:Int)=c:=Int.emod_eq_of_lt h0 (by omega)
 rw[this,aeX (by omega)]
def KF {t el:TypeId}{kl kc:IntKind}{li ci:Int}{i:TypeInfo}{z':Value}(hu:P.underlying t=some (.slice el))(hi:P.info? el=some i)(hz':(zeroValue el).run P w= .ok z' w)
 (c1:0<=li)(c2:li<=ci)(c3:ci<2^40)(c4:(i.bytes:Int)*ci<=2^47):
 (Instr.makeSlice t (.int kl li) (.int kc ci)).run P w= .ok (.slice (some ⟨w.heap.size,0,none⟩) li.toNat ci.toNat)
   {w with heap:=w.heap.push (.cells ((Array.range (ci.toNat*i.size)).map (fun j=>z'.cells[j % z'.cells.size]!)) el)}:=by
 have hsz:ia P el=some i.size:=CR hi
 have hw1:=Kc (c:=li) c1 (by omega)
 have hw2:=Kc (c:=ci) (by omega) c3
 simp only[Instr.makeSlice,Sem.run_bind,aB hu,Result.andThen_ok,asInt,asIntOf,Sem.run_pure,D5 hi,hw1,hw2]
 have hd:(decide (ci<0)||decide ((i.bytes:Int)*ci>2^48))=false:=by
  simp only[ahA,aeS];omega
 rw[aeX (by simp only[hd,agU,agd,aeT];omega)]
 simp only[Sem.run_bind,run_askRoom,Result.andThen_ok,jQ hsz]
 by_cases h0:ci.toNat*i.size=0
 ·rw[aeZ h0,h0]
  have e0:Array.range 0=#[]:=rfl
  simp[newRow,e0]
 ·rw[aeX h0]
  simp[newRow,hz']
def yP (el:TypeId)(d:D):∀n,x9 P el (List.replicate n d)=GW (aK P el d) n
 |0=>rfl
 |n+1=>by rw[List.replicate_succ,Hg,yP el d n];rfl
def JY (hr:aR P g h w){b:Nat}{t:TypeId}{l c:BV}{l' c':Value}{v:BV}{h1 h2:af}
 (hl:ai P g w l l')(hc:ai P g w c c')(e:sb P h1 t l c=some (v,h2))(hb:h.get b=h2.get h1.next)(hbn:b=h1.next)(hm:g.m b=none):
 Kh P g h w b v ((Instr.makeSlice t l' c').run P w):=by
 unfold sb at e
 split at e
 ·rename_i el kl li kc ci hu
  simp only[ai]at hl hc
  subst hl hc
  split at e
  ·rename_i i z hi hz
   by_cases hsy:(cy P el&&z.cells.all BV.one)=true
   ·rw[aeZ hsy]at e
    simp only[aeV]at hsy
    obtain⟨hd,hone⟩:=hsy
    split at e
    ·rename_i d hud
     split at e
     ·rename_i hcond
      simp only[aeV,aeT]at hcond
      obtain⟨⟨⟨c1,c2⟩,c3⟩,c4⟩:=hcond
      simp only[ae3,afQ]at e
      obtain⟨rfl,rfl⟩:=e
      rw[af.dR,aeZ rfl]at hb
      obtain⟨z',hz',hzr⟩:=D6 hz w
      have hzc:=(hzr g).cells hone
      have hdz:=Ar hud hzc
      have hso:P.cellsOf el=i.size:=nL (CR hi)
      have hzl:z'.cells.size=i.size:=by have:=mW.length hd hdz;rw[hso]at this;simpa using this
      refine⟨_,_,KF hu hi hz' c1 c2 c3 c4,?_⟩
      have hpos:=(eD hd).2.2.1
      have hsh:=mW.shape hd hdz
      have hrow:cD P g.fz w el (List.replicate li.toNat d) ((Array.range (li.toNat*i.size)).map (fun j=>z'.cells[j % z'.cells.size]!)).toList:=by
       rw[wP hd,yP]
       have:=hsh.GW (by rw[(eD hd).2.2.2 d];exact hpos) li.toNat
       rw[(eD hd).2.2.2 d,hso]at this
       exact this
      have h1':=hr.real (w':={w with heap:=w.heap.push (.cells ((Array.range (ci.toNat*i.size)).map (fun j=>z'.cells[j % z'.cells.size]!)) el)}) hb hm rfl ⟨rfl,rfl,rfl⟩ (fun hmono=>by
       simp only[cL]
       refine⟨_,0,0,rfl,xZ.zero _ _ _,_,hrow.mono hmono.mf hmono.mc,fun j x hj=>?_⟩
       have hle:li.toNat*i.size<=ci.toNat*i.size:=afR _ (by omega)
       rw[afM]at hj
       have hjl:=(aff.1 hj).1
       simp only[Array.size_map,Array.size_range]at hjl
       rw[afT]
       simp only[aiv,aif,hjl,afq,afb,ae3]at hj
       simp only[aiv,aif,show j<ci.toNat*i.size by omega,afq,afb,ae3]
       exact hj)
      refine⟨h1'.1,h1'.2,?_⟩
      simp only[ai]
      refine .inr ⟨_,_,ci.toNat,by rw[<-hbn];exact Gh.fU _ _ _ _,rfl,by omega,el,ci.toNat*i.size,by simp[World.shape?],by rw[hso];omega⟩
     ·cases e
    ·cases e
   rw[aeX hsy]at e;cases e
  ·cases e
 ·cases e
def KH {t:TypeId}{x v:BV}{x':Value}{i:Nat}(hx:ai P g w x x')(e:DR P t x i=some v):
 ∃v',(Instr.fieldAt t x' i).run P w= .ok v' w/\ai P g w v v':=by
 unfold DR at e
 split at e
 ·rename_i fs hu
  cases hf:fs[i]? with
  |none=>simp[hf]at e
  |some f=>
   simp only[hf]at e
   split at e
   ·rename_i n hs
    have hrun:∀a:Addr,(Instr.fieldAt t (.pointer (some a)) i).run P w= .ok (.pointer (some (a.add f.offset))) w:=fun a=>by
     simp only[Instr.fieldAt,Sem.run_bind,aB hu,Result.andThen_ok,hf,Instr.sureAddr,Sem.run_pure,fieldPlace,jQ hs]
     rw[aeX (by omega)]
     simp
    cases x with
    |aG b off=>
     simp only[ae3]at e;subst e
     simp only[ai]at hx
     obtain⟨aA,au,hm,rfl⟩:=hx
     refine⟨_,hrun _,?_⟩
     simp only[ai,kJ]
     exact⟨aA,au,hm,by rw[agj]⟩
    |vF cs=>
     simp only[ae3]at e;subst e
     simp only[ai]at hx
     obtain⟨aA,off,rfl,hf',vs,hv,hc⟩:=hx
     refine⟨_,hrun _,?_⟩
     simp only[ai,kJ]
     exact⟨aA,_,rfl,hf',vs.drop f.offset,hv.drop _,hc.drop⟩
    |vd b e' j off=>
     simp only[ae3]at e;subst e
     simp only[ai]at hx
     obtain⟨aA,au,hm,rfl⟩:=hx
     refine⟨_,hrun _,?_⟩
     simp only[ai,kJ]
     exact⟨aA,au,hm,by simp only[agj]⟩
    |pt b f' k off=>
     simp only[ae3]at e;subst e
     simp only[ai]at hx
     obtain⟨aA,au,hm,rfl,hy⟩:=hx
     refine⟨_,hrun _,?_⟩
     simp only[ai,kJ]
     exact⟨aA,au,hm,by simp only[agj],hy⟩
    |_=>simp at e
   ·cases e
 ·cases e
def NK (w:World)(c:Array Value)(e:TypeId)(k:Nat):
 (World.freeze {w with heap:=w.heap.push (.cells c e (0,0))} ⟨w.heap.size,k,none⟩ 1)={w with heap:=w.heap.push (.cells c e (k,k+1))}:=by
 simp only[World.freeze]
 rw[aeX (by omega)]
 congr 1
 apply agQ
 intro i
 rw[aht]
 by_cases ei:w.heap.size=i
 ·subst ei;simp
 ·rw[aeX ei,agK,agK,aeX (fun e=>ei e.symm),aeX (fun e=>ei e.symm)]
def DK {el:TypeId}(h:Hd P el=true):P.underlying el=some (.int .u8):=by
 unfold Hd at h
 split at h
 ·assumption
 ·cases h
def KY {el:TypeId}(hu:P.underlying el=some (.int .u8))(l:List D):x9 P el l=l.map fun d=>BV.int .u8 d.int:=by
 induction l with
 |nil=>rfl
 |cons a r ih=>simp only[x9,ahS,afP,aK,dw,hu,aie]at ih ⊢;rw[ih]
def Jh {el:TypeId}(hu:P.underlying el=some (.int .u8))(s:List UInt8):ak P g w (x9 P el (cH s)) (s.map fun x=>Value.int .u8 x.toNat):=by
 rw[KY hu,cH,ahp]
 exact ak.map fun a _=>by simp[ai,D.int]
def I9 {el:TypeId}(hd:cy P el=true)(hu:P.underlying el=some (.int .u8)):P.cellsOf el=1:=by
 have h1:=(eD hd).2.2.2 (.z 0)
 simp only[aK,dw,hu,aic]at h1
 exact h1.symm
def Q1 (hr:aR P g h w){b:Nat}{el:TypeId}{s:List UInt8}(hd:cy P el=true)(hu:P.underlying el=some (.int .u8))
 (hb:h.get b=some (.an el (cH s) false))(hm:g.m b=none):Kh P g h w b (.aV b s.length false) ((Conv.stringToBytes el ⟨s.toArray⟩).run P w):=by
 have hso:=I9 hd hu
 have hv:=Jh (P:=P) (g:=g) (w:=w) hu s
 let q:Question:= .appendCap s.length 0 el
 let cap:=q.cut (w.tape w.drawn q)
 have hcap:s.length<=cap:=by
  show s.length<=Question.cut (.appendCap s.length 0 el) _
  simp only[Question.cut];omega
 let c:Array Value:=(s.map fun x=>Value.int .u8 x.toNat).toArray++Array.replicate (cap-s.length) (.int .u8 0)
 have hcs:c.size=cap:=by simp[c];omega
 have hrun:(Conv.stringToBytes el ⟨s.toArray⟩).run P w= .ok (.slice (some ⟨w.heap.size,0,none⟩) s.length cap) {w with heap:=w.heap.push (.cells c el (cap,cap+1)),drawn:=w.drawn+1}:=by
  simp only[Conv.stringToBytes,Sem.run_bind,run_choose,Question.forced,ae0,afS,Result.andThen_ok]
  have e1:(ByteArray.mk s.toArray).size=s.length:=by simp[ByteArray.size]
  simp only[e1,newRow,Sem.run_bind,run_newObj,Result.andThen_ok,Sem.run_pure,markStringish,run_shape]
  have e2:(Array.map (fun (b:UInt8)=>Value.int IntKind.u8 b.toNat) s.toArray++Array.replicate (Question.cut (.appendCap s.length 0 el) (w.tape w.drawn (.appendCap s.length 0 el))-s.length) (Value.int .u8 0))=c:=by
   simp[c,cap,q]
  rw[e2]
  have e3:World.shape? {w with drawn:=w.drawn+1,heap:=w.heap.push (.cells c el)} w.heap.size=some (el,cap):=by
   simp[World.shape?,hcs]
  simp only[e3,run_freeze,Result.andThen_ok]
  have:=NK {w with drawn:=w.drawn+1} c el cap
  simp only at this
  rw[this]
 refine⟨_,_,hrun,?_⟩
 have h1':=hr.real (w':={w with heap:=w.heap.push (.cells c el (cap,cap+1)),drawn:=w.drawn+1}) hb hm rfl ⟨rfl,rfl,rfl⟩ (fun hmono=>by
  simp only[cL]
  refine⟨c,cap,cap+1,rfl,⟨fun i hi=>by omega,fun h=>by simp[Hd,hu]at h⟩,_,((wP hd _ _).2 hv).mono hmono.mf hmono.mc,fun i x hi=>?_⟩
  have hlt:=(ae1.1 hi).1
  simp only[aeW]at hlt
  simp only[c]
  rw[afT,ahJ (by simpa using hlt)]
  simpa using hi)
 refine⟨h1'.1,h1'.2,?_⟩
 simp only[ai]
 refine .inr ⟨_,_,cap,Gh.fU _ _ _ _,rfl,hcap,el,cap,?_,by rw[hso];omega⟩
 simp[World.shape?,hcs]
def w9 {k:IntKind}{n:Int}:(asIntOf (.int k n)).run P w= .ok (k,n) w:=rfl
def Ha.aG {el:TypeId}{l:List D}{aA off i:Nat}(hra:Ha P g.fz w el l aA off)(hd:cy P el=true)(hlt:i<l.length):
 ai P g w (.vF (aK P el (D.at l i))) (.pointer (some (Addr.add ⟨aA,off,none⟩ (i*P.cellsOf el)))):=by
 obtain⟨hf,vs,hv,hat⟩:=hra
 have hx:=hv.2 i (D.at l i) (by simp[D.at,List.getD,aeY hlt])
 simp only[ai,kJ]
 exact⟨aA,_,rfl,hf,_,mW.shape hd hx,hat.drop.take⟩
def KI {t:TypeId}{x ix v:BV}{x' ix':Value}(hx:ai P g w x x')(hi:ai P g w ix ix')(e:hU P t x ix=some v):
 ∃v',(Instr.indexAt t x' ix').run P w= .ok v' w/\ai P g w v v':=by
 unfold hU at e
 cases ix with
 |int k i=>
  simp only[ai]at hi;subst hi
  dsimp only at e
  split at e
  ·cases e
  ·rename_i hneg
   split at e
   ·rename_i el hu
    cases hs:ia P el with
    |none=>simp[hs]at e
    |some size=>
     simp only[hs]at e
     have hrun:∀(a:Addr) (len c:Nat),i.toNat<len->(Instr.indexAt t (.slice (some a) len c) (.int k i)).run P w= .ok (.pointer (some (a.add (i.toNat*size)))) w:=fun a len c hlt=>by
      simp only[Instr.indexAt,Sem.run_bind,w9,Result.andThen_ok,aB hu,Sem.run_pure]
      rw[aeZ ⟨by omega,by omega⟩]
      simp[jQ hs]
     cases x with
     |bC e' l=>
      dsimp only at e
      split at e
      ·rename_i hc
       simp only[aeV]at hc
       obtain⟨he,hd⟩:=hc
       have he:=ae8 he
       subst he
       split at e
       ·rename_i hlt
        simp only[ae3]at e;subst e
        simp only[ai]at hx
        rcases hx with ⟨rfl,_⟩| ⟨aA,off,c,rfl,_,hra⟩
        ·simp at hlt
        ·refine⟨_,hrun _ _ _ hlt,?_⟩
         rw[<-nL hs]
         exact hra.aG hd hlt
       ·cases e
      ·cases e
     |DO e' l=>
      dsimp only at e
      split at e
      ·rename_i hc
       simp only[aeV]at hc
       obtain⟨he,hd⟩:=hc
       have he:=ae8 he
       subst he
       split at e
       ·rename_i hlt
        simp only[ae3]at e;subst e
        simp only[ai]at hx
        rcases hx with ⟨rfl,_⟩| ⟨aA,off,rfl,hra⟩
        ·simp at hlt
        ·refine⟨_,hrun _ _ _ hlt,?_⟩
         rw[<-nL hs]
         exact hra.aG hd hlt
       ·cases e
      ·cases e
     |aV b n vt=>
      dsimp only at e
      split at e
      ·split at e
       ·rename_i hlt
        simp only[ae3]at e;subst e
        simp only[ai]at hx
        rcases hx with ⟨⟨_,rfl⟩,_⟩| ⟨aA,au,c,hm,rfl,_⟩
        ·omega
        ·refine⟨_,hrun _ _ _ hlt,?_⟩
         simp only[ai,kJ]
         exact⟨aA,au,hm,by rw[nL hs,af6]⟩
       ·cases e
      ·cases e
     |PE b n=>
      dsimp only at e
      split at e
      ·rename_i hlt
       simp only[ae3]at e;subst e
       simp only[ai]at hx
       obtain⟨aA,au,hm,rfl⟩:=hx
       refine⟨_,hrun _ _ _ hlt,?_⟩
       simp only[ai,kJ]
       exact⟨aA,au,hm,rfl⟩
      ·cases e
     |_=>simp at e
   ·rename_i len el hu
    cases hs:ia P el with
    |none=>simp[hs]at e
    |some size=>
     simp only[hs]at e
     cases x<;>try (cases e;done)
     rename_i b off
     dsimp only at e
     split at e
     ·rename_i hlt
      simp only[ae3]at e;subst e
      simp only[ai]at hx
      obtain⟨aA,au,hm,rfl⟩:=hx
      refine⟨.pointer (some (Addr.add ⟨aA,au+off,none⟩ (i.toNat*size))),?_,?_⟩
      ·simp only[Instr.indexAt,Sem.run_bind,w9,Result.andThen_ok,aB hu,Instr.sureAddr,Sem.run_pure]
       rw[aeZ ⟨by omega,by omega⟩]
       simp[jQ hs]
      ·simp only[ai,kJ]
       exact⟨aA,au,hm,by rw[agj]⟩
     ·cases e
   ·cases e
 |_=>simp at e
def Uv {t:TypeId}{x ix v:BV}{x' ix':Value}(hx:ai P g w x x')(hi:ai P g w ix ix')(e:GF P t x ix=some v):
 ∃v',(Instr.index t x' ix').run P w= .ok v' w/\ai P g w v v':=by
 unfold GF at e
 cases ix with
 |int k i=>
  simp only[ai]at hi;subst hi
  dsimp only at e
  split at e
  ·cases e
  ·rename_i hneg
   split at e
   ·rename_i s hu
    simp only[ai]at hx;subst hx
    cases hsi:s[i.toNat]? with
    |none=>simp[hsi]at e
    |some c=>
     simp[hsi]at e;subst e
     refine⟨.int .u8 c.toNat,?_,by simp[ai]⟩
     simp only[Instr.index,Sem.run_bind,w9,Result.andThen_ok,aB hu]
     rw[aeZ (by omega)]
     obtain⟨hlt,hcc⟩:=ae1.1 hsi
     have:(ByteArray.mk s.toArray)[i.toNat]?=some c:=by
      rw[getElem?_pos (ByteArray.mk s.toArray) i.toNat (by simpa [ByteArray.size]using hlt)]
      congr 1
     simp[this]
   ·cases e
 |_=>simp at e
def Ut {t:TypeId}{x v:BV}{x':Value}{i:Nat}(hx:ai P g w x x')(e:Qk P t x i=some v):
 ∃v',(Instr.field t x' i).run P w= .ok v' w/\ai P g w v v':=by
 unfold Qk at e
 split at e
 ·rename_i fs cs hu
  cases hf:fs[i]? with
  |none=>simp[hf]at e
  |some f=>
   simp only[hf]at e
   simp only[ai]at hx
   obtain⟨vs,rfl,hv⟩:=hx
   obtain⟨v',h1,h2⟩:=F1 hv e
   refine⟨v',?_,h2⟩
   simp[Instr.field,aB hu,hf,asAgg,h1]
 ·cases e
end
end
section
section
variable {P:Program} {g:Gh} {h:af} {w:World}
def rP {x:Option BV}{x':Option Value}{r:Option Nat}(hx:(x=none/\x'=none)\/∃b v,x=some b/\x'=some v/\ai P g w b v)(e:jF x=some r):
 (x=none/\x'=none/\r=none)\/∃k i,x'=some (.int k i)/\0<=i/\r=some i.toNat:=by
 rcases hx with ⟨rfl,rfl⟩| ⟨b,v,rfl,rfl,hv⟩
 ·simp[jF]at e;exact .inl ⟨rfl,rfl,e.symm⟩
 ·right
  cases b with
  |int k i=>
   simp only[ai]at hv;subst hv
   simp only[jF]at e
   split at e
   ·cases e
   ·cases e;exact⟨k,i,rfl,by omega,rfl⟩
  |_=>simp[jF]at e
def wY (P:Program)(g:Gh)(w:World)(x:Option BV)(x':Option Value):Prop:=(x=none/\x'=none)\/∃b v,x=some b/\x'=some v/\ai P g w b v
def q0 {k:IntKind}{i:Int}{y:Nat}{code:BoundsCode}(h0:0<=i)(h1:i.toNat<=y):(Instr.sliceBound (.int k i) y code).run P w= .ok i.toNat w:=by
 simp only[Instr.sliceBound,Sem.run_bind,w9,Result.andThen_ok]
 rw[aeZ ⟨h0,by omega⟩];rfl
def Ao {lo:Option BV}{lo':Option Value}{l:Option Nat}(hlo:wY P g w lo lo')(el:jF lo=some l)(hh mm:Nat)(code:BoundsCode)(hle:l.getD 0<=hh):
 ((match (generalizing:=false) lo' with
   |some v=>do
    let l<-Instr.sliceBound v hh code
    pure (l,hh,mm)
   |none=>do
    let l<-pure 0
    pure (l,hh,mm)):Sem (Nat×Nat×Nat)).run P w= .ok (l.getD 0,hh,mm) w:=by
 rcases rP hlo el with ⟨_,rfl,rfl⟩| ⟨k,i,rfl,hi0,rfl⟩
 ·rfl
 ·simp only[Sem.run_bind]
  rw[q0 hi0 hle];rfl
def AR {isS:Bool}{len cap:Nat}{lo hi mx:Option BV}{lo' hi' mx':Option Value}{l h' m:Option Nat}(hlo:wY P g w lo lo')(hhi:wY P g w hi hi')(hmx:wY P g w mx mx')
 (el:jF lo=some l)(eh:jF hi=some h')(em:jF mx=some m)(c1:m.getD cap<=cap)(c2:h'.getD len<=m.getD cap)(c3:l.getD 0<=h'.getD len)(c4:m.isNone||h'.isSome):
 (Instr.sliceBounds isS len cap lo' hi' mx').run P w= .ok (l.getD 0,h'.getD len,m.getD cap) w:=by
 rcases rP hmx em with ⟨_,rfl,rfl⟩| ⟨k,i,rfl,hi0,rfl⟩
 ·rcases rP hhi eh with ⟨_,rfl,rfl⟩| ⟨k2,i2,rfl,hi2,rfl⟩
  ·simp only[Instr.sliceBounds,Sem.run_bind,Sem.run_pure,Result.andThen_ok,ahz]at*
   exact Ao hlo el _ _ _ c3
  ·simp only[Instr.sliceBounds,Sem.run_bind,Sem.run_pure,Result.andThen_ok,ahz,af1]at*
   rw[q0 hi2 c2]
   simp only[Result.andThen_ok]
   exact Ao hlo el _ _ _ c3
 ·rcases rP hhi eh with ⟨_,rfl,rfl⟩| ⟨k2,i2,rfl,hi2,rfl⟩
  ·simp at c4
  ·simp only[Instr.sliceBounds,Sem.run_bind,Sem.run_pure,Result.andThen_ok,af1]at*
   rw[q0 hi0 c1]
   simp only[Result.andThen_ok]
   rw[q0 hi2 c2]
   simp only[Result.andThen_ok]
   exact Ao hlo el _ _ _ c3
def pc {t el:TypeId}{size:Nat}{a:Option Addr}{len c:Nat}{lo hi mx:Option BV}{lo' hi' mx':Option Value}{l h' m:Option Nat}(hu:P.underlying t=some (.slice el))(hs:ia P el=some size)
 (hlo:wY P g w lo lo')(hhi:wY P g w hi hi')(hmx:wY P g w mx mx')
 (el':jF lo=some l)(eh:jF hi=some h')(em:jF mx=some m)(c1:m.getD c<=c)(c2:h'.getD len<=m.getD c)(c3:l.getD 0<=h'.getD len)(c4:m.isNone||h'.isSome):
 (Instr.sliceAt t (.slice a len c) lo' hi' mx').run P w= .ok (.slice (if m.getD c=l.getD 0 then a else a.map (·.add (l.getD 0*size))) (h'.getD len-l.getD 0) (m.getD c-l.getD 0)) w:=by
 have hb:=AR (P:=P) (g:=g) (w:=w) (isS:=true) hlo hhi hmx el' eh em c1 c2 c3 c4
 simp only[Instr.sliceAt,Sem.run_bind,aB hu,Result.andThen_ok,Instr.slice,hb,jQ hs,Sem.run_pure]
def R3 (l:List D)(lo hi:Nat):kp l lo hi=(l.take hi).drop lo:=by
 unfold kp
 split
 ·rename_i e;rw[ae8 e];simp
 ·rfl
def TA (m:Option Nat)(e:TypeId)(l:List D):BV:=match m with|none=> .bC e l|some _=> .DO e l
def CP {t el:TypeId}{xs:List D}{x':Value}{lo hi mx:Option BV}{lo' hi' mx':Option Value}{l hh m:Option Nat}(hu:P.underlying t=some (.slice el))(hd:cy P el=true)
 (hx:ai P g w (.bC el xs) x')(hlo:wY P g w lo lo')(hhi:wY P g w hi hi')(hmx:wY P g w mx mx')
 (e1:jF lo=some l)(e2:jF hi=some hh)(e3:jF mx=some m)(c1:∀q,m=some q->q=hh.getD xs.length)(c2:hh.getD xs.length<=xs.length)(c3:l.getD 0<=hh.getD xs.length)(c4:m.isNone||hh.isSome):
 ∃v',(Instr.sliceAt t x' lo' hi' mx').run P w= .ok v' w/\ai P g w (TA m el (kp xs (l.getD 0) (hh.getD xs.length))) v':=by
 have hs:=(eD hd).2.1
 have hlen:(kp xs (l.getD 0) (hh.getD xs.length)).length=hh.getD xs.length-l.getD 0:=by rw[R3];simp;omega
 simp only[ai]at hx
 have key:∀(a:Option Addr) (c:Nat),x'= .slice a xs.length c->xs.length<=c->
  (Instr.sliceAt t x' lo' hi' mx').run P w= .ok (.slice (if m.getD c=l.getD 0 then a else a.map (·.add (l.getD 0*P.cellsOf el))) (hh.getD xs.length-l.getD 0) (m.getD c-l.getD 0)) w:=by
  intro a c hx' hc
  subst hx'
  exact pc hu hs hlo hhi hmx e1 e2 e3 (by cases m with
   |none=>simp
   |some q=>have:=c1 q rfl;simp;omega) (by cases m with
   |none=>simp;omega
   |some q=>have:=c1 q rfl;simp;omega) c3 c4
 have none0:∀(a:Option Addr) (q:Nat),hh.getD xs.length-l.getD 0=0->(m=none->a=none->q=0)->(∀r,m=some r->q=0)->
  ai P g w (TA m el (kp xs (l.getD 0) (hh.getD xs.length))) (.slice a 0 q):=by
  intro a q hz hq1 hq2
  have hnil:kp xs (l.getD 0) (hh.getD xs.length)=[]:=afr.1 (by rw[hlen];exact hz)
  rw[hnil]
  cases m with
  |none=>
   simp only[TA,ai]
   cases a with
   |none=>rw[hq1 rfl rfl];exact .inl ⟨trivial,.inl rfl⟩
   |some a=>exact .inl ⟨trivial,.inr ⟨a,q,rfl⟩⟩
  |some r=>
   simp only[TA,ai]
   rw[hq2 r rfl]
   cases a with
   |none=>exact .inl ⟨trivial,.inl rfl⟩
   |some a=>exact .inl ⟨trivial,.inr ⟨a,rfl⟩⟩
 rcases hx with ⟨rfl,rfl| ⟨a,c,rfl⟩⟩| ⟨aA,off,c,rfl,hc,hf,vs,hv,hat⟩
 ·refine⟨_,key none 0 rfl (afa _),?_⟩
  simp only[afX]at c2 c3 ⊢
  have h0:hh.getD 0-l.getD 0=0:=by omega
  have hn:=none0 (if m.getD 0=l.getD 0 then none else (none:Option Addr).map (·.add (l.getD 0*P.cellsOf el))) (m.getD 0-l.getD 0) h0 (fun hm _=>by subst hm;simp) (fun r hm=>by have:=c1 r hm;subst hm;simp at this ⊢;omega)
  rw[h0];simpa using hn
 ·refine⟨_,key (some a) c rfl (agr _),?_⟩
  simp only[afX]at c2 c3 ⊢
  have h0:hh.getD 0-l.getD 0=0:=by omega
  have hn:=none0 (if m.getD c=l.getD 0 then some a else (some a).map (·.add (l.getD 0*P.cellsOf el))) (m.getD c-l.getD 0) h0 (fun hm ha=>by split at ha<;>simp at ha) (fun r hm=>by have:=c1 r hm;subst hm;simp at this ⊢;omega)
  rw[h0];simpa using hn
 ·refine⟨_,key (some ⟨aA,off,none⟩) c rfl hc,?_⟩
  by_cases h0:hh.getD xs.length-l.getD 0=0
  ·rw[h0]
   exact none0 (if m.getD c=l.getD 0 then some ⟨aA,off,none⟩else (some ⟨aA,off,none⟩:Option Addr).map (·.add (l.getD 0*P.cellsOf el))) (m.getD c-l.getD 0) h0 (fun hm ha=>by split at ha<;>simp at ha) (fun r hm=>by have:=c1 r hm;subst hm;simp at this ⊢;omega)
  ·have hrow:Ha P g.fz w el (kp xs (l.getD 0) (hh.getD xs.length)) aA (off+l.getD 0*P.cellsOf el):=by
    rw[R3]
    exact⟨hf,_,(hv.take _).drop _,hat.take.drop⟩
   cases m with
   |none=>
    simp only[TA,ai,ahz]
    refine .inr ⟨aA,off+l.getD 0*P.cellsOf el,c-l.getD 0,?_,by rw[hlen];omega,hrow⟩
    rw[hlen,aeX (by omega)];simp[kJ]
   |some q=>
    have hq:=c1 q rfl
    simp only[TA,ai,af1]
    refine .inr ⟨aA,off+l.getD 0*P.cellsOf el,?_,hrow⟩
    rw[hlen,aeX (by omega),hq];simp[kJ]
def ai.LV {el:TypeId}{xs:List D}{x':Value}(hx:ai P g w (.DO el xs) x'):ai P g w (.bC el xs) x':=by
 simp only[ai]at hx ⊢
 rcases hx with ⟨h0,h1| ⟨a,h1⟩⟩| ⟨aA,off,h1,h2⟩
 ·exact .inl ⟨h0,.inl h1⟩
 ·exact .inl ⟨h0,.inr ⟨a,0,h1⟩⟩
 ·exact .inr ⟨aA,off,_,h1,afa _,h2⟩
def Uz {t:TypeId}{x v:BV}{x':Value}{lo hi mx:Option BV}{lo' hi' mx':Option Value}(hr:aR P g h w)(hx:ai P g w x x')(hlo:wY P g w lo lo')(hhi:wY P g w hi hi')(hmx:wY P g w mx mx')
 (e:sliceB P t x lo hi mx=some v):∃v',(Instr.sliceAt t x' lo' hi' mx').run P w= .ok v' w/\ai P g w v v':=by
 unfold sliceB at e
 split at e
 ·rename_i l hh m el eh em
  dsimp only at e
  split at e
  ·
   rename_i s hu
   simp only[ai]at hx;subst hx
   split at e
   ·rename_i hc
    simp only[aeV,aeT]at hc
    obtain⟨⟨hm,h1⟩,h2⟩:=hc
    cases e
    refine⟨.string ⟨(((s.take (hh.getD s.length)).drop (l.getD 0))).toArray⟩,?_,by simp[ai]⟩
    have hmn:mx'=none:=by
     rcases rP hmx em with ⟨_,r,_⟩| ⟨k,i,_,_,r⟩
     ·exact r
     ·subst r;simp at hm
    subst hmn
    have e1:(ByteArray.mk s.toArray).size=s.length:=by simp[ByteArray.size]
    have hb:=AR (P:=P) (g:=g) (w:=w) (isS:=false) (len:=s.length) (cap:=s.length) hlo hhi (mx:=none) (mx':=none) (.inl ⟨rfl,rfl⟩) el eh (m:=none) rfl (by simp) (by simpa using h2) h1 (by simp)
    simp only[Instr.sliceAt,Sem.run_bind,aB hu,Result.andThen_ok,Instr.slice,aiy,ae0,afS,e1,hb,Sem.run_pure]
    congr 2
    apply ahc
    simp[ByteArray.data_extract,ahO,<-List.drop_take]
   ·cases e
  ·
   rename_i el' hu
   simp only[ai]at hx;subst hx
   split at e
   ·rename_i hc
    simp only[aeV,aeT]at hc
    obtain⟨⟨⟨h1,h2⟩,h3⟩,h4⟩:=hc
    cases e
    refine⟨.slice none 0 0,?_,by simp[ai]⟩
    cases hs:ia P el' with
    |none=>simp[hs]at h4
    |some size=>
     have:=pc (P:=P) (g:=g) (w:=w) (a:=none) (len:=0) (c:=0) hu hs hlo hhi hmx el eh em (by omega) (by omega) (by omega) (by
      cases m with
      |none=>rfl
      |some m=>rcases rP hmx em with ⟨_,_,r⟩|_
               ·cases r
               ·cases hh with
                |none=>simp[hs]at h4
                |some _=>rfl)
     rw[this,h1,h2,h3];rfl
   ·cases e
  ·
   rename_i elT e' l' hu
   split at e
   ·rename_i hc
    simp only[aeV]at hc
    obtain⟨he,hd⟩:=hc
    have he:=ae8 he
    subst he
    split at e
    ·split at e
     ·rename_i hc
      simp only[aeV,aeT]at hc
      cases e
      exact CP hu hd hx hlo hhi hmx el eh em (fun q hq=>by cases hq) hc.2 hc.1 (by simp)
     ·cases e
    ·rename_i q
     split at e
     ·rename_i hc
      simp only[aeV,aeT]at hc
      obtain⟨⟨⟨hc1,hc2⟩,hc3⟩,hc4⟩:=hc
      have hc1:=ae8 hc1
      cases e
      exact CP hu hd hx hlo hhi hmx el eh em (fun q' hq=>by cases hq;exact hc1) hc4 hc3 (by simp[hc2])
     ·cases e
   ·cases e
  ·
   rename_i elT b n vt hu
   split at e
   ·rename_i hc
    simp only[aeV,aix]at hc
    obtain⟨⟨⟨hd,hc1⟩,hc2⟩,hc3⟩:=hc
    have hc1:=ae8 hc1
    cases e
    have hs:=(eD hd).2.1
    have hh0:hh=some 0:=by cases hh with|none=>simp at hc2|some q=>simp at hc2;rw[hc2]
    have hm0:m=some 0:=by cases m with|none=>simp at hc3|some q=>simp at hc3;rw[hc3]
    subst hh0 hm0
    have key:∀(a:Option Addr) (len c:Nat),(Instr.sliceAt t (.slice a len c) lo' hi' mx').run P w= .ok (.slice a 0 0) w:=by
     intro a len c
     have:=pc (P:=P) (g:=g) (w:=w) (a:=a) (len:=len) (c:=c) hu hs hlo hhi hmx el eh em (by simp) (by simp) (by rw[hc1];simp) (by simp)
     rw[this,hc1];simp
    simp only[ai]at hx ⊢
    rcases hx with ⟨_,rfl| ⟨a,rfl⟩⟩| ⟨aA,au,c,_,rfl,_⟩
    ·exact⟨_,key _ _ _,.inl ⟨trivial,.inl rfl⟩⟩
    ·exact⟨_,key _ _ _,.inl ⟨trivial,.inr ⟨_,rfl⟩⟩⟩
    ·exact⟨_,key _ _ _,.inl ⟨trivial,.inr ⟨_,rfl⟩⟩⟩
   ·split at e
    ·rename_i hc
     simp only[aeV,aix]at hc
     obtain⟨⟨⟨⟨hd,hc1⟩,hi1,hm1⟩,hc2⟩,hc3⟩:=hc
     have hc1:=ae8 hc1
     cases e
     have hs:=(eD hd).2.1
     have hh0:hh=some n:=by cases hh with|none=>simp at hi1|some q=>simp at hc2;rw[hc2]
     have hm0:m=some n:=by cases m with|none=>simp at hm1|some q=>simp at hc3;rw[hc3]
     subst hh0 hm0
     have key:∀(a:Option Addr) (c:Nat),n<=c->(n=0->(Instr.sliceAt t (.slice a n c) lo' hi' mx').run P w= .ok (.slice a 0 0) w)/\(n≠0->∃b',b'=a.map (fun x=>x.add (l.getD 0*(ia P elT).getD 0))/\(Instr.sliceAt t (.slice a n c) lo' hi' mx').run P w= .ok (.slice b' n n) w):=by
      intro a c hnc
      have:=pc (P:=P) (g:=g) (w:=w) (a:=a) (len:=n) (c:=c) hu hs hlo hhi hmx el eh em (by simpa using hnc) (by simp) (by rw[hc1];simp) (by simp)
      rw[this,hc1]
      refine⟨fun h0=>by simp[h0],fun h0=>⟨_,rfl,by simp[h0,hs]⟩⟩
     simp only[ai]at hx ⊢
     rcases hx with ⟨⟨hv,h0⟩,rfl| ⟨a,rfl⟩⟩| ⟨aA,au,c,hm,rfl,hc,e1,n1,q1,q2⟩
     ·subst h0;exact⟨_,(key _ 0 (afa _)).1 rfl,.inl ⟨⟨hv,rfl⟩,.inl rfl⟩⟩
     ·subst h0;exact⟨_,(key _ 0 (afa _)).1 rfl,.inl ⟨⟨hv,rfl⟩,.inr ⟨_,rfl⟩⟩⟩
     ·by_cases h0:n=0
      ·subst h0
       refine⟨_,(key _ c hc).1 rfl,.inr ⟨aA,au,0,hm,rfl,afa _,e1,n1,q1,by omega⟩⟩
      ·obtain⟨b',rfl,k1⟩:=(key (some ⟨aA,au,none⟩) c hc).2 h0
       refine⟨_,k1,.inr ⟨aA,au,n,hm,by simp[hc1,kJ],afa _,e1,n1,q1,?_⟩⟩
       have:=afR (P.cellsOf e1) hc
       omega
    ·cases e
  ·
   rename_i elT e' l' hu
   split at e
   ·rename_i hc
    simp only[aeV]at hc
    obtain⟨he,hd⟩:=hc
    have he:=ae8 he
    subst he
    have hx:=hx.LV
    split at e
    ·split at e
     ·rename_i hc
      simp only[aeV,aeT]at hc
      cases e
      exact CP hu hd hx hlo hhi hmx el eh em (fun q hq=>by cases hq) hc.2 hc.1 (by simp)
     ·cases e
    ·rename_i q
     split at e
     ·rename_i hc
      simp only[aeV,aeT]at hc
      obtain⟨⟨⟨hc1,hc2⟩,hc3⟩,hc4⟩:=hc
      have hc1:=ae8 hc1
      cases e
      exact CP hu hd hx hlo hhi hmx el eh em (fun q' hq=>by cases hq;exact hc1) hc4 hc3 (by simp[hc2])
     ·cases e
   ·cases e
  ·cases e
 ·cases e
end
end
section
section
variable {P:Program} {g:Gh} {h:af} {w:World}
def KU (a b:List UInt8):(ByteArray.mk a.toArray==ByteArray.mk b.toArray)=(a==b):=by
 rw[afo]
 constructor
 ·intro h
  have:(a.toArray==b.toArray)=true:=h
  simpa using this
 ·intro h
  have:a=b:=by simpa using h
  subst this
  show (a.toArray==a.toArray)=true
  simp
def Rb {E:TypeId->BV->BV->Option Bool}{E':TypeId->Value->Value->Sem Bool}
 (hE:∀t x y x' y' r,ai P g w x x'->ai P g w y y'->E t x y=some r->(E' t x' y').run P w= .ok r w):
 ∀(fs:List Field) (xs ys:List BV) (xs' ys':Array Value) (r:Bool),ak P g w xs xs'.toList->ak P g w ys ys'.toList->qx P E fs xs ys=some r->
 (forIn fs ((none,()):Option Bool×Unit) (fun f __s=>
   if f.name≠ "_" then do
    let __do_lift<-part f.type xs' f.offset
    let __do_lift_1<-part f.type ys' f.offset
    let __do_lift<-E' f.type __do_lift __do_lift_1
    if (!__do_lift)=true then pure (ForInStep.done (some false,()))else pure (ForInStep.yield (none,()))
   else pure (ForInStep.yield (none,()))):Sem (Option Bool×Unit)).run P w= .ok ((if r then none else some false),()) w:=by
 intro fs
 induction fs with
 |nil=>intro xs ys xs' ys' r _ _ e;simp[qx]at e;subst e;simp
 |cons f fs ih=>
  intro xs ys xs' ys' r hx hy e
  simp only[qx]at e
  simp only[ah4,Sem.run_bind]
  by_cases hn:f.name≠ "_"
  ·rw[aeZ hn]at e
   rw[aeZ hn]
   split at e
   ·rename_i a b ha hb
    obtain⟨a',ha1,ha2⟩:=F1 hx ha
    obtain⟨b',hb1,hb2⟩:=F1 hy hb
    simp only[Sem.run_bind,ha1,hb1,Result.andThen_ok]
    split at e
    ·rename_i he
     rw[hE _ _ _ _ _ _ ha2 hb2 he]
     simp only[Result.andThen_ok,agI,ae0,afS,Sem.run_pure]
     exact ih xs ys xs' ys' r hx hy e
    ·rename_i he
     rw[hE _ _ _ _ _ _ ha2 hb2 he]
     cases e
     simp
    ·cases e
   ·cases e
  ·rw[aeX hn]at e
   rw[aeX hn]
   simp only[Sem.run_pure,Result.andThen_ok]
   exact ih xs ys xs' ys' r hx hy e
def Ft {x:BV}{x':Value}{b:Bool}(hx:ai P g w x x')(e:WU x=some b):∃a:Option Addr,x'= .pointer a/\a.isNone=b:=by
 unfold WU at e
 split at e<;>cases e<;>simp only[ai]at hx
 ·exact⟨_,hx,rfl⟩
 ·obtain⟨_,_,_,rfl⟩:=hx;exact⟨_,rfl,rfl⟩
 ·obtain⟨_,_,rfl,_⟩:=hx;exact⟨_,rfl,rfl⟩
 ·obtain⟨_,_,_,rfl,_⟩:=hx;exact⟨_,rfl,rfl⟩
def Fu {x:BV}{x':Value}{b:Bool}(hx:ai P g w x x')(e:Ml x=some b):∃(a:Option Addr) (l c:Nat),x'= .slice a l c/\a.isNone=b:=by
 unfold Ml at e
 split at e<;>cases e<;>simp only[ai]at hx
 ·exact⟨_,_,_,hx,rfl⟩
 ·obtain⟨_,_,rfl⟩:=hx;exact⟨_,_,_,rfl,rfl⟩
 ·rcases hx with ⟨h0,_⟩| ⟨_,_,_,rfl,_⟩
  ·cases h0
  ·exact⟨_,_,_,rfl,rfl⟩
 ·rcases hx with ⟨⟨_,h0⟩,_⟩| ⟨_,_,_,_,rfl,_⟩
  ·cases h0
  ·exact⟨_,_,_,rfl,rfl⟩
def Fs {x:BV}{x':Value}{b:Bool}(hx:ai P g w x x')(e:WT x=some b):∃a:Option Nat,x'= .map a/\a.isNone=b:=by
 unfold WT at e
 split at e<;>cases e<;>simp only[ai]at hx
 ·exact⟨_,hx,rfl⟩
 ·obtain⟨_,_,rfl⟩:=hx;exact⟨_,rfl,rfl⟩
def Aj {a b:Option Bool}{r:Bool}(e:Fq a b=some r):(a=some true/\b=some r)\/(b=some true/\a=some r):=by
 revert e
 unfold Fq
 split
 ·intro e;exact .inl ⟨rfl,e⟩
 ·intro e;exact .inr ⟨rfl,e⟩
 ·intro e;cases e
def XJ (hr:aR P g h w):∀(d:Nat) (t:TypeId) (x y:BV) (x' y':Value) (r:Bool),ai P g w x x'->ai P g w y y'->Eg P d t x y=some r->
 ∀D,d<=D->(Op.equalIn D t x' y').run P w= .ok r w:=by
 intro d
 induction d with
 |zero=>intro t x y x' y' r _ _ e;simp[Eg]at e
 |succ d ih=>
  intro t x y x' y' r hx hy e D hD
  obtain⟨D,rfl⟩:∃D',D=D'+1:=⟨D-1,by omega⟩
  have hD':d<=D:=by omega
  unfold Eg at e
  split at e
  ·rename_i a b hu
   simp only[ai]at hx hy;subst hx hy
   cases e
   refine(Sem.run_bind P w (underlying t) _).trans ?_
   rw[aB hu,Result.andThen_ok];rfl
  ·rename_i k a k' b hu
   simp only[ai]at hx hy;subst hx hy
   split at e
   ·rename_i hk;subst hk
    cases e
    refine(Sem.run_bind P w (underlying t) _).trans ?_
    rw[aB hu,Result.andThen_ok]
    show Sem.run P (if k=k then pure (a==b)else _) w=_
    rw[aeZ rfl];rfl
   ·cases e
  ·rename_i a b hu
   simp only[ai]at hx hy;subst hx hy
   cases e
   refine(Sem.run_bind P w (underlying t) _).trans ?_
   rw[aB hu,Result.andThen_ok,<-KU];rfl
  ·rename_i el hu
   rcases Aj e with ⟨k1,k2⟩| ⟨k1,k2⟩
   ·obtain⟨a,rfl,a2⟩:=Ft hx k1
    obtain⟨c,rfl,c2⟩:=Ft hy k2
    cases a<;>simp only[Option.isNone]at a2<;>cases a2
    refine(Sem.run_bind P w (underlying t) _).trans ?_
    rw[aB hu,Result.andThen_ok]
    cases c<;>cases c2<;>rfl
   ·obtain⟨a,rfl,a2⟩:=Ft hx k2
    obtain⟨c,rfl,c2⟩:=Ft hy k1
    cases c<;>simp only[Option.isNone]at c2<;>cases c2
    refine(Sem.run_bind P w (underlying t) _).trans ?_
    rw[aB hu,Result.andThen_ok]
    cases a<;>cases a2<;>rfl
  ·rename_i _ hu
   simp only[ai]at hx hy;subst hx;subst hy;cases e
   refine(Sem.run_bind P w (underlying t) _).trans ?_
   rw[aB hu,Result.andThen_ok];rfl
  ·rename_i el hu
   rcases Aj e with ⟨k1,k2⟩| ⟨k1,k2⟩
   ·obtain⟨a,_,_,rfl,a2⟩:=Fu hx k1
    obtain⟨c,_,_,rfl,c2⟩:=Fu hy k2
    cases a<;>simp only[Option.isNone]at a2<;>cases a2
    refine(Sem.run_bind P w (underlying t) _).trans ?_
    rw[aB hu,Result.andThen_ok]
    cases c<;>cases c2<;>rfl
   ·obtain⟨a,_,_,rfl,a2⟩:=Fu hx k2
    obtain⟨c,_,_,rfl,c2⟩:=Fu hy k1
    cases c<;>simp only[Option.isNone]at c2<;>cases c2
    refine(Sem.run_bind P w (underlying t) _).trans ?_
    rw[aB hu,Result.andThen_ok]
    cases a<;>cases a2<;>rfl
  ·rename_i kt el hu
   rcases Aj e with ⟨k1,k2⟩| ⟨k1,k2⟩
   ·obtain⟨a,rfl,a2⟩:=Fs hx k1
    obtain⟨c,rfl,c2⟩:=Fs hy k2
    cases a<;>simp only[Option.isNone]at a2<;>cases a2
    refine(Sem.run_bind P w (underlying t) _).trans ?_
    rw[aB hu,Result.andThen_ok]
    cases c<;>cases c2<;>rfl
   ·obtain⟨a,rfl,a2⟩:=Fs hx k2
    obtain⟨c,rfl,c2⟩:=Fs hy k1
    cases c<;>simp only[Option.isNone]at c2<;>cases c2
    refine(Sem.run_bind P w (underlying t) _).trans ?_
    rw[aB hu,Result.andThen_ok]
    cases a<;>cases a2<;>rfl
  ·rename_i ft xs ys hu
   simp only[ai]at hx hy
   obtain⟨xs',rfl,hx⟩:=hx
   obtain⟨ys',rfl,hy⟩:=hy
   split at e
   ·cases e
   ·rename_i hst
    have hst:P.stoodInHeld t=false:=by simpa using hst
    have:=Rb (P:=P) (g:=g) (w:=w) (E:=Eg P d) (E':=Op.equalIn D) (fun t x y x' y' r hx hy e=>ih t x y x' y' r hx hy e D hD') ft.toList xs ys xs' ys' r hx hy e
    refine(Sem.run_bind P w (underlying t) _).trans ?_
    rw[aB hu,Result.andThen_ok]
    refine(Sem.run_bind P w program _).trans ?_
    rw[run_program,Result.andThen_ok,hst]
    rw[<-ahI]
    refine(Sem.run_bind P w _ _).trans ?_
    rw[this]
    cases r<;>rfl
  ·cases e
end
end
section
section
variable {P:Program} {g:Gh} {h:af} {w:World}
def LN (a:List UInt8):(ByteArray.mk a.toArray).toList=a:=by
 rw[ByteArray.toList_eq]
def LM (a b:List UInt8):ByteArray.mk a.toArray++ByteArray.mk b.toArray=ByteArray.mk (a++b).toArray:=by
 apply ahc
 simp
def HR:Value->Nat
 | .int .. =>1| .float .. =>2| .complex .. =>3| .string .. =>4|_=>0
def RV:BV->Nat
 | .int .. =>1| .bj .. =>4|_=>0
def ai.kind {b:BV}{v:Value}(hv:ai P g w b v)(hk:b.tU=true):RV b=HR v:=by
 cases b<;>simp only[ai]at hv<;>first
  | (simp[BV.tU]at hk;done)
  | (subst hv;rfl)
  | (rcases hv with ⟨_,rfl| ⟨_,_,rfl⟩⟩| ⟨_,_,_,rfl,_⟩<;>rfl)
  | (rcases hv with ⟨_,rfl| ⟨_,rfl⟩⟩| ⟨_,_,rfl,_⟩<;>rfl)
  | (rcases hv with ⟨_,rfl| ⟨_,rfl⟩⟩| ⟨_,_,_,_,rfl,_⟩<;>rfl)
  | (obtain⟨_,rfl,_⟩:=hv;rfl)
  | (obtain⟨_,_,rfl⟩:=hv;rfl)
  | (obtain⟨_,_,rfl,_⟩:=hv;rfl)
  | (obtain⟨_,_,_,rfl⟩:=hv;rfl)
  | (obtain⟨_,_,_,rfl,_⟩:=hv;rfl)
  | (obtain⟨_,_,_,_,rfl,_⟩:=hv;rfl)
def Bk (t:TypeId){x y:Value}(hk:HR x≠HR y\/HR x=0):
 binOp .eql t x y=(do pure (.bool (<-Op.equal t x y)))/\binOp .neq t x y=(do pure (.bool (!(<-Op.equal t x y)))):=by
 cases x<;>cases y<;>first
  |exact⟨rfl,rfl⟩
  | (simp[HR]at hk;done)
def K5 {d:Nat}{t:TypeId}{x y:BV}{r:Bool}(e:Eg P (d+1) t x y=some r):x.tU=true/\y.tU=true:=by
 have hp:∀{x:BV} {b:Bool},WU x=some b->x.tU=true:=fun {x b} h=>by cases x<;>first|rfl|cases h
 have hm:∀{x:BV} {b:Bool},WT x=some b->x.tU=true:=fun {x b} h=>by cases x<;>first|rfl|cases h
 have hs:∀{x:BV} {b:Bool},Ml x=some b->x.tU=true:=fun {x b} h=>by cases x<;>first|rfl|cases h
 unfold Eg at e
 split at e<;>first
  |exact⟨rfl,rfl⟩
  | (cases e;done)
  | (rcases Aj e with ⟨k1,k2⟩| ⟨k1,k2⟩<;>first|exact⟨hp k1,hp k2⟩|exact⟨hp k2,hp k1⟩|exact⟨hm k1,hm k2⟩|exact⟨hm k2,hm k1⟩|exact⟨hs k1,hs k2⟩|exact⟨hs k2,hs k1⟩)
def aaw (hr:aR P g h w){op:BinOp}{t:TypeId}{x y v:BV}{x' y':Value}(hx:ai P g w x x')(hy:ai P g w y y')(e:zJ P op t x y=some v):
 ∃v',(binOp op t x' y').run P w= .ok v' w/\ai P g w v v':=by
 have heq:∀r,Eg P 12 t x y=some r->(Op.equal t x' y').run P w= .ok r w:=fun r hb=>XJ hr 12 t x y x' y' r hx hy hb Op.maxDepth (by unfold Op.maxDepth;omega)
 by_cases hi:∃k a k' b,x= .int k a/\y= .int k' b
 ·obtain⟨k,a,k',b,rfl,rfl⟩:=hi
  simp only[ai]at hx hy;subst hx hy
  by_cases hs:op= .shl\/op= .shr
  ·rcases hs with rfl|rfl
   ·simp only[zJ]at e
    split at e
    ·cases e
    ·rename_i hb
     cases e
     exact⟨_,by simp only[binOp,Op.shift];rw[aeX hb];rfl,by simp[ai]⟩
   ·simp only[zJ]at e
    split at e
    ·cases e
    ·rename_i hb
     cases e
     exact⟨_,by simp only[binOp,Op.shift];rw[aeX hb];rfl,by simp[ai]⟩
  ·have hne:op≠ .shl/\op≠ .shr:=by
    constructor<;>intro h'<;>exact hs (by simp[h'])
   have e':(if k≠k' then none else
    match op with
    | .add=>some (BV.int k (k.wrap (a+b)))
    | .sub=>some (.int k (k.wrap (a-b)))
    | .mul=>some (.int k (k.wrap (a*b)))
    | .quo=>if b=0 then none else some (.int k (k.wrap (a.tdiv b)))
    | .rem=>if b=0 then none else some (.int k (a.tmod b))
    | .and=>some (.int k (k.wrap (BitVec.ofInt k.bits a &&& BitVec.ofInt k.bits b).toNat))
    | .or=>some (.int k (k.wrap (BitVec.ofInt k.bits a ||| BitVec.ofInt k.bits b).toNat))
    | .xor=>some (.int k (k.wrap (BitVec.ofInt k.bits a ^^^ BitVec.ofInt k.bits b).toNat))
    | .andNot=>some (.int k (k.wrap (BitVec.ofInt k.bits a &&& ~~~(BitVec.ofInt k.bits b)).toNat))
    | .eql=>some (.bool (a==b))
    | .neq=>some (.bool (a !=b))
    | .lss=>some (.bool (decide (a<b)))
    | .leq=>some (.bool (decide (a<=b)))
    | .gtr=>some (.bool (decide (a>b)))
    | .geq=>some (.bool (decide (a≥b)))
    |_=>none)=some v:=by
    rw[<-e];cases op<;>first|rfl| (exact absurd rfl hne.1)| (exact absurd rfl hne.2)
   split at e'
   ·cases e'
   ·rename_i hk
    have hk:k=k':=by simpa using hk
    subst hk
    cases op<;>dsimp only at e'
    case quo=>
     split at e'
     ·cases e'
     ·rename_i hb;cases e'
      exact⟨_,by simp only[binOp];rw[aeX (by simp)];simp only[Op.intDiv];rw[aeX hb];rfl,by simp[ai]⟩
    case rem=>
     split at e'
     ·cases e'
     ·rename_i hb;cases e'
      exact⟨_,by simp only[binOp];rw[aeX (by simp)];simp only[Op.intDiv];rw[aeX hb];rfl,by simp[ai]⟩
    all_goals first
     | (cases e';done)
     | (cases e';exact⟨_,by simp only[binOp];rw[aeX (by simp)];rfl,by simp only[ai]⟩)
 by_cases hst:∃a b,x= .bj a/\y= .bj b
 ·obtain⟨a,b,rfl,rfl⟩:=hst
  simp only[ai]at hx hy;subst hx hy
  have hb:∀op,op≠ .shl->op≠ .shr->binOp op t (.string ⟨a.toArray⟩) (.string ⟨b.toArray⟩)=Op.stringOp op ⟨a.toArray⟩ ⟨b.toArray⟩:=fun op h1 h2=>by
   cases op<;>first|rfl| (exact absurd rfl h1)| (exact absurd rfl h2)
  cases op<;>simp only[zJ]at e
  case add=>
   split at e
   ·rename_i hl
    cases e
    refine⟨.string ⟨(a++b).toArray⟩,?_,by simp[ai]⟩
    rw[hb _ (by simp) (by simp)]
    simp only[Op.stringOp]
    rw[aeX (by simp only[ByteArray.size,List.size_toArray];simp only[IntKind.max,IntKind.signed,IntKind.bits,afq];omega),LM]
    rfl
   ·cases e
  all_goals first
   | (cases e;done)
   | (cases e;refine⟨_,by rw[hb _ (by simp) (by simp)];simp only[Op.stringOp,LN,Sem.run_pure];rfl,?_⟩;simp[ai,EN])
   | (simp[Eg]at e)
 have hop:(op= .eql/\(Eg P 12 t x y).map BV.bool=some v)\/(op= .neq/\(Eg P 12 t x y).map (fun b=>BV.bool (!b))=some v):=by
  unfold zJ at e
  split at e
  ·exact absurd ⟨_,_,_,_,rfl,rfl⟩ hi
  ·exact absurd ⟨_,_,_,_,rfl,rfl⟩ hi
  ·exact absurd ⟨_,_,_,_,rfl,rfl⟩ hi
  ·exact absurd ⟨_,_,rfl,rfl⟩ hst
  ·exact .inl ⟨rfl,e⟩
  ·exact .inr ⟨rfl,e⟩
  ·cases e
 have bE:∀r,Eg P 12 t x y=some r->(HR x'≠HR y'\/HR x'=0):=fun r hb=>by
  obtain⟨k1,k2⟩:=K5 hb
  rw[<-ai.kind hx k1,<-ai.kind hy k2]
  by_cases h0:RV x=0
  ·exact .inr h0
  ·left
   cases x<;>simp[RV]at h0<;>cases y<;>simp[RV]<;>first
    |exact absurd ⟨_,_,_,_,rfl,rfl⟩ hi
    |exact absurd ⟨_,_,rfl,rfl⟩ hst
 rcases hop with ⟨rfl,hv⟩| ⟨rfl,hv⟩
 ·cases hb:Eg P 12 t x y with
  |none=>simp[hb]at hv
  |some r=>
   simp[hb]at hv;subst hv
   exact⟨.bool r,by rw[(Bk t (bE r hb)).1];simp[heq r hb],by simp[ai]⟩
 ·cases hb:Eg P 12 t x y with
  |none=>simp[hb]at hv
  |some r=>
   simp[hb]at hv;subst hv
   exact⟨.bool (!r),by rw[(Bk t (bE r hb)).2];simp[heq r hb],by simp[ai]⟩
end
end
section
section
variable {P:Program} {g:Gh} {h:af} {w:World}
def acv {op:UnOp}{x v:BV}{x':Value}(hx:ai P g w x x')(e:unB op x=some v):∃v',(Op.unary op x').run P w= .ok v' w/\ai P g w v v':=by
 unfold unB at e
 split at e
 ·simp only[ai]at hx;subst hx;cases e;exact⟨_,rfl,by simp[ai]⟩
 ·simp only[ai]at hx;subst hx;cases e;exact⟨_,rfl,by simp[ai]⟩
 ·simp only[ai]at hx;subst hx;cases e;exact⟨_,rfl,by simp[ai]⟩
 ·cases e
end
end
section
section
variable {P:Program} {g:Gh} {h:af} {w w':World}
def mU {t:TypeId}(hk:An P t=true):cy P t=true/\((∃k,P.underlying t=some (.int k))\/P.underlying t=some .bool\/P.underlying t=some .string\/∃fs,P.underlying t=some (.struct fs)/\pb P fs.toList 0=true/\P.stoodInHeld t=false):=by
 unfold An at hk
 simp only[aeV]at hk
 refine⟨hk.1,?_⟩
 have h2:=hk.2
 split at h2
 ·rename_i k hu;exact .inl ⟨k,hu⟩
 ·rename_i hu;exact .inr (.inl hu)
 ·rename_i hu;exact .inr (.inr (.inl hu))
 ·rename_i fs hu
  simp only[aeV,afu]at h2
  exact .inr (.inr (.inr ⟨fs,hu,h2⟩))
 ·cases h2
def uy (P:Program)(t:TypeId)(d:D):BV:=
 match P.underlying t with
 |some (.int k)=> .int k d.int
 |some .bool=> .bool d.bool
 |some .string=> .bj d.bj
 |_=> .kC
def Q6 (P:Program)(t:TypeId):Prop:=(∃k,P.underlying t=some (.int k))\/P.underlying t=some .bool\/P.underlying t=some .string
def D7 {t:TypeId}(hs:Q6 P t)(n:Nat)(d:D):dw P (n+1) t d=[uy P t d]:=by
 rcases hs with ⟨k,hu⟩|hu|hu<;>simp[dw,uy,hu]
def SC {t:TypeId}(hs:Q6 P t){a b:D}(ha:zv P t a)(hb:zv P t b)(m:Nat):Eg P (m+1) t (uy P t a) (uy P t b)=some (D.AA a b):=by
 have key:∀{x y:Bool},(x=true↔y=true)->(some x:Option Bool)=some y:=fun hxy=>by congr 1;exact afo.2 hxy
 rcases hs with ⟨k,hu⟩|hu|hu
 ·cases ha with
  |int h1 n=>cases hb with
   |int h2 n'=>simp only[uy,hu,Eg,D.int,afq];exact key (by rw[D.oO];simp)
   |bool h2=>rw[hu]at h2;cases h2
   |bj h2=>rw[hu]at h2;cases h2
   |struct h2=>rw[hu]at h2;cases h2
  |bool h2=>rw[hu]at h2;cases h2
  |bj h2=>rw[hu]at h2;cases h2
  |struct h2=>rw[hu]at h2;cases h2
 ·cases ha with
  |bool h1 n=>cases hb with
   |bool h2 n'=>simp only[uy,hu,Eg,D.bool];exact key (by rw[D.oO];simp)
   |int h2=>rw[hu]at h2;cases h2
   |bj h2=>rw[hu]at h2;cases h2
   |struct h2=>rw[hu]at h2;cases h2
  |int h2=>rw[hu]at h2;cases h2
  |bj h2=>rw[hu]at h2;cases h2
  |struct h2=>rw[hu]at h2;cases h2
 ·cases ha with
  |bj h1 n=>cases hb with
   |bj h2 n'=>simp only[uy,hu,Eg,D.bj];exact key (by rw[D.oO];simp)
   |int h2=>rw[hu]at h2;cases h2
   |bool h2=>rw[hu]at h2;cases h2
   |struct h2=>rw[hu]at h2;cases h2
  |int h2=>rw[hu]at h2;cases h2
  |bool h2=>rw[hu]at h2;cases h2
  |struct h2=>rw[hu]at h2;cases h2
def vE {f:Field}{r:List Field}{i:Nat}(e:pb P (f::r) i=true):f.name≠ "_"/\f.offset=i/\Q6 P f.type/\ia P f.type=some 1/\pb P r (i+1)=true:=by
 simp only[pb,aeV]at e
 obtain⟨⟨⟨⟨h1,h2⟩,h3⟩,h4⟩,h5⟩:=e
 refine⟨by simpa using h1,ae8 h2,?_,?_,h5⟩
 ·split at h3
  ·rename_i k hu;exact .inl ⟨k,hu⟩
  ·rename_i hu;exact .inr (.inl hu)
  ·rename_i hu;exact .inr (.inr hu)
  ·cases h3
 ·split at h4
  ·rename_i n hn;rw[hn,ae8 h4]
  ·cases h4
def B7 (n:Nat)(d:D):∀(fs:List Field) (i:Nat),pb P fs i=true->∀(j:Nat) (f:Field),fs[j]?=some f->(gi (dw P (n+1)) fs i d)[j]?=some (uy P f.type (d.ae (i+j)))
 | [],_,_,j,f,hf=>by simp at hf
 |x::r,i,hp,j,f,hf=>by
  obtain⟨_,_,h3,_,h5⟩:=vE hp
  simp only[gi]
  rw[D7 h3]
  cases j with
  |zero=>simp at hf;subst hf;simp
  |succ j=>
   simp at hf
   have:=B7 n d r (i+1) h5 j f hf
   rw[show i+1+j=i+(j+1)by omega]at this
   simpa using this
def Bt (m:Nat){xs ys:List BV}{a b:List D}:∀(fs:List Field) (i:Nat),pb P fs i=true->
 (∀(j:Nat) (f:Field),fs[j]?=some f->xs[i+j]?=some (uy P f.type (D.at a (i+j)))/\ys[i+j]?=some (uy P f.type (D.at b (i+j)))/\zv P f.type (D.at a (i+j))/\zv P f.type (D.at b (i+j)))->
 ∃r,qx P (Eg P (m+1)) fs xs ys=some r/\(r=true↔∀j,j<fs.length->D.at a (i+j)=D.at b (i+j))
 | [],i,_,_=>⟨true,rfl,by simp⟩
 |f::fr,i,hp,hx=>by
  obtain⟨h1,h2,h3,h4,h5⟩:=vE hp
  obtain⟨x1,x2,x3,x4⟩:=hx 0 f rfl
  simp only[af6]at x1 x2 x3 x4
  have hag:hY P f.type=some false:=by rcases h3 with ⟨k,hu⟩|hu|hu<;>simp[hY,hu]
  have p1:Dm P f.type xs f.offset=some (uy P f.type (D.at a i)):=by simp only[Dm,hag,h2];exact x1
  have p2:Dm P f.type ys f.offset=some (uy P f.type (D.at b i)):=by simp only[Dm,hag,h2];exact x2
  obtain⟨r,r1,r2⟩:=Bt m fr (i+1) h5 fun j f' hf'=>by
   have:=hx (j+1) f' (by simpa using hf')
   rw[show i+(j+1)=i+1+j by omega]at this;exact this
  simp only[qx]
  rw[aeZ h1,p1,p2]
  dsimp only
  rw[SC h3 x3 x4]
  cases he:D.AA (D.at a i) (D.at b i)with
  |true=>
   dsimp only
   refine⟨r,r1,r2.trans ⟨fun k j hj=>?_,fun k j hj=>?_⟩⟩
   ·cases j with
    |zero=>exact D.oO.1 he
    |succ j=>have:=k j (by simpa using hj);rwa [show i+1+j=i+(j+1)by omega]at this
   ·have:=k (j+1) (by simp;omega);rwa [show i+(j+1)=i+1+j by omega]at this
  |false=>
   refine⟨false,rfl,⟨fun k=>(by cases k),fun k=>?_⟩⟩
   exact absurd (k 0 (by simp)) (D.pJ.1 he)
def B5 {t:TypeId}(hs:Q6 P t)(d:D):ch P t d=uy P t d:=by
 have hag:hY P t=some false:=by rcases hs with ⟨k,hu⟩|hu|hu<;>simp[hY,hu]
 simp only[ch,hag,aK,D7 hs]
def Td {t:TypeId}(hk:An P t=true){a b:D}(ha:zv P t a)(hb:zv P t b)(m:Nat):Eg P (m+2) t (ch P t a) (ch P t b)=some (D.AA a b):=by
 obtain⟨_,hs⟩:=mU hk
 by_cases hsc:Q6 P t
 ·rw[B5 hsc,B5 hsc];exact SC hsc ha hb (m+1)
 ·obtain⟨fs,hu,hp,hst⟩:∃fs,P.underlying t=some (.struct fs)/\pb P fs.toList 0=true/\P.stoodInHeld t=false:=by
   rcases hs with h|h|h|h
   ·exact absurd (.inl h) hsc
   ·exact absurd (.inr (.inl h)) hsc
   ·exact absurd (.inr (.inr h)) hsc
   ·exact h
  cases ha with
  |int h2=>rw[hu]at h2;cases h2
  |bool h2=>rw[hu]at h2;cases h2
  |bj h2=>rw[hu]at h2;cases h2
  |struct h2 as hl hi=>
   rw[hu]at h2;cases h2
   cases hb with
   |int h2=>rw[hu]at h2;cases h2
   |bool h2=>rw[hu]at h2;cases h2
   |bj h2=>rw[hu]at h2;cases h2
   |struct h2 bs hl' hi'=>
    rw[hu]at h2;cases h2
    have hag:hY P t=some true:=by simp[hY,hu]
    have hsh:∀d,aK P t d=gi (dw P 7) fs.toList 0 d:=fun d=>by simp[aK,dw,hu]
    have hat:∀(l:List D) (j:Nat),j<l.length->l[j]?=some (D.at l j):=fun l j hj=>by simp[D.at,List.getD,aeY hj]
    obtain⟨r,r1,r2⟩:=Bt (xs:=aK P t (.r as)) (ys:=aK P t (.r bs)) (a:=as) (b:=bs) m fs.toList 0 hp fun j f hf=>by
     have hjl:=(ae1.1 hf).1
     have e1:=B7 (P:=P) 6 (.r as) fs.toList 0 hp j f hf
     have e2:=B7 (P:=P) 6 (.r bs) fs.toList 0 hp j f hf
     simp only[afT]at e1 e2 ⊢
     rw[hsh,hsh]
     exact⟨e1,e2,hi j f _ hf (hat _ _ (by omega)),hi' j f _ hf (hat _ _ (by omega))⟩
    simp only[ch,hag]
    have e0:Eg P (m+1+1) t (.agg (aK P t (.r as))) (.agg (aK P t (.r bs)))=if P.stoodInHeld t then none else qx P (Eg P (m+1)) fs.toList (aK P t (.r as)) (aK P t (.r bs)):=by
     simp only[Eg,hu]
    rw[e0]
    simp only[hst,ae0,afS]
    rw[r1]
    congr 1
    rw[afo,r2,D.oO]
    constructor
    ·intro k
     congr 1
     apply agY
     intro j
     by_cases hj:j<fs.toList.length
     ·rw[hat as j (by omega),hat bs j (by omega)]
      have:=k j hj;simp only[afT]at this;rw[this]
     ·rw[afH (by omega),afH (by omega)]
    ·intro k j _
     cases k;rfl
def NF (hr:aR P g h w){t:TypeId}(hk:An P t=true){a b:D}(ha:zv P t a)(hb:zv P t b){u v:Value}(hu:ai P g w (ch P t a) u)(hv:ai P g w (ch P t b) v):
 (Op.equal t u v).run P w= .ok (D.AA a b) w:=
 XJ hr 12 t _ _ u v _ hu hv (Td hk ha hb 10) Op.maxDepth (by unfold Op.maxDepth;omega)
def IM {t:TypeId}{v:BV}{d:D}{v':Value}(hd:cy P t=true)(e:unV P t v=some d)(hv:ai P g w v v'):ai P g w (ch P t d) v':=by
 unfold unV at e
 split at e
 ·rename_i ha
  split at e
  ·rename_i cs
   simp only[ai]at hv
   obtain⟨vs,rfl,hv⟩:=hv
   simp only[ch,ha,ai]
   exact⟨vs,rfl,mW.shape hd (Ar e hv)⟩
  ·cases e
 ·rename_i ha
  have h1:=mW.shape (g:=g) hd (Ar e (ak.cons hv ak.nil))
  simp only[ch,ha]
  split
  ·rename_i y hy
   rw[hy]at h1
   obtain⟨u,hu,h2⟩:=h1.one
   cases hu;exact h2
  ·simp only[ai]
 ·cases e
def Pl {n:Nat}:∀(fs:List Field) (i:Nat) {cs:List BV} {ds:List D} {r:List BV},pb P fs i=true->Pk (Yz P (n+1)) fs cs=some (ds,r)->ds.length=fs.length/\∀(j:Nat) (f:Field) (d:D),fs[j]?=some f->ds[j]?=some d->zv P f.type d
 | [],i,cs,ds,r,_,e=>by simp[Pk]at e;obtain⟨rfl,rfl⟩:=e;exact⟨rfl,fun j f d h=>by simp at h⟩
 |f::fr,i,cs,ds,r,hp,e=>by
  obtain⟨_,_,h3,_,h5⟩:=vE hp
  simp only[Pk]at e
  split at e
  ·rename_i d cs1 h1
   split at e
   ·rename_i ds1 cs2 h2
    cases e
    obtain⟨k1,k2⟩:=Pl fr (i+1) h5 h2
    refine⟨by simp[k1],fun j f' d' hj hd=>?_⟩
    cases j with
    |zero=>
     simp at hj hd;subst hj;subst hd
     simp only[Yz]at h1
     rcases h3 with ⟨k,hu⟩|hu|hu
     ·simp only[hu]at h1
      split at h1
      ·split at h1
       ·cases h1;exact .int hu _
       ·cases h1
      ·cases h1
     ·simp only[hu]at h1
      split at h1
      ·cases h1;exact .bool hu _
      ·cases h1
     ·simp only[hu]at h1
      split at h1
      ·cases h1;exact .bj hu _
      ·cases h1
    |succ j=>exact k2 j f' d' (by simpa using hj) (by simpa using hd)
   ·cases e
  ·cases e
def Jy {t:TypeId}{k:BV}{d:D}(e:NS P t k=some d):An P t=true/\unV P t k=some d/\zv P t d:=by
 unfold NS at e
 split at e
 ·rename_i hk
  refine⟨hk,e,?_⟩
  have huc:∃cs,Pj P t cs=some d:=by
   unfold unV at e
   split at e
   ·split at e
    ·exact⟨_,e⟩
    ·cases e
   ·exact⟨_,e⟩
   ·cases e
  obtain⟨cs,huc⟩:=huc
  unfold Pj at huc
  split at huc
  ·rename_i d1 h1
   cases huc
   rw[Yz.eq_def]at h1
   dsimp only at h1
   obtain⟨_,hs⟩:=mU hk
   rcases hs with ⟨kk,hu⟩|hu|hu| ⟨fs,hu,hp,_⟩
   ·simp only[hu]at h1
    split at h1
    ·split at h1
     ·cases h1;exact .int hu _
     ·cases h1
    ·cases h1
   ·simp only[hu]at h1
    split at h1
    ·cases h1;exact .bool hu _
    ·cases h1
   ·simp only[hu]at h1
    split at h1
    ·cases h1;exact .bj hu _
    ·cases h1
   ·simp only[hu]at h1
    split at h1
    ·rename_i ds r h2
     cases h1
     obtain⟨k1,k2⟩:=Pl (n:=6) fs.toList 0 hp h2
     exact .struct hu ds k1 k2
    ·cases h1
  ·cases huc
 ·cases e
end
end
section
section
variable {P:Program} {g:Gh} {h:af} {w:World}
def jc {aA:Nat}{es:Array MapEntry}{clock:Nat}(hw:w.heap[aA]?=some (.map es clock)):(getObj aA).run P w= .ok (.map es clock) w:=by
 simp[getObj,Sem.run,hw]
def qY {aA:Nat}{es:Array MapEntry}{clock:Nat}(hw:w.heap[aA]?=some (.map es clock))(o:Obj):(setObj aA o).run P w= .ok () (w.dL aA o):=by
 simp[setObj,Sem.run,hw,World.dL]
def KJ {K:TypeId->BV->Bool}{K':TypeId->Value->Sem Unit}(hK:∀t x x',ai P g w x x'->K t x=true->(K' t x').run P w= .ok () w):
 ∀(fs:List Field) (cs:List BV) (vs:Array Value),ak P g w cs vs.toList->CF P K fs cs=true->
 (forIn fs PUnit.unit (fun f __s=>
   if f.name≠ "_" then do
    let __do_lift<-part f.type vs f.offset
    K' f.type __do_lift
    pure (ForInStep.yield PUnit.unit)
   else pure (ForInStep.yield PUnit.unit)):Sem PUnit).run P w= .ok PUnit.unit w:=by
 intro fs
 induction fs with
 |nil=>intro cs vs _ _;simp
 |cons f fs ih=>
  intro cs vs hv e
  simp only[CF,aeV]at e
  obtain⟨e1,e2⟩:=e
  simp only[ah4,Sem.run_bind]
  by_cases hn:f.name≠ "_"
  ·rw[aeZ hn]at e1 ⊢
   split at e1
   ·rename_i x hx
    obtain⟨x',hx1,hx2⟩:=F1 hv hx
    simp only[Sem.run_bind,hx1,Result.andThen_ok,hK _ _ _ hx2 e1,Sem.run_pure]
    exact ih cs vs hv e2
   ·cases e1
  ·rw[aeX hn]
   simp only[Sem.run_pure,Result.andThen_ok]
   exact ih cs vs hv e2
def MT:∀(n:Nat) (t:TypeId) (k:BV) (k':Value) (empty:Bool),ai P g w k k'->y7 P n t k=true->∀N,n<=N->(Instr.checkKey empty N t k').run P w= .ok () w:=by
 intro n
 induction n with
 |zero=>intro t k k' empty _ e;simp[y7]at e
 |succ n ih=>
  intro t k k' empty hk e N hN
  obtain⟨N,rfl⟩:∃N',N=N'+1:=⟨N-1,by omega⟩
  unfold y7 at e
  split at e
  ·rename_i fs cs hu
   simp only[ai]at hk;obtain⟨vs,rfl,hv⟩:=hk
   have:=KJ (P:=P) (g:=g) (w:=w) (K:=y7 P n) (K':=Instr.checkKey empty N) (fun t x x' hx hx2=>ih t x x' empty hx hx2 N (by omega)) fs.toList cs vs hv e
   refine(Sem.run_bind P w _ _).trans ?_
   rw[aB hu,Result.andThen_ok]
   refine(Sem.run_bind P w _ _).trans ?_
   rw[<-ahI]
   rw[this]
   rfl
  ·rename_i q q' i hu
   simp only[ai]at hk;subst hk
   refine(Sem.run_bind P w _ _).trans ?_
   rw[aB hu,Result.andThen_ok];rfl
  ·rename_i s hu
   simp only[ai]at hk;subst hk
   refine(Sem.run_bind P w _ _).trans ?_
   rw[aB hu,Result.andThen_ok];rfl
  ·rename_i b hu
   simp only[ai]at hk;subst hk
   refine(Sem.run_bind P w _ _).trans ?_
   rw[aB hu,Result.andThen_ok];rfl
  ·cases e
def O0 {kt:TypeId}{kind:TypeDesc}(hu:P.underlying kt=some kind){a b:Value}{y:Bool}(e:Instr.sameNow kind a b=some y):(Op.equal kt a b).run P w= .ok y w:=by
 unfold Instr.sameNow at e
 unfold Op.equal
 rw[show Op.maxDepth=9999+1 from rfl]
 refine(Sem.run_bind P w (underlying kt) _).trans ?_
 rw[aB hu,Result.andThen_ok]
 split at e
 ·rename_i q k1 a k2 b
  split at e
  ·rename_i hk
   subst hk
   cases e
   show Sem.run P (if k1=k1 then pure (a==b)else _) w=_
   rw[aeZ rfl];rfl
  ·cases e
 ·cases e;rfl
 ·cases e;rfl
 ·cases e
def Uu {kt:TypeId}{k':Value}(hu:∃d,P.underlying kt=some d){es:List MapEntry}{q:Nat->Bool}(hq:∀(i:Nat) e,es[i]?=some e->(Op.equal kt k' e.key).run P w= .ok (q i) w):
 ∃r',(Instr.findKey kt k' es).run P w= .ok r' w/\(match r' with|some (i,v)=>q i=true/\∃e,es[i]?=some e/\e.val=v|none=>∀i,i<es.length->q i=false):=by
 obtain⟨d,hu⟩:=hu
 have ask:∀(l:List MapEntry) (i:Nat) (q:Nat->Bool),(∀(j:Nat) e,l[j]?=some e->(Op.equal kt k' e.key).run P w= .ok (q (i+j)) w)->
  ∃r',(Instr.findAsking kt k' l i).run P w= .ok r' w/\(match r' with|some (n,v)=>q n=true/\∃j e,n=i+j/\l[j]?=some e/\e.val=v|none=>∀j,j<l.length->q (i+j)=false):=by
  intro l
  induction l with
  |nil=>intro i q _;exact⟨none,rfl,by simp⟩
  |cons e l ih=>
   intro i q hl
   have h0:=hl 0 e rfl
   cases hb:q (i+0)with
   |true=>
    rw[hb]at h0
    exact⟨some (i,e.val),by simp[Instr.findAsking,h0],by simpa using hb,0,e,rfl,rfl,rfl⟩
   |false=>
    rw[hb]at h0
    obtain⟨r',k1,k2⟩:=ih (i+1) q (fun j e' he=>by have:=hl (j+1) e' (by simpa using he);rwa [show i+(j+1)=i+1+j by omega]at this)
    refine⟨r',by simp[Instr.findAsking,h0,k1],?_⟩
    cases r' with
    |some p=>obtain⟨m1,j,e',m2,m3,m4⟩:=k2;exact⟨m1,j+1,e',by omega,by simpa using m3,m4⟩
    |none=>
     intro j hj
     cases j with
     |zero=>exact hb
     |succ j=>have:=k2 j (by simpa using hj);rwa [show i+1+j=i+(j+1)by omega]at this
 have now:∀(l:List MapEntry) (i:Nat) (q:Nat->Bool) r',(∀(j:Nat) e,l[j]?=some e->(Op.equal kt k' e.key).run P w= .ok (q (i+j)) w)->Instr.findNow d k' l i=some r'->
  (match r' with|some (n,v)=>q n=true/\∃j e,n=i+j/\l[j]?=some e/\e.val=v|none=>∀j,j<l.length->q (i+j)=false):=by
  intro l
  induction l with
  |nil=>intro i q r' _ e';simp[Instr.findNow]at e';subst e';simp
  |cons e l ih=>
   intro i q r' hl e'
   have h0:=hl 0 e rfl
   simp only[Instr.findNow]at e'
   cases hy:Instr.sameNow d k' e.key with
   |none=>simp[hy]at e'
   |some y=>
    have hyr:=O0 (w:=w) hu hy
    have hby:q (i+0)=y:=by
     unfold Op.equal at hyr h0
     rw[h0]at hyr;injection hyr
    cases y with
    |true=>simp[hy]at e';subst e';exact⟨by simpa using hby,0,e,rfl,rfl,rfl⟩
    |false=>
     simp[hy]at e'
     have:=ih (i+1) q r' (fun j e' he=>by have:=hl (j+1) e' (by simpa using he);rwa [show i+(j+1)=i+1+j by omega]at this) e'
     cases r' with
     |some p=>obtain⟨m1,j,e',m2,m3,m4⟩:=this;exact⟨m1,j+1,e',by omega,by simpa using m3,m4⟩
     |none=>
      intro j hj
      cases j with
      |zero=>exact hby
      |succ j=>have:=this j (by simpa using hj);rwa [show i+1+j=i+(j+1)by omega]at this
 have hrun:(Instr.findKey kt k' es).run P w=((match Instr.findNow d k' es 0 with|some r=>pure r|none=>Instr.findAsking kt k' es):Sem (Option (Nat×Value))).run P w:=by
  refine(Sem.run_bind P w (underlying kt) _).trans ?_
  rw[aB hu,Result.andThen_ok]
  cases Instr.findNow d k' es 0<;>rfl
 rw[hrun]
 have bE:∀r':Option (Nat×Value),(match r' with|some (n,v)=>q n=true/\∃j e,n=0+j/\es[j]?=some e/\e.val=v|none=>∀j,j<es.length->q (0+j)=false)->(match r' with|some (i,v)=>q i=true/\∃e,es[i]?=some e/\e.val=v|none=>∀i,i<es.length->q i=false):=by
  intro r' hr'
  cases r' with
  |some p=>obtain⟨m1,j,e,m2,m3,m4⟩:=hr';exact⟨m1,e,by rw[show p.1=j by omega];exact m3,m4⟩
  |none=>intro i hi;have:=hr' i hi;rwa [afT]at this
 cases hn:Instr.findNow d k' es 0 with
 |some r'=>exact⟨r',rfl,bE r' (now es 0 q r' (fun j e he=>by rw[afT];exact hq j e he) hn)⟩
 |none=>
  obtain⟨r',k1,k2⟩:=ask es 0 q (fun j e he=>by rw[afT];exact hq j e he)
  exact⟨r',k1,bE r' k2⟩
def GY (hr:aR P g h w){kt:TypeId}{vk:VK}{l:List (D×D)}{st:List Nat}{c:Nat}{es:List MapEntry}(hm:sT P g w kt vk l st c es)(hp:An P kt=true){d:D}(hd:zv P kt d){k':Value}(hk:ai P g w (ch P kt d) k'):
 ∃r',(Instr.findKey kt k' es).run P w= .ok r' w/\(match r' with|some (i,v)=>D.fv l d=true/\l[i]?=some (d,D.val l d)/\∃e,es[i]?=some e/\e.val=v|none=>D.fv l d=false):=by
 have hu:∃t,P.underlying kt=some t:=by
  obtain⟨_,hs⟩:=mU hp
  rcases hs with ⟨k,hu⟩|hu|hu| ⟨fs,hu,_⟩<;>exact⟨_,hu⟩
 obtain⟨r',h1,h2⟩:=Uu (P:=P) (w:=w) (k':=k') hu (es:=es) (q:=fun i=>match l[i]? with|some p=>D.AA d p.1|none=>false) (fun i e he=>by
  have hi:i<l.length:=by have:=(ae1.1 he).1;rw[hm.len]at this;exact this
  have hp2:=aeY hi
  rw[hp2]
  exact NF hr hp hd (hm.CV _ (List.getElem_mem hi)) hk (hm.key i _ e hp2 he))
 refine⟨r',h1,?_⟩
 cases r' with
 |some p=>
  obtain⟨i,v⟩:=p
  obtain⟨k1,e,k2,k3⟩:=h2
  dsimp only at k1 ⊢
  cases hi:l[i]? with
  |none=>rw[hi]at k1;cases k1
  |some x=>
   rw[hi]at k1
   have hx:=D.oO.1 k1
   obtain⟨x1,x2⟩:=x
   dsimp only at hx
   subst hx
   have hg:=D.IF hm.nd hi
   have hh:D.fv l d=true:=by unfold D.fv;rw[hg];rfl
   refine⟨hh,?_,e,k2,k3⟩
   unfold D.val;rw[hg];rfl
 |none=>
  dsimp only at h2 ⊢
  rw[ahR]
  intro hh
  obtain⟨i,hi⟩:=D.JD (D.N7 hh)
  have:=h2 i (by have:=(ae1.1 hi).1;rw[hm.len];exact this)
  rw[hi]at this
  exact absurd rfl (D.pJ.1 this)
def aR.HM (hr:aR P g h w){b aA au:Nat}{kt:TypeId}{vk:VK}{l:List (D×D)}{st:List Nat}{c:Nat}(hb:h.get b=some (.bo kt vk l st c))(hm:g.m b=some (aA,au)):
 au=0/\∃es,w.heap[aA]?=some (.map es c)/\sT P g w kt vk l st c es.toList:=by
 obtain⟨_,o,ho,hr'⟩:=hr.U2 _ _ _ _ hb hm
 simp only[cL]at hr'
 obtain⟨h0,es,rfl,he⟩:=hr'
 exact⟨h0,es,ho,he⟩
def UC {kt et:TypeId}{vk:VK}{l:List (D×D)}{st:List Nat}{c:Nat}{es:List MapEntry}{r:Nat}(hm:sT P g w kt vk l st c es){d:D}{i:Nat}{e:MapEntry}{u:BV}(hh:D.fv l d=true)(hl:l[i]?=some (d,D.val l d))(he:es[i]?=some e)(hs:wQ P r et vk l d=some u){y:Nat×Nat}(hy:g.m r=some y):ai P g w u e.val:=by
 have:=hm.val i _ e hl he
 unfold wQ at hs
 unfold xV at this
 cases vk with
 |data et'=>
  dsimp only at hs this
  split at hs
  ·rename_i hc
   simp only[aeV]at hc
   have:=ae8 hc.2
   subst this
   cases hs;assumption
  ·cases hs
 |cp f et'=>
  dsimp only at hs this
  rw[hh]at hs;cases hs
  obtain⟨x,h1,h2⟩:=this
  simp only[ai]
  exact⟨x.1,x.2,h1,h2,y,hy⟩
 |Ho=>
  dsimp only at hs this
  rw[hh]at hs;cases hs
  simp only[ai]
  exact⟨_,_,this,ak.nil,ak.nil⟩
def Rc (hr:aR P g h w){t:TypeId}{x k v:BV}{x' k':Value}{ok:Bool}(hx:ai P g w x x')(hk:ai P g w k k')(e:vA P h t x k ok=some v):
 ∃v',(Instr.lookup t x' k' ok).run P w= .ok v' w/\ai P g w v v':=by
 unfold vA at e
 split at e
 ·rename_i kt et hu
  split at e
  ·cases e
  ·rename_i hko
   have hko:y7 P 4 kt k=true:=by simpa using hko
   have hck:=fun em=>MT (P:=P) (g:=g) (w:=w) 4 kt k k' em hk hko 10000 (by omega)
   split at e
   ·rename_i r
    split at e
    ·rename_i kt' vk l st ck hb
     split at e
     ·rename_i d hd
      obtain⟨hp,huv,hcan⟩:=Jy hd
      split at e
      ·rename_i hkt
       have hkt:=ae8 hkt
       subst hkt
       simp only[ai]at hx
       obtain⟨aA,hm,rfl⟩:=hx
       obtain⟨_,es,hw,hrel⟩:=hr.HM hb hm
       obtain⟨r',h1,h2⟩:=GY hr hrel hp hcan (IM (mU hp).1 huv hk)
       have hrun:(Instr.lookup t (.map (some aA)) k' ok).run P w=
        ((do let (v,ok')<-(match r' with|some (_,v)=>pure (v,true)|none=>do pure (<-zeroValue et,false));pure (if ok then .tuple #[v,.bool ok']else v)):Sem Value).run P w:=by
        refine(Sem.run_bind P w (underlying t) _).trans ?_
        rw[aB hu,Result.andThen_ok]
        dsimp only
        simp only[Sem.run_bind,Sem.run_pure,Result.andThen_ok,jc hw,hck,h1]
        cases r' with
        |none=>cases hz:(zeroValue et).run P w<;>simp[hz]
        |some q=>rfl
       split at e
       ·rename_i u hs
        have hv:v=(if ok then .tuple [u,.bool (D.fv l d)]else u):=by simpa using e.symm
        subst hv
        cases r' with
        |some q=>
         obtain⟨j,u'⟩:=q
         obtain⟨k1,k2,en,k3,rfl⟩:=h2
         have hu':=UC hrel k1 k2 k3 hs hm
         refine⟨if ok then .tuple #[en.val,.bool true]else en.val,by rw[hrun];cases ok<;>rfl,?_⟩
         cases ok with
         |false=>exact hu'
         |true=>simp only[afq,ai];exact⟨_,rfl,ak.cons hu' (ak.cons (by simp[ai,k1]) ak.nil)⟩
        |none=>
         have k1:D.fv l d=false:=h2
         have hz:jr P et=some u:=by
          unfold wQ at hs
          cases vk with
          |data et'=>
           dsimp only at hs
           split at hs
           ·rw[k1]at hs;exact hs
           ·cases hs
          |cp f et'=>dsimp only at hs;rw[k1]at hs;exact hs
          |Ho=>dsimp only at hs;rw[k1]at hs;exact hs
         obtain⟨z',hz',hzr⟩:=D6 hz w
         refine⟨if ok then .tuple #[z',.bool false]else z',by rw[hrun];simp[hz'],?_⟩
         cases ok with
         |false=>exact hzr g
         |true=>simp only[afq,ai];exact⟨_,rfl,ak.cons (hzr g) (ak.cons (by simp[ai,k1]) ak.nil)⟩
       ·cases e
      ·cases e
     ·cases e
    ·cases e
   ·cases e
 ·cases e
end
end
section
def D.wR {k:D}{x:Nat}:∀{ks:List D} {st:List Nat} {i:Nat},ks.Nodup->ks[i]?=some k->st[i]?=some x->D.iA ks st k=x
 | [],_,i,_,h,_=>by simp at h
 |p::q,[],i,_,_,h=>by simp at h
 |p::q,y::t,i,hn,h1,h2=>by
  show (match D.AA p k with|true=>y|false=>D.iA q t k)=x
  rw[afD]at hn
  cases i with
  |zero=>simp at h1 h2;subst h1;subst h2;rw[D.oO.2 rfl]
  |succ i=>
   simp at h1 h2
   rw[D.pJ.2 (fun e=>hn.1 (by rw[e];exact aeU h1))]
   exact D.wR hn.2 h1 h2
def D.N1 {k:D}:∀{l:List (D×D)} {i:Nat} {p:D×D},(D.cX l).Nodup->l[i]?=some p->p.1=k->D.yg l k=l.eraseIdx i
 | [],i,p,_,h,_=>by simp at h
 |x::q,i,p,hn,h1,h2=>by
  simp only[D.cX,afD]at hn
  cases i with
  |zero=>
   simp at h1;subst h1
   rw[D.Mg h2]
   show D.yg q k=q
   have:∀(m:List (D×D)),k∉D.cX m->D.yg m k=m:=by
    intro m
    induction m with
    |nil=>intro _;rfl
    |cons y m ih=>
     intro hm
     simp only[D.cX,ae5,aiI]at hm
     rw[D.Fo (fun e=>hm.1 e.symm),ih hm.2]
   exact this q (h2▸hn.1)
  |succ i=>
   simp at h1
   rw[D.Fo (fun e=>hn.1 (e▸h2▸aeU (D.jO h1))),D.N1 hn.2 h1 h2]
   rfl
def D.GL {k:D}:∀{l:List (D×D)},D.fv l k=false->D.yg l k=l
 | [],_=>rfl
 |y::m,h=>by
  unfold D.fv at h
  by_cases e:y.1=k
  ·rw[D.oZ e]at h;cases h
  ·rw[D.jb e]at h;rw[D.Fo e,D.GL h]
def D.SE {p:D×D}{q:List (D×D)}{x:Nat}{t:List Nat}{k:D}(h:p.1≠k):D.B6 (p::q) (x::t) k=x::D.B6 q t k:=by
 show (match D.AA p.1 k with|true=>_|false=>_)=_
 rw[D.pJ.2 h]
def D.aav {p:D×D}{q:List (D×D)}{x:Nat}{t:List Nat}{k:D}(h:p.1=k):D.B6 (p::q) (x::t) k=D.B6 q t k:=by
 show (match D.AA p.1 k with|true=>_|false=>_)=_
 rw[D.oO.2 h]
def D.CN {k:D}:∀{l:List (D×D)} {st:List Nat},st.length=l.length->D.fv l k=false->D.B6 l st k=st
 | [],[],_,_=>rfl
 | [],x::t,h,_=>by simp at h
 |y::m,[],h,_=>by simp at h
 |y::m,x::t,hl,h=>by
  unfold D.fv at h
  by_cases e:y.1=k
  ·rw[D.oZ e]at h;cases h
  ·rw[D.jb e]at h;rw[D.SE e,D.CN (by simpa using hl) h]
def D.O1 {k:D}:∀{l:List (D×D)} {st:List Nat} {i:Nat} {p:D×D},st.length=l.length->(D.cX l).Nodup->l[i]?=some p->p.1=k->D.B6 l st k=st.eraseIdx i
 | [],_,i,p,_,_,h,_=>by simp at h
 |y::m,[],i,p,h,_,_,_=>by simp at h
 |x::q,y::t,i,p,hl,hn,h1,h2=>by
  simp only[D.cX,afD]at hn
  cases i with
  |zero=>
   simp at h1;subst h1
   rw[D.aav h2]
   refine D.CN (by simpa using hl) ?_
   rw[ahR]
   intro hh
   exact hn.1 (h2▸D.Ma.1 hh)
  |succ i=>
   simp at h1
   rw[D.SE (fun e=>hn.1 (e▸h2▸aeU (D.jO h1))),D.O1 (by simpa using hl) hn.2 h1 h2]
   rfl
section
variable {P:Program} {g:Gh} {h:af} {w w':World}
def sT.ym {kt et:TypeId}{l:List (D×D)}{st:List Nat}{c:Nat}{es:List MapEntry}(hm:sT P g w kt (.data et) l st c es){d v:D}{i:Nat}{q:D}(hl:l[i]?=some (d,q)){k' v':Value}(hk:ai P g w (ch P kt d) k')(hv:ai P g w (ch P et v) v'):
 sT P g w kt (.data et) (D.jP l d v) st c (es.modify i fun e=>{e with key:=k',val:=v'}):=by
 refine⟨by simp[D.xG,hm.len],by rw[D.xG];exact hm.sl,fun j p x h1 h2=>?_,fun j s x h1 h2=>?_,fun j p x h1 h2=>?_,fun p hp=>?_,by rw[D.y8];exact hm.nd,hm.snd,hm.Eh⟩
 ·obtain⟨y,y1,y2,_⟩:=D.tH h1
  rw[ahB]at h2
  cases e:es[j]? with
  |none=>rw[e]at h2;cases h2
  |some z=>
   rw[e]at h2
   by_cases hij:i=j
   ·subst hij
    rw[hl]at y1;cases y1
    simp at h2;subst h2
    rw[y2];exact hk
   ·simp[hij]at h2;subst h2;rw[y2];exact hm.key j y z y1 e
 ·rw[ahB]at h2
  cases e:es[j]? with
  |none=>rw[e]at h2;cases h2
  |some z=>
   rw[e]at h2
   have:=hm.born j s z h1 e
   by_cases hij:i=j
   ·subst hij;simp at h2;subst h2;exact this
   ·simp[hij]at h2;subst h2;exact this
 ·obtain⟨y,y1,y2,y3,y4⟩:=D.tH h1
  rw[ahB]at h2
  cases e:es[j]? with
  |none=>rw[e]at h2;cases h2
  |some z=>
   rw[e]at h2
   by_cases hij:i=j
   ·subst hij
    rw[hl]at y1;cases y1
    simp at h2;subst h2
    unfold xV;dsimp only
    rw[y4 rfl];exact hv
   ·simp[hij]at h2;subst h2
    have hne:y.1≠d:=fun hyd=>hij ((agZ (by rw[D.tF];exact(ae1.1 hl).1) hm.nd).1 ((D.jO hl).trans (by rw[D.jO y1,hyd])))
    have:=hm.val j y z y1 e
    unfold xV at this ⊢
    rw[y3 hne];exact this
 ·obtain⟨j,hj⟩:=af3 hp
  obtain⟨y,y1,y2,_⟩:=D.tH hj
  rw[y2];exact hm.CV y (aeU y1)
def sT.app {g':Gh}{w':World}{kt:TypeId}{vk:VK}{l:List (D×D)}{st:List Nat}{c:Nat}{es:List MapEntry}(hm:sT P g' w' kt vk l st c es){d v:D}(hd:zv P kt d)(hh:D.fv l d=false){k' v':Value}(hk:ai P g' w' (ch P kt d) k')(hv:xV P g' w' vk d v v'):
 sT P g' w' kt vk (l++[(d,v)]) (st++[c]) (c+1) (es++[⟨k',v',c⟩]):=by
 have hlen:=hm.len
 have hsl:=hm.sl
 have lcase:∀(j:Nat) p,(l++[(d,v)])[j]?=some p->(j<l.length/\l[j]?=some p)\/(j=l.length/\p=(d,v)):=fun j p hj=>by
  rw[afG]at hj
  split at hj
  ·rename_i hlt;exact .inl ⟨hlt,hj⟩
  ·have:j-l.length=0:=by
    rcases ahf (j-l.length)with h|h
    ·exact h
    ·rw[afH (by simp;omega)]at hj;cases hj
   rw[this]at hj;cases hj;exact .inr ⟨by omega,rfl⟩
 have ecase:∀(j:Nat) x,(es++[⟨k',v',c⟩])[j]?=some x->(j<l.length/\es[j]?=some x)\/(j=l.length/\x=⟨k',v',c⟩):=fun j p hj=>by
  rw[afG]at hj
  split at hj
  ·rename_i hlt;exact .inl ⟨by omega,hj⟩
  ·have:j-es.length=0:=by
    rcases ahf (j-es.length)with h|h
    ·exact h
    ·rw[afH (by simp;omega)]at hj;cases hj
   rw[this]at hj;cases hj;exact .inr ⟨by omega,rfl⟩
 refine⟨by simp[hlen],by simp[hsl],fun j p x h1 h2=>?_,fun j s x h1 h2=>?_,fun j p x h1 h2=>?_,fun p hp=>?_,?_,?_,fun s hs=>?_⟩
 ·rcases lcase j p h1 with ⟨a,b⟩| ⟨a,hp⟩
  ·rcases ecase j x h2 with ⟨a2,b2⟩| ⟨a2,_⟩
   ·exact hm.key j p x b b2
   ·omega
  ·rcases ecase j x h2 with ⟨a2,b2⟩| ⟨a2,hx⟩
   ·omega
   ·subst hp;subst hx;exact hk
 ·rcases ecase j x h2 with ⟨a2,b2⟩| ⟨a2,rfl⟩
  ·rw[ago (by omega)]at h1;exact hm.born j s x h1 b2
  ·rw[ag1 (by omega),show j-st.length=0 by omega]at h1;cases h1;rfl
 ·rcases lcase j p h1 with ⟨a,b⟩| ⟨a,hp⟩
  ·rcases ecase j x h2 with ⟨a2,b2⟩| ⟨a2,_⟩
   ·exact hm.val j p x b b2
   ·omega
  ·rcases ecase j x h2 with ⟨a2,b2⟩| ⟨a2,hx⟩
   ·omega
   ·subst hp;subst hx;exact hv
 ·rcases afp.1 hp with hp|hp
  ·exact hm.CV p hp
  ·simp at hp;subst hp;exact hd
 ·rw[D.NT,ag0]
  refine⟨hm.nd,by simp[D.cX],fun a ha b hb=>?_⟩
  simp[D.cX]at hb
  subst hb
  intro he;subst he
  rw[D.Ma.2 ha]at hh;cases hh
 ·rw[ag0]
  refine⟨hm.snd,by simp,fun a ha b hb=>?_⟩
  simp at hb;subst hb
  have:=hm.Eh a ha;omega
 ·rcases afp.1 hs with hs|hs
  ·have:=hm.Eh s hs;omega
  ·simp at hs;omega
def sT.del {kt:TypeId}{vk vk':VK}{l:List (D×D)}{st:List Nat}{c:Nat}{es:List MapEntry}(hm:sT P g w kt vk l st c es){i:Nat}{p:D×D}(hl:l[i]?=some p)
 {g':Gh}{w':World}(hkey:∀d v,ai P g w (ch P kt d) v->ai P g' w' (ch P kt d) v)(hval:∀k d v,k≠p.1->xV P g w vk k d v->xV P g' w' vk' k d v):
 sT P g' w' kt vk' (D.yg l p.1) (D.B6 l st p.1) c (es.eraseIdx i):=by
 rw[D.N1 hm.nd hl rfl,D.O1 hm.sl hm.nd hl rfl]
 have hi:=(ae1.1 hl).1
 have hlen:=hm.len
 have hsl:=hm.sl
 have hne:∀(j:Nat) q,j≠i->l[j]?=some q->q.1≠p.1:=fun j q hji hq hqp=>by
  have h1:=D.jO hq
  have h2:=D.jO hl
  rw[hqp]at h1
  exact hji ((agZ (by rw[D.tF];exact(ae1.1 hq).1) hm.nd).1 (h1.trans h2.symm))
 have ge:∀{α:Type} (m:List α) (j:Nat),(m.eraseIdx i)[j]?=m[if j<i then j else j+1]?:=fun m j=>by
  rw[List.getElem?_eraseIdx];split<;>rfl
 have hj:∀j,(if j<i then j else j+1)≠i:=fun j=>by split<;>omega
 refine⟨?_,?_,fun j q x h1 h2=>?_,fun j s x h1 h2=>?_,fun j q x h1 h2=>?_,fun q hq=>hm.CV q (ahU hq),?_,?_,fun s hs=>hm.Eh s (ahU hs)⟩
 ·rw[ag2,ag2,hlen]
 ·rw[ag2,ag2,hsl]
 ·rw[ge]at h1 h2;exact hkey _ _ (hm.key _ q x h1 h2)
 ·rw[ge]at h1 h2;exact hm.born _ s x h1 h2
 ·rw[ge]at h1 h2;exact hval _ _ _ (hne _ q (hj j) h1) (hm.val _ q x h1 h2)
 ·rw[D.wI]
  have:(l.eraseIdx i).map (·.1)=(l.map (·.1)).eraseIdx i:=by
   apply agY;intro j
   rw[afE,ge,ge,afE]
  rw[this,<-D.wI]
  exact hm.nd.sublist (aia _ _)
 ·exact hm.snd.sublist (aia _ _)
def aR.Uj (hr:aR P g h w){r aA:Nat}{kt:TypeId}{vk:VK}{l l1:List (D×D)}{st st1:List Nat}{c c1:Nat}{es es1:Array MapEntry}(hb:h.get r=some (.bo kt vk l st c))(hm:g.m r=some (aA,0))(hw:w.heap[aA]?=some (.map es c))
 (he:sT P g w kt vk l1 st1 c1 es1.toList)(hn:(ax.bo kt vk l st c).yp=none:=by rfl)(hn1:(ax.bo kt vk l1 st1 c1).yp=none:=by rfl):
 aR P g (h.put r (some (.bo kt vk l1 st1 c1))) (w.dL aA (.map es1 c1))/\gN g h w g (h.put r (some (.bo kt vk l1 st1 c1))) (w.dL aA (.map es1 c1)):=by
 refine hr.Kd (hf:=hn) (hf':=hn1) hb hm hw rfl ⟨rfl,rfl,rfl⟩ (fun s hs=>?_) (fun hmono=>?_)
 ·simp[World.shape?,hw]at hs
 ·simp only[cL];exact⟨trivial,es1,rfl,he.mono hmono⟩
def Hf {t:TypeId}(hs:Q6 P t)(d:D):(match uy P t d with| .int .. | .bj _| .bool _=>true|_=>false)=true:=by
 rcases hs with ⟨k,hu⟩|hu|hu<;>simp[uy,hu]
def DF (n:Nat)(d:D):∀(fs:List Field) (i:Nat),pb P fs i=true->(gi (dw P (n+1)) fs i d).all (fun c=>match c with| .int .. | .bj _| .bool _=>true|_=>false)=true
 | [],_,_=>rfl
 |x::r,i,hp=>by
  obtain⟨_,_,h3,_,h5⟩:=vE hp
  simp only[gi]
  rw[D7 h3,ahE,DF n d r (i+1) h5]
  simp only[List.all_cons,List.all_nil,af2]
  exact Hf h3 _
def OM {t:TypeId}(hk:An P t=true)(d:D):wb (ch P t d)=true:=by
 obtain⟨_,hs⟩:=mU hk
 by_cases hsc:Q6 P t
 ·rw[B5 hsc]
  have:=Hf hsc d
  unfold wb
  rcases hsc with ⟨k,hu⟩|hu|hu<;>simp[uy,hu]
 ·obtain⟨fs,hu,hp,hst⟩:∃fs,P.underlying t=some (.struct fs)/\pb P fs.toList 0=true/\P.stoodInHeld t=false:=by
   rcases hs with h|h|h|h
   ·exact absurd (.inl h) hsc
   ·exact absurd (.inr (.inl h)) hsc
   ·exact absurd (.inr (.inr h)) hsc
   ·exact h
  have hag:hY P t=some true:=by simp[hY,hu]
  simp only[ch,hag,wb,aK,dw,hu]
  exact DF 6 d fs.toList 0 hp
end
end
end Go.PB
end
