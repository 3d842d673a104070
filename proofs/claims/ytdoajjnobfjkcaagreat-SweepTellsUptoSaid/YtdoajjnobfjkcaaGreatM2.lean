import Derived.Laws.Strings
import Derived.Test.YtdoajjnobfjkcaaGreatM1
set_option linter.all false
noncomputable section
open Go.IntKind renaming wrap→wp
namespace Go.PB
open Go
section
section
variable {P:Program} {g:Gh} {h:aj} {w:World}
def Je (z:List BV)(n:Nat):(Ix z n).length=n*z.length:=by
 induction n with
 |zero=>simp[Ix]
 |succ n ih=>simp[Ix,ih,Nat.succ_mul];omega
def ZL (z:List BV)(hz:0<z.length):∀(n i:Nat),i<n*z.length->(Ix z n)[i]?=z[i % z.length]?:=by
 intro n
 induction n with
 |zero=>intro i h;omega
 |succ n ih=>
  intro i hi
  simp only[Ix]
  rw[ahR]
  split
  ·rename_i hlt;rw[Nat.mod_eq_of_lt hlt]
  ·rename_i hge
   rw[Nat.succ_mul]at hi
   rw[ih _ (by omega)]
   congr 1
   conv=>rhs;rw[show i=(i-z.length)+z.length by omega,Nat.add_mod_right]
def aq.Ix {z:List BV}{zs:Array Value}(hz:aq P g w z zs.toList)(hp:0<z.length)(n:Nat):
 aq P g w (Ix z n) ((Array.range (n*z.length)).map (fun i=>zs[i % zs.size]!)).toList:=by
 have hl:=hz.length
 simp at hl
 refine aq.rL (by simp[Je]) fun i b v hb hv=>?_
 have hi:i<n*z.length:=by
  have:=(aha.1 hb).1
  rwa [Je]at this
 rw[ZL z hp n i hi]at hb
 obtain⟨u,hu,hr⟩:=hz.get hb
 have:v=u:=by
  simp only[ajH,Array.toList_range,ahQ,akq hi,ahm,ahi]at hv
  rw[<-hv]
  simp only[ahW]at hu
  rw[<-hl]at hu
  simp[getElem!_def,hu]
 rw[this];exact hr
def JA (hr:bc P g h w){b:Nat}{t:TypeId}{len:Nat}{ps:List (Nat×BV)}{qs:List (Nat×Value)}{v:BV}{h1 h2:aj}
 (hp:RB P g w ps qs)(e:xZ P h1 t len ps=some (v,h2))(hb:h.get b=h2.get h1.next)(hbn:b=h1.next)(hm:g.m b=none):
 Nk P g h w b v ((Instr.buildSlice t len qs.toArray).run P w):=by
 unfold xZ at e
 split at e
 ·rename_i el hu
  split at e
  ·rename_i size' z hs hz
   dsimp only at e
   split at e
   ·cases e
   ·rename_i hc
    simp only[akP,Nat.not_lt,Decidable.not_not]at hc
    obtain⟨hc1,hc2,hc3⟩:=hc
    cases hf:IX (fun i=>some (i*(size'+1),size'+1)) (Ix z.cells len) ps with
    |none=>simp[hf]at e
    |some cs=>
     simp only[hf]at e
     split at e
     ·rename_i hone
      obtain⟨z',hz',hzr⟩:=Iw hz w
      have hzc:=(hzr g).cells hc3
      have hzl:=hzc.length
      simp at hzl
      obtain⟨c',hf1,hf2⟩:=Q1 ps qs _ cs ((Array.range (len*(size'+1))).map (fun i=>z'.cells[i % z'.cells.size]!)) hp (by
       have:=hzc.Ix (by omega) len
       rw[hc2]at this;exact this) hf
      have hrun:(Instr.buildSlice t len qs.toArray).run P w= .ok (.slice (some ⟨w.heap.size,0,none⟩) len len) {w with heap:=w.heap.push (.cells c' el)}:=by
       simp only[Instr.buildSlice,Sem.run_bind,aT hu,Result.andThen_ok,nE hs]
       rw[ag4 (by simp only[aku];omega)]
       simp only[aku]
       by_cases h0:len*(size'+1)=0
       ·rw[ag8 h0]
        have hl0:len=0:=by rcases Nat.mul_eq_zero.1 h0 with h0|h0<;>omega
        subst hl0
        have hfe:Instr.fill (fun i=>some (i*(size'+1),size'+1)) ((Array.range (0*(size'+1))).map (fun i=>(#[]:Array Value)[i % (#[]:Array Value).size]!)) qs=some c':=by
         have e0:(Array.range (0*(size'+1))).map (fun i=>(#[]:Array Value)[i % (#[]:Array Value).size]!)=(Array.range (0*(size'+1))).map (fun i=>z'.cells[i % z'.cells.size]!):=by simp
         rw[e0];exact hf1
        simp only[Sem.run_bind,Sem.run_pure,Result.andThen_ok]
        rw[hfe]
        simp[newRow]
       ·rw[ag4 h0]
        simp only[Sem.run_bind,Sem.run_pure,hz',Result.andThen_ok]
        rw[hf1]
        simp[newRow]
      split at e
      ·
       rename_i l hl
       simp only[ahi,ah3]at e
       obtain⟨rfl,rfl⟩:=e
       rw[aj.eL,ag8 rfl]at hb
       split at hl
       ·rename_i hsy
        simp only[ag2]at hsy
        obtain⟨hd,hcl⟩:=hsy
        have hcl:=ahh hcl
        have hso:P.cellsOf el=size'+1:=oB hs
        rw[<-hso]at hl
        obtain⟨hll,hrows⟩:=TJ (g:=g) (w:=w) len hl (by rw[hso];exact hcl)
        have hrv:=hrows _ hf2
        refine⟨_,_,hrun,?_⟩
        have h1':=hr.real (w':={w with heap:=w.heap.push (.cells c' el)}) hb hm rfl ⟨rfl,rfl,rfl⟩ (fun hmono=>by
         simp only[cV]
         exact⟨c',rfl,c'.toList,hrv.mono hmono.mf hmono.mc,fun i x hi=>by simpa using hi⟩)
        refine⟨h1'.1,h1'.2,?_⟩
        simp only[ao]
        refine .inr ⟨_,_,len,by rw[<-hbn];exact Gh.iq _ _ _ _,rfl,aho _,el,c'.size,by simp[World.shape?],?_⟩
        have:=hf2.length
        simp at this
        rw[hso,this,hcl];omega
       ·cases hl
      cases e
     ·cases e
  ·cases e
 ·cases e
def Lx {c:Int}(h0:0<=c)(h1:c<2^40):IntKind.i64.wrap c=c:=by
 have e1:(IntKind.i64).bits=64:=rfl
 have e2:(IntKind.i64).signed=true:=rfl
 simp only[wp,e1,e2,ah0,agW]
 have:c % (2^64:Int)=c:=Int.emod_eq_of_lt h0 (by omega)
 rw[this,ag4 (by omega)]
def Md {t el:TypeId}{kl kc:IntKind}{li ci:Int}{i:TypeInfo}{z':Value}(hu:P.underlying t=some (.slice el))(hi:P.info? el=some i)(hz':(zeroValue el).run P w= .ok z' w)
 (c1:0<=li)(c2:li<=ci)(c3:ci<2^40)(c4:(i.bytes:Int)*ci<=2^47):
 (Instr.makeSlice t (.int kl li) (.int kc ci)).run P w= .ok (.slice (some ⟨w.heap.size,0,none⟩) li.toNat ci.toNat)
   {w with heap:=w.heap.push (.cells ((Array.range (ci.toNat*i.size)).map (fun j=>z'.cells[j % z'.cells.size]!)) el)}:=by
 have hsz:kb P el=some i.size:=Ee hi
 have hw1:=Lx (c:=li) c1 (by omega)
 have hw2:=Lx (c:=ci) (by omega) c3
 simp only[Instr.makeSlice,Sem.run_bind,aT hu,Result.andThen_ok,asInt,asIntOf,Sem.run_pure,FA hi,hw1,hw2]
 have hd:(decide (ci<0)||decide ((i.bytes:Int)*ci>2^48))=false:=by
  simp only[ajK,agX];omega
 rw[ag4 (by simp only[hd,ai7,aiB,agW];omega)]
 simp only[Sem.run_bind,run_askRoom,Result.andThen_ok,nE hsz]
 by_cases h0:ci.toNat*i.size=0
 ·rw[ag8 h0,h0]
  have e0:Array.range 0=#[]:=rfl
  simp[newRow,e0]
 ·rw[ag4 h0]
  simp[newRow,hz']
def zQ (el:TypeId)(d:D):∀n,Fh P el (List.replicate n d)=Ix (aK P el d) n
 |0=>rfl
 |n+1=>by rw[List.replicate_succ,IT,zQ el d n];rfl
def Lg (hr:bc P g h w){b:Nat}{t:TypeId}{l c:BV}{l' c':Value}{v:BV}{h1 h2:aj}
 (hl:ao P g w l l')(hc:ao P g w c c')(e:sY P h1 t l c=some (v,h2))(hb:h.get b=h2.get h1.next)(hbn:b=h1.next)(hm:g.m b=none):
 Nk P g h w b v ((Instr.makeSlice t l' c').run P w):=by
 unfold sY at e
 split at e
 ·rename_i el kl li kc ci hu
  simp only[ao]at hl hc
  subst hl hc
  split at e
  ·rename_i i z hi hz
   by_cases hsy:(cQ P el&&z.cells.all BV.one)=true
   ·rw[ag8 hsy]at e
    simp only[ag2]at hsy
    obtain⟨hd,hone⟩:=hsy
    split at e
    ·rename_i d hud
     split at e
     ·rename_i hcond
      simp only[ag2,agW]at hcond
      obtain⟨⟨⟨c1,c2⟩,c3⟩,c4⟩:=hcond
      simp only[ahi,ah3]at e
      obtain⟨rfl,rfl⟩:=e
      rw[aj.eL,ag8 rfl]at hb
      obtain⟨z',hz',hzr⟩:=Iw hz w
      have hzc:=(hzr g).cells hone
      have hdz:=BA hud hzc
      have hso:P.cellsOf el=i.size:=oB (Ee hi)
      have hzl:z'.cells.size=i.size:=by have:=nG.length hd hdz;rw[hso]at this;simpa using this
      refine⟨_,_,Md hu hi hz' c1 c2 c3 c4,?_⟩
      have hpos:=(ft hd).2.2.1
      have hsh:=nG.yU hd hdz
      have hrow:cI P g.fz w el (List.replicate li.toNat d) ((Array.range (li.toNat*i.size)).map (fun j=>z'.cells[j % z'.cells.size]!)).toList:=by
       rw[Li hd,zQ]
       have:=hsh.Ix (by rw[(ft hd).2.2.2 d];exact hpos) li.toNat
       rw[(ft hd).2.2.2 d,hso]at this
       exact this
      have h1':=hr.real (w':={w with heap:=w.heap.push (.cells ((Array.range (ci.toNat*i.size)).map (fun j=>z'.cells[j % z'.cells.size]!)) el)}) hb hm rfl ⟨rfl,rfl,rfl⟩ (fun hmono=>by
       simp only[cV]
       refine⟨_,rfl,_,hrow.mono hmono.mf hmono.mc,fun j x hj=>?_⟩
       have hle:li.toNat*i.size<=ci.toNat*i.size:=ah6 _ (by omega)
       rw[ahW]at hj
       have hjl:=(ahn.1 hj).1
       simp only[Array.size_map,Array.size_range]at hjl
       rw[ah2]
       simp only[akz,akk,hjl,ahz,ahm,ahi]at hj
       simp only[akz,akk,show j<ci.toNat*i.size by omega,ahz,ahm,ahi]
       exact hj)
      refine⟨h1'.1,h1'.2,?_⟩
      simp only[ao]
      refine .inr ⟨_,_,ci.toNat,by rw[<-hbn];exact Gh.iq _ _ _ _,rfl,by omega,el,ci.toNat*i.size,by simp[World.shape?],by rw[hso];omega⟩
     ·cases e
    ·cases e
   rw[ag4 hsy]at e;cases e
  ·cases e
 ·cases e
def Mf {t:TypeId}{x v:BV}{x':Value}{i:Nat}(hx:ao P g w x x')(e:Fk P t x i=some v):
 ∃v',(Instr.fieldAt t x' i).run P w= .ok v' w/\ao P g w v v':=by
 unfold Fk at e
 split at e
 ·rename_i fs hu
  cases hf:fs[i]? with
  |none=>simp[hf]at e
  |some f=>
   simp only[hf]at e
   split at e
   ·rename_i n hs
    have hrun:∀a:Addr,(Instr.fieldAt t (.pointer (some a)) i).run P w= .ok (.pointer (some (a.add f.offset))) w:=fun a=>by
     simp only[Instr.fieldAt,Sem.run_bind,aT hu,Result.andThen_ok,hf,Instr.sureAddr,Sem.run_pure,fieldPlace,nE hs]
     rw[ag4 (by omega)]
     simp
    cases x with
    |aP b off=>
     simp only[ahi]at e;subst e
     simp only[ao]at hx
     obtain⟨aL,az,hm,rfl⟩:=hx
     refine⟨_,hrun _,?_⟩
     simp only[ao,oZ]
     exact⟨aL,az,hm,by rw[aiW]⟩
    |wq cs=>
     simp only[ahi]at e;subst e
     simp only[ao]at hx
     obtain⟨aL,off,rfl,hf',vs,hv,hc⟩:=hx
     refine⟨_,hrun _,?_⟩
     simp only[ao,oZ]
     exact⟨aL,_,rfl,hf',vs.drop f.offset,hv.drop _,hc.drop⟩
    |vO b e' j off=>
     simp only[ahi]at e;subst e
     simp only[ao]at hx
     obtain⟨aL,az,hm,rfl⟩:=hx
     refine⟨_,hrun _,?_⟩
     simp only[ao,oZ]
     exact⟨aL,az,hm,by simp only[aiW]⟩
    |oQ b f' k off=>
     simp only[ahi]at e;subst e
     simp only[ao]at hx
     obtain⟨aL,az,hm,rfl,hy⟩:=hx
     refine⟨_,hrun _,?_⟩
     simp only[ao,oZ]
     exact⟨aL,az,hm,by simp only[aiW],hy⟩
    |_=>simp at e
   ·cases e
 ·cases e
def Cp {k:IntKind}{n:Int}:(asIntOf (.int k n)).run P w= .ok (k,n) w:=rfl
def IM.aP {el:TypeId}{l:List D}{aL off i:Nat}(hra:IM P g.fz w el l aL off)(hd:cQ P el=true)(hlt:i<l.length):
 ao P g w (.wq (aK P el (D.at l i))) (.pointer (some (Addr.add ⟨aL,off,none⟩ (i*P.cellsOf el)))):=by
 obtain⟨hf,vs,hv,hat⟩:=hra
 have hx:=hv.2 i (D.at l i) (by simp[D.at,List.getD,ag7 hlt])
 simp only[ao,oZ]
 exact⟨aL,_,rfl,hf,_,nG.yU hd hx,hat.drop.take⟩
def Mg {t:TypeId}{x ix v:BV}{x' ix':Value}(hx:ao P g w x x')(hi:ao P g w ix ix')(e:kZ P t x ix=some v):
 ∃v',(Instr.indexAt t x' ix').run P w= .ok v' w/\ao P g w v v':=by
 unfold kZ at e
 cases ix with
 |int k i=>
  simp only[ao]at hi;subst hi
  dsimp only at e
  split at e
  ·cases e
  ·rename_i hneg
   split at e
   ·rename_i el hu
    cases hs:kb P el with
    |none=>simp[hs]at e
    |some size=>
     simp only[hs]at e
     have hrun:∀(a:Addr) (len c:Nat),i.toNat<len->(Instr.indexAt t (.slice (some a) len c) (.int k i)).run P w= .ok (.pointer (some (a.add (i.toNat*size)))) w:=fun a len c hlt=>by
      simp only[Instr.indexAt,Sem.run_bind,Cp,Result.andThen_ok,aT hu,Sem.run_pure]
      rw[ag8 ⟨by omega,by omega⟩]
      simp[nE hs]
     cases x with
     |bw e' l=>
      dsimp only at e
      split at e
      ·rename_i hc
       simp only[ag2]at hc
       obtain⟨he,hd⟩:=hc
       have he:=ahh he
       subst he
       split at e
       ·rename_i hlt
        simp only[ahi]at e;subst e
        simp only[ao]at hx
        rcases hx with ⟨rfl,_⟩| ⟨aL,off,c,rfl,_,hra⟩
        ·simp at hlt
        ·refine⟨_,hrun _ _ _ hlt,?_⟩
         rw[<-oB hs]
         exact hra.aP hd hlt
       ·cases e
      ·cases e
     |Fi e' l=>
      dsimp only at e
      split at e
      ·rename_i hc
       simp only[ag2]at hc
       obtain⟨he,hd⟩:=hc
       have he:=ahh he
       subst he
       split at e
       ·rename_i hlt
        simp only[ahi]at e;subst e
        simp only[ao]at hx
        rcases hx with ⟨rfl,_⟩| ⟨aL,off,rfl,hra⟩
        ·simp at hlt
        ·refine⟨_,hrun _ _ _ hlt,?_⟩
         rw[<-oB hs]
         exact hra.aP hd hlt
       ·cases e
      ·cases e
     |aZ b n vt=>
      dsimp only at e
      split at e
      ·split at e
       ·rename_i hlt
        simp only[ahi]at e;subst e
        simp only[ao]at hx
        rcases hx with ⟨⟨_,rfl⟩,_⟩| ⟨aL,az,c,hm,rfl,_⟩
        ·omega
        ·refine⟨_,hrun _ _ _ hlt,?_⟩
         simp only[ao,oZ]
         exact⟨aL,az,hm,by rw[oB hs,air]⟩
       ·cases e
      ·cases e
     |_=>simp at e
   ·cases e
 |_=>simp at e
def WO {t:TypeId}{x ix v:BV}{x' ix':Value}(hx:ao P g w x x')(hi:ao P g w ix ix')(e:Ih P t x ix=some v):
 ∃v',(Instr.index t x' ix').run P w= .ok v' w/\ao P g w v v':=by
 unfold Ih at e
 cases ix with
 |int k i=>
  simp only[ao]at hi;subst hi
  dsimp only at e
  split at e
  ·cases e
  ·rename_i hneg
   split at e
   ·rename_i s hu
    simp only[ao]at hx;subst hx
    cases hsi:s[i.toNat]? with
    |none=>simp[hsi]at e
    |some c=>
     simp[hsi]at e;subst e
     refine⟨.int .u8 c.toNat,?_,by simp[ao]⟩
     simp only[Instr.index,Sem.run_bind,Cp,Result.andThen_ok,aT hu]
     rw[ag8 (by omega)]
     obtain⟨hlt,hcc⟩:=aha.1 hsi
     have:(ByteArray.mk s.toArray)[i.toNat]?=some c:=by
      rw[getElem?_pos (ByteArray.mk s.toArray) i.toNat (by simpa [ByteArray.size]using hlt)]
      congr 1
     simp[this]
   ·cases e
 |_=>simp at e
def WM {t:TypeId}{x v:BV}{x':Value}{i:Nat}(hx:ao P g w x x')(e:Sf P t x i=some v):
 ∃v',(Instr.field t x' i).run P w= .ok v' w/\ao P g w v v':=by
 unfold Sf at e
 split at e
 ·rename_i fs cs hu
  cases hf:fs[i]? with
  |none=>simp[hf]at e
  |some f=>
   simp only[hf]at e
   simp only[ao]at hx
   obtain⟨vs,rfl,hv⟩:=hx
   obtain⟨v',h1,h2⟩:=Hs hv e
   refine⟨v',?_,h2⟩
   simp[Instr.field,aT hu,hf,asAgg,h1]
 ·cases e
end
end
section
section
variable {P:Program} {g:Gh} {h:aj} {w:World}
def sE {x:Option BV}{x':Option Value}{r:Option Nat}(hx:(x=none/\x'=none)\/∃b v,x=some b/\x'=some v/\ao P g w b v)(e:jM x=some r):
 (x=none/\x'=none/\r=none)\/∃k i,x'=some (.int k i)/\0<=i/\r=some i.toNat:=by
 rcases hx with ⟨rfl,rfl⟩| ⟨b,v,rfl,rfl,hv⟩
 ·simp[jM]at e;exact .inl ⟨rfl,rfl,e.symm⟩
 ·right
  cases b with
  |int k i=>
   simp only[ao]at hv;subst hv
   simp only[jM]at e
   split at e
   ·cases e
   ·cases e;exact⟨k,i,rfl,by omega,rfl⟩
  |_=>simp[jM]at e
def xT (P:Program)(g:Gh)(w:World)(x:Option BV)(x':Option Value):Prop:=(x=none/\x'=none)\/∃b v,x=some b/\x'=some v/\ao P g w b v
def rR {k:IntKind}{i:Int}{y:Nat}{code:BoundsCode}(h0:0<=i)(h1:i.toNat<=y):(Instr.sliceBound (.int k i) y code).run P w= .ok i.toNat w:=by
 simp only[Instr.sliceBound,Sem.run_bind,Cp,Result.andThen_ok]
 rw[ag8 ⟨h0,by omega⟩];rfl
def Bu {lo:Option BV}{lo':Option Value}{l:Option Nat}(hlo:xT P g w lo lo')(el:jM lo=some l)(hh mm:Nat)(code:BoundsCode)(hle:l.getD 0<=hh):
 ((match (generalizing:=false) lo' with
   |some v=>do
    let l<-Instr.sliceBound v hh code
    pure (l,hh,mm)
   |none=>do
    let l<-pure 0
    pure (l,hh,mm)):Sem (Nat×Nat×Nat)).run P w= .ok (l.getD 0,hh,mm) w:=by
 rcases sE hlo el with ⟨_,rfl,rfl⟩| ⟨k,i,rfl,hi0,rfl⟩
 ·rfl
 ·simp only[Sem.run_bind]
  rw[rR hi0 hle];rfl
def BW {isS:Bool}{len cap:Nat}{lo hi mx:Option BV}{lo' hi' mx':Option Value}{l h' m:Option Nat}(hlo:xT P g w lo lo')(hhi:xT P g w hi hi')(hmx:xT P g w mx mx')
 (el:jM lo=some l)(eh:jM hi=some h')(em:jM mx=some m)(c1:m.getD cap<=cap)(c2:h'.getD len<=m.getD cap)(c3:l.getD 0<=h'.getD len)(c4:m.isNone||h'.isSome):
 (Instr.sliceBounds isS len cap lo' hi' mx').run P w= .ok (l.getD 0,h'.getD len,m.getD cap) w:=by
 rcases sE hmx em with ⟨_,rfl,rfl⟩| ⟨k,i,rfl,hi0,rfl⟩
 ·rcases sE hhi eh with ⟨_,rfl,rfl⟩| ⟨k2,i2,rfl,hi2,rfl⟩
  ·simp only[Instr.sliceBounds,Sem.run_bind,Sem.run_pure,Result.andThen_ok,ajI]at*
   exact Bu hlo el _ _ _ c3
  ·simp only[Instr.sliceBounds,Sem.run_bind,Sem.run_pure,Result.andThen_ok,ajI,ah4]at*
   rw[rR hi2 c2]
   simp only[Result.andThen_ok]
   exact Bu hlo el _ _ _ c3
 ·rcases sE hhi eh with ⟨_,rfl,rfl⟩| ⟨k2,i2,rfl,hi2,rfl⟩
  ·simp at c4
  ·simp only[Instr.sliceBounds,Sem.run_bind,Sem.run_pure,Result.andThen_ok,ah4]at*
   rw[rR hi0 c1]
   simp only[Result.andThen_ok]
   rw[rR hi2 c2]
   simp only[Result.andThen_ok]
   exact Bu hlo el _ _ _ c3
def p5 {t el:TypeId}{size:Nat}{a:Option Addr}{len c:Nat}{lo hi mx:Option BV}{lo' hi' mx':Option Value}{l h' m:Option Nat}(hu:P.underlying t=some (.slice el))(hs:kb P el=some size)
 (hlo:xT P g w lo lo')(hhi:xT P g w hi hi')(hmx:xT P g w mx mx')
 (el':jM lo=some l)(eh:jM hi=some h')(em:jM mx=some m)(c1:m.getD c<=c)(c2:h'.getD len<=m.getD c)(c3:l.getD 0<=h'.getD len)(c4:m.isNone||h'.isSome):
 (Instr.sliceAt t (.slice a len c) lo' hi' mx').run P w= .ok (.slice (if m.getD c=l.getD 0 then a else a.map (·.add (l.getD 0*size))) (h'.getD len-l.getD 0) (m.getD c-l.getD 0)) w:=by
 have hb:=BW (P:=P) (g:=g) (w:=w) (isS:=true) hlo hhi hmx el' eh em c1 c2 c3 c4
 simp only[Instr.sliceAt,Sem.run_bind,aT hu,Result.andThen_ok,Instr.slice,hb,nE hs,Sem.run_pure]
def JQ (l:List D)(lo hi:Nat):kg l lo hi=(l.take hi).drop lo:=by
 unfold kg
 split
 ·rename_i e;rw[ahh e];simp
 ·rfl
def Vz (m:Option Nat)(e:TypeId)(l:List D):BV:=match m with|none=> .bw e l|some _=> .Fi e l
def Ec {t el:TypeId}{xs:List D}{x':Value}{lo hi mx:Option BV}{lo' hi' mx':Option Value}{l hh m:Option Nat}(hu:P.underlying t=some (.slice el))(hd:cQ P el=true)
 (hx:ao P g w (.bw el xs) x')(hlo:xT P g w lo lo')(hhi:xT P g w hi hi')(hmx:xT P g w mx mx')
 (e1:jM lo=some l)(e2:jM hi=some hh)(e3:jM mx=some m)(c1:∀q,m=some q->q=hh.getD xs.length)(c2:hh.getD xs.length<=xs.length)(c3:l.getD 0<=hh.getD xs.length)(c4:m.isNone||hh.isSome):
 ∃v',(Instr.sliceAt t x' lo' hi' mx').run P w= .ok v' w/\ao P g w (Vz m el (kg xs (l.getD 0) (hh.getD xs.length))) v':=by
 have hs:=(ft hd).2.1
 have hlen:(kg xs (l.getD 0) (hh.getD xs.length)).length=hh.getD xs.length-l.getD 0:=by rw[JQ];simp;omega
 simp only[ao]at hx
 have key:∀(a:Option Addr) (c:Nat),x'= .slice a xs.length c->xs.length<=c->
  (Instr.sliceAt t x' lo' hi' mx').run P w= .ok (.slice (if m.getD c=l.getD 0 then a else a.map (·.add (l.getD 0*P.cellsOf el))) (hh.getD xs.length-l.getD 0) (m.getD c-l.getD 0)) w:=by
  intro a c hx' hc
  subst hx'
  exact p5 hu hs hlo hhi hmx e1 e2 e3 (by cases m with
   |none=>simp
   |some q=>have:=c1 q rfl;simp;omega) (by cases m with
   |none=>simp;omega
   |some q=>have:=c1 q rfl;simp;omega) c3 c4
 have none0:∀(a:Option Addr) (q:Nat),hh.getD xs.length-l.getD 0=0->(m=none->a=none->q=0)->(∀r,m=some r->q=0)->
  ao P g w (Vz m el (kg xs (l.getD 0) (hh.getD xs.length))) (.slice a 0 q):=by
  intro a q hz hq1 hq2
  have hnil:kg xs (l.getD 0) (hh.getD xs.length)=[]:=ahy.1 (by rw[hlen];exact hz)
  rw[hnil]
  cases m with
  |none=>
   simp only[Vz,ao]
   cases a with
   |none=>rw[hq1 rfl rfl];exact .inl ⟨trivial,.inl rfl⟩
   |some a=>exact .inl ⟨trivial,.inr ⟨a,q,rfl⟩⟩
  |some r=>
   simp only[Vz,ao]
   rw[hq2 r rfl]
   cases a with
   |none=>exact .inl ⟨trivial,.inl rfl⟩
   |some a=>exact .inl ⟨trivial,.inr ⟨a,rfl⟩⟩
 rcases hx with ⟨rfl,rfl| ⟨a,c,rfl⟩⟩| ⟨aL,off,c,rfl,hc,hf,vs,hv,hat⟩
 ·refine⟨_,key none 0 rfl (aho _),?_⟩
  simp only[aix]at c2 c3 ⊢
  have h0:hh.getD 0-l.getD 0=0:=by omega
  have hn:=none0 (if m.getD 0=l.getD 0 then none else (none:Option Addr).map (·.add (l.getD 0*P.cellsOf el))) (m.getD 0-l.getD 0) h0 (fun hm _=>by subst hm;simp) (fun r hm=>by have:=c1 r hm;subst hm;simp at this ⊢;omega)
  rw[h0];simpa using hn
 ·refine⟨_,key (some a) c rfl (ai3 _),?_⟩
  simp only[aix]at c2 c3 ⊢
  have h0:hh.getD 0-l.getD 0=0:=by omega
  have hn:=none0 (if m.getD c=l.getD 0 then some a else (some a).map (·.add (l.getD 0*P.cellsOf el))) (m.getD c-l.getD 0) h0 (fun hm ha=>by split at ha<;>simp at ha) (fun r hm=>by have:=c1 r hm;subst hm;simp at this ⊢;omega)
  rw[h0];simpa using hn
 ·refine⟨_,key (some ⟨aL,off,none⟩) c rfl hc,?_⟩
  by_cases h0:hh.getD xs.length-l.getD 0=0
  ·rw[h0]
   exact none0 (if m.getD c=l.getD 0 then some ⟨aL,off,none⟩else (some ⟨aL,off,none⟩:Option Addr).map (·.add (l.getD 0*P.cellsOf el))) (m.getD c-l.getD 0) h0 (fun hm ha=>by split at ha<;>simp at ha) (fun r hm=>by have:=c1 r hm;subst hm;simp at this ⊢;omega)
  ·have hrow:IM P g.fz w el (kg xs (l.getD 0) (hh.getD xs.length)) aL (off+l.getD 0*P.cellsOf el):=by
    rw[JQ]
    exact⟨hf,_,(hv.take _).drop _,hat.take.drop⟩
   cases m with
   |none=>
    simp only[Vz,ao,ajI]
    refine .inr ⟨aL,off+l.getD 0*P.cellsOf el,c-l.getD 0,?_,by rw[hlen];omega,hrow⟩
    rw[hlen,ag4 (by omega)];simp[oZ]
   |some q=>
    have hq:=c1 q rfl
    simp only[Vz,ao,ah4]
    refine .inr ⟨aL,off+l.getD 0*P.cellsOf el,?_,hrow⟩
    rw[hlen,ag4 (by omega),hq];simp[oZ]
def ao.NP {el:TypeId}{xs:List D}{x':Value}(hx:ao P g w (.Fi el xs) x'):ao P g w (.bw el xs) x':=by
 simp only[ao]at hx ⊢
 rcases hx with ⟨h0,h1| ⟨a,h1⟩⟩| ⟨aL,off,h1,h2⟩
 ·exact .inl ⟨h0,.inl h1⟩
 ·exact .inl ⟨h0,.inr ⟨a,0,h1⟩⟩
 ·exact .inr ⟨aL,off,_,h1,aho _,h2⟩
def WU {t:TypeId}{x v:BV}{x':Value}{lo hi mx:Option BV}{lo' hi' mx':Option Value}(hr:bc P g h w)(hx:ao P g w x x')(hlo:xT P g w lo lo')(hhi:xT P g w hi hi')(hmx:xT P g w mx mx')
 (e:sliceB P t x lo hi mx=some v):∃v',(Instr.sliceAt t x' lo' hi' mx').run P w= .ok v' w/\ao P g w v v':=by
 unfold sliceB at e
 split at e
 ·rename_i l hh m el eh em
  dsimp only at e
  split at e
  ·
   rename_i s hu
   simp only[ao]at hx;subst hx
   split at e
   ·rename_i hc
    simp only[ag2,agW]at hc
    obtain⟨⟨hm,h1⟩,h2⟩:=hc
    cases e
    refine⟨.string ⟨(((s.take (hh.getD s.length)).drop (l.getD 0))).toArray⟩,?_,by simp[ao]⟩
    have hmn:mx'=none:=by
     rcases sE hmx em with ⟨_,r,_⟩| ⟨k,i,_,_,r⟩
     ·exact r
     ·subst r;simp at hm
    subst hmn
    have e1:(ByteArray.mk s.toArray).size=s.length:=by simp[ByteArray.size]
    have hb:=BW (P:=P) (g:=g) (w:=w) (isS:=false) (len:=s.length) (cap:=s.length) hlo hhi (mx:=none) (mx':=none) (.inl ⟨rfl,rfl⟩) el eh (m:=none) rfl (by simp) (by simpa using h2) h1 (by simp)
    simp only[Instr.sliceAt,Sem.run_bind,aT hu,Result.andThen_ok,Instr.slice,ajX,agZ,ahN,e1,hb,Sem.run_pure]
    congr 2
    apply akv
    simp[ByteArray.data_extract,ajZ,<-List.drop_take]
   ·cases e
  ·
   rename_i el' hu
   simp only[ao]at hx;subst hx
   split at e
   ·rename_i hc
    simp only[ag2,agW]at hc
    obtain⟨⟨⟨h1,h2⟩,h3⟩,h4⟩:=hc
    cases e
    refine⟨.slice none 0 0,?_,by simp[ao]⟩
    cases hs:kb P el' with
    |none=>simp[hs]at h4
    |some size=>
     have:=p5 (P:=P) (g:=g) (w:=w) (a:=none) (len:=0) (c:=0) hu hs hlo hhi hmx el eh em (by omega) (by omega) (by omega) (by
      cases m with
      |none=>rfl
      |some m=>rcases sE hmx em with ⟨_,_,r⟩|_
               ·cases r
               ·cases hh with
                |none=>simp[hs]at h4
                |some _=>rfl)
     rw[this,h1,h2,h3];rfl
   ·cases e
  ·
   rename_i elT e' l' hu
   split at e
   ·rename_i hc
    simp only[ag2]at hc
    obtain⟨he,hd⟩:=hc
    have he:=ahh he
    subst he
    split at e
    ·split at e
     ·rename_i hc
      simp only[ag2,agW]at hc
      cases e
      exact Ec hu hd hx hlo hhi hmx el eh em (fun q hq=>by cases hq) hc.2 hc.1 (by simp)
     ·cases e
    ·rename_i q
     split at e
     ·rename_i hc
      simp only[ag2,agW]at hc
      obtain⟨⟨⟨hc1,hc2⟩,hc3⟩,hc4⟩:=hc
      have hc1:=ahh hc1
      cases e
      exact Ec hu hd hx hlo hhi hmx el eh em (fun q' hq=>by cases hq;exact hc1) hc4 hc3 (by simp[hc2])
     ·cases e
   ·cases e
  ·
   rename_i elT b n vt hu
   split at e
   ·rename_i hc
    simp only[ag2,akE]at hc
    obtain⟨⟨⟨hd,hc1⟩,hc2⟩,hc3⟩:=hc
    have hc1:=ahh hc1
    cases e
    have hs:=(ft hd).2.1
    have hh0:hh=some 0:=by cases hh with|none=>simp at hc2|some q=>simp at hc2;rw[hc2]
    have hm0:m=some 0:=by cases m with|none=>simp at hc3|some q=>simp at hc3;rw[hc3]
    subst hh0 hm0
    have key:∀(a:Option Addr) (len c:Nat),(Instr.sliceAt t (.slice a len c) lo' hi' mx').run P w= .ok (.slice a 0 0) w:=by
     intro a len c
     have:=p5 (P:=P) (g:=g) (w:=w) (a:=a) (len:=len) (c:=c) hu hs hlo hhi hmx el eh em (by simp) (by simp) (by rw[hc1];simp) (by simp)
     rw[this,hc1];simp
    simp only[ao]at hx ⊢
    rcases hx with ⟨_,rfl| ⟨a,rfl⟩⟩| ⟨aL,az,c,_,rfl,_⟩
    ·exact⟨_,key _ _ _,.inl ⟨trivial,.inl rfl⟩⟩
    ·exact⟨_,key _ _ _,.inl ⟨trivial,.inr ⟨_,rfl⟩⟩⟩
    ·exact⟨_,key _ _ _,.inl ⟨trivial,.inr ⟨_,rfl⟩⟩⟩
   ·split at e
    ·rename_i hc
     simp only[ag2,akE]at hc
     obtain⟨⟨⟨⟨hd,hc1⟩,hi1,hm1⟩,hc2⟩,hc3⟩:=hc
     have hc1:=ahh hc1
     cases e
     have hs:=(ft hd).2.1
     have hh0:hh=some n:=by cases hh with|none=>simp at hi1|some q=>simp at hc2;rw[hc2]
     have hm0:m=some n:=by cases m with|none=>simp at hm1|some q=>simp at hc3;rw[hc3]
     subst hh0 hm0
     have key:∀(a:Option Addr) (c:Nat),n<=c->(n=0->(Instr.sliceAt t (.slice a n c) lo' hi' mx').run P w= .ok (.slice a 0 0) w)/\(n≠0->∃b',b'=a.map (fun x=>x.add (l.getD 0*(kb P elT).getD 0))/\(Instr.sliceAt t (.slice a n c) lo' hi' mx').run P w= .ok (.slice b' n n) w):=by
      intro a c hnc
      have:=p5 (P:=P) (g:=g) (w:=w) (a:=a) (len:=n) (c:=c) hu hs hlo hhi hmx el eh em (by simpa using hnc) (by simp) (by rw[hc1];simp) (by simp)
      rw[this,hc1]
      refine⟨fun h0=>by simp[h0],fun h0=>⟨_,rfl,by simp[h0,hs]⟩⟩
     simp only[ao]at hx ⊢
     rcases hx with ⟨⟨hv,h0⟩,rfl| ⟨a,rfl⟩⟩| ⟨aL,az,c,hm,rfl,hc,e1,n1,q1,q2⟩
     ·subst h0;exact⟨_,(key _ 0 (aho _)).1 rfl,.inl ⟨⟨hv,rfl⟩,.inl rfl⟩⟩
     ·subst h0;exact⟨_,(key _ 0 (aho _)).1 rfl,.inl ⟨⟨hv,rfl⟩,.inr ⟨_,rfl⟩⟩⟩
     ·by_cases h0:n=0
      ·subst h0
       refine⟨_,(key _ c hc).1 rfl,.inr ⟨aL,az,0,hm,rfl,aho _,e1,n1,q1,by omega⟩⟩
      ·obtain⟨b',rfl,k1⟩:=(key (some ⟨aL,az,none⟩) c hc).2 h0
       refine⟨_,k1,.inr ⟨aL,az,n,hm,by simp[hc1,oZ],aho _,e1,n1,q1,?_⟩⟩
       have:=ah6 (P.cellsOf e1) hc
       omega
    ·cases e
  ·
   rename_i elT e' l' hu
   split at e
   ·rename_i hc
    simp only[ag2]at hc
    obtain⟨he,hd⟩:=hc
    have he:=ahh he
    subst he
    have hx:=hx.NP
    split at e
    ·split at e
     ·rename_i hc
      simp only[ag2,agW]at hc
      cases e
      exact Ec hu hd hx hlo hhi hmx el eh em (fun q hq=>by cases hq) hc.2 hc.1 (by simp)
     ·cases e
    ·rename_i q
     split at e
     ·rename_i hc
      simp only[ag2,agW]at hc
      obtain⟨⟨⟨hc1,hc2⟩,hc3⟩,hc4⟩:=hc
      have hc1:=ahh hc1
      cases e
      exact Ec hu hd hx hlo hhi hmx el eh em (fun q' hq=>by cases hq;exact hc1) hc4 hc3 (by simp[hc2])
     ·cases e
   ·cases e
  ·cases e
 ·cases e
end
end
section
section
variable {P:Program} {g:Gh} {h:aj} {w:World}
def Mt (a b:List UInt8):(ByteArray.mk a.toArray==ByteArray.mk b.toArray)=(a==b):=by
 rw[ahu]
 constructor
 ·intro h
  have:(a.toArray==b.toArray)=true:=h
  simpa using this
 ·intro h
  have:a=b:=by simpa using h
  subst this
  show (a.toArray==a.toArray)=true
  simp
def Tu {E:TypeId->BV->BV->Option Bool}{E':TypeId->Value->Value->Sem Bool}
 (hE:∀t x y x' y' r,ao P g w x x'->ao P g w y y'->E t x y=some r->(E' t x' y').run P w= .ok r w):
 ∀(fs:List Field) (xs ys:List BV) (xs' ys':Array Value) (r:Bool),aq P g w xs xs'.toList->aq P g w ys ys'.toList->qX P E fs xs ys=some r->
 (forIn fs ((none,()):Option Bool×Unit) (fun f __s=>
   if f.name≠ "_" then do
    let __do_lift<-part f.type xs' f.offset
    let __do_lift_1<-part f.type ys' f.offset
    let __do_lift<-E' f.type __do_lift __do_lift_1
    if (!__do_lift)=true then pure (ForInStep.done (some false,()))else pure (ForInStep.yield (none,()))
   else pure (ForInStep.yield (none,()))):Sem (Option Bool×Unit)).run P w= .ok ((if r then none else some false),()) w:=by
 intro fs
 induction fs with
 |nil=>intro xs ys xs' ys' r _ _ e;simp[qX]at e;subst e;simp
 |cons f fs ih=>
  intro xs ys xs' ys' r hx hy e
  simp only[qX]at e
  simp only[List.forIn_cons,Sem.run_bind]
  by_cases hn:f.name≠ "_"
  ·rw[ag8 hn]at e
   rw[ag8 hn]
   split at e
   ·rename_i a b ha hb
    obtain⟨a',ha1,ha2⟩:=Hs hx ha
    obtain⟨b',hb1,hb2⟩:=Hs hy hb
    simp only[Sem.run_bind,ha1,hb1,Result.andThen_ok]
    split at e
    ·rename_i he
     rw[hE _ _ _ _ _ _ ha2 hb2 he]
     simp only[Result.andThen_ok,aip,agZ,ahN,Sem.run_pure]
     exact ih xs ys xs' ys' r hx hy e
    ·rename_i he
     rw[hE _ _ _ _ _ _ ha2 hb2 he]
     cases e
     simp
    ·cases e
   ·cases e
  ·rw[ag4 hn]at e
   rw[ag4 hn]
   simp only[Sem.run_pure,Result.andThen_ok]
   exact ih xs ys xs' ys' r hx hy e
def GW {x:BV}{x':Value}{b:Bool}(hx:ao P g w x x')(e:YO x=some b):∃a:Option Addr,x'= .pointer a/\a.isNone=b:=by
 unfold YO at e
 split at e<;>cases e<;>simp only[ao]at hx
 ·exact⟨_,hx,rfl⟩
 ·obtain⟨_,_,_,rfl⟩:=hx;exact⟨_,rfl,rfl⟩
 ·obtain⟨_,_,rfl,_⟩:=hx;exact⟨_,rfl,rfl⟩
 ·obtain⟨_,_,_,rfl,_⟩:=hx;exact⟨_,rfl,rfl⟩
def GX {x:BV}{x':Value}{b:Bool}(hx:ao P g w x x')(e:Oa x=some b):∃(a:Option Addr) (l c:Nat),x'= .slice a l c/\a.isNone=b:=by
 unfold Oa at e
 split at e<;>cases e<;>simp only[ao]at hx
 ·exact⟨_,_,_,hx,rfl⟩
 ·obtain⟨_,_,rfl⟩:=hx;exact⟨_,_,_,rfl,rfl⟩
 ·rcases hx with ⟨h0,_⟩| ⟨_,_,_,rfl,_⟩
  ·cases h0
  ·exact⟨_,_,_,rfl,rfl⟩
 ·rcases hx with ⟨⟨_,h0⟩,_⟩| ⟨_,_,_,_,rfl,_⟩
  ·cases h0
  ·exact⟨_,_,_,rfl,rfl⟩
def GV {x:BV}{x':Value}{b:Bool}(hx:ao P g w x x')(e:YN x=some b):∃a:Option Nat,x'= .map a/\a.isNone=b:=by
 unfold YN at e
 split at e<;>cases e<;>simp only[ao]at hx
 ·exact⟨_,hx,rfl⟩
 ·obtain⟨_,_,rfl⟩:=hx;exact⟨_,rfl,rfl⟩
def Bo {a b:Option Bool}{r:Bool}(e:GU a b=some r):(a=some true/\b=some r)\/(b=some true/\a=some r):=by
 revert e
 unfold GU
 split
 ·intro e;exact .inl ⟨rfl,e⟩
 ·intro e;exact .inr ⟨rfl,e⟩
 ·intro e;cases e
def ZU (hr:bc P g h w):∀(d:Nat) (t:TypeId) (x y:BV) (x' y':Value) (r:Bool),ao P g w x x'->ao P g w y y'->FI P d t x y=some r->
 ∀D,d<=D->(Op.equalIn D t x' y').run P w= .ok r w:=by
 intro d
 induction d with
 |zero=>intro t x y x' y' r _ _ e;simp[FI]at e
 |succ d ih=>
  intro t x y x' y' r hx hy e D hD
  obtain⟨D,rfl⟩:∃D',D=D'+1:=⟨D-1,by omega⟩
  have hD':d<=D:=by omega
  unfold FI at e
  split at e
  ·rename_i a b hu
   simp only[ao]at hx hy;subst hx hy
   cases e
   refine(Sem.run_bind P w (underlying t) _).trans ?_
   rw[aT hu,Result.andThen_ok];rfl
  ·rename_i k a k' b hu
   simp only[ao]at hx hy;subst hx hy
   split at e
   ·rename_i hk;subst hk
    cases e
    refine(Sem.run_bind P w (underlying t) _).trans ?_
    rw[aT hu,Result.andThen_ok]
    show Sem.run P (if k=k then pure (a==b)else _) w=_
    rw[ag8 rfl];rfl
   ·cases e
  ·rename_i a b hu
   simp only[ao]at hx hy;subst hx hy
   cases e
   refine(Sem.run_bind P w (underlying t) _).trans ?_
   rw[aT hu,Result.andThen_ok,<-Mt];rfl
  ·rename_i el hu
   rcases Bo e with ⟨k1,k2⟩| ⟨k1,k2⟩
   ·obtain⟨a,rfl,a2⟩:=GW hx k1
    obtain⟨c,rfl,c2⟩:=GW hy k2
    cases a<;>simp only[Option.isNone]at a2<;>cases a2
    refine(Sem.run_bind P w (underlying t) _).trans ?_
    rw[aT hu,Result.andThen_ok]
    cases c<;>cases c2<;>rfl
   ·obtain⟨a,rfl,a2⟩:=GW hx k2
    obtain⟨c,rfl,c2⟩:=GW hy k1
    cases c<;>simp only[Option.isNone]at c2<;>cases c2
    refine(Sem.run_bind P w (underlying t) _).trans ?_
    rw[aT hu,Result.andThen_ok]
    cases a<;>cases a2<;>rfl
  ·rename_i el hu
   rcases Bo e with ⟨k1,k2⟩| ⟨k1,k2⟩
   ·obtain⟨a,_,_,rfl,a2⟩:=GX hx k1
    obtain⟨c,_,_,rfl,c2⟩:=GX hy k2
    cases a<;>simp only[Option.isNone]at a2<;>cases a2
    refine(Sem.run_bind P w (underlying t) _).trans ?_
    rw[aT hu,Result.andThen_ok]
    cases c<;>cases c2<;>rfl
   ·obtain⟨a,_,_,rfl,a2⟩:=GX hx k2
    obtain⟨c,_,_,rfl,c2⟩:=GX hy k1
    cases c<;>simp only[Option.isNone]at c2<;>cases c2
    refine(Sem.run_bind P w (underlying t) _).trans ?_
    rw[aT hu,Result.andThen_ok]
    cases a<;>cases a2<;>rfl
  ·rename_i kt el hu
   rcases Bo e with ⟨k1,k2⟩| ⟨k1,k2⟩
   ·obtain⟨a,rfl,a2⟩:=GV hx k1
    obtain⟨c,rfl,c2⟩:=GV hy k2
    cases a<;>simp only[Option.isNone]at a2<;>cases a2
    refine(Sem.run_bind P w (underlying t) _).trans ?_
    rw[aT hu,Result.andThen_ok]
    cases c<;>cases c2<;>rfl
   ·obtain⟨a,rfl,a2⟩:=GV hx k2
    obtain⟨c,rfl,c2⟩:=GV hy k1
    cases c<;>simp only[Option.isNone]at c2<;>cases c2
    refine(Sem.run_bind P w (underlying t) _).trans ?_
    rw[aT hu,Result.andThen_ok]
    cases a<;>cases a2<;>rfl
  ·rename_i eK xs ys hu
   simp only[ao]at hx hy
   obtain⟨xs',rfl,hx⟩:=hx
   obtain⟨ys',rfl,hy⟩:=hy
   split at e
   ·cases e
   ·rename_i hst
    have hst:P.stoodInHeld t=false:=by simpa using hst
    have:=Tu (P:=P) (g:=g) (w:=w) (E:=FI P d) (E':=Op.equalIn D) (fun t x y x' y' r hx hy e=>ih t x y x' y' r hx hy e D hD') eK.toList xs ys xs' ys' r hx hy e
    refine(Sem.run_bind P w (underlying t) _).trans ?_
    rw[aT hu,Result.andThen_ok]
    refine(Sem.run_bind P w program _).trans ?_
    rw[run_program,Result.andThen_ok,hst]
    rw[<-aky]
    refine(Sem.run_bind P w _ _).trans ?_
    rw[this]
    cases r<;>rfl
  ·cases e
end
end
section
section
variable {P:Program} {g:Gh} {h:aj} {w:World}
def NH (a:List UInt8):(ByteArray.mk a.toArray).toList=a:=by
 rw[ByteArray.toList_eq]
def NG (a b:List UInt8):ByteArray.mk a.toArray++ByteArray.mk b.toArray=ByteArray.mk (a++b).toArray:=by
 apply akv
 simp
def Jm:Value->Nat
 | .int .. =>1| .float .. =>2| .complex .. =>3| .string .. =>4|_=>0
def T7:BV->Nat
 | .int .. =>1| .b8 .. =>4|_=>0
def ao.kind {b:BV}{v:Value}(hv:ao P g w b v)(hk:b.vd=true):T7 b=Jm v:=by
 cases b<;>simp only[ao]at hv<;>first
  | (simp[BV.vd]at hk;done)
  | (subst hv;rfl)
  | (rcases hv with ⟨_,rfl| ⟨_,_,rfl⟩⟩| ⟨_,_,_,rfl,_⟩<;>rfl)
  | (rcases hv with ⟨_,rfl| ⟨_,rfl⟩⟩| ⟨_,_,rfl,_⟩<;>rfl)
  | (rcases hv with ⟨_,rfl| ⟨_,rfl⟩⟩| ⟨_,_,_,_,rfl,_⟩<;>rfl)
  | (obtain⟨_,rfl,_⟩:=hv;rfl)
  | (obtain⟨_,_,rfl⟩:=hv;rfl)
  | (obtain⟨_,_,rfl,_⟩:=hv;rfl)
  | (obtain⟨_,_,_,rfl⟩:=hv;rfl)
  | (obtain⟨_,_,_,rfl,_⟩:=hv;rfl)
  | (obtain⟨_,_,_,_,rfl,_⟩:=hv;rfl)
def Cu (t:TypeId){x y:Value}(hk:Jm x≠Jm y\/Jm x=0):
 binOp .eql t x y=(do pure (.bool (<-Op.equal t x y)))/\binOp .neq t x y=(do pure (.bool (!(<-Op.equal t x y)))):=by
 cases x<;>cases y<;>first
  |exact⟨rfl,rfl⟩
  | (simp[Jm]at hk;done)
def MH {d:Nat}{t:TypeId}{x y:BV}{r:Bool}(e:FI P (d+1) t x y=some r):x.vd=true/\y.vd=true:=by
 have hp:∀{x:BV} {b:Bool},YO x=some b->x.vd=true:=fun {x b} h=>by cases x<;>first|rfl|cases h
 have hm:∀{x:BV} {b:Bool},YN x=some b->x.vd=true:=fun {x b} h=>by cases x<;>first|rfl|cases h
 have hs:∀{x:BV} {b:Bool},Oa x=some b->x.vd=true:=fun {x b} h=>by cases x<;>first|rfl|cases h
 unfold FI at e
 split at e<;>first
  |exact⟨rfl,rfl⟩
  | (cases e;done)
  | (rcases Bo e with ⟨k1,k2⟩| ⟨k1,k2⟩<;>first|exact⟨hp k1,hp k2⟩|exact⟨hp k2,hp k1⟩|exact⟨hm k1,hm k2⟩|exact⟨hm k2,hm k1⟩|exact⟨hs k1,hs k2⟩|exact⟨hs k2,hs k1⟩)
def acn (hr:bc P g h w){op:BinOp}{t:TypeId}{x y v:BV}{x' y':Value}(hx:ao P g w x x')(hy:ao P g w y y')(e:AR P op t x y=some v):
 ∃v',(binOp op t x' y').run P w= .ok v' w/\ao P g w v v':=by
 have heq:∀r,FI P 12 t x y=some r->(Op.equal t x' y').run P w= .ok r w:=fun r hb=>ZU hr 12 t x y x' y' r hx hy hb Op.maxDepth (by unfold Op.maxDepth;omega)
 by_cases hi:∃k a k' b,x= .int k a/\y= .int k' b
 ·obtain⟨k,a,k',b,rfl,rfl⟩:=hi
  simp only[ao]at hx hy;subst hx hy
  by_cases hs:op= .shl\/op= .shr
  ·rcases hs with rfl|rfl
   ·simp only[AR]at e
    split at e
    ·cases e
    ·rename_i hb
     cases e
     exact⟨_,by simp only[binOp,Op.shift];rw[ag4 hb];rfl,by simp[ao]⟩
   ·simp only[AR]at e
    split at e
    ·cases e
    ·rename_i hb
     cases e
     exact⟨_,by simp only[binOp,Op.shift];rw[ag4 hb];rfl,by simp[ao]⟩
  ·have hne:op≠ .shl/\op≠ .shr:=by
    constructor<;>intro h'<;>exact hs (by simp[h'])
   have e':(if k≠k' then none else
    match op with
    | .add=>some (BV.int k (k.wrap (a+b)))
    | .sub=>some (.int k (k.wrap (a-b)))
    | .mul=>some (.int k (k.wrap (a*b)))
    | .quo=>if b=0 then none else some (.int k (k.wrap (a.tdiv b)))
    | .rem=>if b=0 then none else some (.int k (a.tmod b))
    | .and=>some (.int k (k.wrap (BitVec.ofInt k.bits a &&& BitVec.ofInt k.bits b).toNat))
    | .or=>some (.int k (k.wrap (BitVec.ofInt k.bits a ||| BitVec.ofInt k.bits b).toNat))
    | .xor=>some (.int k (k.wrap (BitVec.ofInt k.bits a ^^^ BitVec.ofInt k.bits b).toNat))
    | .andNot=>some (.int k (k.wrap (BitVec.ofInt k.bits a &&& ~~~(BitVec.ofInt k.bits b)).toNat))
    | .eql=>some (.bool (a==b))
    | .neq=>some (.bool (a !=b))
    | .lss=>some (.bool (decide (a<b)))
    | .leq=>some (.bool (decide (a<=b)))
    | .gtr=>some (.bool (decide (a>b)))
    | .geq=>some (.bool (decide (a≥b)))
    |_=>none)=some v:=by
    rw[<-e];cases op<;>first|rfl| (exact absurd rfl hne.1)| (exact absurd rfl hne.2)
   split at e'
   ·cases e'
   ·rename_i hk
    have hk:k=k':=by simpa using hk
    subst hk
    cases op<;>dsimp only at e'
    case quo=>
     split at e'
     ·cases e'
     ·rename_i hb;cases e'
      exact⟨_,by simp only[binOp];rw[ag4 (by simp)];simp only[Op.intDiv];rw[ag4 hb];rfl,by simp[ao]⟩
    case rem=>
     split at e'
     ·cases e'
     ·rename_i hb;cases e'
      exact⟨_,by simp only[binOp];rw[ag4 (by simp)];simp only[Op.intDiv];rw[ag4 hb];rfl,by simp[ao]⟩
    all_goals first
     | (cases e';done)
     | (cases e';exact⟨_,by simp only[binOp];rw[ag4 (by simp)];rfl,by simp only[ao]⟩)
 by_cases hst:∃a b,x= .b8 a/\y= .b8 b
 ·obtain⟨a,b,rfl,rfl⟩:=hst
  simp only[ao]at hx hy;subst hx hy
  have hb:∀op,op≠ .shl->op≠ .shr->binOp op t (.string ⟨a.toArray⟩) (.string ⟨b.toArray⟩)=Op.stringOp op ⟨a.toArray⟩ ⟨b.toArray⟩:=fun op h1 h2=>by
   cases op<;>first|rfl| (exact absurd rfl h1)| (exact absurd rfl h2)
  cases op<;>simp only[AR]at e
  case add=>
   split at e
   ·rename_i hl
    cases e
    refine⟨.string ⟨(a++b).toArray⟩,?_,by simp[ao]⟩
    rw[hb _ (by simp) (by simp)]
    simp only[Op.stringOp]
    rw[ag4 (by simp only[ByteArray.size,List.size_toArray];simp only[IntKind.max,IntKind.signed,IntKind.bits,ahz];omega),NG]
    rfl
   ·cases e
  all_goals first
   | (cases e;done)
   | (cases e;refine⟨_,by rw[hb _ (by simp) (by simp)];simp only[Op.stringOp,NH,Sem.run_pure];rfl,?_⟩;simp[ao,Gb])
   | (simp[FI]at e)
 have hop:(op= .eql/\(FI P 12 t x y).map BV.bool=some v)\/(op= .neq/\(FI P 12 t x y).map (fun b=>BV.bool (!b))=some v):=by
  unfold AR at e
  split at e
  ·exact absurd ⟨_,_,_,_,rfl,rfl⟩ hi
  ·exact absurd ⟨_,_,_,_,rfl,rfl⟩ hi
  ·exact absurd ⟨_,_,_,_,rfl,rfl⟩ hi
  ·exact absurd ⟨_,_,rfl,rfl⟩ hst
  ·exact .inl ⟨rfl,e⟩
  ·exact .inr ⟨rfl,e⟩
  ·cases e
 have bj:∀r,FI P 12 t x y=some r->(Jm x'≠Jm y'\/Jm x'=0):=fun r hb=>by
  obtain⟨k1,k2⟩:=MH hb
  rw[<-ao.kind hx k1,<-ao.kind hy k2]
  by_cases h0:T7 x=0
  ·exact .inr h0
  ·left
   cases x<;>simp[T7]at h0<;>cases y<;>simp[T7]<;>first
    |exact absurd ⟨_,_,_,_,rfl,rfl⟩ hi
    |exact absurd ⟨_,_,rfl,rfl⟩ hst
 rcases hop with ⟨rfl,hv⟩| ⟨rfl,hv⟩
 ·cases hb:FI P 12 t x y with
  |none=>simp[hb]at hv
  |some r=>
   simp[hb]at hv;subst hv
   exact⟨.bool r,by rw[(Cu t (bj r hb)).1];simp[heq r hb],by simp[ao]⟩
 ·cases hb:FI P 12 t x y with
  |none=>simp[hb]at hv
  |some r=>
   simp[hb]at hv;subst hv
   exact⟨.bool (!r),by rw[(Cu t (bj r hb)).2];simp[heq r hb],by simp[ao]⟩
end
end
section
section
variable {P:Program} {g:Gh} {h:aj} {w:World}
def aez {op:UnOp}{x v:BV}{x':Value}(hx:ao P g w x x')(e:unB op x=some v):∃v',(Op.unary op x').run P w= .ok v' w/\ao P g w v v':=by
 unfold unB at e
 split at e
 ·simp only[ao]at hx;subst hx;cases e;exact⟨_,rfl,by simp[ao]⟩
 ·simp only[ao]at hx;subst hx;cases e;exact⟨_,rfl,by simp[ao]⟩
 ·simp only[ao]at hx;subst hx;cases e;exact⟨_,rfl,by simp[ao]⟩
 ·cases e
def Q0 {src dst:TypeId}{x v:BV}{x':Value}(hx:ao P g w x x')(e:Ku P src dst x=some v):∃v',(convert src dst x').run P w= .ok v' w/\ao P g w v v':=by
 unfold Ku at e
 split at e
 ·rename_i d k k' n hs hd
  simp only[ao]at hx;subst hx;cases e
  refine⟨.int k (k.wrap n),?_,by simp[ao]⟩
  refine(Sem.run_bind P w _ _).trans ?_
  rw[aT hs,Result.andThen_ok]
  refine(Sem.run_bind P w _ _).trans ?_
  rw[aT hd,Result.andThen_ok]
  cases d<;>rfl
 ·rename_i d s hs hd
  simp only[ao]at hx;subst hx;cases e
  refine⟨.string ⟨s.toArray⟩,?_,by simp[ao]⟩
  refine(Sem.run_bind P w _ _).trans ?_
  rw[aT hs,Result.andThen_ok]
  refine(Sem.run_bind P w _ _).trans ?_
  rw[aT hd,Result.andThen_ok]
  cases d<;>rfl
 ·cases e
end
end
section
section
variable {P:Program} {g:Gh} {h:aj} {w w':World}
def nD {t:TypeId}(hk:Br P t=true):cQ P t=true/\((∃k,P.underlying t=some (.int k))\/P.underlying t=some .bool\/P.underlying t=some .string\/∃fs,P.underlying t=some (.struct fs)/\pZ P fs.toList 0=true/\P.stoodInHeld t=false):=by
 unfold Br at hk
 simp only[ag2]at hk
 refine⟨hk.1,?_⟩
 have h2:=hk.2
 split at h2
 ·rename_i k hu;exact .inl ⟨k,hu⟩
 ·rename_i hu;exact .inr (.inl hu)
 ·rename_i hu;exact .inr (.inr (.inl hu))
 ·rename_i fs hu
  simp only[ag2,ahl]at h2
  exact .inr (.inr (.inr ⟨fs,hu,h2⟩))
 ·cases h2
def vy (P:Program)(t:TypeId)(d:D):BV:=
 match P.underlying t with
 |some (.int k)=> .int k d.int
 |some .bool=> .bool d.bool
 |some .string=> .b8 d.b8
 |_=> .lH
def To (P:Program)(t:TypeId):Prop:=(∃k,P.underlying t=some (.int k))\/P.underlying t=some .bool\/P.underlying t=some .string
def FC {t:TypeId}(hs:To P t)(n:Nat)(d:D):dM P (n+1) t d=[vy P t d]:=by
 rcases hs with ⟨k,hu⟩|hu|hu<;>simp[dM,vy,hu]
def UL {t:TypeId}(hs:To P t){a b:D}(ha:AF P t a)(hb:AF P t b)(m:Nat):FI P (m+1) t (vy P t a) (vy P t b)=some (D.A5 a b):=by
 have key:∀{x y:Bool},(x=true↔y=true)->(some x:Option Bool)=some y:=fun hxy=>by congr 1;exact ahu.2 hxy
 rcases hs with ⟨k,hu⟩|hu|hu
 ·cases ha with
  |int h1 n=>cases hb with
   |int h2 n'=>simp only[vy,hu,FI,D.int,ahz];exact key (by rw[D.pI];simp)
   |bool h2=>rw[hu]at h2;cases h2
   |b8 h2=>rw[hu]at h2;cases h2
   |struct h2=>rw[hu]at h2;cases h2
  |bool h2=>rw[hu]at h2;cases h2
  |b8 h2=>rw[hu]at h2;cases h2
  |struct h2=>rw[hu]at h2;cases h2
 ·cases ha with
  |bool h1 n=>cases hb with
   |bool h2 n'=>simp only[vy,hu,FI,D.bool];exact key (by rw[D.pI];simp)
   |int h2=>rw[hu]at h2;cases h2
   |b8 h2=>rw[hu]at h2;cases h2
   |struct h2=>rw[hu]at h2;cases h2
  |int h2=>rw[hu]at h2;cases h2
  |b8 h2=>rw[hu]at h2;cases h2
  |struct h2=>rw[hu]at h2;cases h2
 ·cases ha with
  |b8 h1 n=>cases hb with
   |b8 h2 n'=>simp only[vy,hu,FI,D.b8];exact key (by rw[D.pI];simp)
   |int h2=>rw[hu]at h2;cases h2
   |bool h2=>rw[hu]at h2;cases h2
   |struct h2=>rw[hu]at h2;cases h2
  |int h2=>rw[hu]at h2;cases h2
  |bool h2=>rw[hu]at h2;cases h2
  |struct h2=>rw[hu]at h2;cases h2
def wj {f:Field}{r:List Field}{i:Nat}(e:pZ P (f::r) i=true):f.name≠ "_"/\f.offset=i/\To P f.type/\kb P f.type=some 1/\pZ P r (i+1)=true:=by
 simp only[pZ,ag2]at e
 obtain⟨⟨⟨⟨h1,h2⟩,h3⟩,h4⟩,h5⟩:=e
 refine⟨by simpa using h1,ahh h2,?_,?_,h5⟩
 ·split at h3
  ·rename_i k hu;exact .inl ⟨k,hu⟩
  ·rename_i hu;exact .inr (.inl hu)
  ·rename_i hu;exact .inr (.inr hu)
  ·cases h3
 ·split at h4
  ·rename_i n hn;rw[hn,ahh h4]
  ·cases h4
def Dk (n:Nat)(d:D):∀(fs:List Field) (i:Nat),pZ P fs i=true->∀(j:Nat) (f:Field),fs[j]?=some f->(gk (dM P (n+1)) fs i d)[j]?=some (vy P f.type (d.aa (i+j)))
 | [],_,_,j,f,hf=>by simp at hf
 |x::r,i,hp,j,f,hf=>by
  obtain⟨_,_,h3,_,h5⟩:=wj hp
  simp only[gk]
  rw[FC h3]
  cases j with
  |zero=>simp at hf;subst hf;simp
  |succ j=>
   simp at hf
   have:=Dk n d r (i+1) h5 j f hf
   rw[show i+1+j=i+(j+1)by omega]at this
   simpa using this
def CF (m:Nat){xs ys:List BV}{a b:List D}:∀(fs:List Field) (i:Nat),pZ P fs i=true->
 (∀(j:Nat) (f:Field),fs[j]?=some f->xs[i+j]?=some (vy P f.type (D.at a (i+j)))/\ys[i+j]?=some (vy P f.type (D.at b (i+j)))/\AF P f.type (D.at a (i+j))/\AF P f.type (D.at b (i+j)))->
 ∃r,qX P (FI P (m+1)) fs xs ys=some r/\(r=true↔∀j,j<fs.length->D.at a (i+j)=D.at b (i+j))
 | [],i,_,_=>⟨true,rfl,by simp⟩
 |f::fr,i,hp,hx=>by
  obtain⟨h1,h2,h3,h4,h5⟩:=wj hp
  obtain⟨x1,x2,x3,x4⟩:=hx 0 f rfl
  simp only[air]at x1 x2 x3 x4
  have hag:il P f.type=some false:=by rcases h3 with ⟨k,hu⟩|hu|hu<;>simp[il,hu]
  have p1:ED P f.type xs f.offset=some (vy P f.type (D.at a i)):=by simp only[ED,hag,h2];exact x1
  have p2:ED P f.type ys f.offset=some (vy P f.type (D.at b i)):=by simp only[ED,hag,h2];exact x2
  obtain⟨r,r1,r2⟩:=CF m fr (i+1) h5 fun j f' hf'=>by
   have:=hx (j+1) f' (by simpa using hf')
   rw[show i+(j+1)=i+1+j by omega]at this;exact this
  simp only[qX]
  rw[ag8 h1,p1,p2]
  dsimp only
  rw[UL h3 x3 x4]
  cases he:D.A5 (D.at a i) (D.at b i)with
  |true=>
   dsimp only
   refine⟨r,r1,r2.trans ⟨fun k j hj=>?_,fun k j hj=>?_⟩⟩
   ·cases j with
    |zero=>exact D.pI.1 he
    |succ j=>have:=k j (by simpa using hj);rwa [show i+1+j=i+(j+1)by omega]at this
   ·have:=k (j+1) (by simp;omega);rwa [show i+(j+1)=i+1+j by omega]at this
  |false=>
   refine⟨false,rfl,⟨fun k=>(by cases k),fun k=>?_⟩⟩
   exact absurd (k 0 (by simp)) (D.qy.1 he)
def Dj {t:TypeId}(hs:To P t)(d:D):cj P t d=vy P t d:=by
 have hag:il P t=some false:=by rcases hs with ⟨k,hu⟩|hu|hu<;>simp[il,hu]
 simp only[cj,hag,aK,FC hs]
def Vd {t:TypeId}(hk:Br P t=true){a b:D}(ha:AF P t a)(hb:AF P t b)(m:Nat):FI P (m+2) t (cj P t a) (cj P t b)=some (D.A5 a b):=by
 obtain⟨_,hs⟩:=nD hk
 by_cases hsc:To P t
 ·rw[Dj hsc,Dj hsc];exact UL hsc ha hb (m+1)
 ·obtain⟨fs,hu,hp,hst⟩:∃fs,P.underlying t=some (.struct fs)/\pZ P fs.toList 0=true/\P.stoodInHeld t=false:=by
   rcases hs with h|h|h|h
   ·exact absurd (.inl h) hsc
   ·exact absurd (.inr (.inl h)) hsc
   ·exact absurd (.inr (.inr h)) hsc
   ·exact h
  cases ha with
  |int h2=>rw[hu]at h2;cases h2
  |bool h2=>rw[hu]at h2;cases h2
  |b8 h2=>rw[hu]at h2;cases h2
  |struct h2 as hl hi=>
   rw[hu]at h2;cases h2
   cases hb with
   |int h2=>rw[hu]at h2;cases h2
   |bool h2=>rw[hu]at h2;cases h2
   |b8 h2=>rw[hu]at h2;cases h2
   |struct h2 bs hl' hi'=>
    rw[hu]at h2;cases h2
    have hag:il P t=some true:=by simp[il,hu]
    have hsh:∀d,aK P t d=gk (dM P 7) fs.toList 0 d:=fun d=>by simp[aK,dM,hu]
    have hat:∀(l:List D) (j:Nat),j<l.length->l[j]?=some (D.at l j):=fun l j hj=>by simp[D.at,List.getD,ag7 hj]
    obtain⟨r,r1,r2⟩:=CF (xs:=aK P t (.r as)) (ys:=aK P t (.r bs)) (a:=as) (b:=bs) m fs.toList 0 hp fun j f hf=>by
     have hjl:=(aha.1 hf).1
     have e1:=Dk (P:=P) 6 (.r as) fs.toList 0 hp j f hf
     have e2:=Dk (P:=P) 6 (.r bs) fs.toList 0 hp j f hf
     simp only[ah2]at e1 e2 ⊢
     rw[hsh,hsh]
     exact⟨e1,e2,hi j f _ hf (hat _ _ (by omega)),hi' j f _ hf (hat _ _ (by omega))⟩
    simp only[cj,hag]
    have e0:FI P (m+1+1) t (.agg (aK P t (.r as))) (.agg (aK P t (.r bs)))=if P.stoodInHeld t then none else qX P (FI P (m+1)) fs.toList (aK P t (.r as)) (aK P t (.r bs)):=by
     simp only[FI,hu]
    rw[e0]
    simp only[hst,agZ,ahN]
    rw[r1]
    congr 1
    rw[ahu,r2,D.pI]
    constructor
    ·intro k
     congr 1
     apply ajc
     intro j
     by_cases hj:j<fs.toList.length
     ·rw[hat as j (by omega),hat bs j (by omega)]
      have:=k j hj;simp only[ah2]at this;rw[this]
     ·rw[ahS (by omega),ahS (by omega)]
    ·intro k j _
     cases k;rfl
def Pu (hr:bc P g h w){t:TypeId}(hk:Br P t=true){a b:D}(ha:AF P t a)(hb:AF P t b){u v:Value}(hu:ao P g w (cj P t a) u)(hv:ao P g w (cj P t b) v):
 (Op.equal t u v).run P w= .ok (D.A5 a b) w:=
 ZU hr 12 t _ _ u v _ hu hv (Vd hk ha hb 10) Op.maxDepth (by unfold Op.maxDepth;omega)
def J2 {t:TypeId}{v:BV}{d:D}{v':Value}(hd:cQ P t=true)(e:unV P t v=some d)(hv:ao P g w v v'):ao P g w (cj P t d) v':=by
 unfold unV at e
 split at e
 ·rename_i ha
  split at e
  ·rename_i cs
   simp only[ao]at hv
   obtain⟨vs,rfl,hv⟩:=hv
   simp only[cj,ha,ao]
   exact⟨vs,rfl,nG.yU hd (BA e hv)⟩
  ·cases e
 ·rename_i ha
  have h1:=nG.yU (g:=g) hd (BA e (aq.cons hv aq.nil))
  simp only[cj,ha]
  split
  ·rename_i y hy
   rw[hy]at h1
   obtain⟨u,hu,h2⟩:=h1.one
   cases hu;exact h2
  ·simp only[ao]
 ·cases e
def Ri {n:Nat}:∀(fs:List Field) (i:Nat) {cs:List BV} {ds:List D} {r:List BV},pZ P fs i=true->Rh (unF P (n+1)) fs cs=some (ds,r)->ds.length=fs.length/\∀(j:Nat) (f:Field) (d:D),fs[j]?=some f->ds[j]?=some d->AF P f.type d
 | [],i,cs,ds,r,_,e=>by simp[Rh]at e;obtain⟨rfl,rfl⟩:=e;exact⟨rfl,fun j f d h=>by simp at h⟩
 |f::fr,i,cs,ds,r,hp,e=>by
  obtain⟨_,_,h3,_,h5⟩:=wj hp
  simp only[Rh]at e
  split at e
  ·rename_i d cs1 h1
   split at e
   ·rename_i ds1 cs2 h2
    cases e
    obtain⟨k1,k2⟩:=Ri fr (i+1) h5 h2
    refine⟨by simp[k1],fun j f' d' hj hd=>?_⟩
    cases j with
    |zero=>
     simp at hj hd;subst hj;subst hd
     simp only[unF]at h1
     rcases h3 with ⟨k,hu⟩|hu|hu
     ·simp only[hu]at h1
      split at h1
      ·split at h1
       ·cases h1;exact .int hu _
       ·cases h1
      ·cases h1
     ·simp only[hu]at h1
      split at h1
      ·cases h1;exact .bool hu _
      ·cases h1
     ·simp only[hu]at h1
      split at h1
      ·cases h1;exact .b8 hu _
      ·cases h1
    |succ j=>exact k2 j f' d' (by simpa using hj) (by simpa using hd)
   ·cases e
  ·cases e
def KM {t:TypeId}{k:BV}{d:D}(e:PD P t k=some d):Br P t=true/\unV P t k=some d/\AF P t d:=by
 unfold PD at e
 split at e
 ·rename_i hk
  refine⟨hk,e,?_⟩
  have huc:∃cs,Rg P t cs=some d:=by
   unfold unV at e
   split at e
   ·split at e
    ·exact⟨_,e⟩
    ·cases e
   ·exact⟨_,e⟩
   ·cases e
  obtain⟨cs,huc⟩:=huc
  unfold Rg at huc
  split at huc
  ·rename_i d1 h1
   cases huc
   rw[unF.eq_def]at h1
   dsimp only at h1
   obtain⟨_,hs⟩:=nD hk
   rcases hs with ⟨kk,hu⟩|hu|hu| ⟨fs,hu,hp,_⟩
   ·simp only[hu]at h1
    split at h1
    ·split at h1
     ·cases h1;exact .int hu _
     ·cases h1
    ·cases h1
   ·simp only[hu]at h1
    split at h1
    ·cases h1;exact .bool hu _
    ·cases h1
   ·simp only[hu]at h1
    split at h1
    ·cases h1;exact .b8 hu _
    ·cases h1
   ·simp only[hu]at h1
    split at h1
    ·rename_i ds r h2
     cases h1
     obtain⟨k1,k2⟩:=Ri (n:=6) fs.toList 0 hp h2
     exact .struct hu ds k1 k2
    ·cases h1
  ·cases huc
 ·cases e
end
end
section
section
variable {P:Program} {g:Gh} {h:aj} {w:World}
def jq {aL:Nat}{es:Array MapEntry}{clock:Nat}(hw:w.heap[aL]?=some (.map es clock)):(getObj aL).run P w= .ok (.map es clock) w:=by
 simp[getObj,Sem.run,hw]
def rP {aL:Nat}{es:Array MapEntry}{clock:Nat}(hw:w.heap[aL]?=some (.map es clock))(o:Obj):(setObj aL o).run P w= .ok () (w.dL aL o):=by
 simp[setObj,Sem.run,hw,World.dL]
def Mh {K:TypeId->BV->Bool}{K':TypeId->Value->Sem Unit}(hK:∀t x x',ao P g w x x'->K t x=true->(K' t x').run P w= .ok () w):
 ∀(fs:List Field) (cs:List BV) (vs:Array Value),aq P g w cs vs.toList->D2 P K fs cs=true->
 (forIn fs PUnit.unit (fun f __s=>
   if f.name≠ "_" then do
    let __do_lift<-part f.type vs f.offset
    K' f.type __do_lift
    pure (ForInStep.yield PUnit.unit)
   else pure (ForInStep.yield PUnit.unit)):Sem PUnit).run P w= .ok PUnit.unit w:=by
 intro fs
 induction fs with
 |nil=>intro cs vs _ _;simp
 |cons f fs ih=>
  intro cs vs hv e
  simp only[D2,ag2]at e
  obtain⟨e1,e2⟩:=e
  simp only[List.forIn_cons,Sem.run_bind]
  by_cases hn:f.name≠ "_"
  ·rw[ag8 hn]at e1 ⊢
   split at e1
   ·rename_i x hx
    obtain⟨x',hx1,hx2⟩:=Hs hv hx
    simp only[Sem.run_bind,hx1,Result.andThen_ok,hK _ _ _ hx2 e1,Sem.run_pure]
    exact ih cs vs hv e2
   ·cases e1
  ·rw[ag4 hn]
   simp only[Sem.run_pure,Result.andThen_ok]
   exact ih cs vs hv e2
def OJ:∀(n:Nat) (t:TypeId) (k:BV) (k':Value) (empty:Bool),ao P g w k k'->Ac P n t k=true->∀N,n<=N->(Instr.checkKey empty N t k').run P w= .ok () w:=by
 intro n
 induction n with
 |zero=>intro t k k' empty _ e;simp[Ac]at e
 |succ n ih=>
  intro t k k' empty hk e N hN
  obtain⟨N,rfl⟩:∃N',N=N'+1:=⟨N-1,by omega⟩
  unfold Ac at e
  split at e
  ·rename_i fs cs hu
   simp only[ao]at hk;obtain⟨vs,rfl,hv⟩:=hk
   have:=Mh (P:=P) (g:=g) (w:=w) (K:=Ac P n) (K':=Instr.checkKey empty N) (fun t x x' hx hx2=>ih t x x' empty hx hx2 N (by omega)) fs.toList cs vs hv e
   refine(Sem.run_bind P w _ _).trans ?_
   rw[aT hu,Result.andThen_ok]
   refine(Sem.run_bind P w _ _).trans ?_
   rw[<-aky]
   rw[this]
   rfl
  ·rename_i q q' i hu
   simp only[ao]at hk;subst hk
   refine(Sem.run_bind P w _ _).trans ?_
   rw[aT hu,Result.andThen_ok];rfl
  ·rename_i s hu
   simp only[ao]at hk;subst hk
   refine(Sem.run_bind P w _ _).trans ?_
   rw[aT hu,Result.andThen_ok];rfl
  ·rename_i b hu
   simp only[ao]at hk;subst hk
   refine(Sem.run_bind P w _ _).trans ?_
   rw[aT hu,Result.andThen_ok];rfl
  ·cases e
def QV {kt:TypeId}{kind:TypeDesc}(hu:P.underlying kt=some kind){a b:Value}{y:Bool}(e:Instr.sameNow kind a b=some y):(Op.equal kt a b).run P w= .ok y w:=by
 unfold Instr.sameNow at e
 unfold Op.equal
 rw[show Op.maxDepth=9999+1 from rfl]
 refine(Sem.run_bind P w (underlying kt) _).trans ?_
 rw[aT hu,Result.andThen_ok]
 split at e
 ·rename_i q k1 a k2 b
  split at e
  ·rename_i hk
   subst hk
   cases e
   show Sem.run P (if k1=k1 then pure (a==b)else _) w=_
   rw[ag8 rfl];rfl
  ·cases e
 ·cases e;rfl
 ·cases e;rfl
 ·cases e
def WN {kt:TypeId}{k':Value}(hu:∃d,P.underlying kt=some d){es:List MapEntry}{q:Nat->Bool}(hq:∀(i:Nat) e,es[i]?=some e->(Op.equal kt k' e.key).run P w= .ok (q i) w):
 ∃r',(Instr.findKey kt k' es).run P w= .ok r' w/\(match r' with|some (i,v)=>q i=true/\∃e,es[i]?=some e/\e.val=v|none=>∀i,i<es.length->q i=false):=by
 obtain⟨d,hu⟩:=hu
 have ask:∀(l:List MapEntry) (i:Nat) (q:Nat->Bool),(∀(j:Nat) e,l[j]?=some e->(Op.equal kt k' e.key).run P w= .ok (q (i+j)) w)->
  ∃r',(Instr.findAsking kt k' l i).run P w= .ok r' w/\(match r' with|some (n,v)=>q n=true/\∃j e,n=i+j/\l[j]?=some e/\e.val=v|none=>∀j,j<l.length->q (i+j)=false):=by
  intro l
  induction l with
  |nil=>intro i q _;exact⟨none,rfl,by simp⟩
  |cons e l ih=>
   intro i q hl
   have h0:=hl 0 e rfl
   cases hb:q (i+0)with
   |true=>
    rw[hb]at h0
    exact⟨some (i,e.val),by simp[Instr.findAsking,h0],by simpa using hb,0,e,rfl,rfl,rfl⟩
   |false=>
    rw[hb]at h0
    obtain⟨r',k1,k2⟩:=ih (i+1) q (fun j e' he=>by have:=hl (j+1) e' (by simpa using he);rwa [show i+(j+1)=i+1+j by omega]at this)
    refine⟨r',by simp[Instr.findAsking,h0,k1],?_⟩
    cases r' with
    |some p=>obtain⟨m1,j,e',m2,m3,m4⟩:=k2;exact⟨m1,j+1,e',by omega,by simpa using m3,m4⟩
    |none=>
     intro j hj
     cases j with
     |zero=>exact hb
     |succ j=>have:=k2 j (by simpa using hj);rwa [show i+1+j=i+(j+1)by omega]at this
 have now:∀(l:List MapEntry) (i:Nat) (q:Nat->Bool) r',(∀(j:Nat) e,l[j]?=some e->(Op.equal kt k' e.key).run P w= .ok (q (i+j)) w)->Instr.findNow d k' l i=some r'->
  (match r' with|some (n,v)=>q n=true/\∃j e,n=i+j/\l[j]?=some e/\e.val=v|none=>∀j,j<l.length->q (i+j)=false):=by
  intro l
  induction l with
  |nil=>intro i q r' _ e';simp[Instr.findNow]at e';subst e';simp
  |cons e l ih=>
   intro i q r' hl e'
   have h0:=hl 0 e rfl
   simp only[Instr.findNow]at e'
   cases hy:Instr.sameNow d k' e.key with
   |none=>simp[hy]at e'
   |some y=>
    have hyr:=QV (w:=w) hu hy
    have hby:q (i+0)=y:=by
     unfold Op.equal at hyr h0
     rw[h0]at hyr;injection hyr
    cases y with
    |true=>simp[hy]at e';subst e';exact⟨by simpa using hby,0,e,rfl,rfl,rfl⟩
    |false=>
     simp[hy]at e'
     have:=ih (i+1) q r' (fun j e' he=>by have:=hl (j+1) e' (by simpa using he);rwa [show i+(j+1)=i+1+j by omega]at this) e'
     cases r' with
     |some p=>obtain⟨m1,j,e',m2,m3,m4⟩:=this;exact⟨m1,j+1,e',by omega,by simpa using m3,m4⟩
     |none=>
      intro j hj
      cases j with
      |zero=>exact hby
      |succ j=>have:=this j (by simpa using hj);rwa [show i+1+j=i+(j+1)by omega]at this
 have hrun:(Instr.findKey kt k' es).run P w=((match Instr.findNow d k' es 0 with|some r=>pure r|none=>Instr.findAsking kt k' es):Sem (Option (Nat×Value))).run P w:=by
  refine(Sem.run_bind P w (underlying kt) _).trans ?_
  rw[aT hu,Result.andThen_ok]
  cases Instr.findNow d k' es 0<;>rfl
 rw[hrun]
 have bj:∀r':Option (Nat×Value),(match r' with|some (n,v)=>q n=true/\∃j e,n=0+j/\es[j]?=some e/\e.val=v|none=>∀j,j<es.length->q (0+j)=false)->(match r' with|some (i,v)=>q i=true/\∃e,es[i]?=some e/\e.val=v|none=>∀i,i<es.length->q i=false):=by
  intro r' hr'
  cases r' with
  |some p=>obtain⟨m1,j,e,m2,m3,m4⟩:=hr';exact⟨m1,e,by rw[show p.1=j by omega];exact m3,m4⟩
  |none=>intro i hi;have:=hr' i hi;rwa [ah2]at this
 cases hn:Instr.findNow d k' es 0 with
 |some r'=>exact⟨r',rfl,bj r' (now es 0 q r' (fun j e he=>by rw[ah2];exact hq j e he) hn)⟩
 |none=>
  obtain⟨r',k1,k2⟩:=ask es 0 q (fun j e he=>by rw[ah2];exact hq j e he)
  exact⟨r',k1,bj r' k2⟩
def IA (hr:bc P g h w){kt:TypeId}{vk:VK}{l:List (D×D)}{st:List Nat}{c:Nat}{es:List MapEntry}(hm:tO P g w kt vk l st c es)(hp:Br P kt=true){d:D}(hd:AF P kt d){k':Value}(hk:ao P g w (cj P kt d) k'):
 ∃r',(Instr.findKey kt k' es).run P w= .ok r' w/\(match r' with|some (i,v)=>D.cS l d=true/\l[i]?=some (d,D.val l d)/\∃e,es[i]?=some e/\e.val=v|none=>D.cS l d=false):=by
 have hu:∃t,P.underlying kt=some t:=by
  obtain⟨_,hs⟩:=nD hp
  rcases hs with ⟨k,hu⟩|hu|hu| ⟨fs,hu,_⟩<;>exact⟨_,hu⟩
 obtain⟨r',h1,h2⟩:=WN (P:=P) (w:=w) (k':=k') hu (es:=es) (q:=fun i=>match l[i]? with|some p=>D.A5 d p.1|none=>false) (fun i e he=>by
  have hi:i<l.length:=by have:=(aha.1 he).1;rw[hm.len]at this;exact this
  have hp2:=ag7 hi
  rw[hp2]
  exact Pu hr hp hd (hm.B9 _ (ajo hi)) hk (hm.key i _ e hp2 he))
 refine⟨r',h1,?_⟩
 cases r' with
 |some p=>
  obtain⟨i,v⟩:=p
  obtain⟨k1,e,k2,k3⟩:=h2
  dsimp only at k1 ⊢
  cases hi:l[i]? with
  |none=>rw[hi]at k1;cases k1
  |some x=>
   rw[hi]at k1
   have hx:=D.pI.1 k1
   obtain⟨x1,x2⟩:=x
   dsimp only at hx
   subst hx
   have hg:=D.JU hm.nd hi
   have hh:D.cS l d=true:=by unfold D.cS;rw[hg];rfl
   refine⟨hh,?_,e,k2,k3⟩
   unfold D.val;rw[hg];rfl
 |none=>
  dsimp only at h2 ⊢
  rw[aj2]
  intro hh
  obtain⟨i,hi⟩:=D.KQ (D.PT hh)
  have:=h2 i (by have:=(aha.1 hi).1;rw[hm.len];exact this)
  rw[hi]at this
  exact absurd rfl (D.qy.1 this)
def bc.Ji (hr:bc P g h w){b aL az:Nat}{kt:TypeId}{vk:VK}{l:List (D×D)}{st:List Nat}{c:Nat}(hb:h.get b=some (.bg kt vk l st c))(hm:g.m b=some (aL,az)):
 az=0/\∃es,w.heap[aL]?=some (.map es c)/\tO P g w kt vk l st c es.toList:=by
 obtain⟨_,o,ho,hr'⟩:=hr.Xg _ _ _ _ hb hm
 simp only[cV]at hr'
 obtain⟨h0,es,rfl,he⟩:=hr'
 exact⟨h0,es,ho,he⟩
def WX {kt et:TypeId}{vk:VK}{l:List (D×D)}{st:List Nat}{c:Nat}{es:List MapEntry}{r:Nat}(hm:tO P g w kt vk l st c es){d:D}{i:Nat}{e:MapEntry}{u:BV}(hh:D.cS l d=true)(hl:l[i]?=some (d,D.val l d))(he:es[i]?=some e)(hs:xI P r et vk l d=some u){y:Nat×Nat}(hy:g.m r=some y):ao P g w u e.val:=by
 have:=hm.val i _ e hl he
 unfold xI at hs
 unfold y5 at this
 cases vk with
 |data et'=>
  dsimp only at hs this
  split at hs
  ·rename_i hc
   simp only[ag2]at hc
   have:=ahh hc.2
   subst this
   cases hs;assumption
  ·cases hs
 |bY f et'=>
  dsimp only at hs this
  rw[hh]at hs;cases hs
  obtain⟨x,h1,h2⟩:=this
  simp only[ao]
  exact⟨x.1,x.2,h1,h2,y,hy⟩
 |IZ=>
  dsimp only at hs this
  rw[hh]at hs;cases hs
  simp only[ao]
  exact⟨_,_,this,aq.nil,aq.nil⟩
def Tv (hr:bc P g h w){t:TypeId}{x k v:BV}{x' k':Value}{ok:Bool}(hx:ao P g w x x')(hk:ao P g w k k')(e:we P h t x k ok=some v):
 ∃v',(Instr.lookup t x' k' ok).run P w= .ok v' w/\ao P g w v v':=by
 unfold we at e
 split at e
 ·rename_i kt et hu
  split at e
  ·cases e
  ·rename_i hko
   have hko:Ac P 4 kt k=true:=by simpa using hko
   have hck:=fun em=>OJ (P:=P) (g:=g) (w:=w) 4 kt k k' em hk hko 10000 (by omega)
   split at e
   ·rename_i r
    split at e
    ·rename_i kt' vk l st ck hb
     split at e
     ·rename_i d hd
      obtain⟨hp,huv,hcan⟩:=KM hd
      split at e
      ·rename_i hkt
       have hkt:=ahh hkt
       subst hkt
       simp only[ao]at hx
       obtain⟨aL,hm,rfl⟩:=hx
       obtain⟨_,es,hw,hrel⟩:=hr.Ji hb hm
       obtain⟨r',h1,h2⟩:=IA hr hrel hp hcan (J2 (nD hp).1 huv hk)
       have hrun:(Instr.lookup t (.map (some aL)) k' ok).run P w=
        ((do let (v,ok')<-(match r' with|some (_,v)=>pure (v,true)|none=>do pure (<-zeroValue et,false));pure (if ok then .tuple #[v,.bool ok']else v)):Sem Value).run P w:=by
        refine(Sem.run_bind P w (underlying t) _).trans ?_
        rw[aT hu,Result.andThen_ok]
        dsimp only
        simp only[Sem.run_bind,Sem.run_pure,Result.andThen_ok,jq hw,hck,h1]
        cases r' with
        |none=>cases hz:(zeroValue et).run P w<;>simp[hz]
        |some q=>rfl
       split at e
       ·rename_i u hs
        have hv:v=(if ok then .tuple [u,.bool (D.cS l d)]else u):=by simpa using e.symm
        subst hv
        cases r' with
        |some q=>
         obtain⟨j,u'⟩:=q
         obtain⟨k1,k2,en,k3,rfl⟩:=h2
         have hu':=WX hrel k1 k2 k3 hs hm
         refine⟨if ok then .tuple #[en.val,.bool true]else en.val,by rw[hrun];cases ok<;>rfl,?_⟩
         cases ok with
         |false=>exact hu'
         |true=>simp only[ahz,ao];exact⟨_,rfl,aq.cons hu' (aq.cons (by simp[ao,k1]) aq.nil)⟩
        |none=>
         have k1:D.cS l d=false:=h2
         have hz:oL P et=some u:=by
          unfold xI at hs
          cases vk with
          |data et'=>
           dsimp only at hs
           split at hs
           ·rw[k1]at hs;exact hs
           ·cases hs
          |bY f et'=>dsimp only at hs;rw[k1]at hs;exact hs
          |IZ=>dsimp only at hs;rw[k1]at hs;exact hs
         obtain⟨z',hz',hzr⟩:=Iw hz w
         refine⟨if ok then .tuple #[z',.bool false]else z',by rw[hrun];simp[hz'],?_⟩
         cases ok with
         |false=>exact hzr g
         |true=>simp only[ahz,ao];exact⟨_,rfl,aq.cons (hzr g) (aq.cons (by simp[ao,k1]) aq.nil)⟩
       ·cases e
      ·cases e
     ·cases e
    ·cases e
   ·cases e
 ·cases e
end
end
section
def D.xJ {k:D}{x:Nat}:∀{ks:List D} {st:List Nat} {i:Nat},ks.Nodup->ks[i]?=some k->st[i]?=some x->D.iJ ks st k=x
 | [],_,i,_,h,_=>by simp at h
 |p::q,[],i,_,_,h=>by simp at h
 |p::q,y::t,i,hn,h1,h2=>by
  show (match D.A5 p k with|true=>y|false=>D.iJ q t k)=x
  rw[ahO]at hn
  cases i with
  |zero=>simp at h1 h2;subst h1;subst h2;rw[D.pI.2 rfl]
  |succ i=>
   simp at h1 h2
   rw[D.qy.2 (fun e=>hn.1 (by rw[e];exact agY h1))]
   exact D.xJ hn.2 h1 h2
def D.PO {k:D}:∀{l:List (D×D)} {i:Nat} {p:D×D},(D.ct l).Nodup->l[i]?=some p->p.1=k->D.pD l k=l.eraseIdx i
 | [],i,p,_,h,_=>by simp at h
 |x::q,i,p,hn,h1,h2=>by
  simp only[D.ct,ahO]at hn
  cases i with
  |zero=>
   simp at h1;subst h1
   rw[D.N7 h2]
   show D.pD q k=q
   have:∀(m:List (D×D)),k∉D.ct m->D.pD m k=m:=by
    intro m
    induction m with
    |nil=>intro _;rfl
    |cons y m ih=>
     intro hm
     simp only[D.ct,ag9,akP]at hm
     rw[D.GP (fun e=>hm.1 e.symm),ih hm.2]
   exact this q (h2▸hn.1)
  |succ i=>
   simp at h1
   rw[D.GP (fun e=>hn.1 (e▸h2▸agY (D.j8 h1))),D.PO hn.2 h1 h2]
   rfl
def D.Io {k:D}:∀{l:List (D×D)},D.cS l k=false->D.pD l k=l
 | [],_=>rfl
 |y::m,h=>by
  unfold D.cS at h
  by_cases e:y.1=k
  ·rw[D.pX e]at h;cases h
  ·rw[D.jo e]at h;rw[D.GP e,D.Io h]
def D.UN {p:D×D}{q:List (D×D)}{x:Nat}{t:List Nat}{k:D}(h:p.1≠k):D.Ay (p::q) (x::t) k=x::D.Ay q t k:=by
 show (match D.A5 p.1 k with|true=>_|false=>_)=_
 rw[D.qy.2 h]
def D.acm {p:D×D}{q:List (D×D)}{x:Nat}{t:List Nat}{k:D}(h:p.1=k):D.Ay (p::q) (x::t) k=D.Ay q t k:=by
 show (match D.A5 p.1 k with|true=>_|false=>_)=_
 rw[D.pI.2 h]
def D.Ea {k:D}:∀{l:List (D×D)} {st:List Nat},st.length=l.length->D.cS l k=false->D.Ay l st k=st
 | [],[],_,_=>rfl
 | [],x::t,h,_=>by simp at h
 |y::m,[],h,_=>by simp at h
 |y::m,x::t,hl,h=>by
  unfold D.cS at h
  by_cases e:y.1=k
  ·rw[D.pX e]at h;cases h
  ·rw[D.jo e]at h;rw[D.UN e,D.Ea (by simpa using hl) h]
def D.QW {k:D}:∀{l:List (D×D)} {st:List Nat} {i:Nat} {p:D×D},st.length=l.length->(D.ct l).Nodup->l[i]?=some p->p.1=k->D.Ay l st k=st.eraseIdx i
 | [],_,i,p,_,_,h,_=>by simp at h
 |y::m,[],i,p,h,_,_,_=>by simp at h
 |x::q,y::t,i,p,hl,hn,h1,h2=>by
  simp only[D.ct,ahO]at hn
  cases i with
  |zero=>
   simp at h1;subst h1
   rw[D.acm h2]
   refine D.Ea (by simpa using hl) ?_
   rw[aj2]
   intro hh
   exact hn.1 (h2▸D.N0.1 hh)
  |succ i=>
   simp at h1
   rw[D.UN (fun e=>hn.1 (e▸h2▸agY (D.j8 h1))),D.QW (by simpa using hl) hn.2 h1 h2]
   rfl
section
variable {P:Program} {g:Gh} {h:aj} {w w':World}
def tO.oS {kt et:TypeId}{l:List (D×D)}{st:List Nat}{c:Nat}{es:List MapEntry}(hm:tO P g w kt (.data et) l st c es){d v:D}{i:Nat}{q:D}(hl:l[i]?=some (d,q)){k' v':Value}(hk:ao P g w (cj P kt d) k')(hv:ao P g w (cj P et v) v'):
 tO P g w kt (.data et) (D.fE l d v) st c (es.modify i fun e=>{e with key:=k',val:=v'}):=by
 refine⟨by simp[D.yF,hm.len],by rw[D.yF];exact hm.sl,fun j p x h1 h2=>?_,fun j s x h1 h2=>?_,fun j p x h1 h2=>?_,fun p hp=>?_,by rw[D.Ad];exact hm.nd,hm.snd,hm.FJ⟩
 ·obtain⟨y,y1,y2,_⟩:=D.uZ h1
  rw[ajL]at h2
  cases e:es[j]? with
  |none=>rw[e]at h2;cases h2
  |some z=>
   rw[e]at h2
   by_cases hij:i=j
   ·subst hij
    rw[hl]at y1;cases y1
    simp at h2;subst h2
    rw[y2];exact hk
   ·simp[hij]at h2;subst h2;rw[y2];exact hm.key j y z y1 e
 ·rw[ajL]at h2
  cases e:es[j]? with
  |none=>rw[e]at h2;cases h2
  |some z=>
   rw[e]at h2
   have:=hm.born j s z h1 e
   by_cases hij:i=j
   ·subst hij;simp at h2;subst h2;exact this
   ·simp[hij]at h2;subst h2;exact this
 ·obtain⟨y,y1,y2,y3,y4⟩:=D.uZ h1
  rw[ajL]at h2
  cases e:es[j]? with
  |none=>rw[e]at h2;cases h2
  |some z=>
   rw[e]at h2
   by_cases hij:i=j
   ·subst hij
    rw[hl]at y1;cases y1
    simp at h2;subst h2
    unfold y5;dsimp only
    rw[y4 rfl];exact hv
   ·simp[hij]at h2;subst h2
    have hne:y.1≠d:=fun hyd=>hij ((aje (by rw[D.uY];exact(aha.1 hl).1) hm.nd).1 ((D.j8 hl).trans (by rw[D.j8 y1,hyd])))
    have:=hm.val j y z y1 e
    unfold y5 at this ⊢
    rw[y3 hne];exact this
 ·obtain⟨j,hj⟩:=aid hp
  obtain⟨y,y1,y2,_⟩:=D.uZ hj
  rw[y2];exact hm.B9 y (agY y1)
def tO.app {g':Gh}{w':World}{kt:TypeId}{vk:VK}{l:List (D×D)}{st:List Nat}{c:Nat}{es:List MapEntry}(hm:tO P g' w' kt vk l st c es){d v:D}(hd:AF P kt d)(hh:D.cS l d=false){k' v':Value}(hk:ao P g' w' (cj P kt d) k')(hv:y5 P g' w' vk d v v'):
 tO P g' w' kt vk (l++[(d,v)]) (st++[c]) (c+1) (es++[⟨k',v',c⟩]):=by
 have hlen:=hm.len
 have hsl:=hm.sl
 have lcase:∀(j:Nat) p,(l++[(d,v)])[j]?=some p->(j<l.length/\l[j]?=some p)\/(j=l.length/\p=(d,v)):=fun j p hj=>by
  rw[ahR]at hj
  split at hj
  ·rename_i hlt;exact .inl ⟨hlt,hj⟩
  ·have:j-l.length=0:=by
    rcases ajw (j-l.length)with h|h
    ·exact h
    ·rw[ahS (by simp;omega)]at hj;cases hj
   rw[this]at hj;cases hj;exact .inr ⟨by omega,rfl⟩
 have ecase:∀(j:Nat) x,(es++[⟨k',v',c⟩])[j]?=some x->(j<l.length/\es[j]?=some x)\/(j=l.length/\x=⟨k',v',c⟩):=fun j p hj=>by
  rw[ahR]at hj
  split at hj
  ·rename_i hlt;exact .inl ⟨by omega,hj⟩
  ·have:j-es.length=0:=by
    rcases ajw (j-es.length)with h|h
    ·exact h
    ·rw[ahS (by simp;omega)]at hj;cases hj
   rw[this]at hj;cases hj;exact .inr ⟨by omega,rfl⟩
 refine⟨by simp[hlen],by simp[hsl],fun j p x h1 h2=>?_,fun j s x h1 h2=>?_,fun j p x h1 h2=>?_,fun p hp=>?_,?_,?_,fun s hs=>?_⟩
 ·rcases lcase j p h1 with ⟨a,b⟩| ⟨a,hp⟩
  ·rcases ecase j x h2 with ⟨a2,b2⟩| ⟨a2,_⟩
   ·exact hm.key j p x b b2
   ·omega
  ·rcases ecase j x h2 with ⟨a2,b2⟩| ⟨a2,hx⟩
   ·omega
   ·subst hp;subst hx;exact hk
 ·rcases ecase j x h2 with ⟨a2,b2⟩| ⟨a2,rfl⟩
  ·rw[aiH (by omega)]at h1;exact hm.born j s x h1 b2
  ·rw[ajV (by omega),show j-st.length=0 by omega]at h1;cases h1;rfl
 ·rcases lcase j p h1 with ⟨a,b⟩| ⟨a,hp⟩
  ·rcases ecase j x h2 with ⟨a2,b2⟩| ⟨a2,_⟩
   ·exact hm.val j p x b b2
   ·omega
  ·rcases ecase j x h2 with ⟨a2,b2⟩| ⟨a2,hx⟩
   ·omega
   ·subst hp;subst hx;exact hv
 ·rcases ahd.1 hp with hp|hp
  ·exact hm.B9 p hp
  ·simp at hp;subst hp;exact hd
 ·rw[D.PE,ah5]
  refine⟨hm.nd,by simp[D.ct],fun a ha b hb=>?_⟩
  simp[D.ct]at hb
  subst hb
  intro he;subst he
  rw[D.N0.2 ha]at hh;cases hh
 ·rw[ah5]
  refine⟨hm.snd,by simp,fun a ha b hb=>?_⟩
  simp at hb;subst hb
  have:=hm.FJ a ha;omega
 ·rcases ahd.1 hs with hs|hs
  ·have:=hm.FJ s hs;omega
  ·simp at hs;omega
def tO.del {kt:TypeId}{vk vk':VK}{l:List (D×D)}{st:List Nat}{c:Nat}{es:List MapEntry}(hm:tO P g w kt vk l st c es){i:Nat}{p:D×D}(hl:l[i]?=some p)
 {g':Gh}{w':World}(hkey:∀d v,ao P g w (cj P kt d) v->ao P g' w' (cj P kt d) v)(hval:∀k d v,k≠p.1->y5 P g w vk k d v->y5 P g' w' vk' k d v):
 tO P g' w' kt vk' (D.pD l p.1) (D.Ay l st p.1) c (es.eraseIdx i):=by
 rw[D.PO hm.nd hl rfl,D.QW hm.sl hm.nd hl rfl]
 have hi:=(aha.1 hl).1
 have hlen:=hm.len
 have hsl:=hm.sl
 have hne:∀(j:Nat) q,j≠i->l[j]?=some q->q.1≠p.1:=fun j q hji hq hqp=>by
  have h1:=D.j8 hq
  have h2:=D.j8 hl
  rw[hqp]at h1
  exact hji ((aje (by rw[D.uY];exact(aha.1 hq).1) hm.nd).1 (h1.trans h2.symm))
 have ge:∀{α:Type} (m:List α) (j:Nat),(m.eraseIdx i)[j]?=m[if j<i then j else j+1]?:=fun m j=>by
  rw[List.getElem?_eraseIdx];split<;>rfl
 have hj:∀j,(if j<i then j else j+1)≠i:=fun j=>by split<;>omega
 refine⟨?_,?_,fun j q x h1 h2=>?_,fun j s x h1 h2=>?_,fun j q x h1 h2=>?_,fun q hq=>hm.B9 q (aj5 hq),?_,?_,fun s hs=>hm.FJ s (aj5 hs)⟩
 ·rw[ajg,ajg,hlen]
 ·rw[ajg,ajg,hsl]
 ·rw[ge]at h1 h2;exact hkey _ _ (hm.key _ q x h1 h2)
 ·rw[ge]at h1 h2;exact hm.born _ s x h1 h2
 ·rw[ge]at h1 h2;exact hval _ _ _ (hne _ q (hj j) h1) (hm.val _ q x h1 h2)
 ·rw[D.xx]
  have:(l.eraseIdx i).map (·.1)=(l.map (·.1)).eraseIdx i:=by
   apply ajc;intro j
   rw[ahQ,ge,ge,ahQ]
  rw[this,<-D.xx]
  exact hm.nd.sublist (aki _ _)
 ·exact hm.snd.sublist (aki _ _)
def bc.Wu (hr:bc P g h w){r aL:Nat}{kt:TypeId}{vk:VK}{l l1:List (D×D)}{st st1:List Nat}{c c1:Nat}{es es1:Array MapEntry}(hb:h.get r=some (.bg kt vk l st c))(hm:g.m r=some (aL,0))(hw:w.heap[aL]?=some (.map es c))
 (he:tO P g w kt vk l1 st1 c1 es1.toList)(hn:(aI.bg kt vk l st c).zp=none:=by rfl)(hn1:(aI.bg kt vk l1 st1 c1).zp=none:=by rfl):
 bc P g (h.put r (some (.bg kt vk l1 st1 c1))) (w.dL aL (.map es1 c1))/\hJ g h w g (h.put r (some (.bg kt vk l1 st1 c1))) (w.dL aL (.map es1 c1)):=by
 refine hr.Ly (hf:=hn) (hf':=hn1) hb hm hw rfl ⟨rfl,rfl,rfl⟩ (fun s hs=>?_) (fun hmono=>?_)
 ·simp[World.shape?,hw]at hs
 ·simp only[cV];exact⟨trivial,es1,rfl,he.mono hmono⟩
def IS {t:TypeId}(hs:To P t)(d:D):(match vy P t d with| .int .. | .b8 _| .bool _=>true|_=>false)=true:=by
 rcases hs with ⟨k,hu⟩|hu|hu<;>simp[vy,hu]
def E7 (n:Nat)(d:D):∀(fs:List Field) (i:Nat),pZ P fs i=true->(gk (dM P (n+1)) fs i d).all (fun c=>match c with| .int .. | .b8 _| .bool _=>true|_=>false)=true
 | [],_,_=>rfl
 |x::r,i,hp=>by
  obtain⟨_,_,h3,_,h5⟩:=wj hp
  simp only[gk]
  rw[FC h3,aiL,E7 n d r (i+1) h5]
  simp only[akw,List.all_nil,aib]
  exact IS h3 _
def QA {t:TypeId}(hk:Br P t=true)(d:D):wS (cj P t d)=true:=by
 obtain⟨_,hs⟩:=nD hk
 by_cases hsc:To P t
 ·rw[Dj hsc]
  have:=IS hsc d
  unfold wS
  rcases hsc with ⟨k,hu⟩|hu|hu<;>simp[vy,hu]
 ·obtain⟨fs,hu,hp,hst⟩:∃fs,P.underlying t=some (.struct fs)/\pZ P fs.toList 0=true/\P.stoodInHeld t=false:=by
   rcases hs with h|h|h|h
   ·exact absurd (.inl h) hsc
   ·exact absurd (.inr (.inl h)) hsc
   ·exact absurd (.inr (.inr h)) hsc
   ·exact h
  have hag:il P t=some true:=by simp[il,hu]
  simp only[cj,hag,wS,aK,dM,hu]
  exact E7 6 d fs.toList 0 hp
end
end
end Go.PB
end
