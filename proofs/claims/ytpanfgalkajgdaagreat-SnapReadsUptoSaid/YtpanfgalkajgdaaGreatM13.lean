import Derived.Test.YtpanfgalkajgdaaGreatM8
set_option linter.all false
noncomputable section
open Go.IntKind renaming wrap→wp
set_option maxHeartbeats 8000000
namespace Go.Proofs
open Go Go.PB
section
variable {s s1:List UInt8} {z b2:Bool} {Q:D->Prop} {c0 c5 c8:Nat} {l3 l6 l5 l9:List D} {n4 n0 n7:Int}
def tT:cK:={bK:=some 1,bJ:=[(bS,bR),(cp,bR),(cX,iq),(qz,v8),(dL,mP)],bB:=[⟨cE,0,16493,[3,4,0,2,5],[]⟩,⟨cE,0,16437,[3,0,2,6,7],[]⟩],yd:=[(aM,0,cq),(aM,2,bF)],fzr:=[some aM],fzq:=[(4175,aM,0,kG)],Ot:=[(aM,1,jW),(aM,4,jW)]}
def kK (s:List UInt8)(z:Bool)(c0:Nat)(s1:List UInt8)(b2:Bool)(l3:List D)(n4:Int)(c5:Nat)(l6:List D):av:=hdL cE 151 [(0,pO 0),(2,pO 1),(3,pO 2),(4,vO 3 c0),(5,iO n4)] [cO an [.ax s1,.bool b2],cO aM [vO 4 0,.bx ah (D.r []).ae,vO 5 0,iO 0,.bx ah (D.r []).ae],cO aM [vO 6 c5,.bx ah (D.r []).ae,vO 7 0,iO 0,.bx ah (D.r []).ae],rO ah l3,rO cq [],rO bF [],rO cq l6,rO bF []]
def jM (s:List UInt8)(z:Bool)(n0:Int)(s1:List UInt8)(b2:Bool)(l3:List D)(n4:Int)(l5 l6:List D)(n7:Int)(c8:Nat)(l9:List D):av:=hdL cE 4863 [(0,pO 0),(2,pO 1),(3,pO 2),(6,iO n0),(7,iO n7)] [cO an [.ax s1,.bool b2],cO aM [.bx cq (D.r []).ae,.bx ah (D.r []).ae,vO 3 0,iO 0,.bx ah (D.r []).ae],cO aM [.bx cq l6,.bx ah l3,vO 4 c8,iO n4,.bx ah l5],rO bF [],rO bF l9]
theorem Kt:lh cE [aM] tT (ba s z) (bc s z) 1 gJ Q
 (.au dL [pO 0] [(0,cO an [.ax s,.bool z])] 1 fun A=>.bz (kK s z (A.af 1).ae.length (A.af 2).ax (A.af 0).bool (A.af 1).ae 0 0 [])):=oH _ 0x1
theorem vS:lk cE [aM] tT (.bK 1 (gJ (ba s z) (bc s z)) Q) (kK s z c0 s1 b2 l3 n4 c5 l6)
 ((fun (j:D->Bool)=>(fun (v:D->List (Nat×aE))=>(fun (u:Bool)=>.ite (n4<(c0:Int)) (.gd (di n4 c0) (.gd (n4.toNat<l3.length) (.gd (u&&(bh 8 (c5+1))) (.bz (kK s z c0 s1 b2 l3 (wp .i64 (n4+1)) (c5+1) (l6++[D.z (D.at l3 n4.toNat).int])))))) (.gd u (.au dL [pO 0] [(0,cO an [.ax s1,.bool b2])] 1 fun A=>.gd (j A) (.au bS [pO 0] (v A) 1 fun O=>.au dL [pO 0] (v O) 1 fun I=>.gd (j I) (.au cp [pO 0] (v I) 1 fun J=>.bz (jM s z (J.af 1).int (J.af 2).ax (J.af 0).bool (D.r (A.af 1).ae).ae (O.af 1).int (D.r (I.af 1).ae).ae (D.r l6).ae 0 0 [])))))) (c5=l6.length)) fun i=>[(0,cO an [.ax (i.af 2).ax,.bool (i.af 0).bool])]) fun i=>(i.af 1).ae.length=(i.af 1).ae.length):=oE _ 0x23212121121213211
theorem D2:lk cE [aM] tT (.bK 1 (gJ (ba s z) (bc s z)) Q) (jM s z n0 s1 b2 l3 n4 l5 l6 n7 c8 l9)
 ((fun (p:D->aE)=>(fun (k:Bool)=>(fun (j:aE)=>(fun (v:D)=>(fun (u:RT)=>.ite (n7<n0) (.ite (!b2) (.au bS [pO 0] [(0,j)] 1 fun I=>.au cX [pO 0] [(0,p I)] 1 fun J=>.au qz [pO 0,iU (J.af 1).int] [(0,p J)] 1 fun A=>.gd (k&&(bh 200 (c8+1))) (.bz (jM s z n0 (A.af 2).ax (A.af 0).bool l3 n4 l5 l6 (wp .i64 (n7+1)) (c8+1) (l9++[D.r [D.z (I.af 1).int,dE pg aU (A.af 1)]])))) u) u) (.gd k (.aT (.agg [.bx cq (v.af 0).ae,.bx ah (v.af 1).ae,.bx bF (v.af 2).ae,iO (v.af 3).int,.bx ah (v.af 4).ae]) [(0,j)]))) (D.r [D.r l6,D.r l3,D.r l9,D.z n4,D.r l5])) (cO an [.ax s1,.bool b2])) (c8=l9.length)) fun i=>cO an [.ax (i.af 2).ax,.bool (i.af 0).bool]):=oE _ 0x25d32115c221143211
end
section
variable {s s1 s2:List UInt8} {z b2 b3:Bool} {Q:D->Prop} {n0 n4 n8 n12:Int} {c3 c1 c9 c11:Nat} {l5 l6 l7 l10 l13:List D}
def pJ:cK:={bK:=some 1,bJ:=[(bS,bR),(cp,bR),(b7,eD),(eQ,kZ),(dL,mP)],bB:=[⟨cI,0,16480,[0,4,5,3],[(3,aV)]⟩,⟨cI,0,36915,[6,7,0,4,5,3,8],[]⟩],yd:=[(aV,3,bW)],fzq:=[(24597,aV,3,dH)],Ot:=[(aV,1,aQ),(aV,2,fw)]}
def iS (s:List UInt8)(z:Bool)(n0:Int)(s1:List UInt8)(b2:Bool)(c3:Nat)(n4:Int)(l5:List D):av:=hdL cI 151 [(0,pO 0),(3,vO 1 c3),(4,iO n0),(5,iO n4)] [cO an [.ax s1,.bool b2],rO aV l5]
def gB (s:List UInt8)(z:Bool)(n0:Int)(c1:Nat)(s2:List UInt8)(b3:Bool)(n4:Int)(l5 l6 l7:List D)(n8:Int)(c9:Nat)(l10:List D)(c11:Nat)(n12:Int)(l13:List D):av:=hdL cI 621719 [(0,pO 0),(3,vO 1 c11),(4,iO n0),(5,iO n12),(6,pO 2),(7,vO 3 c1),(8,iO n8)] [cO an [.ax s2,.bool b3],rO aV l13,cO aV [iO n4,.bx aJ l5,.bx dG l6,vO 4 c9],rO ah l7,rO bW l10]
theorem FP:lh cI [br] pJ (ba s z) (bc s z) 1 gq Q
 (.au cp [pO 0] [(0,cO an [.ax s,.bool z])] 1 fun A=>.bz (iS s z (A.af 1).int (A.af 2).ax (A.af 0).bool 0 0 [])):=oH _ 0x1
theorem BY:lk cI [br] pJ (.bK 1 (gq (ba s z) (bc s z)) Q) (iS s z n0 s1 b2 c3 n4 l5)
 ((fun (k:D->Bool)=>(fun (j:D->List (Nat×aE))=>(fun (v:aE)=>(fun (u:RT)=>.ite (n4<n0) (.ite (!b2) (.au bS [pO 0] [(0,v)] 1 fun O=>.au b7 [pO 0] (j O) 1 fun J=>.gd (k J) (.au eQ [pO 0] (j J) 1 fun I=>.gd (k I) (.au dL [pO 0] (j I) 1 fun A=>.bz (gB s z n0 (A.af 1).ae.length (A.af 2).ax (A.af 0).bool (O.af 1).int (D.r (J.af 1).ae).ae (D.r (I.af 1).ae).ae (A.af 1).ae 0 0 [] c3 n4 l5)))) u) u) (.aT (vO 1 c3) [(0,v),(1,rO aV l5)])) (cO an [.ax s1,.bool b2])) fun i=>[(0,cO an [.ax (i.af 2).ax,.bool (i.af 0).bool])]) fun i=>(i.af 1).ae.length=(i.af 1).ae.length):=oE _ 0x25d315c2121211
theorem py:lk cI [br] pJ (.bK 1 (gq (ba s z) (bc s z)) Q) (gB s z n0 c1 s2 b3 n4 l5 l6 l7 n8 c9 l10 c11 n12 l13)
 ((fun (u:Bool)=>.ite (n8<(c1:Int)) (.gd (di n8 c1) (.gd (n8.toNat<l7.length) (.gd (u&&(bh 8 (c9+1))) (.bz (gB s z n0 c1 s2 b3 n4 l5 l6 l7 (wp .i64 (n8+1)) (c9+1) (l10++[D.z (D.at l7 n8.toNat).int]) c11 n12 l13))))) (.gd u (.gd ((c11=l13.length)&&(bh 80 (c11+1))) (.bz (iS s z n0 s2 b3 (c11+1) (wp .i64 (n12+1)) (l13++[D.r [D.z n4,D.r l5,D.r l6,D.r (D.r l10).ae]])))))) (c9=l10.length)):=oE _ 0x221321121213211
end
section
variable {s:List UInt8} {c:Int} {Q:D->Prop}
def abO:cK:={bK:=some 2,cj:=[(je,[aq],[dA])],bJ:=[(cx,fP),(kT,r8),(cv,fR),(fC,mE)],Ot:=[(aM,0,kG),(aM,1,jW),(aM,2,zl),(aM,4,jW),(br,0,br)]}
theorem acO:lh kS [bn] abO (B4 s c) (Ca s c) 2 gp Q
 ((fun (J:Int)=>(fun (t:List UInt8->List (Nat×aE))=>(fun (k:Nat->Nat->RT->RT)=>(fun (z:Int)=>(fun (u:BV->D->D->D->Int->D->D->RT)=>(fun (p:BV->RT)=>(fun (v:Int->RT)=>.ite (J>(67108864:Int)) (v 4) (.ite (J<(17:Int)) (v 270) (k (0:Nat) (8:Nat) (.ite (! ((List.drop 0 (List.take 8 s))==[{toBitVec:=112#8},{toBitVec:=111#8},{toBitVec:=115#8},{toBitVec:=116#8},{toBitVec:=101#8},{toBitVec:=114#8},{toBitVec:=110#8},{toBitVec:=10#8}])) (v 270) (.gd (di 8 s.length) (.ite (((UInt8.toNat (List.getD s 8 0)):Int)!=(c:Int)) (v 270) (.gd ((0:Int)<=z) (k z.toNat s.length (k (0:Nat) z.toNat (.au cv [pO 0] (t (List.drop z.toNat (List.take s.length s))) 1 fun O=>.ite (O.af 0).bool (p (.nX aX 270)) (.call je [D.s (List.drop 0 (List.take z.toNat s))] fun U=>.ite ((O.af 1).int !=U.int) (v 271) (k (9:Nat) z.toNat (.au kT [pO 0] (t (List.drop 9 (List.take z.toNat s))) 1 fun I=>(fun (q:Nat->D)=>(fun (j:Int->D->RT)=>.ite (I.af 0).bool (.KY ni aX 270 bn (v 270)) (.au fC [pO 0,iO 16,.func (.func fI) [pO 0] []] (t (I.af 2).ax) 1 fun A=>.ite (A.af 0).bool (.KY ni aX 270 bn (j 270 (D.r []))) (.gd ((A.af 1).ae.length=(A.af 1).ae.length) (.ite (! ((A.af 2).ax==[])) (.au cx [] [] 0 fun V=>.KY ni aX 270 bn (j 270 (D.r (A.af 1).ae))) (j 0 (D.r (A.af 1).ae)))))) fun i o=>u (iO i) (q 0) (q 1) (q 2) (q 3).int (q 4) o) fun i=>(I.af 1).af i))))))))))))) fun i=>p (iO i)) fun i=>u i (D.r []) (D.r []) (D.r []) 0 (D.r []) (D.r [])) fun i o m x g h e=>.aT i [(0,cO aM [.bx cq o.ae,.bx ah m.ae,.bx bF x.ae,iO g,.bx ah h.ae]),(1,cO br [.bx aV e.ae])]) (wp .i64 (J-8))) fun i o m=>.gd ((i<=o)&&(o<=s.length)) m) fun i=>[(0,cO ao [.ax i])]) (s.length:Int)):=oH _ 0x220063210201b2006210301b221210152120350154230452122212311111114c313c6e11
def Tx:cK:={bK:=some 1,cj:=[(je,[aq],[dA])],bJ:=[(cx,fP),(kT,r8),(cv,fR)],Ot:=[(aM,0,kG),(aM,1,jW),(aM,2,zl),(aM,4,jW)]}
theorem Ue:lh TK [bn] Tx (ql s c) (qo s c) 1 Jv Q
 ((fun (I:Int)=>(fun (t:Int->BV)=>(fun (q:Nat->BV)=>(fun (j:Nat->Nat->RT->RT)=>(fun (v:Int)=>(fun (u:BV->RT)=>(fun (k:RT)=>.ite (I>(67108864:Int)) (u (t 4)) (.ite (I<(17:Int)) k (j (0:Nat) (8:Nat) (.ite (! ((List.drop 0 (List.take 8 s))==[{toBitVec:=112#8},{toBitVec:=111#8},{toBitVec:=115#8},{toBitVec:=116#8},{toBitVec:=101#8},{toBitVec:=114#8},{toBitVec:=110#8},{toBitVec:=10#8}])) k (.gd (di 8 s.length) (.ite (((UInt8.toNat (List.getD s 8 0)):Int)!=(c:Int)) k (.gd ((0:Int)<=v) (j v.toNat s.length (j (0:Nat) v.toNat (.au cv [pO 0] [(0,cO ao [.ax (List.drop v.toNat (List.take s.length s))])] 1 fun J=>.ite (J.af 0).bool (u (.nX aX 270)) (.call je [D.s (List.drop 0 (List.take v.toNat s))] fun O=>.ite ((J.af 1).int !=O.int) (u (t 271)) (j (9:Nat) v.toNat (.au kT [pO 0] [(0,cO ao [.ax (List.drop 9 (List.take v.toNat s))])] 1 fun A=>(fun (p:Nat->Nat->BV)=>(fun (z:Int->RT)=>.ite (A.af 0).bool (.KY ni aX 270 bn k) (.ite (! ((A.af 2).ax==[])) (.au cx [] [] 0 fun U=>.KY ni aX 270 bn (z 270)) (z 0))) fun i=>.aT (t i) [(0,cO aM [p cq 0,p ah 1,p bF 2,t ((A.af 1).af 3).int,p ah 4])]) fun i o=>.bx i ((A.af 1).af o).ae))))))))))))) (u (t 270))) fun i=>.aT i [(0,cO aM [q cq,q ah,q bF,t 0,q ah])]) (wp .i64 (I-8))) fun i o m=>.gd ((i<=o)&&(o<=s.length)) m) fun i=>.bx i (D.r []).ae) fun i=>iO i) (s.length:Int)):=oH _ 0x220063210201b2006210301b22121015212035015423045212231111114c313c6e11
def Ty:cK:={bK:=some 1,cj:=[(je,[aq],[dA])],bJ:=[(cx,fP),(cv,fR),(cL,iw)],yd:=[(aQ,0,aJ)],Ot:=[(aM,0,kG),(aM,1,jW),(aM,2,zl),(aM,4,jW),(br,0,br)]}
theorem Uf:lh TL [bn] Ty (yx s c) (yA s c) 1 Jv Q
 ((fun (k:BV->Nat->List D->RT)=>(fun (j:Int)=>(fun (z:Nat->Nat->RT->RT)=>(fun (v:Int)=>(fun (u:Int->Nat->List D->RT)=>.ite (j>(67108864:Int)) (u 4 0 []) (.ite (j<(17:Int)) (u 270 0 []) (z (0:Nat) (8:Nat) (.ite (! ((List.drop 0 (List.take 8 s))==[{toBitVec:=112#8},{toBitVec:=111#8},{toBitVec:=115#8},{toBitVec:=116#8},{toBitVec:=101#8},{toBitVec:=114#8},{toBitVec:=110#8},{toBitVec:=10#8}])) (u 270 0 []) (.gd (di 8 s.length) (.ite (((UInt8.toNat (List.getD s 8 0)):Int)!=(c:Int)) (u 270 0 []) (.gd ((0:Int)<=v) (z v.toNat s.length (z (0:Nat) v.toNat (.au cv [pO 0] [(0,cO ao [.ax (List.drop v.toNat (List.take s.length s))])] 1 fun I=>.ite (I.af 0).bool (k (.nX aX 270) 0 []) (.call je [D.s (List.drop 0 (List.take v.toNat s))] fun J=>.ite ((I.af 1).int !=J.int) (u 271 0 []) (z (9:Nat) v.toNat (.au cL [pO 0,iO 61,.func (.func ep) [pO 0] []] [(0,cO ao [.ax (List.drop 9 (List.take v.toNat s))])] 1 fun A=>.ite (A.af 0).bool (.KY ni aX 270 bn (u 270 0 [])) (.ite (! ((A.af 2).ax==[])) (.au cx [] [] 0 fun O=>.KY ni aX 270 bn (u 270 (A.af 1).ae.length (A.af 1).ae)) (u 0 (A.af 1).ae.length (A.af 1).ae))))))))))))))) fun i o m=>k (iO i) o m) (wp .i64 (j-8))) fun i o m=>.gd ((i<=o)&&(o<=s.length)) m) (s.length:Int)) fun i o m=>.aT i [(0,cO aQ [vO 1 o]),(1,rO aJ m)]):=oH _ 0x220063210201b2006210301b22121015212035015423045212231111114c313c6e11
end
section
variable {l:List D} {Q:D->Prop}
def NK:cK:={bK:=some 1,Eb:=[some aj]}
theorem NU:lh NP [aj9] NK (mg l) (xW l) 1 Ee Q
 ((fun (z:Nat->List D->RT)=>(fun (v:Nat)=>(fun (u:RT)=>.ite (l.length=(0:Nat)) (.Lk (z 0 []) u) u) (.gd (l.length<=l.length) (.gd (true&&(bh 1 v)) (z v ([]++(List.take l.length l)))))) (0+(List.take l.length l).length)) fun i o=>.aT (vO 1 i) [(0,rO aj l),(1,rO aj o)]):=oH _ 0x2006321211232121131
end
section
variable {a0:D} {Q:D->Prop} {c0 c2 c1:Nat} {n1 n4 n2:Int} {l3:List D}
def MO:cK:={cj:=[(iY,[aI],[aI])],bJ:=[(lq,yC)],bB:=[⟨iY,0,16421,[1,10,2,11,12],[]⟩],PU:=[(lq,[some D7])]}
def uG (a0:D)(c0:Nat)(n1:Int)(c2:Nat)(l3:List D)(n4:Int):av:=hdL iY 75 [(1,pO 0),(2,pO 1),(10,vO 2 c0),(11,iO n1),(12,iO n4)] [cO aI [iU (a0.af 0).int,iO (a0.af 1).int,.ax (a0.af 2).ax,vO 2 c2],cO aI [iU 0,iO 0,.ax [],.cS],rO aI l3]
theorem WG:lp iY [aI] MO [aI] [a0] Q
 (.au lq [.bx aI (D.r (a0.af 3).ae).ae] [] 0 fun A=>.bz (uG a0 A.ae.length (A.ae.length:Int) A.ae.length A.ae 0)):=oP _ 0x1
theorem FT:lk iY [aI] MO (.cY Q) (uG a0 c0 n1 c2 l3 n4)
 (.ite (n4<n1) (.gd (di n4 c0) (.gd (n4.toNat<l3.length) (.call iY [dE pg aI (D.at l3 n4.toNat)] fun A=>.gd (di n4 c2) (.bz (uG a0 c0 n1 c2 (List.set l3 n4.toNat (dE pg aI A)) (wp .i64 (n4+1))))))) (.gd (c2=l3.length) (.ret (D.r [D.z (a0.af 0).int,D.z (a0.af 1).int,D.s (a0.af 2).ax,D.r l3])))):=oE _ 0x221121214210151
theorem WH:lp A7 [aJ] {cj:=[(iY,[aI],[aI]),(sg,[aQ],[aQ])],bJ:=[(iX,tK)],Ot:=[(aJ,16,fY)],PU:=[(iX,[some fY])]} [aJ] [a0] Q
 ((fun (u:Nat->D)=>.call iY [dE pg aI (a0.af 5)] fun I=>.call iY [dE pg aI (a0.af 6)] fun V=>.call sg [u 7] fun J=>.call sg [u 8] fun O=>.call sg [u 9] fun U=>.au iX [.bx aq (u 10).ae] [] 0 fun A=>.gd (A.ae.length=A.ae.length) (.ret (D.r [D.z (a0.af 0).int,D.s (a0.af 1).ax,D.s (a0.af 2).ax,D.z (a0.af 3).int,D.z (a0.af 4).int,dE pg aI I,dE pg aI V,D.r J.ae,D.r O.ae,D.r U.ae,D.r (D.r A.ae).ae]))) fun i=>D.r (a0.af i).ae):=oP _ 0x4444211
def aaF:cK:={cj:=[(A7,[aJ],[aJ])],bJ:=[(lu,yD)],bB:=[⟨sg,0,16420,[0,7,8,9],[]⟩],PU:=[(lu,[some aQ])]}
def DN (a0:D)(c0 c1:Nat)(n2:Int)(l3:List D)(n4:Int):av:=hdL sg 75 [(0,vO 0 c0),(7,vO 0 c1),(8,iO n2),(9,iO n4)] [rO aJ l3]
theorem ah0:lp sg [aQ] aaF [aQ] [a0] Q
 (.au lu [.bx aJ (D.r a0.ae).ae] [] 0 fun A=>.bz (DN a0 A.ae.length A.ae.length (A.ae.length:Int) A.ae 0)):=oP _ 0x1
theorem Qr:lk sg [aQ] aaF (.cY Q) (DN a0 c0 c1 n2 l3 n4)
 (.ite (n4<n2) (.gd (di n4 c1) (.gd (n4.toNat<l3.length) (.call A7 [dE pg aJ (D.at l3 n4.toNat)] fun A=>.gd (di n4 c0) (.bz (DN a0 c0 c1 n2 (List.set l3 n4.toNat (dE pg aJ A)) (wp .i64 (n4+1))))))) (.gd (c0=l3.length) (.ret (D.r l3)))):=oE _ 0x22112121210151
theorem ahY:lp Oi [aQ,bn] {cj:=[(zB,[aQ],[bn]),(sg,[aQ],[aQ])]} [aQ] [a0] Q
 (.call zB [D.r a0.ae] fun A=>.ite (A.int !=0) (.ret (D.r [D.r [],D.z A.int])) (.call sg [D.r a0.ae] fun I=>.ret (D.r [D.r I.ae,D.z 0]))):=oP _ 0x211
end
section
variable {a0:D} {Q:D->Prop} {c0:Nat} {n1:Int} {l2:List D}
theorem ah4:lp Ol [ak] {cj:=[(Ba,[ak],[ak,bn])]} [ak] [a0] Q
 (.call Ba [dE pg ak a0] fun A=>.ite ((A.af 1).int==0) (.ret (dE pg ak (A.af 0))) (.ret (dE pg ak a0))):=oP _ 0x211
def R4:cK:={cj:=[(Ol,[ak],[ak])],bB:=[⟨tp,0,16422,[6,7,8,3],[(3,dG)]⟩]}
def yO (a0:D)(c0:Nat)(n1:Int)(l2:List D):av:=hdL tp 75 [(3,vO 0 c0),(6,.bx dG a0.ae),(7,iO (a0.ae.length:Int)),(8,iO n1)] [rO dG l2]
theorem acP:lp tp [fw] R4 [fw] [a0] Q
 (.bz (yO a0 0 0 [])):=oP _ 0x1
theorem KE:lk tp [fw] R4 (.cY Q) (yO a0 c0 n1 l2)
 ((fun (v:Bool)=>(fun (u:D)=>.ite (n1<(a0.ae.length:Int)) (.gd (di n1 a0.ae.length) (.call Ol [dE pg ak (u.af 1)] fun A=>.gd (v&&(bh 80 (c0+1))) (.bz (yO a0 (c0+1) (wp .i64 (n1+1)) (l2++[D.r [D.s (u.af 0).ax,dE pg ak A]]))))) (.gd v (.ret (D.r l2)))) (D.at a0.ae n1.toNat)) (c0=l2.length)):=oE _ 0x22112143211
def JI:cK:={cj:=[(Oi,[aQ],[aQ,bn]),(tp,[fw],[fw])],bJ:=[(xw,dx)],bB:=[⟨gR,0,16441,[6,7,8,3],[(3,aV)]⟩],Ot:=[(aV,3,dH)],PU:=[(xw,[some dH])]}
def sq (a0:D)(c0:Nat)(n1:Int)(l2:List D):av:=hdL gR 75 [(3,vO 0 c0),(6,.bx aV a0.ae),(7,iO (a0.ae.length:Int)),(8,iO n1)] [rO aV l2]
theorem Uh:lp gR [br] JI [br] [a0] Q
 (.bz (sq a0 0 0 [])):=oP _ 0x1
theorem Eo:lk gR [br] JI (.cY Q) (sq a0 c0 n1 l2)
 ((fun (v:Bool)=>(fun (u:D)=>.ite (n1<(a0.ae.length:Int)) (.gd (di n1 a0.ae.length) (.call Oi [D.r (u.af 1).ae] fun J=>.call tp [D.r (u.af 2).ae] fun I=>.au xw [.bx bW (D.r (u.af 3).ae).ae] [] 0 fun A=>.gd (A.ae.length=A.ae.length) (.gd (v&&(bh 80 (c0+1))) (.bz (sq a0 (c0+1) (wp .i64 (n1+1)) (l2++[D.r [D.z (u.af 0).int,D.r (J.af 0).ae,D.r I.ae,D.r (D.r A.ae).ae]])))))) (.gd v (.ret (D.r l2)))) (D.at a0.ae n1.toNat)) (c0=l2.length)):=oE _ 0x221121213211
end
section
variable {W:WS} {Q:D->Prop} {l0 l3 l4 l5:List D} {c1 c2 c8 c11:Nat} {m6 m9:List (D×D)} {st7 st10:List Nat}
def Vk:cK:={bK:=some 3,cj:=[(eM,[aU],[aU])],bJ:=[(gu,pD),(gM,tJ),(tm,Cc),(uc,Dg)],bB:=[⟨nY,0,16429,[3,36],[]⟩],Ot:=[(bU,0,kG)],PU:=[(gM,[some kG])],pns:=[(gu,1),(uc,1)]}
def uD (W:WS)(l0:List D)(c1 c2:Nat)(l3 l4 l5:List D)(m6:List (D×D))(st7:List Nat)(c8:Nat)(m9:List (D×D))(st10:List Nat)(c11:Nat):av:=hdL nY 151 [(3,pO 3),(36,pO 4)] [wrC W 5 1 2 6,wrT W 1,wrF W,cO bU [.bx cq l0,vO 9 c1,.map 7,.map 8,iO W.la,vO 10 c2],.nb 1 (D.fh W.th) W.st W.ck l5,rO aj W.cu,rO ah W.ma,.cd bW (.dD 18 aU) m6 st7 c8,.cd bp (.data bW) m9 st10 c11,rO aj l3,rO ah l4]
theorem afD:lh nY [cy] Vk (bG W) (Wm W) 3 xn Q
 (.au gM [.bx cq (D.r W.pa).ae] [] 0 fun A=>.au uc [vO 0 W.cu.length] [(0,rO aj W.cu)] 1 fun I=>.au gu [vO 0 W.ma.length] [(0,rO ah W.ma)] 1 fun J=>.gd (A.ae.length=A.ae.length) (.bz (uD W (D.r A.ae).ae I.ae.length J.ae.length I.ae J.ae [] [] [] 0 [] [] 0))):=oH _ 0x7e444444211
theorem Uq:lk nY [cy] Vk (.bK 3 (xn (bG W) (Wm W)) Q) (uD W l0 c1 c2 l3 l4 l5 m6 st7 c8 m9 st10 c11)
 ((fun (p:aE)=>(fun (k:aE)=>(fun (v:BV)=>(fun (u:aE)=>.gd (xR W.th W.st W.ck (D.fh W.th) W.st W.ck) (.pick (D.fh W.th) l5 (.aT (pO 3) [(0,cO bU [.bx cq W.pa,vO 4 W.cu.length,.map 1,.map 2,v,vO 5 W.ma.length]),(1,.cd bW (.dD 1 aU) W.th W.st W.ck),(2,.cd bp (.data bW) W.fa W.sf W.cf),(3,cO bU [.bx cq l0,vO 8 c1,.map 6,.map 7,v,vO 9 c2]),(4,rO aj W.cu),(5,rO ah W.ma),(6,.cd bW (.dD 16 aU) m6 st7 c8),(7,u),(8,p),(9,k)]) fun A=>(fun (j:D)=>.gd (D.i7 W.th A) (.call eM [dE pg aU (D.val W.th A)] fun J=>.ite (D.i7 m6 j) .bT (.au tm [pO 0,iO A.int] [(0,cO bU [.bx cq l0,vO 3 c1,.map 1,.map 2,v,vO 4 c2]),(1,.cd bW (.dD 1 aU) (m6++[(j,dE pg aU J)]) (st7++[c8]) (c8+1)),(2,u),(3,p),(4,k)] 3 fun I=>.bz (uD W l0 c1 c2 l3 l4 (A::l5) (m6++[(j,dE pg aU J)]) (st7++[c8]) (c8+1) (oS (I.af 0)) (pC (I.af 1)) (pB (I.af 2)))))) (D.z A.int))) (.cd bp (.data bW) m9 st10 c11)) (iO W.la)) (rO ah l4)) (rO aj l3)):=oE _ 0x21230052121131
end
section
variable {W:WS} {ls:List D} {Q:D->Prop} {n0:Int}
def JH:cK:={f:=wK,rs:=[np,bn],bK:=some 3,cj:=[(gR,[br],[br])],bJ:=[(gv,aG),(eT,aG),(nY,xn)],bB:=[⟨wK,0,16439,[0,19,1,20,21],[]⟩]}
@[simp] theorem akE:JH.f=wK/\JH.rs=[np,bn]:=⟨rfl,rfl⟩
def Bf (W:WS)(ls:List D)(n0:Int):av:=hdL wK 151 [(0,pO 0),(1,.bx aV ls),(19,.bx aV ls),(20,iO (ls.length:Int)),(21,iO n0)] [wrC W 3 1 2 4,wrT W 1,wrF W,rO aj W.cu,rO ah W.ma]
theorem ah3:lh wK [np,bn] JH (Jl W ls) (Wm W) 3 Gu Q
 ((fun (u:Int->RT)=>.au gv [pO 0] (Wm W) 3 fun A=>.ite (A.int==0) (u 1) (.ite ((ls.length:Int)>32) (u 4) (.bz (Bf W ls 0)))) fun i=>.aT (.tuple [.gF,iO i]) (Wm W)):=oH _ 0x4e22111
theorem Ni:lk wK [np,bn] JH (.bK 3 (Gu (Jl W ls) (Wm W)) Q) (Bf W ls n0)
 ((fun (v:D->aE)=>(fun (u:D->Nat->Nat->Nat->Nat->aE)=>.ite (n0<(ls.length:Int)) (.gd (di n0 ls.length) (.au eT [pO 0,.agg (aH pg aV (D.at ls n0.toNat))] (Wm W) 3 fun J=>.ite (J.int !=0) (.aT (.tuple [.gF,iO J.int]) (Wm W)) (.bz (Bf W ls (wp .i64 (n0+1)))))) (.au nY [pO 0] (Wm W) 3 fun I=>.au nY [pO 0] (Wm W) 3 fun A=>.call gR [D.r ls] fun O=>.call gR [D.r ls] fun U=>.aT (.tuple [pO 3,iO 0]) [(0,cO bU [.bx cq W.pa,vO 4 W.cu.length,.map 1,.map 2,iO W.la,vO 5 W.ma.length]),(1,.cd bW (.dD 1 aU) W.th W.st W.ck),(2,.cd bp (.data bW) W.fa W.sf W.cf),(3,cO D8 [pO 6,pO 7,.bx aV O.ae,.bx aV U.ae,.cS]),(4,rO aj W.cu),(5,rO ah W.ma),(6,u I 10 8 9 11),(7,u A 14 12 13 15),(8,.cd bW (.dD 24 aU) (oS (I.af 2)) (pC (I.af 3)) (pB (I.af 4))),(9,v I),(10,rO aj (I.af 1).ae),(11,rO ah (I.af 9).ae),(12,.cd bW (.dD 28 aU) (oS (A.af 2)) (pC (A.af 3)) (pB (A.af 4))),(13,v A),(14,rO aj (A.af 1).ae),(15,rO ah (A.af 9).ae)])) fun i o m x g=>cO bU [.bx cq (i.af 0).ae,vO o (i.af 1).ae.length,.map m,.map x,iO (i.af 8).int,vO g (i.af 9).ae.length]) fun i=>.cd bp (.data bW) (oS (i.af 5)) (pC (i.af 6)) (pB (i.af 7))):=oE _ 0x2121211
end
section
variable {W:WS} {Q:D->Prop}
def abN:cK:={bK:=some 3,cj:=[(je,[aq],[dA])],bJ:=[(gv,aG),(gO,iT),(iP,bI),(wI,bI)]}
theorem acN:lh GG [aq,bn] abN (bG W) (Wm W) 3 Lu Q
 ((fun (u:List UInt8->Int->RT)=>.au gv [pO 0] (Wm W) 3 fun J=>.ite (J.int==0) (u [] 1) (.au gO [pO 0] (Wm W) 3 fun U=>.au wI [pO 0,.agg (aH pg aM U)] [(0,cO fG [vO 1 9]),(1,rO Lp ([D.z 112,D.z 111,D.z 115,D.z 116,D.z 101,D.z 114,D.z 110,D.z 10]++[D.z 119]))] 1 fun A=>.gd (A.ae.length<=A.ae.length) (.call je [D.s (bO (List.take A.ae.length A.ae))] fun O=>.au iP [pO 0,.int .u64 O.int] (Lm A.ae) 1 fun I=>.ite ((I.ae.length:Int)>67108864) (u [] 4) (.gd (I.ae.length<=I.ae.length) (u (bO (List.take I.ae.length I.ae)) 0))))) fun i o=>.aT (.tuple [.ax i,iO o]) (Wm W)):=oH _ 0x4e23e21221111
end
section
variable {s:List UInt8} {Q:D->Prop}
def JE:cK:={f:=CD,rs:=[np,bn],bK:=some 0,bJ:=[(fy,kb),(wK,Gu),(kS,gp)]}
@[simp] theorem ako:JE.f=CD/\JE.rs=[np,bn]:=⟨rfl,rfl⟩
theorem afM:lh CD [np,bn] JE (bX s) [] 0 Ju Q
 ((fun (z:Int->RT)=>.au kS [.ax s,iU 112,.func (.func PT) [] [pO 0,pO 1]] [(0,cO aM [.cS,.cS,.cS,iO 0,.cS]),(1,cO br [.cS])] 2 fun I=>(fun (k:Nat->Nat->BV)=>.ite ((I.af 0).int !=0) (z (I.af 0).int) (.au fy [.agg [k cq 0,k ah 1,k bF 2,iO ((I.af 1).af 3).int,k ah 4]] [] 0 fun A=>.ite (A.af 0).bool (.au wK [pO 0,.bx aV (I.af 2).ae] (Wm (WS.mk (A.af 1).ae (A.af 2).ae (oS (A.af 5)) (pC (A.af 6)) (pB (A.af 7)) (oS (A.af 8)) (pC (A.af 9)) (pB (A.af 10)) (A.af 3).int (A.af 4).ae)) 3 fun J=>(fun (u:Nat->Nat->D)=>(fun (j:Nat->aE)=>(fun (v:Nat->Nat->Nat->Nat->Nat->aE)=>.ite (J.af 0).bool (.aT (.tuple [pO 0,iO 0]) [(0,cO D8 [pO 1,pO 2,.bx aV (J.af 4).ae,.bx aV (J.af 5).ae,.cS]),(1,v 2 5 3 4 6),(2,v 3 9 7 8 10),(3,.cd bW (.dD 14 aU) (oS (u 2 2)) (pC (u 2 3)) (pB (u 2 4))),(4,j 2),(5,rO aj (u 2 1).ae),(6,rO ah (u 2 9).ae),(7,.cd bW (.dD 18 aU) (oS (u 3 2)) (pC (u 3 3)) (pB (u 3 4))),(8,j 3),(9,rO aj (u 3 1).ae),(10,rO ah (u 3 9).ae)]) (z (J.af 1).int)) fun i o m x g=>cO bU [.bx cq (u i 0).ae,vO o (u i 1).ae.length,.map m,.map x,iO (u i 8).int,vO g (u i 9).ae.length]) fun i=>.cd bp (.data bW) (oS (u i 5)) (pC (u i 6)) (pB (u i 7))) fun i o=>(J.af i).af o) (z 71))) fun i o=>.bx i ((I.af 1).af o).ae) fun i=>.aT (.tuple [.gF,iO i]) []):=oH _ 0x223132111
end
section
variable {a0:D} {Q:D->Prop} {n0 n1:Int} {s:List UInt8}
def Vo:cK:={cj:=[(oc,[aQ],[ah])],bB:=[⟨oc,0,16455,[3,6,7,8],[]⟩]}
def tx (a0:D)(n0 n1:Int):av:=hdL oc 75 [(3,iO n0),(6,.bx aJ a0.ae),(7,iO (a0.ae.length:Int)),(8,iO n1)] []
theorem afN:lp oc [ah] Vo [aQ] [a0] Q
 (.bz (tx a0 0 0)):=oP _ 0x1
theorem Nh:lk oc [ah] Vo (.cY Q) (tx a0 n0 n1)
 ((fun (k:Int)=>(fun (v:Nat->D)=>.ite (n1<(a0.ae.length:Int)) (.gd (di n1 a0.ae.length) (.ite (n0>512) (.ret (D.z n0)) (.call oc [v 7] fun A=>(fun (u:Int)=>.ite (u<=(512:Int)) (.call oc [v 8] fun J=>(fun (j:Int)=>.ite (j<=(512:Int)) (.call oc [v 9] fun I=>.bz (tx a0 (wp .i64 (j+I.int)) k)) (.bz (tx a0 j k))) (wp .i64 (u+J.int))) (.bz (tx a0 u k))) (wp .i64 (n0+(wp .i64 (1+A.int))))))) (.ret (D.z n0))) fun i=>D.r ((D.at a0.ae n1.toNat).af i).ae) (wp .i64 (n1+1))):=oE _ 0x21212200612111
def yG:cK:={f:=jJ,rs:=[aQ,bn],bK:=some 0,cj:=[(oc,[aQ],[ah])],bJ:=[(kS,gp)],yd:=[(aQ,0,aJ)],Eb:=[some aJ,none]}
@[simp] theorem agU:yG.f=jJ/\yG.rs=[aQ,bn]:=⟨rfl,rfl⟩
theorem Uc:lh jJ [aQ,bn] yG (bX s) [] 0 tL Q
 ((fun (u:Nat->Int->List D->RT)=>.au kS [.ax s,iU 99,.func (.func Fv) [] [pO 0]] [(0,cO aQ [vO 1 0]),(1,rO aJ [])] 1 fun A=>.ite ((A.af 0).int !=0) (u 0 (A.af 0).int []) (.gd ((A.af 1).ae.length=(A.af 1).ae.length) (.call oc [D.r (A.af 1).ae] fun I=>.ite (I.int>512) (u 0 2 []) (u (A.af 1).ae.length 0 (A.af 1).ae)))) fun i o m=>.aT (.tuple [vO 0 i,iO o]) [(0,rO aJ m)]):=oH _ 0x2212111
end
section
variable {s:List UInt8} {Q:D->Prop}
def wE:cK:={f:=iN,rs:=[cy,bn],bK:=some 0,bJ:=[(fy,kb),(kS,gp)]}
@[simp] theorem aep:wE.f=iN/\wE.rs=[cy,bn]:=⟨rfl,rfl⟩
theorem Rk:lh iN [cy,bn] wE (bX s) [] 0 mh Q
 ((fun (v:Int->BV)=>.au kS [.ax s,iU 119,.func (.func Ek) [] [pO 0]] [(0,cO aM [.cS,.cS,.cS,v 0,.cS])] 1 fun I=>(fun (u:Nat->Nat->BV)=>.ite ((I.af 0).int !=0) (.aT (.tuple [.gF,v (I.af 0).int]) []) (.au fy [.agg [u cq 0,u ah 1,u bF 2,v ((I.af 1).af 3).int,u ah 4]] [] 0 fun A=>.ite (A.af 0).bool (.aT (.tuple [pO 0,v 0]) [(0,cO bU [.bx cq (A.af 1).ae,vO 3 (A.af 2).ae.length,.map 1,.map 2,v (A.af 3).int,vO 4 (A.af 4).ae.length]),(1,.cd bW (.dD 6 aU) (oS (A.af 5)) (pC (A.af 6)) (pB (A.af 7))),(2,.cd bp (.data bW) (oS (A.af 8)) (pC (A.af 9)) (pB (A.af 10))),(3,rO aj (A.af 2).ae),(4,rO ah (A.af 4).ae)]) (.aT (.tuple [.gF,v 71]) []))) fun i o=>.bx i ((I.af 1).af o).ae) fun i=>iO i):=oH _ 0x22111
end
section
variable {a0 a1:D} {Q:D->Prop} {n0 n1:Int} {c0:Nat} {l2:List D} {t s:List UInt8}
def R6:cK:={bB:=[⟨kU,0,16418,[0,4,3],[]⟩]}
def yQ (a0:D)(n0 n1:Int):av:=hdL kU 75 [(0,.ax a0.ax),(3,.int .u64 n0),(4,iO n1)] []
theorem acT:lp kU [dA] R6 [aq] [a0] Q
 (.bz (yQ a0 14695981039346656037 0)):=oP _ 0x1
theorem KG:lk kU [dA] R6 (.cY Q) (yQ a0 n0 n1)
 (.ite (n1<(a0.ax.length:Int)) (.gd (di n1 a0.ax.length) (.bz (yQ a0 (wp .u64 ((wp .u64 ((BitVec.toNat ((BitVec.ofInt 64 n0) ^^^ (BitVec.ofInt 64 (wp .u64 ((UInt8.toNat (List.getD a0.ax n1.toNat 0)):Int))))):Int))*1099511628211)) (wp .i64 (n1+1))))) (.ret (D.z n0))):=oE _ 0x21211
def Pf:cK:={bB:=[⟨gi,0,16418,[0,6,5],[(5,Lp)]⟩]}
def wV (a0 a1:D)(c0:Nat)(n1:Int)(l2:List D):av:=hdL gi 75 [(0,.int .u64 a0.int),(5,vO 0 c0),(6,iO n1)] [rO Lp l2]
theorem Zk:lp gi [aq] Pf [dA,ah] [a0,a1] Q
 (.bz (wV a0 a1 0 (wp .i64 (a1.int-1)) [])):=oP _ 0x1
theorem HQ:lk gi [aq] Pf (.cY Q) (wV a0 a1 c0 n1 l2)
 (.ite (n1≥0) (.gd (0<=(wp .i64 (8*n1))) (.gd ((c0=l2.length)&&(bh 1 (c0+1))) (.bz (wV a0 a1 (c0+1) (wp .i64 (n1-1)) (l2++[D.z (wp .u8 (Int.fdiv a0.int (2^(min (wp .i64 (8*n1)).toNat 64))))]))))) (.gd (c0<=l2.length) (.ret (D.s (bO (List.take c0 l2)))))):=oE _ 0x2211213211
def Ds:cK:={f:=mv,rs:=[oZ,ah],bK:=some 0,cj:=[(kU,[aq],[dA]),(gi,[dA,ah],[aq])]}
@[simp] theorem aiU:Ds.f=mv/\Ds.rs=[oZ,ah]:=⟨rfl,rfl⟩
theorem Zm:lh mv [oZ,ah] Ds (Iv t s) [] 0 vZ Q
 ((fun (k:Int)=>(fun (j:Bool->Int->RT->RT)=>(fun (v:Int)=>(fun (u:Nat->Nat->RT->RT)=>j (k>(67108864:Int)) 4 (j (k<(17:Int)) 270 (u (0:Nat) (8:Nat) (j (! ((List.drop 0 (List.take 8 s))==[{toBitVec:=112#8},{toBitVec:=111#8},{toBitVec:=115#8},{toBitVec:=116#8},{toBitVec:=101#8},{toBitVec:=114#8},{toBitVec:=110#8},{toBitVec:=10#8}])) 270 (u (8:Nat) (9:Nat) (j (! ((List.drop 8 (List.take 9 s))==t)) 270 (.gd ((0:Int)<=v) (u (0:Nat) v.toNat (u v.toNat s.length (.call kU [D.s (List.drop 0 (List.take v.toNat s))] fun A=>.call gi [D.z A.int,D.z 8] fun I=>j (! (I.ax==(List.drop v.toNat (List.take s.length s)))) 271 (u (9:Nat) v.toNat (.aT (.tuple [pO 0,iO 0]) [(0,cO an [.ax (List.drop 9 (List.take v.toNat s)),.bool false])])))))))))))) fun i o m=>.gd ((i<=o)&&(o<=s.length)) m) (wp .i64 (k-8))) fun i o m=>.ite i (.aT (.tuple [.gF,iO o]) []) m) (s.length:Int)):=oH _ 0x220063210201b20062e210301b22121015210250054025005423035211114c313c6e11
end
section
variable {s:List UInt8} {Q:D->Prop}
def sd:cK:={f:=jl,rs:=[aW,ah],bK:=some 0,bJ:=[(ct,eE),(cE,gJ),(mv,vZ)]}
@[simp] theorem abQ:sd.f=jl/\sd.rs=[aW,ah]:=⟨rfl,rfl⟩
theorem N1:lh jl [aW,ah] sd (bX s) [] 0 r9 Q
 ((fun (u:Int->RT)=>.au mv [.ax [{toBitVec:=119#8}],.ax s] [] 0 fun I=>.ite (I.af 0).bool (.ite ((I.af 1).int !=0) (u (I.af 1).int) (.au cE [.gF] [] 0 fun O=> .bT)) (.au cE [pO 0] [(0,cO an [.ax (I.af 2).ax,.bool false])] 1 fun J=>(fun (v:Nat->Nat->BV)=>.ite (! (J.af 0).bool) (.ite (! ((J.af 2).ax==[])) (u 270) (.au ct [.agg [v cq 0,v ah 1,v bF 2,iO ((J.af 1).af 3).int,v ah 4]] [] 0 fun A=>.ite (A.af 0).bool (.aT (.tuple [pO 0,iO 0]) (Rm (RS.mk (A.af 1).ae (A.af 2).ae (A.af 3).ae (A.af 4).int (A.af 5).ae))) (u 71))) (u 270)) fun i o=>.bx i ((J.af 1).af o).ae)) fun i=>.aT (.tuple [.gF,iO i]) []):=oH _ 0x2325d315c22111211
end
section
variable {s:List UInt8} {Q:D->Prop}
def tS:cK:={f:=ko,rs:=[aQ,ah],bK:=some 0,cj:=[(fQ,[aQ],[ah])],bJ:=[(b7,eD),(mv,vZ)],fzr:=[some aQ,none]}
@[simp] theorem adQ:tS.f=ko/\tS.rs=[aQ,ah]:=⟨rfl,rfl⟩
theorem Qk:lh ko [aQ,ah] tS (bX s) [] 0 tO Q
 ((fun (u:D->Int->RT)=>.au mv [.ax [{toBitVec:=99#8}],.ax s] [] 0 fun I=>.ite (I.af 0).bool (.ite ((I.af 1).int !=0) (u (D.r []) (I.af 1).int) (.au b7 [.gF] [] 0 fun O=> .bT)) (.au b7 [pO 0] [(0,cO an [.ax (I.af 2).ax,.bool false])] 1 fun A=>.ite (! (A.af 0).bool) (.ite (! ((A.af 2).ax==[])) (u (D.r []) 270) (.gd ((A.af 1).ae.length=(A.af 1).ae.length) (.call fQ [D.r (A.af 1).ae] fun J=>.ite (J.int>512) (u (D.r []) 2) (u (D.r (A.af 1).ae) 0)))) (u (D.r []) 270))) fun i o=>.aT (.tuple [.bx aJ i.ae,iO o]) []):=oH _ 0x2325d315c2212015111211
end
section
variable {a0 a1:D} {Q:D->Prop} {n0:Int} {l m:List D}
def JB:cK:={bB:=[⟨nG,0,16425,[1,0,12,13],[]⟩]}
def x8 (a0 a1:D)(n0:Int):av:=hdL nG 75 [(0,.bx cq a0.ae),(1,.bx cq a1.ae),(12,iO (a0.ae.length:Int)),(13,iO n0)] []
theorem T9:lp nG [aj] JB [kG,kG] [a0,a1] Q
 (.ite ((a0.ae.length:Int)!=(a1.ae.length:Int)) (.ret (D.b false)) (.bz (x8 a0 a1 0))):=oP _ 0x211
theorem N6:lk nG [aj] JB (.cY Q) (x8 a0 a1 n0)
 (.ite (n0<(a0.ae.length:Int)) (.gd (di n0 a0.ae.length) (.gd (di n0 a1.ae.length) (.ite ((D.at a0.ae n0.toNat).int !=(D.at a1.ae n0.toNat).int) (.ret (D.b false)) (.bz (x8 a0 a1 (wp .i64 (n0+1))))))) (.ret (D.b true))):=oE _ 0x212121211
def MN:cK:={bB:=[⟨lx,0,16425,[1,0,12,13],[]⟩]}
def uy (a0 a1:D)(n0:Int):av:=hdL lx 75 [(0,.bx ah a0.ae),(1,.bx ah a1.ae),(12,iO (a0.ae.length:Int)),(13,iO n0)] []
theorem Wt:lp lx [aj] MN [jW,jW] [a0,a1] Q
 (.ite ((a0.ae.length:Int)!=(a1.ae.length:Int)) (.ret (D.b false)) (.bz (uy a0 a1 0))):=oP _ 0x211
theorem FR:lk lx [aj] MN (.cY Q) (uy a0 a1 n0)
 (.ite (n0<(a0.ae.length:Int)) (.gd (di n0 a0.ae.length) (.gd (di n0 a1.ae.length) (.ite ((D.at a0.ae n0.toNat).int !=(D.at a1.ae n0.toNat).int) (.ret (D.b false)) (.bz (uy a0 a1 (wp .i64 (n0+1))))))) (.ret (D.b true))):=oE _ 0x212121211
def AL:cK:={bK:=some 0,cj:=[(Ad,[bF,bF],[aj])],bB:=[⟨gN,0,16433,[2,1,15,16,17],[]⟩]}
def pZ (l m:List D)(n0:Int):av:=hdL gN 75 [(1,.bx bF m),(2,.func (.func Ad) [] []),(15,.bx bF l),(16,iO (l.length:Int)),(17,iO n0)] []
theorem Km:lh gN [aj] AL (tF l m) [] 0 bg Q
 (.ite ((l.length:Int)!=(m.length:Int)) (.aT (.bool false) []) (.bz (pZ l m 0))):=oH _ 0x211
theorem FQ:lk gN [aj] AL (.bK 0 (bg (tF l m) []) Q) (pZ l m n0)
 (.ite (n0<(l.length:Int)) (.gd (di n0 l.length) (.gd (di n0 m.length) (.call Ad [dE pg bF (D.at l n0.toNat),dE pg bF (D.at m n0.toNat)] fun A=>.ite (! A.bool) (.aT (.bool false) []) (.bz (pZ l m (wp .i64 (n0+1))))))) (.aT (.bool true) [])):=oE _ 0x212121211
end
section
variable {Q:D->Prop}
def Vn:cK:={bK:=some 0,cj:=[(je,[aq],[dA]),(nG,[kG,kG],[aj]),(lx,[jW,jW],[aj])],bJ:=[(ui,Dj),(gO,iT),(iP,bI),(gV,bI),(GH,Lv),(GG,Lu),(iN,mh),(gN,bg)],PU:=[(ui,[some kG])]}
theorem WI:lh tn [aj] Vn (MH) (MI) 0 bg Q
 ((fun (p:D->Bool)=>(fun (v:List (Nat×aE))=>(fun (u:Bool->RT->RT)=>.au ui [.bx cq (D.r []).ae] [] 0 fun d0=>.gd d0.bool (.au GG [pO 0] v 3 fun d1=>.au iN [.ax (d1.af 0).ax] [] 0 fun d2=>(fun (j:Nat->D)=>.ite (d2.af 0).bool .bT (.au gV [pO 0,.cS,.func (.func ue) [pO 0] []] [(0,cO fG [vO 1 9]),(1,rO Lp ([D.z 112,D.z 111,D.z 115,D.z 116,D.z 101,D.z 114,D.z 110,D.z 10]++[D.z 99]))] 1 fun I=>.gd (p I) (.call je [D.s (bO (List.take I.ae.length I.ae))] fun Z=>.au iP [pO 0,.int .u64 Z.int] (Lm I.ae) 1 fun A=>.ite ((A.ae.length:Int)>67108864) .bT (.gd (p A) (.au iN [.ax (bO (List.take A.ae.length A.ae))] [] 0 fun U=>.ite (U.af 0).bool (.au GH [.gF] [] 0 fun a8=>u (((d1.af 0).ax.length:Int)==41) (u ((d1.af 1).int==0) (.au gO [pO 0] (Wm (WS.mk (j 0).ae (j 1).ae (oS (j 2)) (pC (j 3)) (pB (j 4)) (oS (j 5)) (pC (j 6)) (pB (j 7)) (j 8).int (j 9).ae)) 3 fun J=>.au gO [pO 0] v 3 fun O=>(fun (k:Nat->List D)=>.call nG (k 0) fun b1=>u b1.bool (.call lx (k 1) fun V=>u V.bool (u ((J.af 3).int==(O.af 3).int) (.call lx (k 4) fun a7=>u a7.bool (.au gN [.bx bF (J.af 2).ae,.bx bF (O.af 2).ae,.func (.func Ad) [] []] [] 0 fun Y=>u Y.bool (u (((bO (List.take A.ae.length A.ae)).length:Int)==21) (.gd (di 8 (bO (List.take A.ae.length A.ae)).length) (u (((UInt8.toNat (List.getD (bO (List.take A.ae.length A.ae)) 8 0)):Int)==99) (u ((U.af 1).int==270) (u ((a8.af 1).int==1) (.call je [D.s []] fun a6=>u (a6.int==14695981039346656037) (.call je [D.s [{toBitVec:=97#8}]] fun b4=>.aT (.bool (b4.int==12638187200555641996)) [])))))))))))) fun i=>[D.r (J.af i).ae,D.r (O.af i).ae]))) .bT))))) fun i=>(d2.af 2).af i)) fun i o=>.ite i o (.aT (.bool false) [])) [(0,cO bU [.bx cq (D.r []).ae,vO 3 1,.map 1,.map 2,iO 0,vO 4 1]),(1,.cd bW (.dD 1 aU) [] [] 0),(2,.cd bp (.data bW) [] [] 0),(3,rO aj (List.replicate 1 (D.b false))),(4,rO ah (List.replicate 1 (D.z 0)))]) fun i=>i.ae.length<=i.ae.length):=oD _ 0x2127e212212122d1e912c23d1a912c10925d1290151a915c25dce0251a915c25d6e0351a915c25d0451a915c04522d17912c4e23dfe1005210201a22dce12c3e22d6e12c22d3e12c22d12c111 (.iy (.iy .pN (.iy (.iy .pN (.iy (.iy .all .pN) .all)) .all)) .pN)
end
section
variable {Q:D->Prop}
def Tw:cK:={bK:=some 0}
theorem Ud:lh TJ [aq,bn] Tw (Jk) (Jp) 0 Tc Q
 (.aT (.tuple [.ax [],iO 1]) []):=oH _ 0x8e1
end
section
variable {s:List UInt8} {Q:D->Prop} {c0 c2 c3 c4 c6:Nat} {l1 l7 l8 l9 l10:List D} {n5 n11:Int}
def zT:cK:={f:=kn,rs:=[aW,br,ah],bK:=some 0,bJ:=[(ct,eE),(eR,cA),(cE,gJ),(cI,gq),(mv,vZ)],bB:=[⟨kn,0,16429,[8,9,11],[]⟩],fzr:=[none,some br,none]}
@[simp] theorem aiT:zT.f=kn/\zT.rs=[aW,br,ah]:=⟨rfl,rfl⟩
def sx (s:List UInt8)(c0:Nat)(l1:List D)(c2 c3 c4:Nat)(n5:Int)(c6:Nat)(l7 l8:List D)(l9 l10:List D)(n11:Int):av:=hdL kn 9727 [(8,vO 0 c0),(9,pO 1),(11,iO n11)] [rO aV l1,cO bQ [vO 2 c2,vO 3 c3,vO 4 c4,iO n5,vO 5 c6],rO ah l7,rO aj l8,rO bF l9,rO ah l10]
theorem Zf:lh kn [aW,br,ah] zT (bX s) [] 0 vY Q
 ((fun (u:Int->RT)=>.au mv [.ax [{toBitVec:=112#8}],.ax s] [] 0 fun J=>.ite (J.af 0).bool (.ite ((J.af 1).int !=0) (u (J.af 1).int) (.au cE [.gF] [] 0 fun V=>.au cI [.gF] [] 0 fun U=> .bT)) (.au cE [pO 0] [(0,cO an [.ax (J.af 2).ax,.bool false])] 1 fun O=>(fun (v:Nat->Nat->BV)=>.au cI [pO 0] [(0,cO an [.ax (O.af 2).ax,.bool (O.af 0).bool])] 1 fun I=>.ite (! (I.af 0).bool) (.ite (! ((I.af 2).ax==[])) (u 270) (.au ct [.agg [v cq 0,v ah 1,v bF 2,iO ((O.af 1).af 3).int,v ah 4]] [] 0 fun A=>.ite (A.af 0).bool (.ite (((I.af 1).ae.length:Int)>32) (u 4) (.bz (sx s (I.af 1).ae.length (I.af 1).ae (A.af 1).ae.length (A.af 2).ae.length (A.af 3).ae.length (A.af 4).int (A.af 5).ae.length (A.af 1).ae (A.af 2).ae (A.af 3).ae (A.af 5).ae 0))) (u 71))) (u 270)) fun i o=>.bx i ((O.af 1).af o).ae)) fun i=>.aT (.tuple [.gF,.bx aV (D.r []).ae,iO i]) []):=oH _ 0x2325d315c223132111211
theorem Eu:lk kn [aW,br,ah] zT (.bK 0 (vY (bX s) []) Q) (sx s c0 l1 c2 c3 c4 n5 c6 l7 l8 l9 l10 n11)
 ((fun (v:D)=>(fun (u:List (Nat×aE))=>.ite (n11<(c0:Int)) (.gd (di n11 c0) (.gd (n11.toNat<l1.length) (.au eR [pO 0,.agg [iO (v.af 0).int,.bx aJ (v.af 1).ae,.bx dG (v.af 2).ae,.bx bW (v.af 3).ae]] u 1 fun A=>.ite (! A.bool) (.aT (.tuple [.gF,.bx aV (D.r []).ae,iO 190]) []) (.bz (sx s c0 l1 c2 c3 c4 n5 c6 l7 l8 l9 l10 (wp .i64 (n11+1))))))) (.gd (c0=l1.length) (.aT (.tuple [pO 0,.bx aV (D.r l1).ae,iO 0]) u))) [(0,cO bQ [vO 1 c2,vO 2 c3,vO 3 c4,iO n5,vO 4 c6]),(1,rO ah l7),(2,rO aj l8),(3,rO bF l9),(4,rO ah l10)]) (D.at l1 n11.toNat)):=oE _ 0x22112121211
end
section
variable {a0 a1 y2 y3:D} {Q:D->Prop} {n0 n1:Int}
def Hr:cK:={cj:=[(fU,[aI,aI],[aj])],bB:=[⟨fU,0,16429,[3,2,5],[]⟩]}
def qQ (a0 a1:D)(n0:Int):av:=hdL fU 75 [(2,pO 0),(3,pO 1),(5,iO n0)] [cO aI (aH pg aI a0),cO aI (aH pg aI a1)]
theorem Rx:lp fU [aj] Hr [aI,aI] [a0,a1] Q
 ((fun (u:RT)=>.ite ((a0.af 0).int !=(a1.af 0).int) u (.ite ((a0.af 1).int !=(a1.af 1).int) u (.ite (! ((a0.af 2).ax==(a1.af 2).ax)) u (.ite (((a0.af 3).ae.length:Int)!=((a1.af 3).ae.length:Int)) u (.bz (qQ a0 a1 0)))))) (.ret (D.b false))):=oP _ 0x25d25d27d2117c315c9e15cfe1
theorem C4:lk fU [aj] Hr (.cY Q) (qQ a0 a1 n0)
 ((fun (u:D->D)=>.ite (n0<((a0.af 3).ae.length:Int)) (.gd (di n0 (a0.af 3).ae.length) (.gd (di n0 (a1.af 3).ae.length) (.call fU [u a0,u a1] fun A=>.ite (! A.bool) (.ret (D.b false)) (.bz (qQ a0 a1 (wp .i64 (n0+1))))))) (.ret (D.b true))) fun i=>dE pg aI (D.at (i.af 3).ae n0.toNat)):=oE _ 0x212121211
def BJ:cK:={cj:=[(fU,[aI,aI],[aj]),(cD,[aQ,aQ],[aj])],bB:=[⟨cD,0,16554,[1,0,5],[]⟩,⟨cD,0,32820,[7,6,1,0,5,8],[]⟩]}
def mX (a0 a1:D)(n0:Int):av:=hdL cD 75 [(0,.bx aJ a0.ae),(1,.bx aJ a1.ae),(5,iO n0)] []
def mH (a0 a1:D)(n0 n1:Int)(y2 y3:D):av:=hdL cD 20043 [(0,.bx aJ a0.ae),(1,.bx aJ a1.ae),(5,iO n1),(6,pO 0),(7,pO 1),(8,iO n0)] [cO aJ (aH pg aJ y2),cO aJ (aH pg aJ y3)]
theorem Rs:lp cD [aj] BJ [aQ,aQ] [a0,a1] Q
 (.ite ((a0.ae.length:Int)!=(a1.ae.length:Int)) (.ret (D.b false)) (.bz (mX a0 a1 0))):=oP _ 0x211
theorem C1:lk cD [aj] BJ (.cY Q) (mX a0 a1 n0)
 ((fun (q:D->Nat->D)=>(fun (z:RT)=>(fun (p:D->RT->RT)=>(fun (v:D)=>(fun (u:D)=>(fun (k:Nat->RT->RT)=>(fun (j:Nat->List D)=>.ite (n0<(a0.ae.length:Int)) (.gd (di n0 a0.ae.length) (.gd (di n0 a1.ae.length) (k 0 (.ite (! ((v.af 1).ax==(u.af 1).ax)) z (.ite (! ((v.af 2).ax==(u.af 2).ax)) z (k 3 (k 4 (.call fU [q v 5,q u 5] fun A=>p A (.call fU [q v 6,q u 6] fun U=>p U (.call cD (j 7) fun I=>p I (.call cD (j 8) fun J=>p J (.call cD (j 9) fun O=>p O (.ite (((v.af 10).ae.length:Int)!=((u.af 10).ae.length:Int)) z (.bz (mH a0 a1 0 n0 v u))))))))))))))) (.ret (D.b true))) fun i=>[D.r (v.af i).ae,D.r (u.af i).ae]) fun i o=>.ite ((v.af i).int !=(u.af i).int) z o) (D.at a1.ae n0.toNat)) (D.at a0.ae n0.toNat)) fun i o=>.ite (! i.bool) z o) (.ret (D.b false))) fun i o=>dE pg aI (i.af o)):=oE _ 0x212121425d25d25d25d26d26d26d26d26d27d2117c316c9e16c10916c17916c1e916c25915c2c915c32915c38915c3e91
theorem yu:lk cD [aj] BJ (.cY Q) (mH a0 a1 n0 n1 y2 y3)
 (.ite (n0<((y2.af 10).ae.length:Int)) (.gd (di n0 (y2.af 10).ae.length) (.gd (di n0 (y3.af 10).ae.length) (.ite (! ((D.at (y2.af 10).ae n0.toNat).ax==(D.at (y3.af 10).ae n0.toNat).ax)) (.ret (D.b false)) (.bz (mH a0 a1 (wp .i64 (n0+1)) n1 y2 y3))))) (.bz (mX a0 a1 (wp .i64 (n1+1))))):=oE _ 0x212121211
def Ho:cK:={cj:=[(iC,[ak,ak],[aj]),(cD,[aQ,aQ],[aj]),(CE,[dn],[ak])],bB:=[⟨gG,0,16451,[3,2,5],[]⟩]}
def qN (a0 a1:D)(n0:Int):av:=hdL gG 75 [(2,pO 0),(3,pO 1),(5,iO n0)] [cO aU (aH pg aU a0),cO aU (aH pg aU a1)]
theorem Rt:lp gG [aj] Ho [aU,aU] [a0,a1] Q
 ((fun (u:RT)=>(fun (z:Nat->RT->RT)=>(fun (v:Nat->Nat->RT->RT)=>v 0 1 (.call iC [dE pg ak (a0.af 2),dE pg ak (a1.af 2)] fun A=>.ite (! A.bool) u (.call CE [D.r (a0.af 3).ae] fun O=>.call CE [D.r (a1.af 3).ae] fun I=>.call iC [dE pg ak O,dE pg ak I] fun J=>.ite (! J.bool) u (v 4 5 (v 6 7 (z 8 (.ite (! ((a0.af 9).bool==(a1.af 9).bool)) u (.ite (((a0.af 11).ae.length:Int)!=((a1.af 11).ae.length:Int)) u (.bz (qN a0 a1 0)))))))))) fun i o m=>z i (z o m)) fun i o=>.ite ((a0.af i).int !=(a1.af i).int) u o) (.ret (D.b false))):=oP _ 0x25d26d25d44d25d25d25d25d25d25d27d2117c315c9e15cfe15c15915c1b915c21915c27919c2d916c37915c3e91
theorem C2:lk gG [aj] Ho (.cY Q) (qN a0 a1 n0)
 ((fun (u:D->Nat->D)=>.ite (n0<((a0.af 11).ae.length:Int)) (.gd (di n0 (a0.af 11).ae.length) (.gd (di n0 (a1.af 11).ae.length) (.ite (! ((u a0 0).ax==(u a1 0).ax)) (.ret (D.b false)) (.call iC [dE pg ak (u a0 1),dE pg ak (u a1 1)] fun I=>.ite (! I.bool) (.ret (D.b false)) (.bz (qN a0 a1 (wp .i64 (n0+1)))))))) (.call cD [D.r (a0.af 10).ae,D.r (a1.af 10).ae] fun A=>.ret (D.b A.bool))) fun i o=>(D.at (i.af 11).ae n0.toNat).af o):=oE _ 0x21212123d0256d0155d211ec31
def Co:cK:={cj:=[(gG,[aU,aU],[aj])],bB:=[⟨eS,0,16572,[3,2,5],[]⟩,⟨eS,0,16530,[3,2,6],[]⟩,⟨eS,0,16488,[3,2,7],[]⟩,⟨eS,0,16446,[3,2,8],[]⟩]}
def yU (a0 a1:D)(n0:Int):av:=hdL eS 75 [(2,pO 0),(3,pO 1),(5,iO n0)] [cO aM (aH pg aM a0),cO aM (aH pg aM a1)]
def xd (a0 a1:D)(n0:Int):av:=hdL eS 151 [(2,pO 0),(3,pO 1),(6,iO n0)] [cO aM (aH pg aM a0),cO aM (aH pg aM a1)]
def xe (a0 a1:D)(n0:Int):av:=hdL eS 303 [(2,pO 0),(3,pO 1),(7,iO n0)] [cO aM (aH pg aM a0),cO aM (aH pg aM a1)]
def xf (a0 a1:D)(n0:Int):av:=hdL eS 607 [(2,pO 0),(3,pO 1),(8,iO n0)] [cO aM (aH pg aM a0),cO aM (aH pg aM a1)]
theorem ac0:lp eS [aj] Co [aM,aM] [a0,a1] Q
 ((fun (u:RT)=>(fun (v:Nat->RT->RT)=>v 0 (v 1 (v 2 (.ite ((a0.af 3).int !=(a1.af 3).int) u (v 4 (.bz (yU a0 a1 0))))))) fun i o=>.ite (((a0.af i).ae.length:Int)!=((a1.af i).ae.length:Int)) u o) (.ret (D.b false))):=oP _ 0x27d27d25d27d2117c315c9e17cfe17c1791
theorem KK:lk eS [aj] Co (.cY Q) (yU a0 a1 n0)
 (.ite (n0<((a0.af 0).ae.length:Int)) (.gd (di n0 (a0.af 0).ae.length) (.gd (di n0 (a1.af 0).ae.length) (.ite ((D.at (a0.af 0).ae n0.toNat).int !=(D.at (a1.af 0).ae n0.toNat).int) (.ret (D.b false)) (.bz (yU a0 a1 (wp .i64 (n0+1))))))) (.bz (xd a0 a1 0))):=oE _ 0x212121211
theorem HZ:lk eS [aj] Co (.cY Q) (xd a0 a1 n0)
 (.ite (n0<((a0.af 1).ae.length:Int)) (.gd (di n0 (a0.af 1).ae.length) (.gd (di n0 (a1.af 1).ae.length) (.ite ((D.at (a0.af 1).ae n0.toNat).int !=(D.at (a1.af 1).ae n0.toNat).int) (.ret (D.b false)) (.bz (xd a0 a1 (wp .i64 (n0+1))))))) (.bz (xe a0 a1 0))):=oE _ 0x212121211
theorem Ia:lk eS [aj] Co (.cY Q) (xe a0 a1 n0)
 (.ite (n0<((a0.af 4).ae.length:Int)) (.gd (di n0 (a0.af 4).ae.length) (.gd (di n0 (a1.af 4).ae.length) (.ite ((D.at (a0.af 4).ae n0.toNat).int !=(D.at (a1.af 4).ae n0.toNat).int) (.ret (D.b false)) (.bz (xe a0 a1 (wp .i64 (n0+1))))))) (.bz (xf a0 a1 0))):=oE _ 0x212121211
theorem Ib:lk eS [aj] Co (.cY Q) (xf a0 a1 n0)
 ((fun (u:D->Nat->D)=>.ite (n0<((a0.af 2).ae.length:Int)) (.gd (di n0 (a0.af 2).ae.length) (.gd (di n0 (a1.af 2).ae.length) (.ite ((u a0 0).int !=(u a1 0).int) (.ret (D.b false)) (.call gG [dE pg aU (u a0 1),dE pg aU (u a1 1)] fun A=>.ite (! A.bool) (.ret (D.b false)) (.bz (xf a0 a1 (wp .i64 (n0+1)))))))) (.ret (D.b true))) fun i o=>(D.at (i.af 2).ae n0.toNat).af o):=oE _ 0x21212123d0256d0155d211ec31
end
section
variable {a0:D} {Q:D->Prop}
theorem ac5:lp CE [ak] {} [dn] [a0] Q
 (.ret (D.r [D.z 3,D.z 0,D.s [],D.r a0.ae,D.z 0])):=oP _ 0x1
end
section
variable {a0 a1:D} {Q:D->Prop} {n0:Int}
def O3:cK:={cj:=[(fK,[aV,aV],[aj])],bB:=[⟨pW,0,16426,[1,0,5],[]⟩]}
def wP (a0 a1:D)(n0:Int):av:=hdL pW 75 [(0,.bx aV a0.ae),(1,.bx aV a1.ae),(5,iO n0)] []
theorem Y4:lp pW [aj] O3 [br,br] [a0,a1] Q
 (.ite ((a0.ae.length:Int)!=(a1.ae.length:Int)) (.ret (D.b false)) (.bz (wP a0 a1 0))):=oP _ 0x211
theorem HJ:lk pW [aj] O3 (.cY Q) (wP a0 a1 n0)
 (.ite (n0<(a0.ae.length:Int)) (.gd (di n0 a0.ae.length) (.gd (di n0 a1.ae.length) (.call fK [dE pg aV (D.at a0.ae n0.toNat),dE pg aV (D.at a1.ae n0.toNat)] fun A=>.ite (! A.bool) (.ret (D.b false)) (.bz (wP a0 a1 (wp .i64 (n0+1))))))) (.ret (D.b true))):=oE _ 0x212121211
def AN:cK:={cj:=[(gG,[aU,aU],[aj])],bB:=[⟨fK,0,16439,[3,2,5],[]⟩]}
def lL (a0 a1:D)(n0:Int):av:=hdL fK 75 [(2,pO 0),(3,pO 1),(5,iO n0)] [cO aV [iO (a0.af 0).int,.bx aJ (a0.af 1).ae,.bx dG (a0.af 2).ae,.bx bW (a0.af 3).ae],cO aV [iO (a1.af 0).int,.bx aJ (a1.af 1).ae,.bx dG (a1.af 2).ae,.bx bW (a1.af 3).ae]]
theorem Kp:lp fK [aj] AN [aV,aV] [a0,a1] Q
 (.ite ((a0.af 0).int !=(a1.af 0).int) (.ret (D.b false)) (.ite (((a0.af 3).ae.length:Int)!=((a1.af 3).ae.length:Int)) (.ret (D.b false)) (.bz (lL a0 a1 0)))):=oP _ 0x27d2117c31
theorem xK:lk fK [aj] AN (.cY Q) (lL a0 a1 n0)
 ((fun (u:D->D)=>.ite (n0<((a0.af 3).ae.length:Int)) (.gd (di n0 (a0.af 3).ae.length) (.gd (di n0 (a1.af 3).ae.length) (.ite ((D.at (a0.af 3).ae n0.toNat).int !=(D.at (a1.af 3).ae n0.toNat).int) (.ret (D.b false)) (.bz (lL a0 a1 (wp .i64 (n0+1))))))) (.call gG [u a0,u a1] fun A=>.ret (D.b A.bool))) fun i=>D.r [D.z 0,D.z 0,D.r [D.z 0,D.z 0,D.s [],D.r [],D.z 0],D.r [],D.z 0,D.z 0,D.z 0,D.z 0,D.z 0,D.b false,D.r (i.af 1).ae,D.r (i.af 2).ae]):=oE _ 0x212121211
end
section
variable {s:List UInt8} {Q:D->Prop} {c0 c1:Nat} {l2 l4 l5:List D} {n3 n6:Int}
def xq:cK:={f:=gw,rs:=[aj],bK:=some 0,cj:=[(cD,[aQ,aQ],[aj]),(eS,[aM,aM],[aj]),(gR,[br],[br]),(pW,[br,br],[aj])],bJ:=[(gO,iT),(kR,iT),(nY,xn),(iN,mh),(CD,Ju),(jJ,tL),(jl,r9),(kn,vY),(ko,tO)],bB:=[⟨gw,0,16417,[10,13,11,114,115],[]⟩]}
@[simp] theorem ahc:xq.f=gw/\xq.rs=[aj]:=⟨rfl,rfl⟩
def jh (s:List UInt8)(c0 c1:Nat)(l2:List D)(n3:Int)(l4 l5:List D)(n6:Int):av:=hdL gw 38911 [(10,vO 0 c0),(11,vO 1 c1),(13,.bx aJ l2),(114,iO n3),(115,iO n6)] [rO aJ l4,rO aJ l5]
theorem WJ:lh gw [aj] xq (bX s) [] 0 bg Q
 ((fun (k:Bool->RT->RT)=>(fun (p:D->D->RT->RT)=>(fun (j:D->List (Nat×aE))=>(fun (z:RT)=>(fun (v:D->D->RT->RT)=>(fun (u:RT)=>.au iN [.ax s] [] 0 fun Y=>.ite (Y.af 0).bool (.au jl [.ax s] [] 0 fun d1=>p d1 Y u) (.au jl [.ax s] [] 0 fun O=>k (O.af 0).bool (v (Y.af 2) O u))) (.au CD [.ax s] [] 0 fun V=>.ite (V.af 0).bool (.au kn [.ax s] [] 0 fun Z=>p Z V (k (! (true==((Z.af 1).int !=0))) (k ((Z.af 1).int==0) z))) (.au kn [.ax s] [] 0 fun J=>k (J.af 0).bool (.au nY [pO 0] (j (V.af 3)) 3 fun b6=>v b6 J (.call gR [D.r (V.af 5).ae] fun a6=>.call pW [D.r a6.ae,D.r (J.af 7).ae] fun b4=>k (! b4.bool) z))))) fun i o m=>.au gO [pO 0] (j i) 3 fun a8=>.au kR [pO 0] (Rm (RS.mk (o.af 2).ae (o.af 3).ae (o.af 4).ae (o.af 5).int (o.af 6).ae)) 1 fun b1=>.call eS [dE pg aM a8,dE pg aM b1] fun a7=>.gd a7.bool m) (.au jJ [.ax s] [] 0 fun A=>.au jJ [.ax s] [] 0 fun U=>.au ko [.ax s] [] 0 fun I=>k ((A.af 0).int !=(I.af 0).int) (.gd ((A.af 1).ae.length=(A.af 1).ae.length) (.call cD [D.r (A.af 1).ae,D.r (I.af 1).ae] fun d4=>k (! d4.bool) (.bz (jh s (A.af 1).ae.length (U.af 1).ae.length (I.af 1).ae ((A.af 1).ae.length:Int) (A.af 1).ae (U.af 1).ae 0)))))) fun i=>Wm (WS.mk (i.af 0).ae (i.af 1).ae (oS (i.af 2)) (pC (i.af 3)) (pB (i.af 4)) (oS (i.af 5)) (pC (i.af 6)) (pB (i.af 7)) (i.af 8).int (i.af 9).ae)) fun i o m=>.ite (i.af 0).bool (k ((o.af 1).int !=(i.af 1).int) m) .bT) fun i o=>.ite i .bT o):=oD _ 0x22ce215e221f921159222d210201b2111112125d22d26d016006016322d210201b211111112125dbe221f921159222d210201b2111112125d22d26d016006016322d210201b21111111 (.iy (.iy (.iy .pN (.iy (.iy (.iy .pN (.iy .pN (.iy .pN (.iy .pN (.iy (.iy .pN .all) .all))))) .pN) (.iy .pN (.iy (.iy .pN (.iy .pN (.iy (.iy .pN .all) .all))) .pN)))) .pN) (.iy .pN (.iy (.iy (.iy (.iy .pN (.iy .pN (.iy .pN (.iy .pN (.iy (.iy .pN .all) .all))))) .pN) (.iy .pN (.iy (.iy .pN (.iy .pN (.iy (.iy .pN .all) .all))) .pN))) .pN)))
theorem Bs:lk gw [aj] xq (.bK 0 (bg (bX s) []) Q) (jh s c0 c1 l2 n3 l4 l5 n6)
 ((fun (u:D)=>.ite (n6<n3) (.gd (di n6 c0) (.gd (n6.toNat<l4.length) (.bz (jh s c0 c1 l2 n3 (List.set l4 n6.toNat (D.r [D.z 99,D.s [],D.s [],D.z 0,D.z 0,u,u,D.r [],D.r [],D.r [],D.r []])) l5 (wp .i64 (n6+1)))))) (.gd (c1=l5.length) (.call cD [D.r l5,D.r l2] fun A=>.aT (.bool A.bool) []))) (D.r [D.z 0,D.z 0,D.s [],D.r []])):=oE _ 0x221121211
end
end Go.Proofs
end
