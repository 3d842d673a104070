import Derived.Test.YtpanfgalkajgdaaGreatM8
set_option linter.all false
noncomputable section
open Go.IntKind renaming wrap→wp
set_option maxHeartbeats 8000000
namespace Go.Proofs
open Go Go.PB
section
variable {s s3:List UInt8} {p q wd n2 n5 n6 n0 n1:Int} {Q:D->Prop} {b0:Bool} {c1:Nat} {l4:List D} {a0 a1:D}
def Cu:cK:={bK:=some 2,bB:=[⟨dM,0,16419,[19,5,20,21,4],[]⟩]}
def jF (s:List UInt8)(p q wd:Int)(b0:Bool)(c1:Nat)(n2:Int)(s3:List UInt8)(l4:List D)(n5 n6:Int):av:=hdL dM 75 [(4,.int .u64 n5),(5,.bool b0),(19,vO 2 c1),(20,iO n2),(21,iO n6)] [cO fZ [.func (.func kA) [] [pO 1],.func (.func kB) [] [pO 1],iO p,iO q],cO aq [.ax s3],rO Lp l4]
theorem Mo:lh dM [dA,aj] Cu (qn s p q wd) (qp s p q wd) 2 mR Q
 ((fun (u:Bool)=>.ite ((wd:Int)>(s.length:Int)) (.bz (jF s p q wd false 0 0 s [] 0 0)) (.gd (0<=(wd:Int)) (.gd (((0:Nat)<=wd.toNat)&&u) (.gd (u&&(s.length<=s.length)) (.bz (jF s p q wd true (List.drop 0 (List.take wd.toNat s)).length ((List.drop 0 (List.take wd.toNat s)).length:Int) (List.drop wd.toNat (List.take s.length s)) (kf (List.drop 0 (List.take wd.toNat s))) 0 0)))))) (wd.toNat<=s.length)):=oH _ 0x221210152111
theorem rj:lk dM [dA,aj] Cu (.bK 2 (mR (qn s p q wd) (qp s p q wd)) Q) (jF s p q wd b0 c1 n2 s3 l4 n5 n6)
 (.ite (n6<n2) (.gd (di n6 c1) (.gd (n6.toNat<l4.length) (.bz (jF s p q wd b0 c1 n2 s3 l4 (wp .u64 ((BitVec.toNat ((BitVec.ofInt 64 (wp .u64 (n5*256))) ||| (BitVec.ofInt 64 (wp .u64 (D.at l4 n6.toNat).int)))):Int)) (wp .i64 (n6+1)))))) (.aT (.tuple [.int .u64 n5,.bool b0]) [(0,cO fZ [.func (.func kA) [] [pO 1],.func (.func kB) [] [pO 1],iO p,iO q]),(1,cO aq [.ax s3])])):=oE _ 0x21212131
def MS:cK:={bB:=[⟨i0,0,16422,[0,1,8,7],[]⟩]}
def sA (a0 a1:D)(n0 n1:Int):av:=hdL i0 151 [(0,.ax a0.ax),(1,iO a1.int),(7,.int .u64 n0),(8,iO n1)] []
theorem WW:lp i0 [dA,aq,aj] MS [aq,ah] [a0,a1] Q
 (.ite ((a0.ax.length:Int)<a1.int) (.ret (D.r [D.z 0,D.s a0.ax,D.b false])) (.bz (sA a0 a1 0 0))):=oP _ 0x211
theorem Ew:lk i0 [dA,aq,aj] MS (.cY Q) (sA a0 a1 n0 n1)
 (.ite (n1<a1.int) (.gd (di n1 a0.ax.length) (.bz (sA a0 a1 (wp .u64 ((BitVec.toNat ((BitVec.ofInt 64 (wp .u64 (n0*256))) ||| (BitVec.ofInt 64 (wp .u64 ((UInt8.toNat (List.getD a0.ax n1.toNat 0)):Int))))):Int)) (wp .i64 (n1+1))))) (.gd (0<=a1.int) (.gd ((a1.int.toNat<=a0.ax.length)&&(a0.ax.length<=a0.ax.length)) (.ret (D.r [D.z n0,D.s (List.drop a1.int.toNat (List.take a0.ax.length a0.ax)),D.b true]))))):=oE _ 0x2212113211
end
section
variable {s s0 s1:List UInt8} {z b2:Bool} {n n3 n4:Int} {Q:D->Prop}
def LH:cK:={bK:=some 1}
theorem Mf:lh jZ [aq] LH (jX s z n) (im s z n) 1 fi Q
 ((fun (v:Bool)=>(fun (u:RT)=>.ite z u (.ite ((n:Int)<0) u (.ite ((n:Int)>(s.length:Int)) u (.gd (0<=(n:Int)) (.gd (((0:Nat)<=n.toNat)&&v) (.gd (v&&(s.length<=s.length)) (.aT (.ax (List.drop 0 (List.take n.toNat s))) [(0,cO an [.ax (List.drop n.toNat (List.take s.length s)),.bool z])]))))))) (.aT (.ax []) [(0,cO an [.ax s,.bool true])])) (n.toNat<=s.length)):=oH _ 0x22d27d2212101521117c312c9e1
def Cn:cK:={bK:=some 1,bJ:=[(jZ,fi)],bB:=[⟨du,0,16418,[5,7,6],[]⟩]}
def lQ (s:List UInt8)(z:Bool)(n:Int)(s0 s1:List UInt8)(b2:Bool)(n3 n4:Int):av:=hdL du 151 [(5,.ax s0),(6,.int .u64 n3),(7,iO n4)] [cO an [.ax s1,.bool b2]]
theorem Mi:lh du [dA] Cn (jX s z n) (im s z n) 1 iv Q
 (.au jZ [pO 0,iO n] [(0,cO an [.ax s,.bool z])] 1 fun A=>.bz (lQ s z n (A.af 1).ax (A.af 2).ax (A.af 0).bool 0 0)):=oH _ 0x1
theorem xL:lk du [dA] Cn (.bK 1 (iv (jX s z n) (im s z n)) Q) (lQ s z n s0 s1 b2 n3 n4)
 (.ite (n4<(s0.length:Int)) (.gd (di n4 s0.length) (.bz (lQ s z n s0 s1 b2 (wp .u64 ((BitVec.toNat ((BitVec.ofInt 64 (wp .u64 (n3*256))) ||| (BitVec.ofInt 64 (wp .u64 ((UInt8.toNat (List.getD s0 n4.toNat 0)):Int))))):Int)) (wp .i64 (n4+1))))) (.aT (.int .u64 n3) [(0,cO an [.ax s1,.bool b2])])):=oE _ 0x213211
def JL:cK:={bK:=some 1,bJ:=[(du,iv)]}
theorem Kq:lh bS [ah] JL (ba s z) (bc s z) 1 bR Q
 (.au du [pO 0,iO 4] [(0,cO an [.ax s,.bool z])] 1 fun A=>.aT (iO (wp .i64 (A.af 1).int)) [(0,cO an [.ax (A.af 2).ax,.bool (A.af 0).bool])]):=oH _ 0x1
def LG:cK:={bK:=some 1,bJ:=[(bS,bR)]}
theorem Me:lh cp [ah] LG (ba s z) (bc s z) 1 bR Q
 (.au bS [pO 0] [(0,cO an [.ax s,.bool z])] 1 fun A=>(fun (u:Int->Bool->RT)=>.ite ((A.af 1).int>((A.af 2).ax.length:Int)) (u 0 true) (.ite (A.af 0).bool (u 0 (A.af 0).bool) (u (A.af 1).int (A.af 0).bool))) fun i o=>.aT (iO i) [(0,cO an [.ax (A.af 2).ax,.bool o])]):=oH _ 0x221131
def IF:cK:={bK:=some 1,bJ:=[(du,iv)]}
theorem I3:lh eZ [QO] IF (ba s z) (bc s z) 1 bR Q
 (.au du [pO 0,iO 8] [(0,cO an [.ax s,.bool z])] 1 fun A=>.aT (iO (wp .i64 (wp .u64 ((BitVec.toNat ((BitVec.ofInt 64 (A.af 1).int) ^^^ (BitVec.ofInt 64 9223372036854775808))):Int)))) [(0,cO an [.ax (A.af 2).ax,.bool (A.af 0).bool])]):=oH _ 0x1
def LD:cK:={bK:=some 1,bJ:=[(du,iv)]}
theorem L8:lh cX [Lp] LD (ba s z) (bc s z) 1 iq Q
 (.au du [pO 0,iO 1] [(0,cO an [.ax s,.bool z])] 1 fun A=>.aT (iU (wp .u8 (A.af 1).int)) [(0,cO an [.ax (A.af 2).ax,.bool (A.af 0).bool])]):=oH _ 0x1
def LI:cK:={bK:=some 1,bJ:=[(jZ,fi),(bS,bR)]}
theorem Mg:lh eI [aq] LI (ba s z) (bc s z) 1 fi Q
 ((fun (u:D->aE)=>.au bS [pO 0] [(0,cO an [.ax s,.bool z])] 1 fun I=>.au jZ [pO 0,iO (I.af 1).int] [(0,u I)] 1 fun A=>.aT (.ax (A.af 1).ax) [(0,u A)]) fun i=>cO an [.ax (i.af 2).ax,.bool (i.af 0).bool]):=oH _ 0x1
def LF:cK:={bK:=some 1,bJ:=[(cX,iq)]}
theorem Mb:lh mT [aj] LF (ba s z) (bc s z) 1 v7 Q
 (.au cX [pO 0] [(0,cO an [.ax s,.bool z])] 1 fun A=>(fun (u:Bool->RT)=>.ite (A.af 0).bool (u true) (u ((A.af 1).int>1))) fun i=>.aT (.bool ((A.af 1).int==1)) [(0,cO an [.ax (A.af 2).ax,.bool i])]):=oH _ 0x22d12c1
end
section
variable {s s3 s0:List UInt8} {p q n0 n1 n2 n4 n3:Int} {Q:D->Prop} {c5 c4:Nat} {l6 l5:List D} {a0 a1 a2:D}
def Ej:cK:={bK:=some 2,bJ:=[(dM,mR),(ey,gb)],bB:=[⟨ey,0,24649,[2,0,144,145],[]⟩],yd:=[(ak,3,ak)],fzr:=[some ak,none]}
def fV (s:List UInt8)(p q:Int)(n0 n1 n2:Int)(s3:List UInt8)(n4:Int)(c5:Nat)(l6:List D):av:=hdL ey 39714655 [(0,pO 0),(2,pO 2),(144,.int .u64 n0),(145,.int .u64 n4)] [cO fZ [.func (.func kA) [] [pO 1],.func (.func kB) [] [pO 1],iO n1,iO n2],cO aq [.ax s3],cO ak [iU ((UInt8.toNat (List.getD (List.drop 0 (List.take 1 s)) 0 0)):Int),iO 0,.ax [],vO 3 c5,iO 0],rO ak l6]
theorem N4:lh ey [ak,aj] Ej (nS s p q) (nU s p q) 2 gb Q
 ((fun (V:Int->BV)=>(fun (Z:Int->List BV)=>(fun (um:Int->Int->D->Int->Bool->BV)=>(fun (U:Int)=>(fun (up:D)=>(fun (J:D->Int)=>(fun (uz:Nat->Nat->RT->RT)=>(fun (O:List UInt8)=>(fun (t:Int)=>(fun (k:Int->Int->List UInt8->List (Nat×aE))=>(fun (j:D->Bool->Int->Int->List UInt8->RT)=>(fun (v:D->Bool->D->RT)=>(fun (u:Bool->Int->Int->List UInt8->RT)=>(fun (uj:Bool->D->RT->RT)=>(fun (uu:Bool->D->Bool->RT->RT)=>.ite (1>(s.length:Int)) (.aT (um 0 0 up 0 false) (k p q s)) (uz (1:Nat) s.length (.ite ((p:Int)==0) (j up false p q O) (.gd (di 0 (List.drop 0 (List.take 1 s)).length) (.ite (t==(0:Int)) (u true U q O) (.ite (t==(1:Int)) (.au dM (Z 8) (k U q O) 2 fun d0=>v (D.r [D.z t,D.z (wp .i64 (wp .u64 ((d0.af 1).int-9223372036854775808))),D.s [],D.r [],D.z 0]) (d0.af 0).bool d0) (.ite (t==(4:Int)) (.au dM (Z 4) (k U q O) 2 fun Y=>(fun (ux:D)=>.ite (Y.af 0).bool (v ux ((Y.af 1).int>0) Y) (v ux false Y)) (D.r [D.z t,D.z 0,D.s [],D.r [],D.z (J Y)])) (.ite (t==(2:Int)) (.au dM (Z 2) (k U q O) 2 fun A=>uu (! (A.af 0).bool) A ((A.af 1).int>256) (uj ((J A)>((A.af 2).ax.length:Int)) A (.gd (0<=(J A)) (uz (J A).toNat (A.af 2).ax.length (j (D.r [D.z t,D.z 0,D.s (List.drop 0 (List.take (J A).toNat (A.af 2).ax)),D.r [],D.z 0]) true (A.af 3).int (A.af 4).int (List.drop (J A).toNat (List.take (A.af 2).ax.length (A.af 2).ax))))))) (.ite (t==(3:Int)) (.au dM (Z 2) (k U q O) 2 fun I=>uu (! (I.af 0).bool) I ((I.af 4).int==0) (uj ((J I)>(I.af 3).int) I (.bz (fV s p q (I.af 1).int (I.af 3).int (wp .i64 ((I.af 4).int-1)) (I.af 2).ax 0 0 [])))) (u false U q O)))))))))) fun i o m x=>uj i o (uj m o x)) fun i o m=>.ite i (u false (o.af 3).int (o.af 4).int (o.af 2).ax) m) fun i o m x=>j (D.r [D.z t,D.z 0,D.s [],D.r [],D.z 0]) i o m x) fun i o m=>j i o (m.af 3).int (m.af 4).int (m.af 2).ax) fun i o m x g=>.aT (um (i.af 0).int (i.af 1).int i (i.af 4).int o) (k m x g)) fun i o m=>[(0,cO fZ [.func (.func kA) [] [pO 1],.func (.func kB) [] [pO 1],V i,V o]),(1,cO aq [.ax m])]) ((UInt8.toNat (List.getD (List.drop 0 (List.take 1 s)) 0 0)):Int)) (List.drop 1 (List.take s.length s))) fun i o m=>.gd (((0:Nat)<=i)&&(i<=o)) (.gd ((i<=o)&&(o<=o)) m)) fun i=>wp .i64 (i.af 1).int) (D.r [D.z 0,D.z 0,D.s [],D.r [],D.z 0])) (wp .i64 (p-1))) fun i o m x g=>.tuple [.agg [iU i,V o,.ax (m.af 2).ax,.bx ak (m.af 3).ae,V x],.bool g]) fun i=>[pO 0,V i]) fun i=>iO i):=oH _ 0x23213217e221222223126d28d21318c2e16cbe122d222121015213131312c2e122d312c313131319e1
theorem rY:lk ey [ak,aj] Ej (.bK 2 (gb (nS s p q) (nU s p q)) Q) (fV s p q n0 n1 n2 s3 n4 c5 l6)
 ((fun (j:Int->Int->List UInt8->List (Nat×aE))=>(fun (u:Nat->D)=>(fun (v:Bool->Int->Int->List UInt8->RT)=>.ite (n4<n0) (.au ey [pO 0] (j n1 n2 s3) 2 fun A=>.ite (! (A.af 0).bool) (v false (A.af 3).int (A.af 4).int (A.af 2).ax) (.gd ((c5=l6.length)&&(bh 64 (c5+1))) (.bz (fV s p q n0 (A.af 3).int (A.af 4).int (A.af 2).ax (wp .u64 (n4+1)) (c5+1) (l6++[dE pg ak (A.af 1)]))))) (v true n1 (wp .i64 (n2+1)) s3)) fun i o m x=>.gd (c5=l6.length) (.aT (.tuple [.agg [iU (u 0).int,iO (u 1).int,.ax (u 2).ax,.bx ak (u 3).ae,iO (u 4).int],.bool i]) (j o m x))) fun i=>(D.r [D.z ((UInt8.toNat (List.getD (List.drop 0 (List.take 1 s)) 0 0)):Int),D.z 0,D.s [],D.r l6,D.z 0]).af i) fun i o m=>[(0,cO fZ [.func (.func kA) [] [pO 1],.func (.func kB) [] [pO 1],iO i,iO o]),(1,cO aq [.ax m])]):=oE _ 0x221123211211
def Pl:cK:={cj:=[(i0,[aq,ah],[dA,aq,aj]),(kx,[aq,ah,ah],[ak,aq,ah])],bB:=[⟨kx,0,24677,[6,9,2,1,11,13,12,0],[]⟩],yd:=[(ak,3,ak)]}
def jE (a0 a1 a2:D)(s0:List UInt8)(n1 n2 n3:Int)(c4:Nat)(l5:List D):av:=hdL kx 79429311 [(0,.ax s0),(1,iO a1.int),(2,iO a2.int),(6,pO 0),(9,pO 1),(11,.int .u64 n1),(12,iO n2),(13,.int .u64 n3)] [cO ak [iU 0,iO 0,.ax [],vO 2 0,iO 0],cO ak [iU ((UInt8.toNat (List.getD a0.ax 0 0)):Int),iO 0,.ax [],vO 3 c4,iO 0],rO ak [],rO ak l5]
theorem Zt:lp kx [ak,aq,ah] Pl [aq,ah,ah] [a0,a1,a2] Q
 ((fun (j:D)=>(fun (v:Int)=>(fun (u:RT)=>.ite (a0.ax==[]) u (.ite (a1.int<1) u (.gd (di 0 a0.ax.length) (.gd (((1:Nat)<=a0.ax.length)&&(a0.ax.length<=a0.ax.length)) (.ite (v==(0:Int)) (.ret (D.r [D.r [D.z v,D.z 0,D.s [],D.r [],D.z 0],j,D.z 1])) (.ite (v==(1:Int)) (.call i0 [j,D.z 8] fun O=>.ite (! (O.af 2).bool) u (.ret (D.r [D.r [D.z v,D.z (wp .i64 (wp .u64 ((BitVec.toNat ((BitVec.ofInt 64 (O.af 0).int) ^^^ (BitVec.ofInt 64 9223372036854775808))):Int))),D.s [],D.r [],D.z 0],D.s (O.af 1).ax,D.z 1]))) (.ite (v==(2:Int)) (.call i0 [j,D.z 2] fun A=>(fun (k:Bool)=>.ite (! (A.af 2).bool) u (.ite ((A.af 0).int>256) u (.ite ((A.af 0).int>(wp .u64 ((A.af 1).ax.length:Int))) u (.gd (0<=(A.af 0).int) (.gd (((0:Nat)<=(A.af 0).int.toNat)&&k) (.gd (k&&((A.af 1).ax.length<=(A.af 1).ax.length)) (.ret (D.r [D.r [D.z v,D.z 0,D.s (List.drop 0 (List.take (A.af 0).int.toNat (A.af 1).ax)),D.r [],D.z 0],D.s (List.drop (A.af 0).int.toNat (List.take (A.af 1).ax.length (A.af 1).ax)),D.z 1])))))))) ((A.af 0).int.toNat<=(A.af 1).ax.length)) (.ite (v==(4:Int)) (.call i0 [j,D.z 4] fun I=>.ite (I.af 2).bool (.ite (! ((I.af 0).int>0)) u (.ret (D.r [D.r [D.z v,D.z 0,D.s [],D.r [],D.z (wp .i64 (I.af 0).int)],D.s (I.af 1).ax,D.z 1]))) u) (.ite (v==(3:Int)) (.call i0 [j,D.z 2] fun J=>.ite (! (J.af 2).bool) u (.ite (a2.int<1) u (.ite ((J.af 0).int≥(wp .u64 a1.int)) u (.bz (jE a0 a1 a2 (J.af 1).ax (J.af 0).int 1 0 0 []))))) u))))))))) (.ret (D.r [D.r [D.z 0,D.z 0,D.s [],D.r [],D.z 0],D.s [],D.z (-1)]))) ((UInt8.toNat (List.getD a0.ax 0 0)):Int)) (D.s (List.drop 1 (List.take a0.ax.length a0.ax)))):=oP _ 0x22d221321222223122d24d21314c2e12c7e122d2e12c2313122d25d221210152105631315c2e12c8e12313131312c2e1
theorem yr:lk kx [ak,aq,ah] Pl (.cY Q) (jE a0 a1 a2 s0 n1 n2 n3 c4 l5)
 ((fun (u:Bool)=>.ite (n3<n1) (.call kx [D.s s0,D.z (wp .i64 (a1.int-n2)),D.z (wp .i64 (a2.int-1))] fun A=>.ite ((A.af 2).int<0) (.ret (D.r [D.r [D.z 0,D.z 0,D.s [],D.r [],D.z 0],D.s [],D.z (-1)])) (.gd (u&&(bh 64 (c4+1))) (.bz (jE a0 a1 a2 (A.af 1).ax n1 (wp .i64 (n2+(A.af 2).int)) (wp .u64 (n3+1)) (c4+1) (l5++[dE pg ak (A.af 0)]))))) (.gd u (.ret (D.r [D.r [D.z ((UInt8.toNat (List.getD a0.ax 0 0)):Int),D.z 0,D.s [],D.r l5,D.z 0],D.s s0,D.z n2])))) (c4=l5.length)):=oE _ 0x22112321131
end
section
variable {a0:D} {Q:D->Prop}
theorem ada:lp GJ [ak,aq,bn] {bJ:=[(ey,gb)]} [aq] [a0] Q
 (.au ey [pO 0] [(0,cO fZ [.func (.func kA) [] [pO 1],.func (.func kB) [] [pO 1],iO 512,iO 16]),(1,cO aq [.ax a0.ax])] 2 fun A=>.ite (! (A.af 0).bool) (.ret (D.r [D.r [D.z 0,D.z 0,D.s [],D.r [],D.z 0],D.s [],D.z 20])) (.ret (D.r [dE pg ak (A.af 1),D.s (A.af 2).ax,D.z 0]))):=oP _ 0x2411
theorem Zp:lp DC [ak,aq,ah] {cj:=[(kx,[aq,ah,ah],[ak,aq,ah])]} [aq] [a0] Q
 (.call kx [D.s a0.ax,D.z 512,D.z 16] fun A=>.ite ((A.af 2).int<0) (.ret (D.r [D.r [D.z 0,D.z 0,D.s [],D.r [],D.z 0],D.s [],D.z 20])) (.ret (D.r [dE pg ak (A.af 0),D.s (A.af 1).ax,D.z 0]))):=oP _ 0x211
end
section
variable {s s1:List UInt8} {Q:D->Prop} {n0 n3:Int} {c2:Nat} {l4:List D}
def O5:cK:={bK:=some 1,bJ:=[(cv,fR),(dJ,pE),(dh,eg),(iD,qq)],Ot:=[(aI,3,D7)]}
theorem FN:lh eo [aI] O5 (cG s) (bd s) 1 pF Q
 ((fun (u:D->List (Nat×aE))=>(fun (v:D->RT->RT)=>.au dJ [pO 0] [(0,cO ao [.ax s])] 1 fun I=>v I (.au cv [pO 0] (u I) 1 fun O=>v O (.au dh [pO 0] (u O) 1 fun J=>v J (.au iD [pO 0,iO 17,.func (.func eo) [pO 0] []] (u J) 1 fun A=>v A (.gd ((A.af 1).ae.length=(A.af 1).ae.length) (.aT (.agg [iU (I.af 1).int,iO (wp .i64 (wp .u64 ((BitVec.toNat ((BitVec.ofInt 64 (O.af 1).int) ^^^ (BitVec.ofInt 64 9223372036854775808))):Int))),.ax (J.af 1).ax,.bx aI (D.r (A.af 1).ae).ae]) (u A))))))) fun i o=>.ite (i.af 0).bool (.aT (.nX aX 270) (u i)) o) fun i=>[(0,cO ao [.ax (i.af 2).ax])]):=oH _ 0x22222111111
def Cq:cK:={bK:=some 1,bJ:=[(cx,fP),(aB,cH),(eo,pF)],bB:=[⟨iD,0,16412,[2,21,22,8],[(8,aI)]⟩]}
def p9 (s:List UInt8)(n0:Int)(s1:List UInt8)(c2:Nat)(n3:Int)(l4:List D):av:=hdL iD 303 [(2,.func (.func eo) [pO 0] []),(8,vO 1 c2),(21,iO n0),(22,iO n3)] [cO ao [.ax s1],rO aI l4]
theorem Mk:lh iD [D7] Cq (B5 s) (bd s) 1 qq Q
 (.au aB [pO 0] [(0,cO ao [.ax s])] 1 fun A=>(fun (u:RT)=>.ite (A.af 0).bool u (.ite ((A.af 1).int>(wp .i64 (Int.tdiv ((A.af 2).ax.length:Int) 17))) (.au cx [] [] 0 fun I=>u) (.bz (p9 s (A.af 1).int (A.af 2).ax 0 0 [])))) (.aT (.nX aX 270) [(0,cO ao [.ax (A.af 2).ax])])):=oH _ 0x232111
theorem Gd:lk iD [D7] Cq (.bK 1 (qq (B5 s) (bd s)) Q) (p9 s n0 s1 c2 n3 l4)
 ((fun (u:aE)=>.ite (n3<n0) (.au eo [pO 0] [(0,u)] 1 fun A=>.ite (A.af 0).bool (.aT (.nX aX 270) [(0,cO ao [.ax (A.af 2).ax])]) (.gd ((c2=l4.length)&&(bh 56 (c2+1))) (.bz (p9 s n0 (A.af 2).ax (c2+1) (wp .i64 (n3+1)) (l4++[dE pg aI (A.af 1)]))))) (.aT (vO 1 c2) [(0,u),(1,rO aI l4)])) (cO ao [.ax s1])):=oE _ 0x21232111
def Cs:cK:={bK:=some 1,bJ:=[(cx,fP),(aB,cH)],bB:=[⟨iE,0,16412,[2,21,22,8],[(8,cq)]⟩]}
def qb (s:List UInt8)(n0:Int)(s1:List UInt8)(c2:Nat)(n3:Int)(l4:List D):av:=hdL iE 303 [(2,.func (.func uf) [pO 0] []),(8,vO 1 c2),(21,iO n0),(22,iO n3)] [cO ao [.ax s1],rO cq l4]
theorem Mm:lh iE [kG] Cs (B7 s) (bd s) 1 qt Q
 (.au aB [pO 0] [(0,cO ao [.ax s])] 1 fun A=>(fun (u:RT)=>.ite (A.af 0).bool u (.ite ((A.af 1).int>(wp .i64 (Int.tdiv ((A.af 2).ax.length:Int) 4))) (.au cx [] [] 0 fun I=>u) (.bz (qb s (A.af 1).int (A.af 2).ax 0 0 [])))) (.aT (.nX aX 270) [(0,cO ao [.ax (A.af 2).ax])])):=oH _ 0x232111
theorem Gf:lk iE [kG] Cs (.bK 1 (qt (B7 s) (bd s)) Q) (qb s n0 s1 c2 n3 l4)
 ((fun (u:aE)=>.ite (n3<n0) (.au aB [pO 0] [(0,u)] 1 fun A=>.ite (A.af 0).bool (.aT (.nX aX 270) [(0,cO ao [.ax (A.af 2).ax])]) (.gd ((c2=l4.length)&&(bh 8 (c2+1))) (.bz (qb s n0 (A.af 2).ax (c2+1) (wp .i64 (n3+1)) (l4++[D.z (A.af 1).int]))))) (.aT (vO 1 c2) [(0,u),(1,rO cq l4)])) (cO ao [.ax s1])):=oE _ 0x21232111
end
section
variable {s s1:List UInt8} {Q:D->Prop} {n0 n3:Int} {c2:Nat} {l4:List D}
def O7:cK:={bK:=some 1,bJ:=[(dJ,pE),(dh,eg),(eo,pF),(cL,iw),(gl,nv)],Ot:=[(aJ,13,aQ),(aJ,14,aQ),(aJ,15,aQ),(aJ,16,fY)]}
theorem FO:lh ep [aJ] O7 (cG s) (bd s) 1 tM Q
 ((fun (p:D->BV)=>(fun (k:Nat->D->BV)=>(fun (j:List BV)=>(fun (u:D->List (Nat×aE))=>(fun (v:D->RT->RT)=>(fun (z:D->RT->RT)=>.au dJ [pO 0] [(0,cO ao [.ax s])] 1 fun I=>v I (.au dh [pO 0] (u I) 1 fun d1=>v d1 (.au dh [pO 0] (u d1) 1 fun J=>v J (.au dJ [pO 0] (u J) 1 fun O=>v O (.au dJ [pO 0] (u O) 1 fun Z=>v Z (.au eo [pO 0] (u Z) 1 fun U=>v U (.au eo [pO 0] (u U) 1 fun Y=>v Y (.au cL j (u Y) 1 fun d7=>z d7 (.au cL j (u d7) 1 fun V=>z V (.au cL j (u V) 1 fun d9=>z d9 (.au gl [pO 0,iO 4,.func (.func dh) [pO 0] []] (u d9) 1 fun A=>z A (.aT (.agg ([p I,.ax (d1.af 1).ax,.ax (J.af 1).ax,p O,p Z]++((aH pg aI (U.af 1))++((aH pg aI (Y.af 1))++[k aJ d7,k aJ V,k aJ d9,k aq A])))) (u A))))))))))))) fun i o=>v i (.gd ((i.af 1).ae.length=(i.af 1).ae.length) o)) fun i o=>.ite (i.af 0).bool (.aT (.nX aX 270) (u i)) o) fun i=>[(0,cO ao [.ax (i.af 2).ax])]) [pO 0,iO 61,.func (.func ep) [pO 0] []]) fun i o=>.bx i (D.r (o.af 1).ae).ae) fun i=>iU (i.af 1).int):=oH _ 0x2222222221221221221111111111111
def Ct:cK:={bK:=some 1,bJ:=[(cx,fP),(aB,cH),(ep,tM)],bB:=[⟨cL,0,16412,[2,21,22,8],[(8,aJ)]⟩]}
def qc (s:List UInt8)(n0:Int)(s1:List UInt8)(c2:Nat)(n3:Int)(l4:List D):av:=hdL cL 303 [(2,.func (.func ep) [pO 0] []),(8,vO 1 c2),(21,iO n0),(22,iO n3)] [cO ao [.ax s1],rO aJ l4]
theorem Mn:lh cL [aQ] Ct (B8 s) (bd s) 1 iw Q
 (.au aB [pO 0] [(0,cO ao [.ax s])] 1 fun A=>(fun (u:RT)=>.ite (A.af 0).bool u (.ite ((A.af 1).int>(wp .i64 (Int.tdiv ((A.af 2).ax.length:Int) 61))) (.au cx [] [] 0 fun I=>u) (.bz (qc s (A.af 1).int (A.af 2).ax 0 0 [])))) (.aT (.nX aX 270) [(0,cO ao [.ax (A.af 2).ax])])):=oH _ 0x232111
theorem Gg:lk cL [aQ] Ct (.bK 1 (iw (B8 s) (bd s)) Q) (qc s n0 s1 c2 n3 l4)
 ((fun (u:aE)=>.ite (n3<n0) (.au ep [pO 0] [(0,u)] 1 fun A=>.ite (A.af 0).bool (.aT (.nX aX 270) [(0,cO ao [.ax (A.af 2).ax])]) (.gd ((c2=l4.length)&&(bh 256 (c2+1))) (.bz (qc s n0 (A.af 2).ax (c2+1) (wp .i64 (n3+1)) (l4++[dE pg aJ (A.af 1)]))))) (.aT (vO 1 c2) [(0,u),(1,rO aJ l4)])) (cO ao [.ax s1])):=oE _ 0x21232111
def zX:cK:={bK:=some 1,bJ:=[(cx,fP),(aB,cH),(dh,eg)],bB:=[⟨gl,0,16412,[2,21,22,8],[(8,aq)]⟩]}
def nN (s:List UInt8)(n0:Int)(s1:List UInt8)(c2:Nat)(n3:Int)(l4:List D):av:=hdL gl 303 [(2,.func (.func dh) [pO 0] []),(8,vO 1 c2),(21,iO n0),(22,iO n3)] [cO ao [.ax s1],rO aq l4]
theorem I6:lh gl [fY] zX (zK s) (bd s) 1 nv Q
 (.au aB [pO 0] [(0,cO ao [.ax s])] 1 fun A=>(fun (u:RT)=>.ite (A.af 0).bool u (.ite ((A.af 1).int>(wp .i64 (Int.tdiv ((A.af 2).ax.length:Int) 4))) (.au cx [] [] 0 fun I=>u) (.bz (nN s (A.af 1).int (A.af 2).ax 0 0 [])))) (.aT (.nX aX 270) [(0,cO ao [.ax (A.af 2).ax])])):=oH _ 0x232111
theorem D3:lk gl [fY] zX (.bK 1 (nv (zK s) (bd s)) Q) (nN s n0 s1 c2 n3 l4)
 ((fun (u:aE)=>.ite (n3<n0) (.au dh [pO 0] [(0,u)] 1 fun A=>.ite (A.af 0).bool (.aT (.nX aX 270) [(0,cO ao [.ax (A.af 2).ax])]) (.gd ((c2=l4.length)&&(bh 16 (c2+1))) (.bz (nN s n0 (A.af 2).ax (c2+1) (wp .i64 (n3+1)) (l4++[D.s (A.af 1).ax]))))) (.aT (vO 1 c2) [(0,u),(1,rO aq l4)])) (cO ao [.ax s1])):=oE _ 0x21232111
end
section
variable {s s1:List UInt8} {Q:D->Prop} {n0 n3:Int} {c2:Nat} {l4:List D}
def O6:cK:={bK:=some 1,bJ:=[(dh,eg),(df,nV)]}
theorem Qf:lh gQ [dG] O6 (cG s) (bd s) 1 zO Q
 ((fun (u:D->List (Nat×aE))=>(fun (v:D->RT->RT)=>.au dh [pO 0] [(0,cO ao [.ax s])] 1 fun I=>v I (.au df [pO 0] (u I) 1 fun A=>v A (.aT (.agg ([.ax (I.af 1).ax]++(aH pg ak (A.af 1)))) (u A)))) fun i o=>.ite (i.af 0).bool (.aT (.nX aX 270) (u i)) o) fun i=>[(0,cO ao [.ax (i.af 2).ax])]):=oH _ 0x22111
def Cr:cK:={bK:=some 1,bJ:=[(cx,fP),(aB,cH),(gQ,zO)],bB:=[⟨fl,0,16412,[2,21,22,8],[(8,dG)]⟩]}
def qa (s:List UInt8)(n0:Int)(s1:List UInt8)(c2:Nat)(n3:Int)(l4:List D):av:=hdL fl 303 [(2,.func (.func gQ) [pO 0] []),(8,vO 1 c2),(21,iO n0),(22,iO n3)] [cO ao [.ax s1],rO dG l4]
theorem Ml:lh fl [fw] Cr (B6 s) (bd s) 1 mQ Q
 (.au aB [pO 0] [(0,cO ao [.ax s])] 1 fun A=>(fun (u:RT)=>.ite (A.af 0).bool u (.ite ((A.af 1).int>(wp .i64 (Int.tdiv ((A.af 2).ax.length:Int) 5))) (.au cx [] [] 0 fun I=>u) (.bz (qa s (A.af 1).int (A.af 2).ax 0 0 [])))) (.aT (.nX aX 270) [(0,cO ao [.ax (A.af 2).ax])])):=oH _ 0x232111
theorem Ge:lk fl [fw] Cr (.bK 1 (mQ (B6 s) (bd s)) Q) (qa s n0 s1 c2 n3 l4)
 ((fun (u:aE)=>.ite (n3<n0) (.au gQ [pO 0] [(0,u)] 1 fun A=>.ite (A.af 0).bool (.aT (.nX aX 270) [(0,cO ao [.ax (A.af 2).ax])]) (.gd ((c2=l4.length)&&(bh 80 (c2+1))) (.bz (qa s n0 (A.af 2).ax (c2+1) (wp .i64 (n3+1)) (l4++[dE pg dG (A.af 1)]))))) (.aT (vO 1 c2) [(0,u),(1,rO dG l4)])) (cO ao [.ax s1])):=oE _ 0x21232111
def AS:cK:={bK:=some 1,bJ:=[(cx,fP),(aB,cH),(df,nV)],bB:=[⟨fL,0,16412,[2,21,22,8],[(8,ak)]⟩]}
def oY (s:List UInt8)(n0:Int)(s1:List UInt8)(c2:Nat)(n3:Int)(l4:List D):av:=hdL fL 303 [(2,.func (.func df) [pO 0] []),(8,vO 1 c2),(21,iO n0),(22,iO n3)] [cO ao [.ax s1],rO ak l4]
theorem Kx:lh fL [dn] AS (AE s) (bd s) 1 pb Q
 (.au aB [pO 0] [(0,cO ao [.ax s])] 1 fun A=>(fun (u:RT)=>.ite (A.af 0).bool u (.ite ((A.af 1).int>(wp .i64 (Int.tdiv ((A.af 2).ax.length:Int) 1))) (.au cx [] [] 0 fun I=>u) (.bz (oY s (A.af 1).int (A.af 2).ax 0 0 [])))) (.aT (.nX aX 270) [(0,cO ao [.ax (A.af 2).ax])])):=oH _ 0x232111
theorem EU:lk fL [dn] AS (.bK 1 (pb (AE s) (bd s)) Q) (oY s n0 s1 c2 n3 l4)
 ((fun (u:aE)=>.ite (n3<n0) (.au df [pO 0] [(0,u)] 1 fun A=>.ite (A.af 0).bool (.aT (.nX aX 270) [(0,cO ao [.ax (A.af 2).ax])]) (.gd ((c2=l4.length)&&(bh 64 (c2+1))) (.bz (oY s n0 (A.af 2).ax (c2+1) (wp .i64 (n3+1)) (l4++[dE pg ak (A.af 1)]))))) (.aT (vO 1 c2) [(0,u),(1,rO ak l4)])) (cO ao [.ax s1])):=oE _ 0x21232111
def Ei:cK:={bK:=some 1,bJ:=[(cx,fP),(aB,cH)],bB:=[⟨hT,0,16412,[2,21,22,8],[(8,ah)]⟩]}
def ri (s:List UInt8)(n0:Int)(s1:List UInt8)(c2:Nat)(n3:Int)(l4:List D):av:=hdL hT 303 [(2,.func (.func aB) [pO 0] []),(8,vO 1 c2),(21,iO n0),(22,iO n3)] [cO ao [.ax s1],rO ah l4]
theorem N3:lh hT [jW] Ei (Ed s) (bd s) 1 sb Q
 (.au aB [pO 0] [(0,cO ao [.ax s])] 1 fun A=>(fun (u:RT)=>.ite (A.af 0).bool u (.ite ((A.af 1).int>(wp .i64 (Int.tdiv ((A.af 2).ax.length:Int) 4))) (.au cx [] [] 0 fun I=>u) (.bz (ri s (A.af 1).int (A.af 2).ax 0 0 [])))) (.aT (.nX aX 270) [(0,cO ao [.ax (A.af 2).ax])])):=oH _ 0x232111
theorem Hd:lk hT [jW] Ei (.bK 1 (sb (Ed s) (bd s)) Q) (ri s n0 s1 c2 n3 l4)
 ((fun (u:aE)=>.ite (n3<n0) (.au aB [pO 0] [(0,u)] 1 fun A=>.ite (A.af 0).bool (.aT (.nX aX 270) [(0,cO ao [.ax (A.af 2).ax])]) (.gd ((c2=l4.length)&&(bh 8 (c2+1))) (.bz (ri s n0 (A.af 2).ax (c2+1) (wp .i64 (n3+1)) (l4++[D.z (A.af 1).int]))))) (.aT (vO 1 c2) [(0,u),(1,rO ah l4)])) (cO ao [.ax s1])):=oE _ 0x21232111
def Eh:cK:={bK:=some 1,bJ:=[(cx,fP),(aB,cH)],bB:=[⟨jo,0,16412,[2,21,22,8],[(8,bW)]⟩]}
def rh (s:List UInt8)(n0:Int)(s1:List UInt8)(c2:Nat)(n3:Int)(l4:List D):av:=hdL jo 303 [(2,.func (.func wJ) [pO 0] []),(8,vO 1 c2),(21,iO n0),(22,iO n3)] [cO ao [.ax s1],rO bW l4]
theorem N2:lh jo [dH] Eh (Ec s) (bd s) 1 sa Q
 (.au aB [pO 0] [(0,cO ao [.ax s])] 1 fun A=>(fun (u:RT)=>.ite (A.af 0).bool u (.ite ((A.af 1).int>(wp .i64 (Int.tdiv ((A.af 2).ax.length:Int) 4))) (.au cx [] [] 0 fun I=>u) (.bz (rh s (A.af 1).int (A.af 2).ax 0 0 [])))) (.aT (.nX aX 270) [(0,cO ao [.ax (A.af 2).ax])])):=oH _ 0x232111
theorem Hc:lk jo [dH] Eh (.bK 1 (sa (Ec s) (bd s)) Q) (rh s n0 s1 c2 n3 l4)
 ((fun (u:aE)=>.ite (n3<n0) (.au aB [pO 0] [(0,u)] 1 fun A=>.ite (A.af 0).bool (.aT (.nX aX 270) [(0,cO ao [.ax (A.af 2).ax])]) (.gd ((c2=l4.length)&&(bh 8 (c2+1))) (.bz (rh s n0 (A.af 2).ax (c2+1) (wp .i64 (n3+1)) (l4++[D.z (A.af 1).int]))))) (.aT (vO 1 c2) [(0,u),(1,rO bW l4)])) (cO ao [.ax s1])):=oE _ 0x21232111
end
section
variable {s s1:List UInt8} {Q:D->Prop} {n0 n3:Int} {c2:Nat} {l4:List D}
def NO:cK:={bK:=some 1,bJ:=[(aB,cH),(iE,qt),(hT,sb),(gW,o0)],Ot:=[(aM,0,kG),(aM,1,jW),(aM,2,zl),(aM,4,jW)]}
theorem N0:lh kT [aM] NO (cG s) (bd s) 1 r8 Q
 ((fun (j:Nat->D->BV)=>(fun (z:List BV)=>(fun (v:D->List (Nat×aE))=>(fun (k:D->RT->RT)=>(fun (u:D->RT->RT)=>.au iE [pO 0,iO 4,.func (.func uf) [pO 0] []] [(0,cO ao [.ax s])] 1 fun A=>u A (.au hT z (v A) 1 fun U=>u U (.au aB [pO 0] (v U) 1 fun I=>k I (.au hT z (v I) 1 fun J=>u J (.au gW [pO 0,iO 5,.func (.func hJ) [pO 0] []] (v J) 1 fun O=>u O (.aT (.agg [j cq A,j ah U,j bF O,iO (I.af 1).int,j ah J]) (v O))))))) fun i o=>k i (.gd ((i.af 1).ae.length=(i.af 1).ae.length) o)) fun i o=>.ite (i.af 0).bool (.aT (.nX aX 270) (v i)) o) fun i=>[(0,cO ao [.ax (i.af 2).ax])]) [pO 0,iO 4,.func (.func aB) [pO 0] []]) fun i o=>.bx i (D.r (o.af 1).ae).ae):=oH _ 0x2212212221221111111
def JG:cK:={bK:=some 1,bJ:=[(aB,cH),(jo,sa),(cL,iw),(fl,mQ)],Ot:=[(aV,1,aQ),(aV,2,fw),(aV,3,dH)]}
theorem Ko:lh fI [aV] JG (cG s) (bd s) 1 tN Q
 ((fun (j:Nat->D->BV)=>(fun (u:D->List (Nat×aE))=>(fun (z:D->RT->RT)=>(fun (v:D->RT->RT)=>.au aB [pO 0] [(0,cO ao [.ax s])] 1 fun A=>z A (.au cL [pO 0,iO 61,.func (.func ep) [pO 0] []] (u A) 1 fun O=>v O (.au fl [pO 0,iO 5,.func (.func gQ) [pO 0] []] (u O) 1 fun I=>v I (.au jo [pO 0,iO 4,.func (.func wJ) [pO 0] []] (u I) 1 fun J=>v J (.aT (.agg [iO (A.af 1).int,j aJ O,j dG I,j bW J]) (u J)))))) fun i o=>z i (.gd ((i.af 1).ae.length=(i.af 1).ae.length) o)) fun i o=>.ite (i.af 0).bool (.aT (.nX aX 270) (u i)) o) fun i=>[(0,cO ao [.ax (i.af 2).ax])]) fun i o=>.bx i (D.r (o.af 1).ae).ae):=oH _ 0x222122122111111
def AR:cK:={bK:=some 1,bJ:=[(cx,fP),(aB,cH),(hJ,xY)],bB:=[⟨gW,0,16412,[2,21,22,8],[(8,bF)]⟩]}
def oX (s:List UInt8)(n0:Int)(s1:List UInt8)(c2:Nat)(n3:Int)(l4:List D):av:=hdL gW 303 [(2,.func (.func hJ) [pO 0] []),(8,vO 1 c2),(21,iO n0),(22,iO n3)] [cO ao [.ax s1],rO bF l4]
theorem Kw:lh gW [zl] AR (AD s) (bd s) 1 o0 Q
 (.au aB [pO 0] [(0,cO ao [.ax s])] 1 fun A=>(fun (u:RT)=>.ite (A.af 0).bool u (.ite ((A.af 1).int>(wp .i64 (Int.tdiv ((A.af 2).ax.length:Int) 5))) (.au cx [] [] 0 fun I=>u) (.bz (oX s (A.af 1).int (A.af 2).ax 0 0 [])))) (.aT (.nX aX 270) [(0,cO ao [.ax (A.af 2).ax])])):=oH _ 0x232111
theorem ET:lk gW [zl] AR (.bK 1 (o0 (AD s) (bd s)) Q) (oX s n0 s1 c2 n3 l4)
 ((fun (u:aE)=>.ite (n3<n0) (.au hJ [pO 0] [(0,u)] 1 fun A=>.ite (A.af 0).bool (.aT (.nX aX 270) [(0,cO ao [.ax (A.af 2).ax])]) (.gd ((c2=l4.length)&&(bh 200 (c2+1))) (.bz (oX s n0 (A.af 2).ax (c2+1) (wp .i64 (n3+1)) (l4++[dE pg bF (A.af 1)]))))) (.aT (vO 1 c2) [(0,u),(1,rO bF l4)])) (cO ao [.ax s1])):=oE _ 0x21232111
def yj:cK:={bK:=some 1,bJ:=[(cx,fP),(aB,cH),(fI,tN)],bB:=[⟨fC,0,16412,[2,21,22,8],[(8,aV)]⟩]}
def mY (s:List UInt8)(n0:Int)(s1:List UInt8)(c2:Nat)(n3:Int)(l4:List D):av:=hdL fC 303 [(2,.func (.func fI) [pO 0] []),(8,vO 1 c2),(21,iO n0),(22,iO n3)] [cO ao [.ax s1],rO aV l4]
theorem Ha:lh fC [br] yj (ye s) (bd s) 1 mE Q
 (.au aB [pO 0] [(0,cO ao [.ax s])] 1 fun A=>(fun (u:RT)=>.ite (A.af 0).bool u (.ite ((A.af 1).int>(wp .i64 (Int.tdiv ((A.af 2).ax.length:Int) 16))) (.au cx [] [] 0 fun I=>u) (.bz (mY s (A.af 1).int (A.af 2).ax 0 0 [])))) (.aT (.nX aX 270) [(0,cO ao [.ax (A.af 2).ax])])):=oH _ 0x232111
theorem C5:lk fC [br] yj (.bK 1 (mE (ye s) (bd s)) Q) (mY s n0 s1 c2 n3 l4)
 ((fun (u:aE)=>.ite (n3<n0) (.au fI [pO 0] [(0,u)] 1 fun A=>.ite (A.af 0).bool (.aT (.nX aX 270) [(0,cO ao [.ax (A.af 2).ax])]) (.gd ((c2=l4.length)&&(bh 80 (c2+1))) (.bz (mY s n0 (A.af 2).ax (c2+1) (wp .i64 (n3+1)) (l4++[dE pg aV (A.af 1)]))))) (.aT (vO 1 c2) [(0,u),(1,rO aV l4)])) (cO ao [.ax s1])):=oE _ 0x21232111
end
section
variable {s:List UInt8} {Q:D->Prop}
def NM:cK:={bK:=some 1,bJ:=[(cx,fP),(aB,cH),(cv,fR),(dJ,pE),(df,nV),(cL,iw),(fl,mQ),(fL,pb)],Ot:=[(bF,6,dn),(bF,8,dn),(bF,15,aQ),(bF,16,fw)]}
theorem NY:lh hJ [bF] NM (cG s) (bd s) 1 xY Q
 ((fun (jg:D->Bool)=>(fun (jm:Int->BV)=>(fun (zh:Nat->D->BV)=>(fun (zg:aE->RT)=>(fun (zm:List BV)=>(fun (zx:D->RT->Bool->RT->RT)=>(fun (vm:D->BV)=>(fun (J:D->BV)=>(fun (A:D->aE)=>(fun (I:D->aE->RT->RT)=>(fun (uu:BV)=>(fun (t:BV)=>(fun (q:BV)=>(fun (p:BV)=>(fun (z:BV)=>(fun (u:BV)=>.au aB [pO 0] [(0,cO ao [.ax s])] 1 fun d0=>(fun (pj:aE)=>(fun (j:BV)=>I d0 pj (.au dJ [pO 0] [(0,pj)] 1 fun d1=>(fun (jx:Int->Bool)=>(fun (ug:Int->RT->Int->RT->Int->RT->RT->RT)=>(fun (k:BV)=>(fun (vh:D->aE->D->BV->BV->BV->RT)=>(fun (vg:D->aE->D->BV->BV->RT)=>(fun (Y:D->aE->D->BV->BV->BV->BV->RT)=>(fun (v:aE)=>(fun (uj:RT)=>zx d1 uj ((wp .i64 (d1.af 1).int)≥17) (ug 0 (.au cx [] [] 0 fun d3=>uj) 1 (.au aB [pO 0] [(0,v)] 1 fun d4=>(fun (pz:aE)=>I d4 pz (.au df [pO 0] [(0,pz)] 1 fun d5=>(fun (pv:aE)=>vg d5 pv d4 u uu) (A d5))) (A d4)) 2 (.au aB [pO 0] [(0,v)] 1 fun d6=>(fun (pu:aE)=>I d6 pu (.au fL zm [(0,pu)] 1 fun d7=>(fun (kt:aE)=>vh d7 kt d6 (zh ak d7) p q) (A d7))) (A d6)) (ug 3 (.au aB [pO 0] [(0,v)] 1 fun d8=>(fun (kq:aE)=>I d8 kq (.au cv [pO 0] [(0,kq)] 1 fun d9=>(fun (kp:aE)=>Y d9 kp d8 (vm d9) u u u) (A d9))) (A d8)) 4 (.au aB [pO 0] [(0,v)] 1 fun g6=>(fun (kk:aE)=>I g6 kk (.au fL zm [(0,kk)] 1 fun e1=>(fun (kj:aE)=>vh e1 kj g6 (zh ak e1) p q) (A e1))) (A g6)) 5 (.au aB [pO 0] [(0,v)] 1 fun g0=>(fun (kz:aE)=>Y g0 kz g0 u u u u) (A g0)) (ug 6 (.au aB [pO 0] [(0,v)] 1 fun a8=>(fun (kv:aE)=>I a8 kv (.au aB [pO 0] [(0,kv)] 1 fun Z=>(fun (ku:aE)=>Y Z ku a8 u u (J Z) u) (A Z))) (A a8)) 7 (.au aB [pO 0] [(0,v)] 1 fun g8=>(fun (jt:aE)=>I g8 jt (.au aB [pO 0] [(0,jt)] 1 fun e2=>(fun (jq:aE)=>I e2 jq (.au df [pO 0] [(0,jq)] 1 fun h3=>(fun (jp:aE)=>vg h3 jp g8 (J e2) uu) (A h3))) (A e2))) (A g8)) 8 (.au aB [pO 0] [(0,v)] 1 fun b1=>(fun (jk:aE)=>I b1 jk (.au cv [pO 0] [(0,jk)] 1 fun b6=>(fun (jj:aE)=>I b6 jj (.au cv [pO 0] [(0,jj)] 1 fun e7=>(fun (jz:aE)=>Y e7 jz b1 (vm b6) (vm e7) u u) (A e7))) (A b6))) (A b1)) (ug 9 (.au aB [pO 0] [(0,v)] 1 fun e8=>(fun (jv:aE)=>I e8 jv (.au aB [pO 0] [(0,jv)] 1 fun a6=>(fun (ju:aE)=>I a6 ju (.au cv [pO 0] [(0,ju)] 1 fun g4=>(fun (zt:aE)=>Y g4 zt e8 (vm g4) u (J a6) u) (A g4))) (A a6))) (A e8)) 10 (.au aB [pO 0] [(0,v)] 1 fun e3=>(fun (zq:aE)=>I e3 zq (.au dJ [pO 0] [(0,zq)] 1 fun V=>(fun (zp:aE)=>(fun (uz:RT)=>zx V uz ((V.af 1).int>1) (.au df [pO 0] [(0,zp)] 1 fun g9=>(fun (zk:aE)=>vg g9 zk e3 u (.bool ((V.af 1).int==1))) (A g9))) (zg zp)) (A V))) (A e3)) 11 (.au aB [pO 0] [(0,v)] 1 fun g2=>(fun (zj:aE)=>I g2 zj (.au aB [pO 0] [(0,zj)] 1 fun g5=>(fun (zz:aE)=>Y g5 zz g2 u u (J g5) u) (A g5))) (A g2)) (ug 12 (.au aB [pO 0] [(0,v)] 1 fun f9=>(fun (zv:aE)=>I f9 zv (.au cL [pO 0,jm 61,.func (.func ep) [pO 0] []] [(0,zv)] 1 fun O=>(fun (zu:aE)=>I O zu (.gd (jg O) (.au fl [pO 0,jm 5,.func (.func gQ) [pO 0] []] [(0,zu)] 1 fun e6=>(fun (vt:aE)=>vh e6 vt f9 z (zh aJ O) (zh dG e6)) (A e6)))) (A O))) (A f9)) 13 (.au aB [pO 0] [(0,v)] 1 fun e4=>(fun (vq:aE)=>I e4 vq (.au dJ [pO 0] [(0,vq)] 1 fun U=>(fun (vp:aE)=>(fun (uv:RT)=>zx U uv ((U.af 1).int>1) (.au aB [pO 0] [(0,vp)] 1 fun d2=>(fun (vk:aE)=>I d2 vk (.aT (.agg [j,k,J e4,t,u,.ax [],z,u,z,u,u,J d2,u,t,.bool ((U.af 1).int==1),p,q]) [(0,vk)])) (A d2))) (zg vp)) (A U))) (A e4)) 14 (.au aB [pO 0] [(0,v)] 1 fun g7=>(fun (vj:aE)=>I g7 vj (.au dJ [pO 0] [(0,vj)] 1 fun b4=>(fun (vz:aE)=>I b4 vz (.aT (.agg [j,k,u,t,u,.ax [],z,u,z,u,u,J g7,u,iU (b4.af 1).int,uu,p,q]) [(0,vz)])) (A b4))) (A g7)) (.ite (jx 15) (.au aB [pO 0] [(0,v)] 1 fun e0=>(fun (vv:aE)=>I e0 vv (.au aB [pO 0] [(0,vv)] 1 fun g3=>(fun (vu:aE)=>I g3 vu (.au aB [pO 0] [(0,vu)] 1 fun a7=>(fun (ut:aE)=>Y a7 ut e0 u u (J g3) (J a7)) (A a7))) (A g3))) (A e0)) (.gd (jx 16) (.au aB [pO 0] [(0,v)] 1 fun e5=>(fun (uq:aE)=>I e5 uq (.au aB [pO 0] [(0,uq)] 1 fun g1=>(fun (up:aE)=>I g1 up (.au aB [pO 0] [(0,up)] 1 fun e9=>(fun (uk:aE)=>Y e9 uk e5 u u (J g1) (J e9)) (A e9))) (A g1))) (A e5)))))))))) (zg v)) (A d1)) fun i o m x g h e=>I i o (.aT (.agg [j,k,J m,t,u,.ax [],z,u,z,x,g,h,e,t,uu,p,q]) [(0,o)])) fun i o m x g=>I i o (.aT (.agg [j,k,J m,iU ((i.af 1).af 0).int,J (i.af 1),.ax ((i.af 1).af 2).ax,.bx ak ((i.af 1).af 3).ae,jm ((i.af 1).af 4).int,z,u,u,x,u,t,g,p,q]) [(0,o)])) fun i o m x g h=>I i o (.gd (jg i) (.aT (.agg [j,k,J m,t,u,.ax [],z,u,x,u,u,u,u,t,uu,g,h]) [(0,o)]))) (iU (d1.af 1).int)) fun i o m x g h e=>.ite (jx i) o (.ite (jx m) x (.ite (jx g) h e))) fun i=>(d1.af 1).int==i)) (J d0)) (A d0)) (jm 0)) (.bx ak (D.r []).ae)) (.bx aJ (D.r []).ae)) (.bx dG (D.r []).ae)) (iU 0)) (.bool false)) fun i o m=>.ite (i.af 0).bool (zg o) m) fun i=>cO ao [.ax (i.af 2).ax]) fun i=>jm (i.af 1).int) fun i=>jm (wp .i64 (wp .u64 ((BitVec.toNat ((BitVec.ofInt 64 (i.af 1).int) ^^^ (BitVec.ofInt 64 9223372036854775808))):Int)))) fun i o m x=>.ite (i.af 0).bool o (.ite m (.au cx [] [] 0 fun h4=>o) x)) [pO 0,jm 1,.func (.func df) [pO 0] []]) fun i=>.aT (.nX aX 270) [(0,i)]) fun i o=>.bx i (D.r (o.af 1).ae).ae) fun i=>iO i) fun i=>(i.af 1).ae.length=(i.af 1).ae.length):=oH _ 0x22425d2006222222222222222212e243e244e24311112e243e244e24311112e243e2431112e243e2244e243111112e243e24214e2421311112e243e2431112e243e2244e243111112e243e244e24311112e243e244e24311112e243e244e24311112e243e2431112e243112e243e242131112e243e2431112e243e242131112e243e24311115c3111
end
section
variable {s:List UInt8} {Q:D->Prop}
def NN:cK:={bK:=some 1,cj:=[(GJ,[aq],[ak,aq,bn])],bJ:=[(cx,fP)]}
theorem NZ:lh df [ak] NN (cG s) (bd s) 1 nV Q
 (.call GJ [D.s s] fun A=>(fun (u:Nat->D)=>.ite ((A.af 2).int !=0) (.au cx [] [] 0 fun I=>.aT (.nX aX 270) [(0,cO ao [.ax s])]) (.aT (.agg [iU (u 0).int,iO (u 1).int,.ax (u 2).ax,.bx ak (u 3).ae,iO (u 4).int]) [(0,cO ao [.ax (A.af 1).ax])])) fun i=>(A.af 0).af i):=oH _ 0x211
end
section
variable {s s1:List UInt8} {z b2:Bool} {Q:D->Prop} {n0 n4:Int} {c3:Nat} {l5:List D}
def JM:cK:={bK:=some 1,cj:=[(DC,[aq],[ak,aq,ah])],fzr:=[some ak]}
theorem Ks:lh dO [ak] JM (ba s z) (bc s z) 1 ld Q
 ((fun (u:D->List UInt8->Bool->RT)=>.ite z (u (D.r [D.z 0,D.z 0,D.s [],D.r [],D.z 0]) s z) (.call DC [D.s s] fun A=>u (dE pg ak (A.af 0)) (A.af 1).ax ((A.af 2).int !=0))) fun i o m=>.aT (.agg [iU (i.af 0).int,iO (i.af 1).int,.ax (i.af 2).ax,.bx ak (i.af 3).ae,iO (i.af 4).int]) [(0,cO an [.ax o,.bool m])]):=oH _ 0x211
def zV:cK:={bK:=some 1,bJ:=[(cp,bR),(dO,ld)],bB:=[⟨gj,0,16422,[0,4,5,3],[(3,ak)]⟩]}
def nL (s:List UInt8)(z:Bool)(n0:Int)(s1:List UInt8)(b2:Bool)(c3:Nat)(n4:Int)(l5:List D):av:=hdL gj 151 [(0,pO 0),(3,vO 1 c3),(4,iO n0),(5,iO n4)] [cO an [.ax s1,.bool b2],rO ak l5]
theorem I4:lh gj [dn] zV (ba s z) (bc s z) 1 nu Q
 (.au cp [pO 0] [(0,cO an [.ax s,.bool z])] 1 fun A=>.bz (nL s z (A.af 1).int (A.af 2).ax (A.af 0).bool 0 0 [])):=oH _ 0x1
theorem D1:lk gj [dn] zV (.bK 1 (nu (ba s z) (bc s z)) Q) (nL s z n0 s1 b2 c3 n4 l5)
 ((fun (v:aE)=>(fun (u:RT)=>.ite (n4<n0) (.ite (!b2) (.au dO [pO 0] [(0,v)] 1 fun A=>.gd ((c3=l5.length)&&(bh 64 (c3+1))) (.bz (nL s z n0 (A.af 2).ax (A.af 0).bool (c3+1) (wp .i64 (n4+1)) (l5++[dE pg ak (A.af 1)])))) u) u) (.aT (vO 1 c3) [(0,v),(1,rO ak l5)])) (cO an [.ax s1,.bool b2])):=oE _ 0x25d315c213211
def AO:cK:={bK:=some 1,bJ:=[(cp,bR),(eI,fi),(dO,ld)],bB:=[⟨eQ,0,16429,[0,4,5,3],[(3,dG)]⟩]}
def oV (s:List UInt8)(z:Bool)(n0:Int)(s1:List UInt8)(b2:Bool)(c3:Nat)(n4:Int)(l5:List D):av:=hdL eQ 151 [(0,pO 0),(3,vO 1 c3),(4,iO n0),(5,iO n4)] [cO an [.ax s1,.bool b2],rO dG l5]
theorem Kr:lh eQ [fw] AO (ba s z) (bc s z) 1 kZ Q
 (.au cp [pO 0] [(0,cO an [.ax s,.bool z])] 1 fun A=>.bz (oV s z (A.af 1).int (A.af 2).ax (A.af 0).bool 0 0 [])):=oH _ 0x1
theorem ER:lk eQ [fw] AO (.bK 1 (kZ (ba s z) (bc s z)) Q) (oV s z n0 s1 b2 c3 n4 l5)
 ((fun (v:aE)=>(fun (u:RT)=>.ite (n4<n0) (.ite (!b2) (.au eI [pO 0] [(0,v)] 1 fun I=>.au dO [pO 0] [(0,cO an [.ax (I.af 2).ax,.bool (I.af 0).bool])] 1 fun A=>.gd ((c3=l5.length)&&(bh 80 (c3+1))) (.bz (oV s z n0 (A.af 2).ax (A.af 0).bool (c3+1) (wp .i64 (n4+1)) (l5++[D.r [D.s (I.af 1).ax,dE pg ak (A.af 1)]])))) u) u) (.aT (vO 1 c3) [(0,v),(1,rO dG l5)])) (cO an [.ax s1,.bool b2])):=oE _ 0x25d315c213211
def Cm:cK:={bK:=some 1,bJ:=[(bS,bR),(cp,bR)],bB:=[⟨dL,0,16422,[0,4,5,3],[(3,ah)]⟩]}
def p6 (s:List UInt8)(z:Bool)(n0:Int)(s1:List UInt8)(b2:Bool)(c3:Nat)(n4:Int)(l5:List D):av:=hdL dL 151 [(0,pO 0),(3,vO 1 c3),(4,iO n0),(5,iO n4)] [cO an [.ax s1,.bool b2],rO ah l5]
theorem Mc:lh dL [jW] Cm (ba s z) (bc s z) 1 mP Q
 (.au cp [pO 0] [(0,cO an [.ax s,.bool z])] 1 fun A=>.bz (p6 s z (A.af 1).int (A.af 2).ax (A.af 0).bool 0 0 [])):=oH _ 0x1
theorem F5:lk dL [jW] Cm (.bK 1 (mP (ba s z) (bc s z)) Q) (p6 s z n0 s1 b2 c3 n4 l5)
 ((fun (v:aE)=>(fun (u:RT)=>.ite (n4<n0) (.ite (!b2) (.au bS [pO 0] [(0,v)] 1 fun A=>.gd ((c3=l5.length)&&(bh 8 (c3+1))) (.bz (p6 s z n0 (A.af 2).ax (A.af 0).bool (c3+1) (wp .i64 (n4+1)) (l5++[D.z (A.af 1).int])))) u) u) (.aT (vO 1 c3) [(0,v),(1,rO ah l5)])) (cO an [.ax s1,.bool b2])):=oE _ 0x25d315c213211
end
section
variable {s s1 s5:List UInt8} {z b2:Bool} {Q:D->Prop} {n0 n3 n4 n6:Int} {c7:Nat} {l8:List D}
def Cl:cK:={bK:=some 1,bJ:=[(cp,bR),(eZ,bR),(cX,iq),(eI,fi),(dt,iu)],bB:=[⟨dt,0,16424,[3,0,2,4,5],[]⟩],yd:=[(aI,3,aI)],fzr:=[some aI]}
def lO (s:List UInt8)(z:Bool)(n0:Int)(s1:List UInt8)(b2:Bool)(n3 n4:Int)(s5:List UInt8)(n6:Int)(c7:Nat)(l8:List D):av:=hdL dt 607 [(0,pO 0),(2,pO 1),(3,pO 2),(4,iO n0),(5,iO n6)] [cO an [.ax s1,.bool b2],cO aI [iU 0,iO 0,.ax [],vO 3 0],cO aI [iU n3,iO n4,.ax s5,vO 4 c7],rO aI [],rO aI l8]
theorem Ma:lh dt [aI] Cl (ba s z) (bc s z) 1 iu Q
 ((fun (u:D->List (Nat×aE))=>.au cX [pO 0] [(0,cO an [.ax s,.bool z])] 1 fun J=>.au eZ [pO 0] (u J) 1 fun I=>.au eI [pO 0] (u I) 1 fun O=>.au cp [pO 0] (u O) 1 fun A=>.bz (lO s z (A.af 1).int (A.af 2).ax (A.af 0).bool (J.af 1).int (I.af 1).int (O.af 1).ax 0 0 [])) fun i=>[(0,cO an [.ax (i.af 2).ax,.bool (i.af 0).bool])]):=oH _ 0x1
theorem F4:lk dt [aI] Cl (.bK 1 (iu (ba s z) (bc s z)) Q) (lO s z n0 s1 b2 n3 n4 s5 n6 c7 l8)
 ((fun (k:Bool)=>(fun (j:aE)=>(fun (v:D)=>(fun (u:RT)=>.ite (n6<n0) (.ite (!b2) (.au dt [pO 0] [(0,j)] 1 fun A=>.gd (k&&(bh 56 (c7+1))) (.bz (lO s z n0 (A.af 2).ax (A.af 0).bool n3 n4 s5 (wp .i64 (n6+1)) (c7+1) (l8++[dE pg aI (A.af 1)])))) u) u) (.gd k (.aT (.agg [iU (v.af 0).int,iO (v.af 1).int,.ax (v.af 2).ax,.bx aI (v.af 3).ae]) [(0,j)]))) (D.r [D.z n3,D.z n4,D.s s5,D.r l8])) (cO an [.ax s1,.bool b2])) (c7=l8.length)):=oE _ 0x25d32115c221143211
end
section
variable {s s1 s2 s5 s6 s11 s15:List UInt8} {z b2 b3:Bool} {Q:D->Prop} {n0 n4 n1 n7 n8 n9 n10 n13 n14 n20 n24:Int} {c3 c21 c23:Nat} {l5 l12 l16 l17 l18 l19 l22 l25:List D}
def wj:cK:={bK:=some 1,bJ:=[(cp,bR),(cX,iq),(eI,fi),(dt,iu),(b7,eD)],bB:=[⟨b7,0,16526,[0,4,5,3],[(3,aJ)]⟩,⟨b7,0,36919,[6,0,4,5,3,7,8],[]⟩],yd:=[(aJ,16,aq)],fzq:=[(24597,aJ,16,fY)],Ot:=[(aJ,13,aQ),(aJ,14,aQ),(aJ,15,aQ)]}
def lM (s:List UInt8)(z:Bool)(n0:Int)(s1:List UInt8)(b2:Bool)(c3:Nat)(n4:Int)(l5:List D):av:=hdL b7 151 [(0,pO 0),(3,vO 1 c3),(4,iO n0),(5,iO n4)] [cO an [.ax s1,.bool b2],rO aJ l5]
def ic (s:List UInt8)(z:Bool)(n0 n1:Int)(s2:List UInt8)(b3:Bool)(n4:Int)(s5 s6:List UInt8)(n7 n8:Int)(n9 n10:Int)(s11:List UInt8)(l12:List D)(n13 n14:Int)(s15:List UInt8)(l16 l17:List D)(l18 l19:List D)(n20:Int)(c21:Nat)(l22:List D)(c23:Nat)(n24:Int)(l25:List D):av:=hdL b7 79690903 [(0,pO 0),(3,vO 1 c23),(4,iO n0),(5,iO n24),(6,pO 2),(7,iO n1),(8,iO n20)] [cO an [.ax s2,.bool b3],rO aJ l25,cO aJ [iU n4,.ax s5,.ax s6,iU n7,iU n8,iU n9,iO n10,.ax s11,.bx aI l12,iU n13,iO n14,.ax s15,.bx aI l16,.bx aJ l17,.bx aJ l18,.bx aJ l19,vO 3 c21],rO aq l22]
theorem L9:lh b7 [aQ] wj (ba s z) (bc s z) 1 eD Q
 (.au cp [pO 0] [(0,cO an [.ax s,.bool z])] 1 fun A=>.bz (lM s z (A.af 1).int (A.af 2).ax (A.af 0).bool 0 0 [])):=oH _ 0x1
theorem F3:lk b7 [aQ] wj (.bK 1 (eD (ba s z) (bc s z)) Q) (lM s z n0 s1 b2 c3 n4 l5)
 ((fun (p:D->Nat->D)=>(fun (k:aE)=>(fun (j:D->RT->RT)=>(fun (v:RT)=>(fun (u:D->List (Nat×aE))=>.ite (n4<n0) (.ite (!b2) (.au cX [pO 0] [(0,k)] 1 fun Y=>.au eI [pO 0] (u Y) 1 fun d1=>.au eI [pO 0] (u d1) 1 fun Z=>.au cX [pO 0] (u Z) 1 fun d3=>.au cX [pO 0] (u d3) 1 fun d4=>.au dt [pO 0] (u d4) 1 fun I=>.au dt [pO 0] (u I) 1 fun J=>.au b7 [pO 0] (u J) 1 fun U=>j U (.au b7 [pO 0] (u U) 1 fun O=>j O (.au b7 [pO 0] (u O) 1 fun V=>j V (.au cp [pO 0] (u V) 1 fun A=>.bz (ic s z n0 (A.af 1).int (A.af 2).ax (A.af 0).bool (Y.af 1).int (d1.af 1).ax (Z.af 1).ax (d3.af 1).int (d4.af 1).int (p I 0).int (p I 1).int (p I 2).ax (p I 3).ae (p J 0).int (p J 1).int (p J 2).ax (p J 3).ae (D.r (U.af 1).ae).ae (D.r (O.af 1).ae).ae (D.r (V.af 1).ae).ae 0 0 [] c3 n4 l5))))) v) v) fun i=>[(0,cO an [.ax (i.af 2).ax,.bool (i.af 0).bool])]) (.aT (vO 1 c3) [(0,k),(1,rO aJ l5)])) fun i o=>.gd ((i.af 1).ae.length=(i.af 1).ae.length) o) (cO an [.ax s1,.bool b2])) fun i o=>(i.af 1).af o):=oE _ 0x25d315c212121211
theorem Az:lk b7 [aQ] wj (.bK 1 (eD (ba s z) (bc s z)) Q) (ic s z n0 n1 s2 b3 n4 s5 s6 n7 n8 n9 n10 s11 l12 n13 n14 s15 l16 l17 l18 l19 n20 c21 l22 c23 n24 l25)
 ((fun (v:Bool)=>(fun (u:RT)=>.ite (n20<n1) (.ite (!b3) (.au eI [pO 0] [(0,cO an [.ax s2,.bool b3])] 1 fun A=>.gd (v&&(bh 16 (c21+1))) (.bz (ic s z n0 n1 (A.af 2).ax (A.af 0).bool n4 s5 s6 n7 n8 n9 n10 s11 l12 n13 n14 s15 l16 l17 l18 l19 (wp .i64 (n20+1)) (c21+1) (l22++[D.s (A.af 1).ax]) c23 n24 l25))) u) u) (.gd v (.gd ((c23=l25.length)&&(bh 256 (c23+1))) (.bz (lM s z n0 s2 b3 (c23+1) (wp .i64 (n24+1)) (l25++[D.r [D.z n4,D.s s5,D.s s6,D.z n7,D.z n8,D.r [D.z n9,D.z n10,D.s s11,D.r l12],D.r [D.z n13,D.z n14,D.s s15,D.r l16],D.r l17,D.r l18,D.r l19,D.r (D.r l22).ae]])))))) (c21=l22.length)):=oE _ 0x25d32132115c221321143211
end
section
variable {s:List UInt8} {z:Bool} {k:Int} {Q:D->Prop}
def LJ:cK:={bK:=some 1,bJ:=[(bS,bR),(eZ,bR),(cX,iq),(mT,v7),(dO,ld),(b7,eD),(gj,nu),(eQ,kZ)],Ot:=[(aU,5,dn),(aU,7,dn),(aU,14,aQ),(aU,15,fw)]}
theorem Mh:lh qz [aU] LJ (Lq s z k) (im s z k) 1 v8 Q
 ((fun (vq:Nat->D->BV)=>(fun (vk:Int->RT->RT->RT)=>(fun (vz:List UInt8->Bool->aE)=>(fun (vu:D->RT->RT)=>(fun (A:D->BV)=>(fun (uq:Int->RT->Int->RT->Int->RT->RT->RT)=>(fun (up:D->List (Nat×aE))=>(fun (uk:aE)=>(fun (uj:BV)=>(fun (uz:BV)=>(fun (I:BV)=>(fun (q:BV)=>(fun (p:BV)=>(fun (j:BV)=>(fun (v:BV)=>(fun (vv:BV->BV->BV->BV->BV)=>(fun (uv:RT)=>vk 0 uv (.ite ((k:Int)>16) uv (vk 14 (.au bS [pO 0] [(0,uk)] 1 fun d0=>.au cX [pO 0] (up d0) 1 fun d1=>.aT (vv v j (A d0) (iU (d1.af 1).int)) (up d1)) (.au bS [pO 0] [(0,uk)] 1 fun d2=>(fun (t:BV)=>(fun (um:BV->BV->BV->BV->D->RT)=>(fun (vp:List (Nat×aE)->BV->RT)=>(fun (ut:D->BV->BV->RT)=>(fun (u:aE)=>(fun (vj:RT)=>(fun (uh:RT)=>(fun (ug:RT)=>uq 1 (.au dO [pO 0] [(0,u)] 1 fun d3=>ut d3 v uj) 2 ug 4 ug (uq 3 (vp [(0,u)] v) 6 vj 11 vj (uq 7 (.au bS [pO 0] [(0,u)] 1 fun d9=>.au dO [pO 0] (up d9) 1 fun b6=>ut b6 (A d9) uj) 8 (.au eZ [pO 0] [(0,u)] 1 fun a8=>.au eZ [pO 0] (up a8) 1 fun a6=>um (A a8) (A a6) v v a6) 9 (.au bS [pO 0] [(0,u)] 1 fun Z=>vp (up Z) (A Z)) (uq 10 (.au mT [pO 0] [(0,u)] 1 fun b1=>.au dO [pO 0] (up b1) 1 fun b4=>ut b4 v (.bool (b1.af 1).bool)) 12 (.au b7 [pO 0] [(0,u)] 1 fun O=>vu O (.au eQ [pO 0] (up O) 1 fun J=>vu J (.aT (.agg [uz,t,I,v,.ax [],j,v,j,v,v,v,v,I,uj,vq aJ O,vq dG J]) (up J)))) 13 (.au mT [pO 0] [(0,u)] 1 fun a7=>.au bS [pO 0] (up a7) 1 fun V=>.aT (.agg [uz,t,I,v,.ax [],j,v,j,v,v,A V,v,I,.bool (a7.af 1).bool,p,q]) (up V)) (vk 15 uh (vk 16 uh (.aT (vv t j v I) [(0,u)]))))))) (.au gj [pO 0] [(0,u)] 1 fun d4=>vu d4 (.aT (vv t (vq ak d4) v I) (up d4)))) (.au bS [pO 0] [(0,u)] 1 fun Y=>.au bS [pO 0] (up Y) 1 fun U=>um v v (A Y) (A U) U)) (.au bS [pO 0] [(0,u)] 1 fun d7=>um v v (A d7) v d7)) (vz (d2.af 2).ax (d2.af 0).bool)) fun i o m=>.aT (.agg [uz,t,iU ((i.af 1).af 0).int,A (i.af 1),.ax ((i.af 1).af 2).ax,.bx ak ((i.af 1).af 3).ae,iO ((i.af 1).af 4).int,j,v,v,o,v,I,m,p,q]) (up i)) fun i o=>.au eZ [pO 0] i 1 fun d6=>um (A d6) v o v d6) fun i o m x g=>.aT (.agg [uz,t,I,v,.ax [],j,v,j,i,o,m,x,I,uj,p,q]) (up g)) (A d2))))) (.aT (vv v j v I) [(0,vz s true)])) fun i o m x=>.agg [uz,i,I,v,.ax [],j,v,o,v,v,m,v,x,uj,p,q]) (iO 0)) (.bx ak (D.r []).ae)) (.bx aJ (D.r []).ae)) (.bx dG (D.r []).ae)) (iU 0)) (iU k)) (.bool false)) (vz s z)) fun i=>[(0,vz (i.af 2).ax (i.af 0).bool)]) fun i o m x g h e=>vk i o (vk m x (vk g h e))) fun i=>iO (i.af 1).int) fun i o=>.gd ((i.af 1).ae.length=(i.af 1).ae.length) o) fun i o=>cO an [.ax i,.bool o]) fun i o m=>.ite ((k:Int)==i) o m) fun i o=>.bx i (D.r (o.af 1).ae).ae):=oH _ 0x22d222222222222222211005112121111111005112110052111112c31
end
end Go.Proofs
end
