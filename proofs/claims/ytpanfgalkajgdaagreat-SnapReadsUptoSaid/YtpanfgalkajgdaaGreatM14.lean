import Derived.Test.YtpanfgalkajgdaaGreatM8
set_option linter.all false
noncomputable section
open Go.IntKind renaming wrap→wp
set_option maxHeartbeats 8000000
namespace Go.Proofs
open Go Go.PB
section
variable {a0 a1 a2:D} {Q:D->Prop} {c0:Nat} {n1 n0:Int} {l2:List D}
def Vp:cK:={bB:=[⟨rI,0,16417,[0,6,5],[(5,Lp)]⟩]}
def Bg (a0 a1:D)(c0:Nat)(n1:Int)(l2:List D):av:=hdL rI 75 [(0,.int .u64 a0.int),(5,vO 0 c0),(6,iO n1)] [rO Lp l2]
theorem afP:lp rI [QP] Vp [dA,ah] [a0,a1] Q
 (.bz (Bg a0 a1 0 (wp .i64 (a1.int-1)) [])):=oP _ 0x1
theorem Nj:lk rI [QP] Vp (.cY Q) (Bg a0 a1 c0 n1 l2)
 (.ite (n1≥0) (.gd (0<=(wp .i64 (8*n1))) (.gd ((c0=l2.length)&&(bh 1 (c0+1))) (.bz (Bg a0 a1 (c0+1) (wp .i64 (n1-1)) (l2++[D.z (wp .u8 (Int.fdiv a0.int (2^(min (wp .i64 (8*n1)).toNat 64))))]))))) (.gd (c0=l2.length) (.ret (D.r l2)))):=oE _ 0x2211213211
def qx:cK:={f:=dT,rs:=[ah],cj:=[(dT,[ak,ah,ah],[ah])],bB:=[⟨dT,0,16440,[2,1,3,8,7],[]⟩],abU:=[⟨dT,0,4216,[2,1,3],[]⟩,⟨dT,0,4188,[2,1,3],[]⟩]}
@[simp] theorem ajC:qx.f=dT/\qx.rs=[ah]:=⟨rfl,rfl⟩
def uZ (a0 a1 a2:D):av:=hdL dT 15 [(1,iO a1.int),(2,iO a2.int),(3,pO 0)] [cO ak [iU (a0.af 0).int,iO (a0.af 1).int,.ax (a0.af 2).ax,.bx ak (a0.af 3).ae,iO (a0.af 4).int]]
def DP (a0 a1 a2:D):av:=hdL dT 31 [(1,iO a1.int),(2,iO a2.int),(3,pO 0)] [cO ak [iU (a0.af 0).int,iO (a0.af 1).int,.ax (a0.af 2).ax,.bx ak (a0.af 3).ae,iO (a0.af 4).int]]
def u0 (a0 a1 a2:D)(n0 n1:Int):av:=hdL dT 2431 [(1,iO a1.int),(2,iO a2.int),(3,pO 0),(7,iO n0),(8,iO n1)] [cO ak [iU (a0.af 0).int,iO (a0.af 1).int,.ax (a0.af 2).ax,.bx ak (a0.af 3).ae,iO (a0.af 4).int]]
theorem SH:lp dT [ah] qx [ak,ah,ah] [a0,a1,a2] Q
 ((fun (p:RT)=>(fun (k:RT)=>(fun (q:Int->Bool->RT->RT)=>(fun (j:RT)=>(fun (v:RT)=>(fun (u:RT)=>.ite (a1.int<1) k (q 1 ((a0.af 1).int !=0) u)) (q 2 (! ((a0.af 2).ax==[])) v)) (q 3 (((a0.af 3).ae.length:Int)>0) j)) (q 4 ((a0.af 4).int !=0) p)) fun i o m=>.ite ((a0.af 0).int !=i) (.ite o k m) m) (.ret (D.z (-1)))) (.bz (uZ a0 a1 a2))):=oP _ 0x223d4e22d30065e23d30065e22d30062e12c300532113c3005323d22d016006016312c0160050162115c312c3005323d23d0160060164e22d30062e12c300532113c01600501623d22d016006016312c0160050162115c315c7e13c23d22d0160060164e23d30065e22d30062e12c300532113c3005323d22d016006016312c0160050162115c312c01600501623d23d0160060164e22d30062e12c300532113c01600501623d22d016006016312c0160050162115c315c7e15cde11
theorem Uv:lk dT [ah] qx (.cY Q) (uZ a0 a1 a2)
 ((fun (v:RT)=>(fun (u:RT)=>.ite ((a0.af 0).int>4) v (.ite ((a0.af 0).int==4) (.ite ((a0.af 4).int<1) v u) u)) (.ite (((a0.af 2).ax.length:Int)>256) v (.bz (DP a0 a1 a2)))) (.ret (D.z (-1)))):=oE _ 0x23d22d0160060165e2112c01600501624d2114c315c6e1
theorem Uw:lk dT [ah] qx (.cY Q) (DP a0 a1 a2)
 (.ite ((a0.af 0).int !=3) (.ret (D.z 1)) (.ite (a2.int<1) (.ret (D.z (-1))) (.ite (((a0.af 3).ae.length:Int)≥a1.int) (.ret (D.z (-1))) (.bz (u0 a0 a1 a2 1 0))))):=oE _ 0x225d2115c311
theorem F7:lk dT [ah] qx (.cY Q) (u0 a0 a1 a2 n0 n1)
 (.ite (n1<((a0.af 3).ae.length:Int)) (.gd (di n1 (a0.af 3).ae.length) (.call dT [dE pg ak (D.at (a0.af 3).ae n1.toNat),D.z (wp .i64 (a1.int-n0)),D.z (wp .i64 (a2.int-1))] fun A=>.ite (A.int<0) (.ret (D.z (-1))) (.bz (u0 a0 a1 a2 (wp .i64 (n0+A.int)) (wp .i64 (n1+1)))))) (.ret (D.z n0))):=oE _ 0x2121211
theorem Zq:lp DD [ah] {cj:=[(dT,[ak,ah,ah],[ah])]} [ak] [a0] Q
 (.call dT [dE pg ak a0,D.z 512,D.z 16] fun A=>.ite (A.int<0) (.ret (D.z 0)) (.ret (D.z A.int))):=oP _ 0x211
theorem afO:lp JY [aj] {cj:=[(DD,[ak],[ah])]} [ak] [a0] Q
 (.call DD [dE pg ak a0] fun A=>.ret (D.b (decide (A.int>0)))):=oP _ 0x1
end
section
variable {a0:D} {Q:D->Prop} {c0:Nat} {n1 n2:Int} {l2 l1 l0:List D}
def R7:cK:={cj:=[(oI,[ak],[dH])],bB:=[⟨oI,0,16420,[1,4,3],[(3,bW)]⟩]}
def wX (a0:D)(c0:Nat)(n1:Int)(l2:List D):av:=hdL oI 151 [(1,pO 0),(3,vO 1 c0),(4,iO n1)] [cO ak [iU (a0.af 0).int,iO (a0.af 1).int,.ax (a0.af 2).ax,.bx ak (a0.af 3).ae,iO (a0.af 4).int],rO bW l2]
theorem acU:lp oI [dH] R7 [ak] [a0] Q
 (.ite ((a0.af 0).int==4) (.ret (D.r [D.z (a0.af 4).int])) (.bz (wX a0 0 0 []))):=oP _ 0x2131
theorem HS:lk oI [dH] R7 (.cY Q) (wX a0 c0 n1 l2)
 ((fun (u:Bool)=>.ite (n1<((a0.af 3).ae.length:Int)) (.gd (di n1 (a0.af 3).ae.length) (.call oI [dE pg ak (D.at (a0.af 3).ae n1.toNat)] fun A=>.gd (u&&(bh 8 (c0+A.ae.length))) (.bz (wX a0 (c0+A.ae.length) (wp .i64 (n1+1)) (l2++A.ae))))) (.gd u (.ret (D.r l2)))) (c0=l2.length)):=oE _ 0x221121211
def Pk:cK:={cj:=[(rI,[dA,ah],[QP]),(my,[ak],[QP])],bB:=[⟨my,0,20517,[1,4,3],[]⟩]}
def qM (a0:D)(c0:Nat)(l1:List D)(n2:Int):av:=hdL my 39915 [(1,pO 0),(3,vO 1 c0),(4,iO n2)] [cO ak [iU (a0.af 0).int,iO (a0.af 1).int,.ax (a0.af 2).ax,.bx ak (a0.af 3).ae,iO (a0.af 4).int],rO Lp l1]
theorem Zs:lp my [QP] Pk [ak] [a0] Q
 ((fun (k:D->Nat)=>(fun (v:Bool)=>(fun (u:D)=>(fun (j:Int->Int->D->RT->RT)=>j 1 ((BitVec.toNat ((BitVec.ofInt 64 (wp .u64 (a0.af 1).int)) ^^^ (BitVec.ofInt 64 9223372036854775808))):Int) (D.z 8) (.ite ((a0.af 0).int==2) (.call rI [D.z (wp .u64 ((a0.af 2).ax.length:Int)),D.z 2] fun A=>(fun (p:Nat)=>.gd (v&&(bh 1 (k A))) (.gd (((k A)=([u]++A.ae).length)&&(bh 1 p)) (.gd (p=(([u]++A.ae)++(kf (a0.af 2).ax)).length) (.ret (D.r (([u]++A.ae)++(kf (a0.af 2).ax))))))) ((k A)+(kf (a0.af 2).ax).length)) (.ite ((a0.af 0).int==3) (.call rI [D.z (wp .u64 ((a0.af 3).ae.length:Int)),D.z 2] fun J=>.gd (v&&(bh 1 (k J))) (.bz (qM a0 (k J) ([u]++J.ae) 0))) (j 4 (a0.af 4).int (D.z 4) (.ret (D.r [u])))))) fun i o m x=>.ite ((a0.af 0).int==i) (.call rI [D.z (wp .u64 o),m] fun I=>.gd (v&&(bh 1 (k I))) (.gd ((k I)=([u]++I.ae).length) (.ret (D.r ([u]++I.ae))))) x) (D.z (a0.af 0).int)) ((1:Nat)=(1:Nat))) fun i=>1+i.ae.length):=oP _ 0x22223121211211212121121211
theorem C0:lk my [QP] Pk (.cY Q) (qM a0 c0 l1 n2)
 ((fun (u:Bool)=>.ite (n2<((a0.af 3).ae.length:Int)) (.gd (di n2 (a0.af 3).ae.length) (.call my [dE pg ak (D.at (a0.af 3).ae n2.toNat)] fun A=>.gd (u&&(bh 1 (c0+A.ae.length))) (.bz (qM a0 (c0+A.ae.length) (l1++A.ae) (wp .i64 (n2+1)))))) (.gd u (.ret (D.r l1)))) (c0=l1.length)):=oE _ 0x221121211
def Pj:cK:={cj:=[(JY,[ak],[aj]),(oI,[ak],[dH]),(my,[ak],[QP])],bB:=[⟨pX,0,16426,[4,1,5],[]⟩]}
def uY (a0:D)(l0:List D)(n1:Int):av:=hdL pX 151 [(1,pO 0),(4,.bx bW l0),(5,iO n1)] [cO ak [iU (a0.af 0).int,iO (a0.af 1).int,.ax (a0.af 2).ax,.bx ak (a0.af 3).ae,iO (a0.af 4).int]]
theorem Zr:lp pX [aq,ah] Pj [ak] [a0] Q
 (.call JY [dE pg ak a0] fun I=>.ite (! I.bool) (.ret (D.r [D.s [],D.z 2])) (.call oI [dE pg ak a0] fun A=>.bz (uY a0 A.ae 0))):=oP _ 0x211
theorem F6:lk pX [aq,ah] Pj (.cY Q) (uY a0 l0 n1)
 (.ite (n1<(l0.length:Int)) (.gd (di n1 l0.length) (.ite ((D.at l0 n1.toNat).int>4294967295) (.ret (D.r [D.s [],D.z 2])) (.bz (uY a0 l0 (wp .i64 (n1+1)))))) (.call my [dE pg ak a0] fun A=>.ret (D.r [D.s (bO A.ae),D.z 0]))):=oE _ 0x2121211
end
section
variable {a0:D} {Q:D->Prop} {s0:List UInt8} {n1:Int}
theorem WR:lp ch [aq] {cj:=[(gi,[dA,ah],[aq])]} [ah] [a0] Q
 (.call gi [D.z (wp .u64 a0.int),D.z 4] fun A=>.ret (D.s A.ax)):=oP _ 0x1
theorem Uj:lp jK [aq] {cj:=[(gi,[dA,ah],[aq])]} [QO] [a0] Q
 (.call gi [D.z (wp .u64 ((BitVec.toNat ((BitVec.ofInt 64 (wp .u64 a0.int)) ^^^ (BitVec.ofInt 64 9223372036854775808))):Int)),D.z 8] fun A=>.ret (D.s A.ax)):=oP _ 0x1
theorem Zn:lp mw [aq] {cj:=[(ch,[ah],[aq])]} [aq] [a0] Q
 (.call ch [D.z (a0.ax.length:Int)] fun A=>.gd ((A.ax.length+a0.ax.length)<(4611686018427387904:Nat)) (.ret (D.s (A.ax++a0.ax)))):=oP _ 0x211
theorem Zj:lp Ac [aq] {} [aj] [a0] Q
 (.ite a0.bool (.ret (D.s [{toBitVec:=1#8}])) (.ret (D.s [{toBitVec:=0#8}]))):=oP _ 0x211
theorem WU:lp jS [aq] {cj:=[(pX,[ak],[aq,ah])]} [ak] [a0] Q
 (.call pX [dE pg ak a0] fun A=>.ret (D.s (A.af 0).ax)):=oP _ 0x1
def MR:cK:={cj:=[(ch,[ah],[aq]),(mw,[aq],[aq]),(jS,[ak],[aq])],bB:=[⟨jR,0,16426,[0,4,3],[]⟩]}
def uX (a0:D)(s0:List UInt8)(n1:Int):av:=hdL jR 75 [(0,.bx dG a0.ae),(3,.ax s0),(4,iO n1)] []
theorem WT:lp jR [aq] MR [fw] [a0] Q
 (.call ch [D.z (a0.ae.length:Int)] fun A=>.bz (uX a0 A.ax 0)):=oP _ 0x1
theorem F2:lk jR [aq] MR (.cY Q) (uX a0 s0 n1)
 ((fun (v:D)=>(fun (u:Nat)=>.ite (n1<(a0.ae.length:Int)) (.gd (di n1 a0.ae.length) (.call mw [D.s (v.af 0).ax] fun A=>.gd ((s0.length+A.ax.length)<u) (.call jS [dE pg ak (v.af 1)] fun I=>.gd (((s0++A.ax).length+I.ax.length)<u) (.bz (uX a0 ((s0++A.ax)++I.ax) (wp .i64 (n1+1))))))) (.ret (D.s s0))) (4611686018427387904:Nat)) (D.at a0.ae n1.toNat)):=oE _ 0x21210054210054211
def JK:cK:={cj:=[(ch,[ah],[aq]),(jS,[ak],[aq])],bB:=[⟨lB,0,16418,[0,4,3],[]⟩]}
def sy (a0:D)(s0:List UInt8)(n1:Int):av:=hdL lB 75 [(0,.bx ak a0.ae),(3,.ax s0),(4,iO n1)] []
theorem Uk:lp lB [aq] JK [dn] [a0] Q
 (.call ch [D.z (a0.ae.length:Int)] fun A=>.bz (sy a0 A.ax 0)):=oP _ 0x1
theorem Ev:lk lB [aq] JK (.cY Q) (sy a0 s0 n1)
 (.ite (n1<(a0.ae.length:Int)) (.gd (di n1 a0.ae.length) (.call jS [dE pg ak (D.at a0.ae n1.toNat)] fun A=>.gd ((s0.length+A.ax.length)<(4611686018427387904:Nat)) (.bz (sy a0 (s0++A.ax) (wp .i64 (n1+1)))))) (.ret (D.s s0))):=oE _ 0x2121211
def Pg:cK:={cj:=[(ch,[ah],[aq])],bB:=[⟨nH,0,16418,[0,4,3],[]⟩]}
def wW (a0:D)(s0:List UInt8)(n1:Int):av:=hdL nH 75 [(0,.bx ah a0.ae),(3,.ax s0),(4,iO n1)] []
theorem Zl:lp nH [aq] Pg [jW] [a0] Q
 (.call ch [D.z (a0.ae.length:Int)] fun A=>.bz (wW a0 A.ax 0)):=oP _ 0x1
theorem HR:lk nH [aq] Pg (.cY Q) (wW a0 s0 n1)
 (.ite (n1<(a0.ae.length:Int)) (.gd (di n1 a0.ae.length) (.call ch [D.z (D.at a0.ae n1.toNat).int] fun A=>.gd ((s0.length+A.ax.length)<(4611686018427387904:Nat)) (.bz (wW a0 (s0++A.ax) (wp .i64 (n1+1)))))) (.ret (D.s s0))):=oE _ 0x2121211
end
section
variable {a0:D} {Q:D->Prop} {s0 s4 s5 s10 s14:List UInt8} {n1 n2 n3 n6 n7 n8 n9 n12 n13:Int} {l11 l15 l16 l17 l18 l19:List D}
def Pe:cK:={cj:=[(ch,[ah],[aq]),(jK,[QO],[aq]),(mw,[aq],[aq]),(kr,[aI],[aq])],bB:=[⟨kr,0,16420,[1,4,3],[]⟩]}
def wU (a0:D)(s0:List UInt8)(n1:Int):av:=hdL kr 75 [(1,pO 0),(3,.ax s0),(4,iO n1)] [cO aI [iU (a0.af 0).int,iO (a0.af 1).int,.ax (a0.af 2).ax,.bx aI (a0.af 3).ae]]
theorem Zi:lp kr [aq] Pe [aI] [a0] Q
 ((fun (u:Nat->D->RT->RT)=>.call jK [D.z (a0.af 1).int] fun A=>u 1 A (.call mw [D.s (a0.af 2).ax] fun I=>u ((bO [D.z (a0.af 0).int])++A.ax).length I (.call ch [D.z ((a0.af 3).ae.length:Int)] fun J=>u (((bO [D.z (a0.af 0).int])++A.ax)++I.ax).length J (.bz (wU a0 ((((bO [D.z (a0.af 0).int])++A.ax)++I.ax)++J.ax) 0))))) fun i o m=>.gd ((i+o.ax.length)<(4611686018427387904:Nat)) m):=oP _ 0x3434444214340054442143401540054211
theorem HP:lk kr [aq] Pe (.cY Q) (wU a0 s0 n1)
 (.ite (n1<((a0.af 3).ae.length:Int)) (.gd (di n1 (a0.af 3).ae.length) (.call kr [dE pg aI (D.at (a0.af 3).ae n1.toNat)] fun A=>.gd ((s0.length+A.ax.length)<(4611686018427387904:Nat)) (.bz (wU a0 (s0++A.ax) (wp .i64 (n1+1)))))) (.ret (D.s s0))):=oE _ 0x2121211
def IE:cK:={cj:=[(ch,[ah],[aq]),(mw,[aq],[aq]),(kr,[aI],[aq]),(dK,[aQ],[aq])],bB:=[⟨dK,0,16502,[0,4,3],[]⟩,⟨dK,0,32812,[5,0,4,6,3],[]⟩]}
def wT (a0:D)(s0:List UInt8)(n1:Int):av:=hdL dK 75 [(0,.bx aJ a0.ae),(3,.ax s0),(4,iO n1)] []
def qL (a0:D)(s0:List UInt8)(n1 n2 n3:Int)(s4 s5:List UInt8)(n6 n7:Int)(n8 n9:Int)(s10:List UInt8)(l11:List D)(n12 n13:Int)(s14:List UInt8)(l15 l16:List D)(l17 l18 l19:List D):av:=hdL dK 40523 [(0,.bx aJ a0.ae),(3,.ax s0),(4,iO n2),(5,pO 0),(6,iO n1)] [cO aJ [iU n3,.ax s4,.ax s5,iU n6,iU n7,iU n8,iO n9,.ax s10,.bx aI l11,iU n12,iO n13,.ax s14,.bx aI l15,.bx aJ l16,.bx aJ l17,.bx aJ l18,.bx aq l19]]
theorem Zh:lp dK [aq] IE [aQ] [a0] Q
 (.call ch [D.z (a0.ae.length:Int)] fun A=>.bz (wT a0 A.ax 0)):=oP _ 0x1
theorem HO:lk dK [aq] IE (.cY Q) (wT a0 s0 n1)
 ((fun (p:D)=>(fun (t:Nat->Nat->D)=>(fun (k:Nat)=>(fun (q:Nat->D->RT->RT)=>(fun (j:D)=>(fun (v:D)=>(fun (u:D)=>.ite (n1<(a0.ae.length:Int)) (.gd (di n1 a0.ae.length) (.gd ((s0.length+1)<k) (.call mw [D.s (p.af 1).ax] fun A=>q (s0++(bO [u])).length A (.call mw [D.s (p.af 2).ax] fun I=>q ((s0++(bO [u]))++A.ax).length I (.gd (((((s0++(bO [u]))++A.ax)++I.ax).length+2)<k) (.call kr [dE pg aI (p.af 5)] fun J=>q ((((s0++(bO [u]))++A.ax)++I.ax)++(bO [j,v])).length J (.call kr [dE pg aI (p.af 6)] fun O=>q (((((s0++(bO [u]))++A.ax)++I.ax)++(bO [j,v]))++J.ax).length O (.call dK [D.r (p.af 7).ae] fun U=>q ((((((s0++(bO [u]))++A.ax)++I.ax)++(bO [j,v]))++J.ax)++O.ax).length U (.call dK [D.r (p.af 8).ae] fun V=>q (((((((s0++(bO [u]))++A.ax)++I.ax)++(bO [j,v]))++J.ax)++O.ax)++U.ax).length V (.call dK [D.r (p.af 9).ae] fun Y=>q ((((((((s0++(bO [u]))++A.ax)++I.ax)++(bO [j,v]))++J.ax)++O.ax)++U.ax)++V.ax).length Y (.call ch [D.z ((p.af 10).ae.length:Int)] fun Z=>q (((((((((s0++(bO [u]))++A.ax)++I.ax)++(bO [j,v]))++J.ax)++O.ax)++U.ax)++V.ax)++Y.ax).length Z (.bz (qL a0 ((((((((((s0++(bO [u]))++A.ax)++I.ax)++(bO [j,v]))++J.ax)++O.ax)++U.ax)++V.ax)++Y.ax)++Z.ax) 0 n1 (p.af 0).int (p.af 1).ax (p.af 2).ax (p.af 3).int (p.af 4).int (t 5 0).int (t 5 1).int (t 5 2).ax (t 5 3).ae (t 6 0).int (t 6 1).int (t 6 2).ax (t 6 3).ae (p.af 7).ae (p.af 8).ae (p.af 9).ae (p.af 10).ae))))))))))))) (.ret (D.s s0))) (D.z (p.af 0).int)) (D.z (p.af 4).int)) (D.z (p.af 3).int)) fun i o m=>.gd ((i+o.ax.length)<k) m) (4611686018427387904:Nat)) fun i o=>(p.af i).af o) (D.at a0.ae n1.toNat)):=oE _ 0x21213213434005444434214340154005444342121444444210054444442101540054444421025401540054444210354025401540054442104540354025401540054211
theorem CZ:lk dK [aq] IE (.cY Q) (qL a0 s0 n1 n2 n3 s4 s5 n6 n7 n8 n9 s10 l11 n12 n13 s14 l15 l16 l17 l18 l19)
 (.ite (n1<(l19.length:Int)) (.gd (di n1 l19.length) (.call mw [D.s (D.at l19 n1.toNat).ax] fun A=>.gd ((s0.length+A.ax.length)<(4611686018427387904:Nat)) (.bz (qL a0 (s0++A.ax) (wp .i64 (n1+1)) n2 n3 s4 s5 n6 n7 n8 n9 s10 l11 n12 n13 s14 l15 l16 l17 l18 l19)))) (.bz (wT a0 s0 (wp .i64 (n2+1))))):=oE _ 0x2121211
end
section
variable {a0:D} {Q:D->Prop}
theorem Zo:lp DB [aq] {cj:=[(ch,[ah],[aq]),(jK,[QO],[aq]),(Ac,[aj],[aq]),(jS,[ak],[aq]),(jR,[fw],[aq]),(lB,[dn],[aq]),(dK,[aQ],[aq])]} [aU] [a0] Q
 ((fun (uz:Nat)=>(fun (Y:D)=>(fun (q:Nat->D)=>(fun (v:Int->RT->Int->RT->Int->RT->RT->RT)=>(fun (u:Nat->D->RT->RT)=>.call ch [q 1] fun I=>(fun (J:D->RT->RT)=>(fun (k:D->RT)=>(fun (V:Nat->D->RT)=>(fun (t:RT)=>(fun (j:D->D->RT)=>(fun (p:D->Nat->D->RT)=>.call ch [q 6] fun A=>.call ch [q 7] fun d2=>v 1 (V jS Y) 2 t 4 t (v 3 (V jK (q 4)) 6 (k A) 11 (k A) (v 7 (p A jS Y) 8 (.call jK [q 4] fun d8=>p d8 jK (q 5)) 9 (p A jK (q 4)) (v 10 (.call Ac [D.b (a0.af 9).bool] fun Z=>p Z jS Y) 12 (.call dK [D.r (a0.af 10).ae] fun U=>p U jR (D.r (a0.af 11).ae)) 13 (.call Ac [D.b (a0.af 9).bool] fun O=>J O (j O A)) (v 15 (J A (j A d2)) 16 (J A (j A d2)) 14 (.gd ((A.ax.length+1)<uz) (.ret (D.s (A.ax++(bO [D.z (a0.af 8).int]))))) (.ret (D.s I.ax))))))) fun i o m=>J i (.call o [m] fun d9=>j i d9)) fun i o=>u (I.ax++i.ax).length o (.ret (D.s ((I.ax++i.ax)++o.ax)))) (V lB (D.r (a0.af 3).ae))) fun i o=>.call i [o] fun d3=>k d3) fun i=>J i (.ret (D.s (I.ax++i.ax)))) fun i o=>u I.ax.length i o) fun i o m=>.gd ((i+o.ax.length)<uz) m) fun i o m x g h e=>.ite ((a0.af 0).int==i) o (.ite ((a0.af 0).int==m) x (.ite ((a0.af 0).int==g) h e))) fun i=>D.z (a0.af i).int) (dE pg ak (a0.af 2))) (4611686018427387904:Nat)):=oP _ 0x444222222222222222132112121100521211212114210054211421005421121211421005421121211211005211211211005211211
end
section
variable {a0 a1:D} {Q:D->Prop} {s0:List UInt8} {n1 n2:Int}
def ID:cK:={cj:=[(ch,[ah],[aq]),(nH,[jW],[aq]),(DB,[aU],[aq])],bB:=[⟨gS,0,16490,[1,4,3],[]⟩,⟨gS,0,16436,[1,5,3],[]⟩]}
def wS (a0:D)(s0:List UInt8)(n1:Int):av:=hdL gS 75 [(1,pO 0),(3,.ax s0),(4,iO n1)] [cO aM [.bx cq (a0.af 0).ae,.bx ah (a0.af 1).ae,.bx bF (a0.af 2).ae,iO (a0.af 3).int,.bx ah (a0.af 4).ae]]
def uW (a0:D)(s0:List UInt8)(n1:Int):av:=hdL gS 303 [(1,pO 0),(3,.ax s0),(5,iO n1)] [cO aM [.bx cq (a0.af 0).ae,.bx ah (a0.af 1).ae,.bx bF (a0.af 2).ae,iO (a0.af 3).int,.bx ah (a0.af 4).ae]]
theorem Zg:lp gS [aq] ID [aM] [a0] Q
 (.call ch [D.z ((a0.af 0).ae.length:Int)] fun A=>.bz (wS a0 A.ax 0)):=oP _ 0x1
theorem HN:lk gS [aq] ID (.cY Q) (wS a0 s0 n1)
 ((fun (u:Nat->D->RT->RT)=>.ite (n1<((a0.af 0).ae.length:Int)) (.gd (di n1 (a0.af 0).ae.length) (.call ch [D.z (D.at (a0.af 0).ae n1.toNat).int] fun O=>u s0.length O (.bz (wS a0 (s0++O.ax) (wp .i64 (n1+1)))))) (.call nH [D.r (a0.af 1).ae] fun A=>u s0.length A (.call ch [D.z (a0.af 3).int] fun I=>u (s0++A.ax).length I (.call nH [D.r (a0.af 4).ae] fun J=>u ((s0++A.ax)++I.ax).length J (.call ch [D.z ((a0.af 2).ae.length:Int)] fun U=>u (((s0++A.ax)++I.ax)++J.ax).length U (.bz (uW a0 ((((s0++A.ax)++I.ax)++J.ax)++U.ax) 0))))))) fun i o m=>.gd ((i+o.ax.length)<(4611686018427387904:Nat)) m):=oE _ 0x244442100544442101540054442102540154005421121211
theorem F1:lk gS [aq] ID (.cY Q) (uW a0 s0 n1)
 ((fun (v:Nat->Nat->RT->RT)=>(fun (u:D)=>.ite (n1<((a0.af 2).ae.length:Int)) (.gd (di n1 (a0.af 2).ae.length) (.call ch [D.z (u.af 0).int] fun A=>v s0.length A.ax.length (v (s0++A.ax).length 1 (.call DB [dE pg aU (u.af 1)] fun I=>v ((s0++A.ax)++(bO [D.z ((u.af 1).af 0).int])).length I.ax.length (.bz (uW a0 (((s0++A.ax)++(bO [D.z ((u.af 1).af 0).int]))++I.ax) (wp .i64 (n1+1)))))))) (.ret (D.s s0))) (D.at (a0.af 2).ae n1.toNat)) fun i o m=>.gd ((i+o)<(4611686018427387904:Nat)) m):=oE _ 0x212134344212101544340054211
def zU:cK:={cj:=[(ch,[ah],[aq]),(jR,[fw],[aq]),(dK,[aQ],[aq])],bB:=[⟨eu,0,16480,[4,0,3],[]⟩,⟨eu,0,32818,[4,0,5,3],[]⟩]}
def pq (a0:D)(s0:List UInt8)(n1:Int):av:=hdL eu 75 [(0,.bx aV a0.ae),(3,.ax s0),(4,iO n1)] []
def mG (a0:D)(s0:List UInt8)(n1 n2:Int):av:=hdL eu 9803 [(0,.bx aV a0.ae),(3,.ax s0),(4,iO n2),(5,iO n1)] []
theorem Ql:lp eu [aq] zU [br] [a0] Q
 (.call ch [D.z (a0.ae.length:Int)] fun A=>.bz (pq a0 A.ax 0)):=oP _ 0x1
theorem Bv:lk eu [aq] zU (.cY Q) (pq a0 s0 n1)
 ((fun (v:D)=>(fun (u:Nat->D->RT->RT)=>.ite (n1<(a0.ae.length:Int)) (.gd (di n1 a0.ae.length) (.call ch [D.z (v.af 0).int] fun A=>u s0.length A (.call dK [D.r (v.af 1).ae] fun I=>u (s0++A.ax).length I (.call jR [D.r (v.af 2).ae] fun J=>u ((s0++A.ax)++I.ax).length J (.call ch [D.z ((v.af 3).ae.length:Int)] fun O=>u (((s0++A.ax)++I.ax)++J.ax).length O (.bz (mG a0 ((((s0++A.ax)++I.ax)++J.ax)++O.ax) 0 n1))))))) (.ret (D.s s0))) fun i o m=>.gd ((i+o.ax.length)<(4611686018427387904:Nat)) m) (D.at a0.ae n1.toNat)):=oE _ 0x21213c444421005444421015400544421025401540054211
theorem yq:lk eu [aq] zU (.cY Q) (mG a0 s0 n1 n2)
 ((fun (u:D)=>.gd (di n2 a0.ae.length) (.ite (n1<(u.ae.length:Int)) (.gd (di n1 u.ae.length) (.call ch [D.z (D.at u.ae n1.toNat).int] fun A=>.gd ((s0.length+A.ax.length)<(4611686018427387904:Nat)) (.bz (mG a0 (s0++A.ax) (wp .i64 (n1+1)) n2)))) (.bz (pq a0 s0 (wp .i64 (n2+1)))))) ((D.at a0.ae n2.toNat).af 3)):=oE _ 0x212101521211
theorem WV:lp nk [aq] {cj:=[(kU,[aq],[dA]),(gi,[dA,ah],[aq])]} [aq,aq] [a0,a1] Q
 ((fun (u:Nat->D->RT->RT)=>u 8 a0 (u (([{toBitVec:=112#8},{toBitVec:=111#8},{toBitVec:=115#8},{toBitVec:=116#8},{toBitVec:=101#8},{toBitVec:=114#8},{toBitVec:=110#8},{toBitVec:=10#8}]:List UInt8)++a0.ax).length a1 (.call kU [D.s ((([{toBitVec:=112#8},{toBitVec:=111#8},{toBitVec:=115#8},{toBitVec:=116#8},{toBitVec:=101#8},{toBitVec:=114#8},{toBitVec:=110#8},{toBitVec:=10#8}]:List UInt8)++a0.ax)++a1.ax)] fun I=>.call gi [D.z I.int,D.z 8] fun A=>u ((([{toBitVec:=112#8},{toBitVec:=111#8},{toBitVec:=115#8},{toBitVec:=116#8},{toBitVec:=101#8},{toBitVec:=114#8},{toBitVec:=110#8},{toBitVec:=10#8}]:List UInt8)++a0.ax)++a1.ax).length A (.ret (D.s (((([{toBitVec:=112#8},{toBitVec:=111#8},{toBitVec:=115#8},{toBitVec:=116#8},{toBitVec:=101#8},{toBitVec:=114#8},{toBitVec:=110#8},{toBitVec:=10#8}]:List UInt8)++a0.ax)++a1.ax)++A.ax)))))) fun i o m=>.gd ((i+o.ax.length)<(4611686018427387904:Nat)) m):=oP _ 0x2121211
theorem WQ:lp A9 [aq] {cj:=[(gS,[aM],[aq]),(eu,[br],[aq]),(nk,[aq,aq],[aq])]} [aM,br] [a0,a1] Q
 (.call gS [dE pg aM a0] fun I=>.call eu [D.r a1.ae] fun A=>.gd ((I.ax.length+A.ax.length)<(4611686018427387904:Nat)) (.call nk [D.s [{toBitVec:=112#8}],D.s (I.ax++A.ax)] fun J=>.ret (D.s J.ax))):=oP _ 0x211
theorem WO:lp A8 [aq] {cj:=[(gS,[aM],[aq]),(nk,[aq,aq],[aq])]} [aM] [a0] Q
 (.call gS [dE pg aM a0] fun I=>.call nk [D.s [{toBitVec:=119#8}],D.s I.ax] fun A=>.ret (D.s A.ax)):=oP _ 0x1
theorem Ze:lp DA [aq,ah] {cj:=[(fQ,[aQ],[ah]),(dK,[aQ],[aq]),(nk,[aq,aq],[aq])]} [aQ] [a0] Q
 (.call fQ [D.r a0.ae] fun I=>.ite (I.int>512) (.ret (D.r [D.s [],D.z 2])) (.call dK [D.r a0.ae] fun A=>.call nk [D.s [{toBitVec:=99#8}],D.s A.ax] fun J=>.ret (D.r [D.s J.ax,D.z 0]))):=oP _ 0x211
end
section
variable {a0 a1:D} {Q:D->Prop} {n0 n1:Int}
def AM:cK:={cj:=[(DF,[ak],[aj])],bB:=[⟨dQ,0,16528,[3,0],[]⟩,⟨dQ,0,36972,[3,0,4],[]⟩,⟨dQ,0,32822,[3,0,5],[]⟩]}
def p5 (a0:D)(n0:Int):av:=hdL dQ 37 [(0,.bx aV a0.ae),(3,iO n0)] []
def qI (a0:D)(n0 n1:Int):av:=hdL dQ 9509 [(0,.bx aV a0.ae),(3,iO n1),(4,iO n0)] []
def pf (a0:D)(n0 n1:Int):av:=hdL dQ 10021 [(0,.bx aV a0.ae),(3,iO n1),(5,iO n0)] []
theorem WK:lp dQ [aj] AM [br] [a0] Q
 (.bz (p5 a0 0)):=oP _ 0x1
theorem FV:lk dQ [aj] AM (.cY Q) (p5 a0 n0)
 ((fun (u:D)=>.ite (n0<(a0.ae.length:Int)) (.gd (di n0 a0.ae.length) (.ite (u.int<0) (.ret (D.b false)) (.ite (u.int>2147483648) (.ret (D.b false)) (.bz (qI a0 0 n0))))) (.ret (D.b true))) ((D.at a0.ae n0.toNat).af 0)):=oE _ 0x212122d0154d2116c31
theorem CV:lk dQ [aj] AM (.cY Q) (qI a0 n0 n1)
 ((fun (u:D)=>(fun (v:D)=>.gd (di n1 a0.ae.length) (.ite (n0<(u.ae.length:Int)) (.gd (di n0 u.ae.length) (.ite (v.int<0) (.ret (D.b false)) (.ite (v.int>2147483648) (.ret (D.b false)) (.bz (qI a0 (wp .i64 (n0+1)) n1))))) (.bz (pf a0 0 n1)))) (D.at u.ae n0.toNat)) ((D.at a0.ae n1.toNat).af 3)):=oE _ 0x21210152122d0354d0153d2119c31
theorem Bt:lk dQ [aj] AM (.cY Q) (pf a0 n0 n1)
 ((fun (u:D)=>.gd (di n1 a0.ae.length) (.ite (n0<(u.ae.length:Int)) (.gd (di n0 u.ae.length) (.call DF [dE pg ak ((D.at u.ae n0.toNat).af 1)] fun A=>.ite A.bool (.ret (D.b false)) (.bz (pf a0 (wp .i64 (n0+1)) n1)))) (.bz (p5 a0 (wp .i64 (n1+1)))))) ((D.at a0.ae n1.toNat).af 2)):=oE _ 0x212101521211
theorem Zx:lp DF [aj] {cj:=[(oL,[ak,ah],[ah])]} [ak] [a0] Q
 (.call oL [dE pg ak a0,D.z 20000] fun A=>.ret (D.b (decide (A.int<0)))):=oP _ 0x1
def Sh:cK:={cj:=[(oL,[ak,ah],[ah])],bB:=[⟨oL,0,16423,[2,5,1],[]⟩]}
def xi (a0 a1:D)(n0 n1:Int):av:=hdL oL 151 [(1,iO n0),(2,pO 0),(5,iO n1)] [cO ak [iU (a0.af 0).int,iO (a0.af 1).int,.ax (a0.af 2).ax,.bx ak (a0.af 3).ae,iO (a0.af 4).int]]
theorem ac8:lp oL [ah] Sh [ak,ah] [a0,a1] Q
 (.ite (a1.int<0) (.ret (D.z (-1))) (.bz (xi a0 a1 (wp .i64 ((wp .i64 (a1.int-1))-(wp .i64 (Int.tdiv ((a0.af 2).ax.length:Int) 64)))) 0))):=oP _ 0x2311
theorem Ig:lk oL [ah] Sh (.cY Q) (xi a0 a1 n0 n1)
 (.ite (n1<((a0.af 3).ae.length:Int)) (.ite (n0≥0) (.gd (di n1 (a0.af 3).ae.length) (.call oL [dE pg ak (D.at (a0.af 3).ae n1.toNat),D.z n0] fun A=>.bz (xi a0 a1 A.int (wp .i64 (n1+1))))) (.ret (D.z n0))) (.ret (D.z n0))):=oE _ 0x22d312c21211
end
section
variable {a0 a1:D} {Q:D->Prop} {n0 n1 n2 n3 n4:Int} {s1 s4 s6 s0:List UInt8} {b5:Bool} {c1:Nat} {l2:List D}
def qw:cK:={cj:=[(kU,[aq],[dA])],bB:=[⟨cm,0,16546,[0,1,5],[]⟩,⟨cm,0,36909,[9,1,5,11,10],[]⟩],abU:=[⟨cm,0,24711,[0,1,5,6,7],[]⟩,⟨cm,0,24678,[1,5,6,0,7],[]⟩,⟨cm,0,24655,[1,5,0,6],[]⟩]}
def jr (a0 a1:D)(n0:Int)(s1:List UInt8):av:=hdL cm 37 [(0,.ax s1),(1,.bx cP a1.ae),(5,iO n0)] []
def uL (a0 a1:D)(n0 n1:Int)(n2 n3:Int)(s4:List UInt8)(b5:Bool)(s6:List UInt8):av:=hdL cm 1829 [(0,.ax s6),(1,.bx cP a1.ae),(5,iO n0),(6,pO 0),(7,iO n1)] [cO cP [iO n2,iO n3,.ax s4,.bool b5]]
def pk (a0 a1:D)(n0 n1:Int)(n2 n3:Int)(s4:List UInt8)(b5:Bool)(s6:List UInt8):av:=hdL cm 7973 [(0,.ax s6),(1,.bx cP a1.ae),(5,iO n1),(6,pO 0),(7,iO n0)] [cO cP [iO n2,iO n3,.ax s4,.bool b5]]
def sX (a0 a1:D)(s0:List UInt8)(n1 n2 n3:Int)(s4:List UInt8)(b5:Bool):av:=hdL cm 16165 [(0,.ax s0),(1,.bx cP a1.ae),(5,iO n1),(6,pO 0)] [cO cP [iO n2,iO n3,.ax s4,.bool b5]]
def lK (a0 a1:D)(n0:Int)(c1:Nat)(l2:List D)(n3 n4:Int):av:=hdL cm 4964133 [(1,.bx cP a1.ae),(5,iO n4),(9,.int .u64 n0),(10,vO 0 c1),(11,iO n3)] [rO Lp l2]
theorem Ub:lp cm [aq] qw [aq,cR] [a0,a1] Q
 (.bz (jr a0 a1 0 a0.ax)):=oP _ 0x1
theorem Em:lk cm [aq] qw (.cY Q) (jr a0 a1 n0 s1)
 ((fun (u:D)=>.ite (n0<(a1.ae.length:Int)) (.ite (n0<20) (.gd (di n0 a1.ae.length) (.bz (uL a0 a1 n0 (u.af 0).int (u.af 0).int (u.af 1).int (u.af 2).ax (u.af 3).bool s1))) (.ret (D.s s1))) (.ret (D.s s1))) (D.at a1.ae n0.toNat)):=oE _ 0x22d312c21211
theorem KC:lk cm [aq] qw (.cY Q) (uL a0 a1 n0 n1 n2 n3 s4 b5 s6)
 ((fun (z:Int)=>(fun (v:RT)=>(fun (u:Int->RT->av->RT)=>u n1 (u z v (pk a0 a1 z n0 n2 n3 s4 b5 s6)) (pk a0 a1 n1 n0 n2 n3 s4 b5 s6)) fun i o m=>.ite (i<(0:Int)) o (.ite (i>(s6.length:Int)) v (.ite ((s4.length:Int)>4000) v (.bz m)))) (.bz (jr a0 a1 (wp .i64 (n0+1)) s6))) (wp .i64 (n1+(s6.length:Int)))):=oE _ 0x25d24d2114c3124d24d2114c314c6e1
theorem KD:lk cm [aq] qw (.cY Q) (pk a0 a1 n0 n1 n2 n3 s4 b5 s6)
 ((fun (z:Int->Nat->Nat->Nat->Nat->RT->RT)=>(fun (v:Int)=>(fun (u:Int)=>(fun (j:Int)=>z n0 (0:Nat) n0.toNat (List.drop 0 (List.take n0.toNat s6)).length s4.length (z ((if (u<v)then u else v):Int) j.toNat s6.length ((List.drop 0 (List.take n0.toNat s6))++s4).length (List.drop j.toNat (List.take s6.length s6)).length (.bz (sX a0 a1 (((List.drop 0 (List.take n0.toNat s6))++s4)++(List.drop j.toNat (List.take s6.length s6))) n1 n2 n3 s4 b5)))) (if (u<v)then u else v)) (wp .i64 (n0+(if (((if (v<n3)then v else n3):Int)>0)then (if (v<n3)then v else n3)else 0)))) (s6.length:Int)) fun i o m x g h=>.gd ((0:Int)<=i) (.gd ((o<=m)&&(m<=s6.length)) (.gd ((x+g)<(4611686018427387904:Nat)) h))):=oE _ 0x2121212121211
theorem I8:lk cm [aq] qw (.cY Q) (sX a0 a1 s0 n1 n2 n3 s4 b5)
 ((fun (v:RT)=>(fun (u:Int)=>.ite b5 (.ite ((s0.length:Int)>8) (.gd ((0:Int)<=u) (.gd (((0:Nat)<=u.toNat)&&(u.toNat<=s0.length)) (.call kU [D.s (List.drop 0 (List.take u.toNat s0))] fun A=>.bz (lK a0 a1 A.int (List.drop 0 (List.take u.toNat s0)).length (kf (List.drop 0 (List.take u.toNat s0))) 56 n1)))) v) v) (wp .i64 ((s0.length:Int)-8))) (.bz (jr a0 a1 (wp .i64 (n1+1)) s0))):=oE _ 0x23d313c2121210150051
theorem xJ:lk cm [aq] qw (.cY Q) (lK a0 a1 n0 c1 l2 n3 n4)
 (.ite (n3≥0) (.gd (0<=n3) (.gd ((c1=l2.length)&&(bh 1 (c1+1))) (.bz (lK a0 a1 n0 (c1+1) (l2++[D.z (wp .u8 (Int.fdiv n0 (2^(min n3.toNat 64))))]) (wp .i64 (n3-8)) n4)))) (.gd (c1<=l2.length) (.bz (jr a0 a1 (wp .i64 (n4+1)) (bO (List.take c1 l2)))))):=oE _ 0x2211213211
end
section
variable {y:D} {l c h:List D} {o:List UInt8} {Q:D->Prop}
def hG:cK:={f:=nZ,rs:=[aj],bK:=some 0,cj:=[(j6,[aU],[aj]),(tv,[aM],[aj]),(pU,[br],[aj]),(A9,[aM,br],[aq]),(A8,[aM],[aq]),(DA,[aQ],[aq,ah]),(cm,[aq,cR],[aq]),(dQ,[br],[aj])],bJ:=[(ct,eE),(tn,bg),(gw,bg)]}
@[simp] theorem abP:hG.f=nZ/\hG.rs=[aj]:=⟨rfl,rfl⟩
theorem NW:lh nZ [aj] hG (nR y l c h o) [] 0 bg Q
 ((fun (j:D)=>(fun (v:RT)=>(fun (u:List UInt8->RT->RT)=>.call pU [D.r l] fun Y=>.ite (! Y.bool) v (.call tv [j] fun Z=>.ite (! Z.bool) v (.call j6 [D.r [D.z 0,D.z 0,D.r [D.z 0,D.z 0,D.s [],D.r [],D.z 0],D.r [],D.z 0,D.z 0,D.z 0,D.z 0,D.z 0,D.b false,D.r c,D.r []]] fun d4=>.ite (! d4.bool) v (.ite ((o.length:Int)>65536) v (.au ct [.agg [.bx cq (y.af 0).ae,.bx ah (y.af 1).ae,.bx bF (y.af 2).ae,iO (y.af 3).int,.bx ah (y.af 4).ae]] [] 0 fun d7=>.ite (d7.af 0).bool (.call dQ [D.r l] fun d8=>.ite (! d8.bool) (u o v) (.call DA [D.r c] fun V=>.call A9 [j,D.r l] fun O=>.call cm [D.s O.ax,D.r h] fun A=>u A.ax (.call A8 [j] fun U=>.call cm [D.s U.ax,D.r h] fun J=>u J.ax (.call cm [D.s (V.af 0).ax,D.r h] fun I=>u I.ax (u o v))))) (u o v)))))) fun i m=>.au gw [.ax i] [] 0 fun d9=>.ite d9.bool m (.aT (.bool false) [])) (.au tn [] [] 0 fun d1=>.aT (.bool d1.bool) [])) (dE pg aM y)):=oH _ 0x23d24d23d228e2006100517e225dae15c24d5e14c22d2e12c20061005120061005113c314c5e13cae1
end
end Go.Proofs
end
