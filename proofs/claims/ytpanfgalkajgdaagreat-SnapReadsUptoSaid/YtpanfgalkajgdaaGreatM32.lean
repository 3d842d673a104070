import Derived.Test.YtpanfgalkajgdaaGreatM8
set_option linter.all false
noncomputable section
open Go.IntKind renaming wrap→wp
set_option maxHeartbeats 8000000
namespace Go.Proofs
open Go Go.PB
section
variable {R:RS} {r n0 k o:Int} {Q:D->Prop} {b:Bool}
def aaE:cK:={bK:=some 1,bB:=[⟨ly,0,16440,[4,6,0,1],[]⟩],Ot:=[(aU,5,dn),(aU,7,dn),(aU,14,aQ),(aU,15,fw)]}
def DM (R:RS)(r n0:Int):av:=hdL ly 37 [(0,pO 0),(1,iO r),(4,pO 1),(6,iO n0)] [rrC R 2 3 4 5,cO aU [iU 0,iO 0,iU 0,iO 0,.ax [],.bx ak (D.r []).ae,iO 0,.bx ak (D.r []).ae,iO 0,iO 0,iO 0,iO 0,iU 0,.bool false,.bx aJ (D.r []).ae,.bx dG (D.r []).ae],rO ah R.pa,rO aj R.cu,rO bF R.th,rO ah R.ma]
theorem ahU:lh ly [aU,aj] aaE (mD R r) (Rm R) 1 yE Q
 (.bz (DM R r 0)):=oH _ 0x1
theorem Qq:lk ly [aU,aj] aaE (.bK 1 (yE (mD R r) (Rm R)) Q) (DM R r n0)
 ((fun (j:D)=>(fun (z:BV)=>(fun (v:BV)=>(fun (u:BV)=>.ite (n0<(R.th.length:Int)) (.gd (di n0 R.th.length) (.gd (n0.toNat<R.th.length) (.ite ((j.af 0).int==(r:Int)) (.aT (.tuple [.agg (aH pg aU (j.af 1)),.bool true]) (Rm R)) (.bz (DM R r (wp .i64 (n0+1))))))) (.aT (.tuple [.agg [z,u,z,u,.ax [],v,u,v,u,u,u,u,z,.bool false,.bx aJ (D.r []).ae,.bx dG (D.r []).ae],.bool false]) (Rm R))) (iO 0)) (.bx ak (D.r []).ae)) (iU 0)) (D.at R.th n0.toNat)):=oE _ 0x212121210250151
def abK:cK:={bK:=some 1,bJ:=[(ly,yE)]}
theorem acB:lh zA [ah] abK (mD R r) (Rm R) 1 aG Q
 (.au ly [pO 0,iO r] (Rm R) 1 fun A=>.aT (iO (wp .i64 ((A.af 0).af 0).int)) (Rm R)):=oH _ 0x1
def Gx:cK:={f:=oA,rs:=[ot],bK:=some 1,bJ:=[(ly,yE),(oA,ka)]}
@[simp] theorem ajy:Gx.f=oA/\Gx.rs=[ot]:=⟨rfl,rfl⟩
theorem acA:lh oA [ot] Gx (mD R r) (Rm R) 1 ka Q
 ((fun (v:Int->RT)=>.au ly [pO 0,iO r] (Rm R) 1 fun A=>(fun (j:Int)=>(fun (z:RT)=>(fun (u:Int->Int->Int->RT->Int->RT->RT->RT)=>.ite (! (A.af 1).bool) (v 0) (u 1 3 2 (v 9) 3 (v 9) (u 4 12 5 (v 16) 6 (v 16) (u 8 16 12 (v 16) 9 (v 13) (u 10 1 11 (v 8) 13 (v 33) (u 14 ((A.af 0).af 8).int 15 z 16 z (v 0))))))) fun i o m x g h e=>.ite (j==i) (v o) (.ite (j==m) x (.ite (j==g) h e))) (.au oA [pO 0,iO ((A.af 0).af 6).int] (Rm R) 1 fun I=>v I.int)) (wp .i64 ((A.af 0).af 0).int)) fun i=>.aT (iU i) (Rm R)):=oH _ 0x222222222222222211005111111100510051005111005111
def OZ:cK:={bK:=some 1,bB:=[⟨mn,0,16467,[3,4,2,1,0,11],[]⟩]}
def rN (R:RS)(r k o:Int)(b:Bool)(n0:Int):av:=hdL mn 37 [(0,pO 0),(1,iO r),(2,iO k),(3,iO o),(4,.bool b),(11,iO n0)] [rrC R 1 2 3 4,rO ah R.pa,rO aj R.cu,rO bF R.th,rO ah R.ma]
theorem Y0:lh mn [aj] OZ (zJ R r k o b) (Rm R) 1 cA Q
 (.bz (rN R r k o b 0)):=oH _ 0x1
theorem HF:lk mn [aj] OZ (.bK 1 (cA (zJ R r k o b) (Rm R)) Q) (rN R r k o b n0)
 ((fun (z:D)=>(fun (u:RT)=>(fun (v:Nat->RT)=>.ite (n0<(R.th.length:Int)) (.gd (di n0 R.th.length) (.gd (n0.toNat<R.th.length) (.ite ((z.af 0).int !=(r:Int)) (.ite ((wp .i64 ((z.af 1).af 0).int)==(k:Int)) (.ite b (v 7) (v 6)) u) u))) (.aT (.bool false) (Rm R))) fun i=>.ite (((z.af 1).af i).int==(o:Int)) (.aT (.bool true) (Rm R)) u) (.bz (rN R r k o b (wp .i64 (n0+1))))) (D.at R.th n0.toNat)):=oE _ 0x21212101500525d7e15c25d3100523d0150060153e007007007007300701530152113c01500501522d018018018018006018025006025313c02500502531
end
section
variable {l l2:List D} {Q:D->Prop} {n0:Int} {c1:Nat}
def Vr:cK:={bK:=some 0,bB:=[⟨xz,0,16448,[0,4,5],[]⟩],yd:=[(bQ,0,ah),(bQ,2,bF)]}
def yS (l:List D)(n0:Int)(c1:Nat)(l2:List D):av:=hdL xz 151 [(0,.bx cq l),(4,pO 0),(5,iO n0)] [cO bQ [vO 1 c1,vO 2 l.length,vO 3 0,iO 0,vO 4 (wp .i64 ((l.length:Int)+1)).toNat],rO ah l2,rO aj (List.replicate l.length (D.b false)),rO bF [],rO ah (List.replicate (wp .i64 ((l.length:Int)+1)).toNat (D.z 0))]
theorem afR:lh xz [aW,bn] Vr (ga l) [] 0 Ce Q
 ((fun (u:Int)=>.ite (u≥(16:Int)) (.aT (.tuple [.gF,iO 71]) []) (.gd (vQ (wp .i64 (u+1)) (wp .i64 (u+1)) 8) (.gd (vQ u u 1) (.bz (yS l 0 0 []))))) (l.length:Int)):=oH _ 0x2212111
theorem KI:lk xz [aW,bn] Vr (.bK 0 (Ce (ga l) []) Q) (yS l n0 c1 l2)
 ((fun (j:D)=>(fun (v:Int)=>(fun (u:RT)=>.ite (n0<(l.length:Int)) (.gd (di n0 l.length) (.ite (j.int<0) u (.ite (j.int>n0) u (.gd ((c1=l2.length)&&(bh 8 (c1+1))) (.bz (yS l (wp .i64 (n0+1)) (c1+1) (l2++[D.z j.int]))))))) (.aT (.tuple [pO 0,iO 0]) [(0,cO bQ [vO 1 c1,vO 2 l.length,vO 3 0,iO 0,vO 4 v.toNat]),(1,rO ah l2),(2,rO aj (List.replicate l.length (D.b false))),(3,rO bF []),(4,rO ah (List.replicate v.toNat (D.z 0)))])) (.aT (.tuple [.gF,iO 71]) [])) (wp .i64 ((l.length:Int)+1))) (D.at l n0.toNat)):=oE _ 0x212122d0154d2025321116c31
end
section
variable {W:WS} {r:Int} {y:D} {Q:D->Prop}
def JC:cK:={f:=CC,rs:=[aj],bK:=some 3,bJ:=[(ki,cA),(Fu,ka),(rE,ka),(oB,cA)]}
@[simp] theorem akm:JC.f=CC/\JC.rs=[aj]:=⟨rfl,rfl⟩
theorem afG:lh CC [aj] JC (OH W r y) (Wm W) 3 cA Q
 ((fun (J:Nat->Nat->Int->Bool)=>(fun (q:BV)=>(fun (I:List BV)=>(fun (p:Int->RT->Int->RT->RT->RT)=>(fun (k:Nat->Bool)=>(fun (j:Bool->RT)=>(fun (t:Bool->RT->RT)=>(fun (U:RT->RT)=>(fun (V:Int->RT)=>(fun (u:Nat->Int->RT->RT)=>p 6 (u 6 5 (V 6)) 7 (u 6 5 (j (k 6))) (p 9 (u 6 8 (j (k 6))) 11 (u 6 10 (V 11)) (p 15 (u 7 13 (t (k 7) (U (j (J 7 6 (r:Int)))))) 16 (u 7 3 (t (k 7) (.au ki I (Wm W) 3 fun d9=>j d9.bool))) (p 13 (.ite ((y.af 6).int==0) (j true) (u 6 15 (j (J 6 7 (r:Int))))) 14 (.au rE I (Wm W) 3 fun A=>(fun (v:Bool->RT)=>.ite (D.i7 W.fa (D.r [D.z (y.af 6).int,D.z (y.af 8).int])) (v ((D.val W.fa (D.r [D.z (y.af 6).int,D.z (y.af 8).int])).int==(r:Int))) (v true)) fun i=>U (.au Fu I (Wm W) 3 fun O=>t (O.int !=14) (t ((y.af 8).int !=A.int) (t ((wp .u8 ((BitVec.toNat ((BitVec.ofInt 8 (y.af 8).int) &&& (~~~ (BitVec.ofInt 8 A.int)))):Int))==0) (j i))))) (j true))))) fun i o m=>.au Fu [pO 0,iO (y.af i).int] (Wm W) 3 fun Y=>t (Y.int==o) (.gd (D.i7 W.th (D.z (y.af i).int)) m)) fun i=>t (k 6) (.au oB [pO 0,iO r,iU i,q] (Wm W) 3 fun Z=>j (! Z.bool))) fun i=>.au ki I (Wm W) 3 fun d7=>t d7.bool i) fun i o=>.ite i o (j false)) fun i=>.aT (.bool i) (Wm W)) fun i=>J i 1 (y.af 1).int) fun i o m x g=>.ite ((y.af 0).int==i) o (.ite ((y.af 0).int==m) x g)) [pO 0,q]) (iO (y.af 6).int)) fun i o m=>((D.val W.th (D.z (y.af i).int)).af o).int==m):=oH _ 0x222222221225d10915c24dbe14c25d5e15c24d12c3e0053005125d10915c24dbe14c25d5e15c24d12c3e0053005125d2bd01600601616c201510301a0050201a02601502617c12cd5e15c201510301a0050401a24d14c12cd12915c201510301a0050401a24dde14c2cd16c0253c0253c12cd7e15c201510301a0050401a26d16c12cd15c201510301a0050401a12cd15c201510301a0050401a12cd7e15c201510301a0050401a26d16c1
end
section
variable {a0:D} {Q:D->Prop}
theorem Zz:lp DH [aj] {cj:=[(zD,[vT],[aj])]} [vT] [a0] Q
 ((fun (u:RT)=>.ite (a0.int==6) u (.ite (a0.int==7) u (.ite (a0.int==9) u (.ite (a0.int==11) u (.call zD [D.z a0.int] fun A=>.ret (D.b A.bool)))))) (.ret (D.b true))):=oP _ 0x22d22d22d22d12c12c3e12c6e12c9e1
theorem Zy:lp wu [aj] {} [vT] [a0] Q
 (.ite (a0.int==15) (.ret (D.b true)) (.ret (D.b (a0.int==16)))):=oP _ 0x22d12c1
theorem adf:lp zD [aj] {} [vT] [a0] Q
 (.ite (a0.int==14) (.ret (D.b true)) (.ite (a0.int==15) (.ret (D.b true)) (.ret (D.b (a0.int==16))))):=oP _ 0x22d22d12c12c3e1
theorem Ul:lp lC [aj] {} [ah] [a0] Q
 (.ite (a0.int==14) (.ret (D.b true)) (.ite (a0.int==15) (.ret (D.b true)) (.ret (D.b (a0.int==16))))):=oP _ 0x22d22d12c12c3e1
end
section
variable {W:WS} {Q:D->Prop} {l0 l3 l1 l4:List D} {st1 st2:List Nat} {c2 c3:Nat} {m0 m1:List (D×D)} {n0 n5:Int}
def cW:cK:={f:=db,rs:=[aj],bK:=some 3,cj:=[(DH,[vT],[aj]),(wu,[vT],[aj]),(zD,[vT],[aj])],bJ:=[(ki,cA),(GC,cA),(CC,cA),(tm,Cc)],bB:=[⟨db,0,16661,[0,17],[]⟩,⟨db,0,28857,[0,17,6,5],[]⟩,⟨db,0,16493,[0,131],[]⟩,⟨db,0,16423,[0,167],[]⟩]}
@[simp] theorem ajA:cW.f=db/\cW.rs=[aj]:=⟨rfl,rfl⟩
def qE (W:WS)(l0:List D)(st1:List Nat)(c2:Nat)(l3:List D):av:=hdL db 37 [(0,pO 0),(17,pO 3)] [wrC W 4 1 2 5,wrT W 1,wrF W,.nb 1 l0 st1 c2 l3,rO aj W.cu,rO ah W.ma]
def qF (W:WS)(m0:List (D×D))(st1:List Nat)(c2:Nat)(l3:List D):av:=hdL db 75 [(0,pO 0),(131,pO 3)] [wrC W 4 1 2 5,wrT W 1,.cd bp (.data bW) m0 st1 c2,.nb 1 (D.fh W.th) W.st W.ck l3,rO aj W.cu,rO ah W.ma]
def ez (W:WS)(n0:Int)(l1:List D)(st2:List Nat)(c3:Nat)(l4:List D)(n5:Int):av:=hdL db 20325 [(0,pO 0),(5,iO n5),(6,iO n0),(17,pO 3)] [wrC W 4 1 2 5,wrT W 1,wrF W,.nb 1 l1 st2 c3 l4,rO aj W.cu,rO ah W.ma]
def rR (W:WS)(l0:List D)(m1:List (D×D))(st2:List Nat)(c3:Nat):av:=hdL db 151 [(0,pO 0),(167,pO 3)] [wrC W 4 1 2 5,wrT W 1,.cd bp (.data bW) m1 st2 c3,.nb 1 (D.fh W.th) W.st W.ck l0,rO aj W.cu,rO ah W.ma]
theorem acH:lh db [aj] cW (bG W) (Wm W) 3 cV Q
 (.bz (qE W (D.fh W.th) W.st W.ck [])):=oH _ 0x1
theorem Us:lk db [aj] cW (.bK 3 (cV (bG W) (Wm W)) Q) (qE W l0 st1 c2 l3)
 ((fun (q:Nat->BV->RT->RT)=>.gd (xR W.th W.st W.ck l0 st1 c2) (.pick l0 l3 (.bz (qF W W.fa W.sf W.cf [])) fun A=>(fun (k:RT)=>(fun (j:D)=>(fun (v:Nat->RT->RT)=>(fun (t:Nat->Nat->RT->RT)=>(fun (u:RT)=>(fun (p:RT)=>.gd (D.i7 W.th A) (q GC (.agg (aH pg aU j)) (t DH 6 p))) (t wu 7 u)) (.ite ((j.af 0).int==13) (.ite ((j.af 6).int !=0) (v 6 k) k) k)) fun i o m=>.call i [D.z (j.af 0).int] fun I=>.ite I.bool (v o m) m) fun i o=>q ki (iO (j.af i).int) o) (D.val W.th A)) (.bz (ez W A.int l0 st1 c2 (A::l3) 0)))) fun i o m=>.au i [pO 0,o] (Wm W) 3 fun J=>.ite (! J.bool) (.aT (.bool false) (Wm W)) m):=oE _ 0x21230052123d0152d26d0160060164e0252e26d30065e0352e24d3006ce13c0450053005326d30062e14c0552c300532114c0352c3005323d0452d24d0160060167e0163016313c05500501600501626d026006026314c0652c0260050262119c314c0252c01600501623d0352d26d0160060164e0452e24d3006ce13c0550053005326d30062e14c0652c300532114c0452c01600501623d0552d24d0160060167e0163016313c06500501600501626d026006026314c0752c0260050262119c317cbe17c139131
theorem Ut:lk db [aj] cW (.bK 3 (cV (bG W) (Wm W)) Q) (qF W m0 st1 c2 l3)
 ((fun (u:WS)=>.gd (xR W.th W.st W.ck (D.fh W.th) W.st W.ck) (.pick (D.fh W.th) l3 (.bz (rR W [] m0 st1 c2)) fun A=>(fun (v:D)=>.gd (D.i7 W.th A) (.ite ((v.af 0).int==14) (.ite (D.i7 m0 (D.r [D.z (v.af 6).int,D.z (v.af 8).int])) (.aT (.bool false) (Wm u)) (.au tm [pO 0,iO A.int] (Wm u) 3 fun I=>.bz (qF W (oS (I.af 0)) (pC (I.af 1)) (pB (I.af 2)) (A::l3)))) (.bz (qF W m0 st1 c2 (A::l3))))) (D.val W.th A))) (WS.mk W.pa W.cu W.th W.st W.ck m0 st1 c2 W.la W.ma)):=oE _ 0x212300521210201a2313131
theorem El:lk db [aj] cW (.bK 3 (cV (bG W) (Wm W)) Q) (ez W n0 l1 st2 c3 l4 n5)
 ((fun (v:RT)=>(fun (u:D)=>.gd (D.i7 W.th (D.z n0)) (.call zD [D.z (u.af 0).int] fun I=>.ite I.bool (.ite ((wp .i64 (n5+1))>(W.th.length:Int)) v (.au ki [pO 0,iO (u.af 6).int] (Wm W) 3 fun A=>.ite (! A.bool) v (.bz (ez W (u.af 6).int l1 st2 c3 l4 (wp .i64 (n5+1)))))) (.bz (qE W l1 st2 c3 l4)))) (D.val W.th (D.z n0))) (.aT (.bool false) (Wm W))):=oE _ 0x210052126d0253d0253d20203a11cc31
theorem Rz:lk db [aj] cW (.bK 3 (cV (bG W) (Wm W)) Q) (rR W l0 m1 st2 c3)
 ((fun (u:WS)=>.gd (xR W.th W.st W.ck (D.fh W.th) W.st W.ck) (.pick (D.fh W.th) l0 (.aT (.bool true) (Wm u)) fun A=>.gd (D.i7 W.th A) (.au CC [pO 0,iO A.int,.agg (aH pg aU (D.val W.th A))] (Wm u) 3 fun I=>.ite (! I.bool) (.aT (.bool false) (Wm u)) (.bz (rR W (A::l0) m1 st2 c3))))) (WS.mk W.pa W.cu W.th W.st W.ck m1 st2 c3 W.la W.ma)):=oE _ 0x21230052121131
end
section
variable {W:WS} {r:Int} {Q:D->Prop}
def Gy:cK:={f:=tm,rs:=[],bK:=some 3}
@[simp] theorem ajz:Gy.f=tm/\Gy.rs=[]:=⟨rfl,rfl⟩
theorem acE:lh tm [] Gy (oQ W r) (Wm W) 3 Cc Q
 ((fun (j:WS->RT)=>(fun (v:D)=>(fun (u:D)=>.gd (D.i7 W.th (D.z r)) (.ite ((v.af 0).int==14) (.ite (D.i7 W.fa u) (j (WS.mk W.pa W.cu W.th W.st W.ck (D.mC W.fa u (D.z r)) W.sf W.cf W.la W.ma)) (j (WS.mk W.pa W.cu W.th W.st W.ck (W.fa++[(u,D.z r)]) (W.sf++[W.cf]) (W.cf+1) W.la W.ma))) (j W))) (D.r [D.z (v.af 6).int,D.z (v.af 8).int])) (D.val W.th (D.z r))) fun i=>.aT (.tuple []) (Wm i)):=oH _ 0x21005210201a211
end
section
variable {R:RS} {r n2 n1:Int} {y y0 y1:D} {Q:D->Prop} {c0:Nat} {l1:List D} {b0:Bool}
def pH:cK:={f:=eO,rs:=[bn],bK:=some 1,cj:=[(lC,[ah],[aj])],bJ:=[(ly,yE),(zA,aG),(oA,ka),(mn,cA),(tu,dx)],bB:=[⟨eO,0,16796,[7,0,5,1,8],[]⟩,⟨eO,0,20566,[5,1,0,17,15],[]⟩],abU:=[⟨eO,0,4385,[5,1,0,10,12,15,9],[]⟩]}
@[simp] theorem aiQ:pH.f=eO/\pH.rs=[bn]:=⟨rfl,rfl⟩
def wN (R:RS)(r:Int)(y:D)(c0:Nat)(l1:List D)(n2:Int):av:=hdL eO 75 [(0,pO 0),(1,iO r),(5,pO 1),(7,vO 2 c0),(8,iO n2)] [rrC R 3 4 5 6,cO aU (aH pg aU y),rO bW l1,rO ah R.pa,rO aj R.cu,rO bF R.th,rO ah R.ma]
def x9 (R:RS)(r:Int)(y y0 y1:D):av:=hdL eO 1023 [(0,pO 0),(1,iO r),(5,pO 1),(9,iO (wp .i64 (y.af 0).int)),(10,pO 2),(12,pO 3),(15,.bool true)] [rrC R 4 5 6 7,cO aU (aH pg aU y),cO aU (aH pg aU y0),cO aU (aH pg aU y1),rO ah R.pa,rO aj R.cu,rO bF R.th,rO ah R.ma]
def fo (R:RS)(r:Int)(y:D)(b0:Bool)(n1:Int):av:=hdL eO 10603197951 [(0,pO 0),(1,iO r),(5,pO 1),(15,.bool b0),(17,iO n1)] [rrC R 2 3 4 5,cO aU (aH pg aU y),rO ah R.pa,rO aj R.cu,rO bF R.th,rO ah R.ma]
theorem YZ:lh eO [bn] pH (me R r y) (Rm R) 1 aG Q
 (.au tu [.agg (aH pg aU y)] [] 0 fun A=>.bz (wN R r y A.ae.length A.ae 0)):=oH _ 0x1
theorem HE:lk eO [bn] pH (.bK 1 (aG (me R r y) (Rm R)) Q) (wN R r y c0 l1 n2)
 ((fun (t:D->List BV)=>(fun (p:RT)=>(fun (j:Int)=>.ite (n2<(c0:Int)) (.gd (di n2 c0) (.gd (n2.toNat<l1.length) (.au zA (t (D.at l1 n2.toNat)) (Rm R) 1 fun J=>.ite (J.int==0) p (.bz (wN R r y c0 l1 (wp .i64 (n2+1))))))) (.au ly (t (y.af 6)) (Rm R) 1 fun I=>.au ly (t (y.af 7)) (Rm R) 1 fun A=>(fun (q:RT)=>(fun (k:RT)=>(fun (v:RT)=>(fun (u:RT)=>.ite (j==(6:Int)) u (.ite (j==(7:Int)) u (.ite (j==(9:Int)) u (.ite (j==(11:Int)) u (.call lC [D.z j] fun O=>.ite O.bool u (.ite (j==(13:Int)) (.ite ((y.af 6).int !=0) u v) v)))))) (.ite (! (I.af 1).bool) p v)) (.ite (j==(15:Int)) k (.ite (j==(16:Int)) k q))) (.ite (! (A.af 1).bool) p q)) (.bz (x9 R r y (I.af 0) (A.af 0))))) (wp .i64 (y.af 0).int)) (.aT (iO 5) (Rm R))) fun i=>[pO 0,iO i.int]):=oE _ 0x222d22d22d22d22d22d0160060166e200630063200630062e10053005321100530056e2112c01600501622d3e200630063200630062e10053005321100530056e2112c22d20060160060162006026006026310050260050262110050160050162e01630162116c314c3e22d20060160060162006026006026310050260050262110050160050162e01630162116c312c8e22d20060160060162006026006026310050260050262110050160050162e01630162116c312cbe22d20060160060162006026006026310050260050262110050160050162e01630162116c312cee22d20060160060162006026006026310050260050262110050160050162e01630162116c312c11922d20060160060162006026006026310050260050262110050160050162e01630162116c312121211
theorem N7:lk eO [bn] pH (.bK 1 (aG (me R r y) (Rm R)) Q) (x9 R r y y0 y1)
 ((fun (I:RT)=>(fun (q:D->Bool)=>(fun (p:Int->BV)=>(fun (k:D->Int)=>(fun (v:Int->RT)=>(fun (t:Bool->RT)=>(fun (u:D->Int->Bool->RT->Int->RT->RT)=>(fun (j:Int->D->Int->RT->RT)=>(fun (z:Int->Int->Int->RT->RT)=>z 6 5 6 (j 7 y0 5 (j 9 y0 8 (z 11 10 11 (.ite ((k y)==13) (.ite ((y.af 6).int==0) (v 0) (u y0 15 (! ((y0.af 7).int==(r:Int))) (v 70) 0 (v 70))) (u y 15 ((k y1)==13) (.ite (q y1) (.au mn [pO 0,p r,p 15,p (y.af 7).int,.bool true] (Rm R) 1 fun J=>.ite (! J.bool) (.ite ((r:Int)==0) (v 0) (t ((y1.af 6).int==(r:Int)))) (v 70)) (v 70)) 70 (j 16 y1 3 (.ite ((k y)==14) (.au oA [pO 0,p (y.af 6).int] (Rm R) 1 fun A=>.ite ((k y0)!=14) (.ite ((wp .u8 ((BitVec.toNat ((BitVec.ofInt 8 (y.af 8).int) &&& (~~~ (BitVec.ofInt 8 A.int)))):Int))==0) (.bz (fo R r y ((y.af 8).int !=A.int) 0)) I) I) (v 0))))))))) fun i o m x=>u y i ((k y0)==o) (.ite (q y0) (.au mn [pO 0,p r,p m,p (y.af 6).int,.bool false] (Rm R) 1 fun O=>t (! O.bool)) (v 70)) 70 x) fun i o m x=>u y i ((k o)==m) (t (q o)) 70 x) fun i o m x g h=>.ite ((k i)==o) (.ite m x (v g)) h) fun i=>.ite (! i) (v 70) (v 0)) fun i=>.aT (p i) (Rm R)) fun i=>wp .i64 (i.af 0).int) fun i=>iO i) fun i=>(i.af 1).int==(y.af 1).int) (.bz (fo R r y false 0))):=oE _ 0x222222223125d5e15c24d14c125d315c21125dde15c26d6e16c24d312c23d0150060152113c0150050153124d23d016006016313c0160050162116c3125d8e15c26d316c21125d315c21125d315c21125d8e15c26d316c211
theorem vo:lk eO [bn] pH (.bK 1 (aG (me R r y) (Rm R)) Q) (fo R r y b0 n1)
 ((fun (z:Int->RT)=>(fun (v:D)=>(fun (u:RT)=>.ite (n1<(R.th.length:Int)) (.ite b0 (.gd (di n1 R.th.length) (.gd (n1.toNat<R.th.length) (.ite ((v.af 0).int==(r:Int)) u (.ite ((wp .i64 ((v.af 1).af 0).int)!=14) u (.ite (((v.af 1).af 6).int !=(y.af 6).int) u (.bz (fo R r y (((v.af 1).af 8).int !=(y.af 8).int) (wp .i64 (n1+1))))))))) (z 70)) (.ite (!b0) (z 70) (z 0))) (.bz (fo R r y true (wp .i64 (n1+1))))) (D.at R.th n1.toNat)) fun i=>.aT (iO i) (Rm R)):=oE _ 0x2006321100520071212101500524d25d25d15c15c6e14cce1
end
section
variable {R:RS} {Q:D->Prop} {n0 n1 n2 n3:Int}
def IC:cK:={bK:=some 1,bJ:=[(oA,ka)],bB:=[⟨iA,0,16478,[0,4,3],[]⟩,⟨iA,0,36908,[0,4,3,7,6],[]⟩]}
def rP (R:RS)(n0 n1:Int):av:=hdL iA 75 [(0,pO 0),(3,iO n0),(4,iO n1)] [rrC R 1 2 3 4,rO ah R.pa,rO aj R.cu,rO bF R.th,rO ah R.ma]
def qC (R:RS)(n0 n1:Int)(n2 n3:Int):av:=hdL iA 77387 [(0,pO 0),(3,iO n1),(4,iO n2),(6,iO n3),(7,iU n0)] [rrC R 1 2 3 4,rO ah R.pa,rO aj R.cu,rO bF R.th,rO ah R.ma]
theorem Y1:lh iA [ah] IC (il R) (Rm R) 1 aG Q
 (.bz (rP R 0 0)):=oH _ 0x1
theorem HG:lk iA [ah] IC (.bK 1 (aG (il R) (Rm R)) Q) (rP R n0 n1)
 ((fun (u:D)=>.ite (n1<(R.th.length:Int)) (.gd (di n1 R.th.length) (.gd (n1.toNat<R.th.length) (.ite ((wp .i64 ((u.af 1).af 0).int)==14) (.bz (rP R (wp .i64 (n0-1)) (wp .i64 (n1+1)))) (.au oA [pO 0,iO (u.af 0).int] (Rm R) 1 fun A=>.bz (qC R A.int n0 n1 1))))) (.aT (iO n0) (Rm R))) (D.at R.th n1.toNat)):=oE _ 0x212121211
theorem Mp:lk iA [ah] IC (.bK 1 (aG (il R) (Rm R)) Q) (qC R n0 n1 n2 n3)
 (.ite (n0>0) (.bz (qC R (wp .u8 ((BitVec.toNat ((BitVec.ofInt 8 n0) &&& (BitVec.ofInt 8 (wp .u8 (n0-1))))):Int)) n1 n2 (wp .i64 (2*n3)))) (.bz (rP R (wp .i64 ((wp .i64 (n1+n3))-1)) (wp .i64 (n2+1))))):=oE _ 0x211
end
section
variable {R:RS} {r n0 n2:Int} {Q:D->Prop} {c1:Nat} {l3:List D}
def Fc:cK:={f:=rD,rs:=[dH],bK:=some 1,cj:=[(lC,[ah],[aj])],bJ:=[(ly,yE)],bB:=[⟨rD,0,16461,[5,0,6,1],[(5,bW)]⟩],yd:=[(dH,0,bW)],Eb:=[some bW]}
@[simp] theorem akl:Fc.f=rD/\Fc.rs=[dH]:=⟨rfl,rfl⟩
def Bd (R:RS)(r n0:Int)(c1:Nat)(n2:Int)(l3:List D):av:=hdL rD 75 [(0,pO 0),(1,iO n0),(5,vO 1 c1),(6,iO n2)] [rrC R 2 3 4 5,rO bW l3,rO ah R.pa,rO aj R.cu,rO bF R.th,rO ah R.ma]
theorem afB:lh rD [dH] Fc (mD R r) (Rm R) 1 Cb Q
 (.bz (Bd R r r 0 0 [])):=oH _ 0x1
theorem Nf:lk rD [dH] Fc (.bK 1 (Cb (mD R r) (Rm R)) Q) (Bd R r n0 c1 n2 l3)
 ((fun (u:Nat->List D->RT)=>.ite (n2<=(R.th.length:Int)) (.au ly [pO 0,iO n0] (Rm R) 1 fun A=>.ite (! (A.af 1).bool) (u c1 l3) (.gd ((c1=l3.length)&&(bh 8 (c1+1))) (.call lC [D.z (wp .i64 ((A.af 0).af 0).int)] fun I=>.ite (! I.bool) (u (c1+1) (l3++[D.z n0])) (.bz (Bd R r ((A.af 0).af 6).int (c1+1) (wp .i64 (n2+1)) (l3++[D.z n0])))))) (u c1 l3)) fun i o=>.aT (vO 1 i) [(0,cO bQ [vO 2 R.pa.length,vO 3 R.cu.length,vO 4 R.th.length,iO R.la,vO 5 R.ma.length]),(1,rO bW o),(2,rO ah R.pa),(3,rO aj R.cu),(4,rO bF R.th),(5,rO ah R.ma)]):=oE _ 0x2123212111
end
section
variable {y:D} {Q:D->Prop} {n0 n3 n4 n6 n7:Int} {l1 l2 l5:List D} {c0 c7 c4:Nat} {m5 m2:List (D×D)} {st6 st3:List Nat}
def rz:cK:={f:=fy,rs:=[cy,bn],bK:=some 0,cj:=[(eM,[aU],[aU])],bJ:=[(gu,pD),(oC,aG),(gv,aG),(ui,Dj),(AX,AG),(db,cV),(rF,cA)],bB:=[⟨fy,0,16647,[4,1,33,34,35],[]⟩,⟨fy,0,16583,[8,4,1,63,64,65,9],[]⟩,⟨fy,0,16488,[8,110,4,1,111,112,13],[]⟩],PU:=[(gu,[some jW])]}
@[simp] theorem akq:rz.f=fy/\rz.rs=[cy,bn]:=⟨rfl,rfl⟩
def u9 (y:D)(n0:Int)(l1:List D):av:=hdL fy 151 [(1,pO 0),(4,pO 1),(33,.bx ah (y.af 1).ae),(34,iO ((y.af 1).ae.length:Int)),(35,iO n0)] [cO aM (aH pg aM y),cO bU [.bx cq (y.af 0).ae,vO 4 ((y.af 0).ae.length+1),.map 2,.map 3,iO 0,vO 5 ((y.af 0).ae.length+1)],.cd bW (.dD 8 aU) [] [] 0,.cd bp (.data bW) [] [] 0,rO aj l1,rO ah (List.replicate ((y.af 0).ae.length+1) (D.z 0))]
def oN (y:D)(c0:Nat)(l1 l2:List D)(n3 n4:Int)(m5:List (D×D))(st6:List Nat)(c7:Nat):av:=hdL fy 1215 [(1,pO 0),(4,pO 1),(8,vO 2 c0),(9,iO n3),(63,.bx bF (y.af 2).ae),(64,iO ((y.af 2).ae.length:Int)),(65,iO n4)] [cO aM (aH pg aM y),cO bU [.bx cq (y.af 0).ae,vO 5 ((y.af 0).ae.length+1),.map 3,.map 4,iO 0,vO 6 ((y.af 0).ae.length+1)],rO ah l1,.cd bW (.dD 10 aU) m5 st6 c7,.cd bp (.data bW) [] [] 0,rO aj l2,rO ah (List.replicate ((y.af 0).ae.length+1) (D.z 0))]
def xj (y:D)(c0:Nat)(l1:List D)(m2:List (D×D))(st3:List Nat)(c4:Nat)(l5:List D)(n6 n7:Int):av:=hdL fy 4863 [(1,pO 0),(4,pO 1),(8,vO 2 c0),(13,iO n6),(110,.bx ah (y.af 4).ae),(111,iO ((y.af 4).ae.length:Int)),(112,iO n7)] [cO aM (aH pg aM y),cO bU [.bx cq (y.af 0).ae,vO 5 ((y.af 0).ae.length+1),.map 3,.map 4,iO 0,vO 6 ((y.af 0).ae.length+1)],rO ah l1,.cd bW (.dD 10 aU) m2 st3 c4,.cd bp (.data bW) [] [] 0,rO aj l5,rO ah (List.replicate ((y.af 0).ae.length+1) (D.z 0))]
theorem afX:lh fy [cy,bn] rz (dg y) [] 0 kb Q
 ((fun (j:Nat)=>(fun (v:BV)=>(fun (u:RT)=>.au ui [v] [] 0 fun I=>.ite I.bool (.au gv [pO 0] [(0,cO bU [v,vO 3 j,.map 1,.map 2,iO 0,vO 4 j]),(1,.cd bW (.dD 1 aU) [] [] 0),(2,.cd bp (.data bW) [] [] 0),(3,rO aj (List.replicate j (D.b false))),(4,rO ah (List.replicate j (D.z 0)))] 3 fun A=>.ite (((y.af 4).ae.length:Int)!=A.int) u (.bz (u9 y 0 (List.replicate j (D.b false))))) u) (.aT (.tuple [.gF,iO 71]) [])) (.bx cq (y.af 0).ae)) ((y.af 0).ae.length+1)):=oH _ 0x2ae16e4342e211
theorem KP:lk fy [cy,bn] rz (.bK 0 (kb (dg y) []) Q) (u9 y n0 l1)
 ((fun (p:Int->D)=>(fun (k:RT)=>(fun (j:Nat)=>(fun (u:List (Nat×aE))=>(fun (v:Int->Bool->RT->RT)=>.ite (n0<((y.af 1).ae.length:Int)) (v n0 (n0>0) (v (wp .i64 (n0-1)) ((p n0).int<=(p (wp .i64 (n0-1))).int) k)) (.au gv [pO 0] u 3 fun A=>.gd (vQ A.int A.int 8) (.bz (oN y A.int.toNat (List.replicate A.int.toNat (D.z 0)) l1 0 0 [] [] 0)))) fun i o m=>.gd (di i (y.af 1).ae.length) (.ite o m (.au AX [pO 0,iO (p n0).int] u 3 fun I=>.ite ((I.af 0).int !=0) k (.bz (u9 y (wp .i64 (n0+1)) (I.af 1).ae))))) [(0,cO bU [.bx cq (y.af 0).ae,vO 3 j,.map 1,.map 2,iO 0,vO 4 j]),(1,.cd bW (.dD 1 aU) [] [] 0),(2,.cd bp (.data bW) [] [] 0),(3,rO aj l1),(4,rO ah (List.replicate j (D.z 0)))]) ((y.af 0).ae.length+1)) (.aT (.tuple [.gF,iO 71]) [])) fun i=>D.at (y.af 1).ae i.toNat):=oE _ 0x22112128d5e2115c210301a24d2114c31
theorem Ij:lk fy [cy,bn] rz (.bK 0 (kb (dg y) []) Q) (oN y c0 l1 l2 n3 n4 m5 st6 c7)
 ((fun (I:Nat)=>(fun (J:Int)=>(fun (t:D)=>(fun (q:D)=>(fun (k:RT)=>(fun (j:D)=>(fun (v:D)=>.ite (n4<((y.af 2).ae.length:Int)) (.gd (di n4 (y.af 2).ae.length) (.ite (j.int<=n3) k (.ite (j.int>(y.af 3).int) k (.au rF [pO 0,.agg (aH pg aU q)] [(0,cO bU [.bx cq (y.af 0).ae,vO 3 I,.map 1,.map 2,iO 0,vO 4 I]),(1,.cd bW (.dD 1 aU) m5 st6 c7),(2,.cd bp (.data bW) [] [] 0),(3,rO aj l2),(4,rO ah (List.replicate I (D.z 0)))] 3 fun O=>.ite (! O.bool) k (.call eM [dE pg aU q] fun U=>(fun (A:D)=>(fun (p:D)=>(fun (u:D)=>.ite (D.i7 m5 v) .bT (.gd (D.i7 (m5++[(v,A)]) v) (.ite ((p.af 0).int !=14) (.gd (di u.int c0) (.gd (u.int.toNat<l1.length) (.bz (oN y c0 (List.set l1 u.int.toNat (D.z (wp .i64 ((D.at l1 u.int.toNat).int+1)))) l2 j.int J (m5++[(v,A)]) (st6++[c7]) (c7+1))))) (.bz (oN y c0 l1 l2 j.int J (m5++[(v,A)]) (st6++[c7]) (c7+1)))))) (p.af 1)) (D.val (m5++[(v,A)]) v)) (dE pg aU U)))))) (.bz (xj y c0 l1 m5 st6 c7 l2 0 0))) (D.z j.int)) (t.af 0)) (.aT (.tuple [.gF,iO 71]) [])) (t.af 1)) (D.at (y.af 2).ae n4.toNat)) (wp .i64 (n4+1))) ((y.af 0).ae.length+1)):=oE _ 0x212125d25d22212101521210150051115c315c7e1
theorem Ik:lk fy [cy,bn] rz (.bK 0 (kb (dg y) []) Q) (xj y c0 l1 m2 st3 c4 l5 n6 n7)
 ((fun (p:aE)=>(fun (k:D)=>(fun (j:Nat)=>(fun (v:Bool->RT->RT)=>(fun (u:Int->Nat->aE->List (D×D)->List Nat->Nat->List D->List (Nat×aE))=>.ite (n7<((y.af 4).ae.length:Int)) (.gd (di n7 (y.af 4).ae.length) (.gd (di n7 c0) (.gd (n7.toNat<l1.length) (v (k.int<(D.at l1 n7.toNat).int) (v (k.int>512) (.bz (xj y c0 l1 m2 st3 c4 l5 (wp .i64 (n6+k.int)) (wp .i64 (n7+1))))))))) (v ((y.af 3).int<0) (v ((y.af 3).int>(wp .i64 (64*n6))) (.au db [pO 0] (u 0 j p [] [] 0 (List.replicate j (D.z 0))) 3 fun A=>v (! (A.af 0).bool) (.au oC [pO 0] (u 0 j p (oS (A.af 1)) (pC (A.af 2)) (pB (A.af 3)) (List.replicate j (D.z 0))) 3 fun J=>v ((wp .i64 ((y.af 3).int+J.int))>(wp .i64 (64*n6))) (.au gu [.bx ah (D.r (y.af 4).ae).ae] [] 0 fun I=>.aT (.tuple [pO 0,iO 0]) (u (y.af 3).int I.ae.length (.cd bW (.dD 6 aU) m2 st3 c4) (oS (A.af 1)) (pC (A.af 2)) (pB (A.af 3)) I.ae))))))) fun i o m x g h e=>[(0,cO bU [.bx cq (y.af 0).ae,vO 3 j,.map 1,.map 2,iO i,vO 4 o]),(1,m),(2,.cd bp (.data bW) x g h),(3,rO aj l5),(4,rO ah e)]) fun i o=>.ite i (.aT (.tuple [.gF,iO 71]) []) o) ((y.af 0).ae.length+1)) (D.at (y.af 4).ae n7.toNat)) (.cd bW (.dD 1 aU) m2 st3 c4)):=oE _ 0x225d23d26d400643d2411ac313cce15c109121212122d2112c31
end
section
variable {y:D} {Q:D->Prop} {n0 n1 n2 n3 n6 n5:Int} {l1 l0 l3 l2 l5 l6 l4:List D} {c4 c1:Nat}
def oz:cK:={f:=ct,rs:=[aW,bn],bK:=some 0,cj:=[(jf,[aU,ah],[aj]),(ky,[aU],[aU]),(lC,[ah],[aj])],bJ:=[(zA,aG),(eO,aG),(iA,aG),(xz,Ce),(rD,Cb)],bB:=[⟨ct,0,16881,[1,4,6],[]⟩,⟨ct,0,16797,[1,4,8,7],[]⟩,⟨ct,0,16684,[4,9,1,7,10],[]⟩,⟨ct,0,16570,[4,9,7,12],[]⟩,⟨ct,0,16527,[4,7,13],[]⟩,⟨ct,0,16461,[4,7,15],[]⟩]}
@[simp] theorem ajD:oz.f=ct/\oz.rs=[aW,bn]:=⟨rfl,rfl⟩
def w6 (y:D)(n0:Int)(l1:List D):av:=hdL ct 151 [(1,pO 0),(4,pO 1),(6,iO n0)] [cO aM (aH pg aM y),cO bQ [vO 2 (y.af 0).ae.length,vO 3 (y.af 0).ae.length,vO 4 0,iO 0,vO 5 ((y.af 0).ae.length+1)],rO ah (y.af 0).ae,rO aj l1,rO bF [],rO ah (List.replicate ((y.af 0).ae.length+1) (D.z 0))]
def w7 (y:D)(l0:List D)(n1 n2:Int)(l3:List D):av:=hdL ct 607 [(1,pO 0),(4,pO 1),(7,iO n1),(8,iO n2)] [cO aM (aH pg aM y),cO bQ [vO 2 (y.af 0).ae.length,vO 3 (y.af 0).ae.length,vO 4 0,iO 0,vO 5 ((y.af 0).ae.length+1)],rO ah (y.af 0).ae,rO aj l0,rO bF [],rO ah l3]
def mW (y:D)(n0:Int)(l1 l2:List D)(n3:Int)(c4:Nat)(l5 l6:List D):av:=hdL ct 9727 [(1,pO 0),(4,pO 1),(7,iO n0),(9,vO 2 (y.af 4).ae.length),(10,iO n3)] [cO aM (aH pg aM y),cO bQ [vO 3 (y.af 0).ae.length,vO 4 (y.af 0).ae.length,vO 5 c4,iO (y.af 3).int,vO 6 ((y.af 0).ae.length+1)],rO ah l5,rO ah (y.af 0).ae,rO aj l1,rO bF l6,rO ah l2]
def sB (y:D)(n0:Int)(c1:Nat)(l2 l3:List D)(l4 l5:List D)(n6:Int):av:=hdL ct 19455 [(4,pO 0),(7,iO n0),(9,vO 1 (y.af 4).ae.length),(12,iO n6)] [cO bQ [vO 2 (y.af 0).ae.length,vO 3 (y.af 0).ae.length,vO 4 c1,iO (y.af 3).int,vO 5 ((y.af 0).ae.length+1)],rO ah l2,rO ah (y.af 0).ae,rO aj l3,rO bF l4,rO ah l5]
def og (y:D)(n0:Int)(c1:Nat)(l2 l3 l4:List D)(n5:Int):av:=hdL ct 38911 [(4,pO 0),(7,iO n0),(13,iO n5)] [cO bQ [vO 1 (y.af 0).ae.length,vO 2 (y.af 0).ae.length,vO 3 c1,iO (y.af 3).int,vO 4 ((y.af 0).ae.length+1)],rO ah (y.af 0).ae,rO aj l2,rO bF l3,rO ah l4]
def sD (y:D)(n0:Int)(c1:Nat)(l2 l3 l4:List D)(n5:Int):av:=hdL ct 77823 [(4,pO 0),(7,iO n0),(15,iO n5)] [cO bQ [vO 1 (y.af 0).ae.length,vO 2 (y.af 0).ae.length,vO 3 c1,iO (y.af 3).int,vO 4 ((y.af 0).ae.length+1)],rO ah (y.af 0).ae,rO aj l2,rO bF l3,rO ah l4]
theorem acY:lh ct [aW,bn] oz (dg y) [] 0 eE Q
 ((fun (u:RT)=>.au xz [.bx cq (y.af 0).ae] [] 0 fun A=>.ite A.bool (.ite (((y.af 4).ae.length:Int)!=(wp .i64 (((y.af 0).ae.length:Int)+1))) u (.bz (w6 y 0 (List.replicate (y.af 0).ae.length (D.b false))))) u) (.aT (.tuple [.gF,iO 71]) [])):=oH _ 0x2ae19e211
theorem HV:lk ct [aW,bn] oz (.bK 0 (eE (dg y) []) Q) (w6 y n0 l1)
 ((fun (p:Int)=>(fun (k:RT)=>(fun (j:D)=>(fun (v:Int)=>(fun (u:RT)=>.ite (n0<((y.af 1).ae.length:Int)) (.gd (di n0 (y.af 1).ae.length) (.ite (j.int<1) k (.ite (j.int>((y.af 0).ae.length:Int)) k (.ite (n0>0) (.gd (di p (y.af 1).ae.length) (.ite (j.int<=(D.at (y.af 1).ae p.toNat).int) k u)) u)))) (.bz (w7 y l1 0 0 (List.replicate ((y.af 0).ae.length+1) (D.z 0))))) (.gd (di v (y.af 0).ae.length) (.gd (v.toNat<l1.length) (.bz (w6 y (wp .i64 (n0+1)) (List.set l1 v.toNat (D.b true))))))) (wp .i64 (j.int-1))) (D.at (y.af 1).ae n0.toNat)) (.aT (.tuple [.gF,iO 71]) [])) (wp .i64 (n0-1))):=oE _ 0x212123d0156d22d2bd0160060163035212113c0356c210201a02601502620552121114c319c6e1
theorem HW:lk ct [aW,bn] oz (.bK 0 (eE (dg y) []) Q) (w7 y l0 n1 n2 l3)
 ((fun (j:Int)=>(fun (v:D)=>(fun (u:RT)=>(fun (k:D->Int->RT->RT)=>.ite (n2<j) (.gd (di n2 (y.af 4).ae.length) (k v 512 (.gd (di n2 ((y.af 0).ae.length+1)) (.gd (n2.toNat<l3.length) (.bz (w7 y l0 (wp .i64 (n1+v.int)) (wp .i64 (n2+1)) (List.set l3 n2.toNat (D.z v.int)))))))) (k (y.af 3) (wp .i64 (64*n1)) (.ite (((y.af 2).ae.length:Int)>(wp .i64 (64*n1))) u (.gd (vQ j j 8) (.bz (mW y n1 l0 l3 0 0 (List.replicate (y.af 4).ae.length (D.z 0)) [])))))) fun i o m=>.ite (i.int<0) u (.ite (i.int>o) u m)) (.aT (.tuple [.gF,iO 71]) [])) (D.at (y.af 4).ae n2.toNat)) ((y.af 4).ae.length:Int)):=oE _ 0x225d26d221116c315c8e12123d0153d20252121045116c31
theorem Ga:lk ct [aW,bn] oz (.bK 0 (eE (dg y) []) Q) (mW y n0 l1 l2 n3 c4 l5 l6)
 ((fun (k:Bool)=>(fun (j:RT)=>(fun (v:Nat->D)=>(fun (p:D)=>(fun (u:RT)=>.ite (n3<((y.af 2).ae.length:Int)) (.gd (di n3 (y.af 2).ae.length) (.ite ((v 0).int<1) j (.ite ((v 0).int>(y.af 3).int) j (.ite (n3>0) (.gd (di (wp .i64 (n3-1)) (y.af 2).ae.length) (.ite ((v 0).int<=((D.at (y.af 2).ae (wp .i64 (n3-1)).toNat).af 0).int) j u)) u)))) (.bz (sB y n0 c4 l5 l1 l6 l2 0))) (.call jf [p,D.z ((y.af 4).ae.length:Int)] fun A=>.ite (! A.bool) j (.ite ((wp .i64 ((v 1).af 0).int)!=14) (.gd (di ((v 1).af 1).int (y.af 4).ae.length) (.gd (((v 1).af 1).int.toNat<l5.length) (.call ky [p] fun J=>.gd k (.bz (mW y n0 l1 l2 (wp .i64 (n3+1)) (c4+1) (List.set l5 ((v 1).af 1).int.toNat (D.z (wp .i64 ((D.at l5 ((v 1).af 1).int.toNat).int+1)))) (l6++[D.r [D.z (v 0).int,dE pg aU J]])))))) (.call ky [p] fun I=>.gd k (.bz (mW y n0 l1 l2 (wp .i64 (n3+1)) (c4+1) l5 (l6++[D.r [D.z (v 0).int,dE pg aU I]]))))))) (dE pg aU (v 1))) fun i=>(D.at (y.af 2).ae n3.toNat).af i) (.aT (.tuple [.gF,iO 71]) [])) ((c4=l6.length)&&(bh 200 (c4+1)))):=oE _ 0x212125d22d29d0160060168e22443211212101500544321116c210301a02601502627d22443211212101500544321117c314c9e15cee1
theorem Ey:lk ct [aW,bn] oz (.bK 0 (eE (dg y) []) Q) (sB y n0 c1 l2 l3 l4 l5 n6)
 (.ite (n6<((y.af 4).ae.length:Int)) (.gd (di n6 (y.af 4).ae.length) (.gd (n6.toNat<l2.length) (.gd (di n6 ((y.af 0).ae.length+1)) (.gd (n6.toNat<l5.length) (.ite ((D.at l2 n6.toNat).int>(D.at l5 n6.toNat).int) (.aT (.tuple [.gF,iO 71]) []) (.bz (sB y n0 c1 l2 l3 l4 l5 (wp .i64 (n6+1))))))))) (.bz (og y n0 c1 l3 l4 l5 0))):=oE _ 0x2121212121211
theorem Ez:lk ct [aW,bn] oz (.bK 0 (eE (dg y) []) Q) (og y n0 c1 l2 l3 l4 n5)
 ((fun (j:RT)=>(fun (u:List (Nat×aE))=>.ite (n5<(c1:Int)) (.gd (di n5 c1) (.gd (n5.toNat<l3.length) (.au rD [pO 0,iO ((D.at l3 n5.toNat).af 0).int] u 1 fun A=>(fun (v:Int)=>.ite (v>(c1:Int)) j (.gd (di (wp .i64 (v-1)) A.ae.length) (.gd ((wp .i64 (v-1)).toNat<A.ae.length) (.au zA [pO 0,iO (D.at A.ae (wp .i64 (v-1)).toNat).int] u 1 fun I=>.call lC [D.z I.int] fun J=>.ite J.bool j (.bz (og y n0 c1 l2 l3 l4 (wp .i64 (n5+1)))))))) (A.ae.length:Int)))) (.bz (sD y n0 c1 l2 l3 l4 0))) [(0,cO bQ [vO 1 (y.af 0).ae.length,vO 2 (y.af 0).ae.length,vO 3 c1,iO (y.af 3).int,vO 4 ((y.af 0).ae.length+1)]),(1,rO ah (y.af 0).ae),(2,rO aj l2),(3,rO bF l3),(4,rO ah l4)]) (.aT (.tuple [.gF,iO 71]) [])):=oE _ 0x21212125d21016210302b2119c31
theorem EA:lk ct [aW,bn] oz (.bK 0 (eE (dg y) []) Q) (sD y n0 c1 l2 l3 l4 n5)
 ((fun (v:RT)=>(fun (u:List (Nat×aE))=>.ite (n5<(c1:Int)) (.gd (di n5 c1) (.gd (n5.toNat<l3.length) (.au eO [pO 0,iO ((D.at l3 n5.toNat).af 0).int,.agg (aH pg aU ((D.at l3 n5.toNat).af 1))] u 1 fun I=>.ite (I.int !=0) v (.bz (sD y n0 c1 l2 l3 l4 (wp .i64 (n5+1))))))) (.au iA [pO 0] u 1 fun A=>.ite ((wp .i64 ((y.af 3).int+A.int))>(wp .i64 (64*n0))) v (.aT (.tuple [pO 0,iO 0]) u))) [(0,cO bQ [vO 1 (y.af 0).ae.length,vO 2 (y.af 0).ae.length,vO 3 c1,iO (y.af 3).int,vO 4 ((y.af 0).ae.length+1)]),(1,rO ah (y.af 0).ae),(2,rO aj l2),(3,rO bF l3),(4,rO ah l4)]) (.aT (.tuple [.gF,iO 71]) [])):=oE _ 0x2442112121015005211
end
section
variable {a0:D} {Q:D->Prop} {n0:Int}
def Sg:cK:={cj:=[(j6,[aU],[aj])],bB:=[⟨tv,0,16425,[1,3],[]⟩]}
def yX (a0:D)(n0:Int):av:=hdL tv 75 [(1,pO 0),(3,iO n0)] [cO aM (aH pg aM a0)]
theorem ac7:lp tv [aj] Sg [aM] [a0] Q
 ((fun (v:Nat->Int->RT->RT)=>(fun (u:Nat->Int->Nat->RT->RT)=>u 2 120 0 (u 1 40 4 (.bz (yX a0 0)))) fun i o m x=>v i o (v m 40 x)) fun i o m=>.ite (((a0.af i).ae.length:Int)>o) (.ret (D.b false)) m):=oP _ 0x24d24d24d2114c314c6e14cbe1
theorem KO:lk tv [aj] Sg (.cY Q) (yX a0 n0)
 (.ite (n0<((a0.af 2).ae.length:Int)) (.gd (di n0 (a0.af 2).ae.length) (.call j6 [dE pg aU ((D.at (a0.af 2).ae n0.toNat).af 1)] fun A=>.ite (! A.bool) (.ret (D.b false)) (.bz (yX a0 (wp .i64 (n0+1)))))) (.ret (D.b true))):=oE _ 0x2121211
def O2:cK:={cj:=[(j6,[aU],[aj])],bB:=[⟨pU,0,16438,[0,3],[]⟩]}
def wO (a0:D)(n0:Int):av:=hdL pU 75 [(0,.bx aV a0.ae),(3,iO n0)] []
theorem Y3:lp pU [aj] O2 [br] [a0] Q
 (.ite ((a0.ae.length:Int)>40) (.ret (D.b false)) (.bz (wO a0 0))):=oP _ 0x211
theorem HI:lk pU [aj] O2 (.cY Q) (wO a0 n0)
 ((fun (u:D)=>.ite (n0<(a0.ae.length:Int)) (.gd (di n0 a0.ae.length) (.call j6 [D.r [D.z 0,D.z 0,D.r [D.z 0,D.z 0,D.s [],D.r [],D.z 0],D.r [],D.z 0,D.z 0,D.z 0,D.z 0,D.z 0,D.b false,D.r (u.af 1).ae,D.r (u.af 2).ae]] fun A=>.ite (! A.bool) (.ret (D.b false)) (.ite (((u.af 3).ae.length:Int)>300) (.ret (D.b false)) (.bz (wO a0 (wp .i64 (n0+1))))))) (.ret (D.b true))) (D.at a0.ae n0.toNat)):=oE _ 0x212100522d0155d2117c31
end
section
variable {W:WS} {Q:D->Prop} {c0:Nat} {l1 l2:List D}
def Vm:cK:={bK:=some 3,bJ:=[(Aa,Di)],bB:=[⟨ud,0,16417,[15,3],[]⟩],pns:=[(Aa,1)]}
def xD (W:WS)(c0:Nat)(l1 l2:List D):av:=hdL ud 75 [(3,vO 3 c0),(15,pO 4)] [wrC W 5 1 2 6,wrT W 1,wrF W,rO bW l1,.nb 1 (D.fh W.th) W.st W.ck l2,rO aj W.cu,rO ah W.ma]
theorem afI:lh ud [dH] Vm (bG W) (Wm W) 3 Cd Q
 (.gd (vQ 0 (W.th.length:Int) 8) (.bz (xD W 0 (List.replicate 0 (D.z 0)) []))):=oH _ 0x211
theorem W9:lk ud [dH] Vm (.bK 3 (Cd (bG W) (Wm W)) Q) (xD W c0 l1 l2)
 (.gd (xR W.th W.st W.ck (D.fh W.th) W.st W.ck) (.pick (D.fh W.th) l2 (.au Aa [vO 0 c0] [(0,rO bW l1)] 1 fun I=>.aT (vO 3 c0) [(0,cO bU [.bx cq W.pa,vO 4 W.cu.length,.map 1,.map 2,iO W.la,vO 5 W.ma.length]),(1,.cd bW (.dD 1 aU) W.th W.st W.ck),(2,.cd bp (.data bW) W.fa W.sf W.cf),(3,rO bW I.ae),(4,rO aj W.cu),(5,rO ah W.ma)]) fun A=>.gd ((c0=l1.length)&&(bh 8 (c0+1))) (.bz (xD W (c0+1) (l1++[D.z A.int]) (A::l2))))):=oE _ 0x2123005321131
end
section
variable {W:WS} {Q:D->Prop} {c0 c1 c5 c2 c3 c7 c10:Nat} {l2 l3 l6 l4 l5 l8 l11:List D} {n4 n1 n9:Int}
def O0:cK:={bK:=some 3,cj:=[(eM,[aU],[aU])],bJ:=[(gu,pD),(gM,tJ),(ud,Cd)],bB:=[⟨gO,0,16469,[3,29,0,2,30,31],[]⟩,⟨gO,0,16428,[3,0,45,2,46,47],[]⟩],yd:=[(aM,1,ah),(aM,2,bF)],fzr:=[some aM],PU:=[(gM,[some kG])],pns:=[(gu,1)]}
def uF (W:WS)(c0 c1:Nat)(l2 l3:List D)(n4:Int)(c5:Nat)(l6:List D):av:=hdL gO 151 [(0,pO 0),(2,pO 3),(3,pO 4),(29,vO 5 W.cu.length),(30,iO (W.cu.length:Int)),(31,iO n4)] [wrC W 5 1 2 6,wrT W 1,wrF W,cO aM [.cS,vO 7 0,vO 8 0,iO 0,.cS],cO aM [vO 9 c0,vO 10 c5,vO 11 0,iO W.la,vO 12 c1],rO aj W.cu,rO ah W.ma,rO ah [],rO bF [],rO cq l2,rO ah l6,rO bF [],rO ah l3]
def yN (W:WS)(c0:Nat)(n1:Int)(c2 c3:Nat)(l4 l5 l6:List D)(c7:Nat)(l8:List D)(n9:Int)(c10:Nat)(l11:List D):av:=hdL gO 303 [(0,pO 0),(2,pO 3),(3,pO 4),(45,vO 5 c0),(46,iO n1),(47,iO n9)] [wrC W 6 1 2 7,wrT W 1,wrF W,cO aM [.cS,vO 8 0,vO 9 0,iO 0,.cS],cO aM [vO 10 c2,vO 11 c7,vO 12 c10,iO W.la,vO 13 c3],rO bW l4,rO aj W.cu,rO ah W.ma,rO ah [],rO bF [],rO cq l5,rO ah l8,rO bF l11,rO ah l6]
theorem afF:lh gO [aM] O0 (bG W) (Wm W) 3 iT Q
 (.au gM [.bx cq (D.r W.pa).ae] [] 0 fun I=>.au gu [vO 0 W.ma.length] [(0,rO ah W.ma)] 1 fun A=>.bz (uF W I.ae.length A.ae.length I.ae A.ae 0 0 [])):=oH _ 0x7e4441
theorem Kz:lk gO [aM] O0 (.bK 3 (iT (bG W) (Wm W)) Q) (uF W c0 c1 l2 l3 n4 c5 l6)
 (.ite (n4<(W.cu.length:Int)) (.gd (di n4 W.cu.length) (.gd (n4.toNat<W.cu.length) (.ite (D.at W.cu n4.toNat).bool (.gd ((c5=l6.length)&&(bh 8 (c5+1))) (.bz (uF W c0 c1 l2 l3 (wp .i64 (n4+1)) (c5+1) (l6++[D.z n4])))) (.bz (uF W c0 c1 l2 l3 (wp .i64 (n4+1)) c5 l6))))) (.au ud [pO 0] (Wm W) 3 fun A=>.bz (yN W A.ae.length (A.ae.length:Int) c0 c1 A.ae l2 l3 c5 l6 0 0 []))):=oE _ 0x212121213211
theorem KA:lk gO [aM] O0 (.bK 3 (iT (bG W) (Wm W)) Q) (yN W c0 n1 c2 c3 l4 l5 l6 c7 l8 n9 c10 l11)
 ((fun (v:Bool)=>(fun (u:D)=>.ite (n9<n1) (.gd (di n9 c0) (.gd (n9.toNat<l4.length) (.gd (D.i7 W.th u) (.call eM [dE pg aU (D.val W.th u)] fun A=>.gd (v&&(bh 200 (c10+1))) (.bz (yN W c0 n1 c2 c3 l4 l5 l6 c7 l8 (wp .i64 (n9+1)) (c10+1) (l11++[D.r [u,dE pg aU A]]))))))) (.gd (c2=l5.length) (.gd (c7=l8.length) (.gd v (.gd (c3=l6.length) (.aT (.agg (aH pg aM (D.r [D.r l5,D.r l8,D.r l11,D.z W.la,D.r l6]))) (Wm W))))))) (D.z (D.at l4 n9.toNat).int)) (c10=l11.length)):=oE _ 0x221212121121212100543211
end
section
variable {R:RS} {Q:D->Prop} {n0 n4:Int} {c1 c2 c0 c5:Nat} {l3 l4 l2 l6:List D}
def LC:cK:={bK:=some 1,cj:=[(ky,[aU],[aU])],bB:=[⟨kR,0,16516,[3,0,2,4],[]⟩,⟨kR,0,16456,[3,0,2,5],[]⟩],yd:=[(aM,0,cq),(aM,1,ah),(aM,2,bF),(aM,4,ah)],fzr:=[some aM]}
def uC (R:RS)(n0:Int)(c1 c2:Nat)(l3 l4:List D):av:=hdL kR 75 [(0,pO 0),(2,pO 1),(3,pO 2),(4,iO n0)] [rrC R 3 4 5 6,cO aM [vO 7 0,vO 8 0,vO 9 0,iO 0,vO 10 0],cO aM [vO 11 c1,vO 12 c2,vO 13 0,iO 0,vO 14 0],rO ah R.pa,rO aj R.cu,rO bF R.th,rO ah R.ma,rO cq [],rO ah [],rO bF [],rO ah [],rO cq l3,rO ah l4,rO bF [],rO ah []]
def wM (R:RS)(c0 c1:Nat)(l2 l3:List D)(n4:Int)(c5:Nat)(l6:List D):av:=hdL kR 151 [(0,pO 0),(2,pO 1),(3,pO 2),(5,iO n4)] [rrC R 3 4 5 6,cO aM [vO 7 0,vO 8 0,vO 9 0,iO 0,vO 10 0],cO aM [vO 11 c0,vO 12 c1,vO 13 c5,iO 0,vO 14 0],rO ah R.pa,rO aj R.cu,rO bF R.th,rO ah R.ma,rO cq [],rO ah [],rO bF [],rO ah [],rO cq l2,rO ah l3,rO bF l6,rO ah []]
theorem acC:lh kR [aM] LC (il R) (Rm R) 1 iT Q
 (.bz (uC R 0 0 0 [] [])):=oH _ 0x1
theorem Ky:lk kR [aM] LC (.bK 1 (iT (il R) (Rm R)) Q) (uC R n0 c1 c2 l3 l4)
 ((fun (j:Nat->RT->RT)=>(fun (v:D)=>(fun (u:Int)=>.ite (n0<(R.pa.length:Int)) (j R.pa.length (.gd ((c1=l3.length)&&(bh 8 (c1+1))) (j R.cu.length (.ite (D.at R.cu n0.toNat).bool (.gd ((c2=l4.length)&&(bh 8 (c2+1))) (.bz (uC R u (c1+1) (c2+1) (l3++[v]) (l4++[D.z u])))) (.bz (uC R u (c1+1) c2 (l3++[v]) l4)))))) (.bz (wM R c1 c2 l3 l4 0 0 []))) (wp .i64 (n0+1))) (D.z (D.at R.pa n0.toNat).int)) fun i o=>.gd (di n0 i) (.gd (n0.toNat<i) o)):=oE _ 0x2121213212121213211
theorem HD:lk kR [aM] LC (.bK 1 (iT (il R) (Rm R)) Q) (wM R c0 c1 l2 l3 n4 c5 l6)
 ((fun (j:Nat)=>(fun (v:D)=>(fun (u:Nat->D)=>.ite (n4<(R.th.length:Int)) (.gd (di n4 R.th.length) (.gd (n4.toNat<R.th.length) (.call ky [D.r [D.z (u 0).int,D.z (u 1).int,D.r [D.z ((u 2).af 0).int,D.z ((u 2).af 1).int,D.s ((u 2).af 2).ax,D.r ((u 2).af 3).ae,D.z ((u 2).af 4).int],D.r (u 3).ae,D.z (u 4).int,D.z (u 5).int,D.z (u 6).int,D.z (u 7).int,D.z (u 8).int,D.b (u 9).bool,D.r (u 10).ae,D.r (u 11).ae]] fun A=>(fun (k:Nat->D)=>.gd ((c5=l6.length)&&(bh 200 (c5+1))) (.bz (wM R c0 c1 l2 l3 (wp .i64 (n4+1)) (c5+1) (l6++[D.r [D.z ((D.at R.th n4.toNat).af 0).int,D.r [D.z (A.af 0).int,D.z (A.af 1).int,D.r [D.z (k 0).int,D.z (k 1).int,D.s (k 2).ax,D.r (k 3).ae,D.z (k 4).int],D.r (A.af 3).ae,D.z (A.af 4).int,D.z (A.af 5).int,D.z (A.af 6).int,D.z (A.af 7).int,D.z (A.af 8).int,D.b (A.af 9).bool,D.r (A.af 10).ae,D.r (A.af 11).ae]]])))) fun i=>(A.af 2).af i))) (.gd (R.ma.length<=R.ma.length) (.gd (true&&(bh 8 j)) (.gd (c0=l2.length) (.gd (c1=l3.length) (.gd (c5=l6.length) (.gd (j=([]++(List.take R.ma.length R.ma)).length) (.aT (.agg [.bx cq (v.af 0).ae,.bx ah (v.af 1).ae,.bx bF (v.af 2).ae,iO (v.af 3).int,.bx ah (v.af 4).ae]) (Rm R))))))))) fun i=>((D.at R.th n4.toNat).af 1).af i) (D.r [D.r l2,D.r l3,D.r l6,D.z R.la,D.r ([]++(List.take R.ma.length R.ma))])) (0+(List.take R.ma.length R.ma).length)):=oE _ 0x2212121212121121210150054400543211
end
section
variable {l:List D} {Q:D->Prop}
def OX:cK:={bK:=some 1,Eb:=[some ah]}
theorem Qc:lh PS [jW] OX (mg l) (zL l) 1 E4 Q
 ((fun (z:Nat->List D->RT)=>(fun (v:Nat)=>(fun (u:RT)=>.ite (l.length=(0:Nat)) (.Lk (z 0 []) u) u) (.gd (l.length<=l.length) (.gd (true&&(bh 8 v)) (z v ([]++(List.take l.length l)))))) (0+(List.take l.length l).length)) fun i o=>.aT (vO 1 i) [(0,rO ah l),(1,rO ah o)]):=oH _ 0x2006321211232121131
end



end Go.Proofs
end
