import Derived.Test.YtdoajjnobfjkcaaGreatM9
set_option linter.all false
noncomputable section
open Go.IntKind renaming wrap→wp
set_option maxHeartbeats 8000000
namespace Go.Proofs
open Go Go.PB
section
variable {W:WS} {r n0 n1 k o:Int} {Q:D->Prop} {l0:List D}
def NI:cm:={f:=cH,rs:=[ai],bx:=some 3}
@[simp] theorem agv:NI.f=cH/\NI.rs=[ai]:=⟨rfl,rfl⟩
theorem aer:lh NI (Xh W r) (Wm W) 3 sw Q
 (.ite (D.cS W.th (D.z r)) (.aS (.bool true) (Wm W)) (.aS (.bool false) (Wm W))):=
  oH NI 0x0c9202910291
def Gc:cm:={f:=ib,rs:=[lO],bx:=some 3,bL:=[(cH,sw)]}
@[simp] theorem aeN:Gc.f=ib/\Gc.rs=[lO]:=⟨rfl,rfl⟩
theorem YZ:lh Gc (OW W r) (Wm W) 3 F0 Q
 (.aC cH [(.aP 0 0),(.int .i64 r)] (Wm W) 3 fun d0=>(.ite (! d0.bool) (.aS (.int .u8 0) (Wm W)) (.gd (D.cS W.th (D.z r)) (.aS (.int .u8 ((D.val W.th (D.z r)).aa 0).int) (Wm W))))):=
  oH Gc 0x22100511
def zI:cm:={f:=lx,rs:=[lM],bx:=some 3,cz:=[(GG,[lO],[lM])],bL:=[(cH,sw)],bJ:=[⟨lx,0,16465,[0,5,1],[]⟩]}
@[simp] theorem aeL:zI.f=lx/\zI.rs=[lM]:=⟨rfl,rfl⟩
def uU (W:WS)(r n0 n1:Int):au:=hdS lx 77 [(0,(.aP 0 0)),(1,(.int .i64 n0)),(5,(.int .u8 n1))] [(0,wrC W 3 1 2 4),(1,wrT W 1),(2,wrF W),(3,(.ak ai W.cu true)),(4,(.ak af W.ma true))]
theorem YX:lh zI (FO W r) (Wm W) 3 xb Q
 (.bj (uU W r r 63)):=
  oH zI 0x1
theorem QC:lk zI (.bx 3 (xb (FO W r) (Wm W)) Q) (uU W r n0 n1)
 ((fun (k:D)=>((fun (j:RT)=>((fun (v:D)=>((fun (u:Int)=>(.aC cH [(.aP 0 0),(.int .i64 n0)] (Wm W) 3 fun d0=>(.ite (! d0.bool) (.aS (.int .u8 0) (Wm W)) (.gd (D.cS W.th (D.z n0)) (.ite (v.int==(14:Int)) (.bj (uU W r (k.aa 6).int (wp .u8 ((BitVec.toNat ((BitVec.ofInt 8 u) &&& (BitVec.ofInt 8 (D.z (k.aa 8).int).int))):Int)))) (.ite (v.int==(15:Int)) j (.ite (v.int==(16:Int)) j (.call GG [(D.z v.int)] fun d1=>(.aS (.int .u8 (wp .u8 ((BitVec.toNat ((BitVec.ofInt 8 u) &&& (BitVec.ofInt 8 (D.z d1.int).int))):Int))) (Wm W)))))))))) (wp .u8 ((BitVec.toNat ((BitVec.ofInt 8 63) &&& (BitVec.ofInt 8 (D.z n1).int))):Int)))) (k.aa 0))) (.bj (uU W r (k.aa 6).int n1)))) (D.val W.th (D.z n0))):=
  oE zI 0x22100522203507910351005025101507901511
def wA:cm:={f:=jU,rs:=[ai],bx:=some 3,bJ:=[⟨jU,0,16435,[3,2,1,15],[]⟩]}
@[simp] theorem adF:wA.f=jU/\wA.rs=[ai]:=⟨rfl,rfl⟩
def nW (W:WS)(r k o:Int)(l0:List D):au:=hdS jU 37 [(1,(.int .i64 r)),(2,(.int .u8 k)),(3,(.int .i64 o)),(15,(.aP 3 0))] [(0,wrC W 4 1 2 5),(1,wrT W 1),(2,wrF W),(3,(.gV 1 (D.ct W.th) W.st W.ck l0)),(4,(.ak ai W.cu true)),(5,(.ak af W.ma true))]
theorem VR:lh wA (wu W r k o) (Wm W) 3 sx Q
 (.bj (nW W r k o [])):=
  oH wA 0x1
theorem Ox:lk wA (.bx 3 (sx (wu W r k o) (Wm W)) Q) (nW W r k o l0)
 (.gd (oK W.th W.st W.ck (D.ct W.th) W.st W.ck) (.pick (D.ct W.th) l0 (.aS (.bool false) (Wm W)) fun d0=>((fun (u:RT)=>(.ite (d0.int !=(r:Int)) (.gd (D.cS W.th d0) (.ite (((D.val W.th d0).aa 0).int==(k:Int)) (.ite (((D.val W.th d0).aa 6).int==(o:Int)) (.aS (.bool true) (Wm W)) u) u)) u)) (.bj (nW W r k o (d0::l0)))))):=
  oE wA 0x212300520600b08910300a210301a20600b310300a0150300a21131
end
section
variable {W:WS} {l l1:List D} {Q:D->Prop} {n0 s:Int} {y:D}
def iL:cm:={f:=cy,rs:=[af],bx:=some 4,bL:=[(cH,sw)],bJ:=[⟨cy,0,16423,[0,1,7,8],[]⟩]}
@[simp] theorem U2:iL.f=cy/\iL.rs=[af]:=⟨rfl,rfl⟩
def kV (W:WS)(l:List D)(n0:Int):au:=hdS cy 37 [(0,(.bw aA l)),(1,(.func (.func uh) [] [(.aP 0 0)])),(7,(.int .i64 (l.length:Int))),(8,(.int .i64 n0))] [(0,(.cells [(.aP 1 0)] b6 false)),(1,wrC W 4 2 3 5),(2,wrT W 2),(3,wrF W),(4,(.ak ai W.cu true)),(5,(.ak af W.ma true))]
theorem Jx:lh iL (pG W l) (XA W) 4 eW Q
 (.bj (kV W l 0)):=
  oH iL 0x1
theorem xC:lk iL (.bx 4 (eW (pG W l) (XA W)) Q) (kV W l n0)
 (.ite (decide (n0<(l.length:Int))) (.gd (cP n0 l.length) (.aC cH [(.aP 0 0),(.int .i64 (D.at l n0.toNat).int)] (Wm W) 3 fun d0=>(.ite (! d0.bool) (.aS (.int .i64 n0) (XA W)) (.bj (kV W l (wp .i64 (n0+1))))))) (.aS (.int .i64 (-1)) (XA W))):=
  oE iL 0x2121211
def kM:cm:={f:=bM,rs:=[ai],bx:=some 4,bL:=[(cy,eW)],D0:=[(cy,[some aW,none])]}
@[simp] theorem Ru:kM.f=bM/\kM.rs=[ai]:=⟨rfl,rfl⟩
theorem Fx:lh kM (wU W l) (XA W) 4 fl Q
 (.aC cy [(.bw aA (D.r l).ae),(.func (.func uh) [] [(.aP 0 0)])] (XA W) 4 fun d0=>(.aS (.bool (decide (d0.int≥(0:Int)))) (XA W))):=
  oH kM 0x1
def DC:cm:={f:=sR,rs:=[ai],bx:=some 3,bL:=[(fj,tV),(bM,fl)],D0:=[(bM,[some aW,none])]}
@[simp] theorem adE:DC.f=sR/\DC.rs=[ai]:=⟨rfl,rfl⟩
theorem VQ:lh DC (Mo W y) (Wm W) 3 Dw Q
 (.aC fj [(.agg (aK pg aH y))] [] 0 fun d0=>(.gd (decide (d0.ae.length=d0.ae.length)) (.aC bM [(.bw aA (D.r d0.ae).ae),(.func (.func uh) [] [(.aP 0 0)])] (XA W) 4 fun d1=>(.aS (.bool (! d1.bool)) (Wm W))))):=
  oH DC 0x211
def wB:cm:={f:=mn,rs:=[af],bx:=some 3,cz:=[(gh,[Z9],[af])],bL:=[(lx,xb)],bJ:=[⟨mn,0,16432,[0,10,3],[]⟩]}
@[simp] theorem adH:wB.f=mn/\wB.rs=[af]:=⟨rfl,rfl⟩
def nZ (W:WS)(n0:Int)(l1:List D):au:=hdS mn 75 [(0,(.aP 0 0)),(3,(.int .i64 n0)),(10,(.aP 3 0))] [(0,wrC W 4 1 2 5),(1,wrT W 1),(2,wrF W),(3,(.gV 1 (D.ct W.th) W.st W.ck l1)),(4,(.ak ai W.cu true)),(5,(.ak af W.ma true))]
theorem VT:lh wB (wv W) (Wm W) 3 sy Q
 (.bj (nZ W 0 [])):=
  oH wB 0x1
theorem OA:lk wB (.bx 3 (sy (wv W) (Wm W)) Q) (nZ W n0 l1)
 (.gd (oK W.th W.st W.ck (D.ct W.th) W.st W.ck) (.pick (D.ct W.th) l1 (.aS (.int .i64 n0) (Wm W)) fun d0=>(.gd (D.cS W.th d0) (.ite (((D.val W.th d0).aa 0).int==(14:Int)) (.bj (nZ W (wp .i64 (n0-1)) (d0::l1))) (.aC lx [(.aP 0 0),(.int .i64 d0.int)] (Wm W) 3 fun d1=>(.call gh [(D.z (wp .u64 d1.int))] fun d2=>(.gd (decide ((0:Int)<=d2.int)) (.bj (nZ W (wp .i64 (n0+(wp .i64 ((wp .i64 (1*(2^(min d2.int.toNat 64))))-1)))) (d0::l1)))))))))):=
  oE wB 0x2123005212211131
def DB:cm:={f:=dG,rs:=[af],bx:=some 3}
@[simp] theorem adC:DB.f=dG/\DB.rs=[af]:=⟨rfl,rfl⟩
theorem VO:lh DB (Mn W) (Wm W) 3 nI Q
 (.aS (.int .i64 (W.ma.length:Int)) (Wm W)):=
  oH DB 0x0791
def Gg:cm:={f:=zU,rs:=[ai],bx:=some 3,bL:=[(dG,nI)]}
@[simp] theorem aeU:Gg.f=zU/\Gg.rs=[ai]:=⟨rfl,rfl⟩
theorem Y6:lh Gg (OZ W s) (Wm W) 3 Kb Q
 (.ite (decide ((s:Int)≥(0:Int))) (.aC dG [(.aP 0 0)] (Wm W) 3 fun d0=>(.aS (.bool (decide ((s:Int)<d0.int))) (Wm W))) (.aS (.bool false) (Wm W))):=
  oH Gg 0x20400b10400a1
end
section
variable {l:List D} {Q:D->Prop} {n0 n:Int} {W:WS}
def DO:cm:={f:=q7,rs:=[b6,aM],bx:=some 0,bL:=[(gH,vH)],bJ:=[⟨q7,0,16444,[10,0,11,12],[]⟩],fzs:=[(bh,0,Bz)],D0:=[(gH,[some Bz])]}
@[simp] theorem afy:DO.f=q7/\DO.rs=[b6,aM]:=⟨rfl,rfl⟩
def Bf (l:List D)(n0:Int):au:=hdS q7 75 [(0,(.bw cC l)),(10,(.bw cC l)),(11,(.int .i64 (l.length:Int))),(12,(.int .i64 n0))] []
theorem ab3:lh DO (FR l) [] 0 AN Q
 (.ite (decide ((l.length:Int)≥(16:Int))) (.aS (.tuple [.nA,(.int .i64 71)]) []) (.bj (Bf l 0))):=
  oH DO 0x211
theorem Lc:lk DO (.bx 0 (AN (FR l) []) Q) (Bf l n0)
 ((fun (v:RT)=>((fun (u:Int)=>(.ite (decide (n0<(l.length:Int))) (.gd (cP n0 l.length) (.ite (decide ((D.at l n0.toNat).int<(0:Int))) v (.ite (decide ((D.at l n0.toNat).int>n0)) v (.bj (Bf l (wp .i64 (n0+1))))))) (.gd (rZ u u 1) (.gd (rZ u u 8) (.aC gH [(.bw cC (D.r l).ae)] [] 0 fun d0=>(.gd (decide (d0.ae.length=d0.ae.length)) (.aS (.tuple [(.aP 0 0),(.int .i64 0)]) [(0,(.cells [(.bw cC (D.r d0.ae).ae),(.aZ 1 u.toNat true),(.map 2),(.map 3),(.int .i64 0),(.aZ 4 u.toNat true)] bh false)),(1,(.ak ai (List.replicate u.toNat (D.b false)) true)),(2,(.bg aA (.bY 7 aH) [] [] 0)),(3,(.bg aF (.data aA) [] [] 0)),(4,(.ak af (List.replicate u.toNat (D.z 0)) true))]))))))) (wp .i64 ((l.length:Int)+1)))) (.aS (.tuple [.nA,(.int .i64 71)]) [])):=
  oE DO 0x221212112120300b2110300a31
def x7:cm:={f:=qz,rs:=[aM],bx:=some 3,bL:=[(dG,nI)]}
@[simp] theorem aaL:x7.f=qz/\x7.rs=[aM]:=⟨rfl,rfl⟩
theorem P6:lh x7 (Cc W n) (Wm W) 3 xV Q
 ((fun (u:RT)=>(.ite (decide ((n:Int)>(0:Int))) (.aC dG [(.aP 0 0)] (Wm W) 3 fun d0=>(.ite (! (decide ((n:Int)<d0.int))) u (.gd (cP n W.cu.length) (.gd (decide (n.toNat<W.cu.length)) (.aS (.int .i64 0) [(0,(.cells [(.bw cC W.pa),(.aZ 3 W.cu.length true),(.map 1),(.map 2),(.int .i64 W.la),(.aZ 4 W.ma.length true)] bh false)),(1,(.bg aA (.bY 1 aH) W.th W.st W.ck)),(2,(.bg aF (.data aA) W.fa W.sf W.cf)),(3,(.ak ai (List.set W.cu n.toNat (D.b true)) true)),(4,(.ak af W.ma true))]))))) u)) (.aS (.int .i64 2) (Wm W))):=
  oH x7 0x07920400b310400a2212111
end
section
variable {W:WS} {Q:D->Prop} {c0:Nat} {l1 l2:List D}
def zK:cm:={f:=jb,rs:=[aW],bx:=some 3,bL:=[(ng,xa)],bJ:=[⟨jb,0,16417,[15,3],[]⟩],pns:=[(ng,1)]}
@[simp] theorem aeT:zK.f=jb/\zK.rs=[aW]:=⟨rfl,rfl⟩
def uW (W:WS)(c0:Nat)(l1 l2:List D):au:=hdS jb 75 [(3,(.aZ 3 c0 true)),(15,(.aP 4 0))] [(0,wrC W 5 1 2 6),(1,wrT W 1),(2,wrF W),(3,(.ak aA l1 true)),(4,(.gV 1 (D.ct W.th) W.st W.ck l2)),(5,(.ak ai W.cu true)),(6,(.ak af W.ma true))]
theorem Y5:lh zK (zr W) (Wm W) 3 qP Q
 (.gd (rZ 0 (W.th.length:Int) 8) (.bj (uW W 0 (List.replicate 0 (D.z 0)) []))):=
  oH zK 0x211
theorem QE:lk zK (.bx 3 (qP (zr W) (Wm W)) Q) (uW W c0 l1 l2)
 (.gd (oK W.th W.st W.ck (D.ct W.th) W.st W.ck) (.pick (D.ct W.th) l2 (.aC ng [(.aZ 0 c0 true)] [(0,(.ak aA l1 true))] 1 fun d1=>(.aS (.aZ 3 c0 true) [(0,(.cells [(.bw cC W.pa),(.aZ 4 W.cu.length true),(.map 1),(.map 2),(.int .i64 W.la),(.aZ 5 W.ma.length true)] bh false)),(1,(.bg aA (.bY 1 aH) W.th W.st W.ck)),(2,(.bg aF (.data aA) W.fa W.sf W.cf)),(3,(.ak aA d1.ae true)),(4,(.ak ai W.cu true)),(5,(.ak af W.ma true))])) fun d0=>(.gd ((decide (c0=l1.length))&&(aO 8 (c0+1))) (.bj (uW W (c0+1) (l1++[(D.z d0.int)]) (d0::l2)))))):=
  oE zK 0x2123005321131
end
section
variable {W:WS} {y:D} {Q:D->Prop} {n0:Int}
def jN:cm:={f:=pe,rs:=[ai],bx:=some 3,cz:=[(fH,[av],[ai]),(zi,[dE],[av,aM]),(q0,[lM],[ai]),(CJ,[aH],[aH]),(sT,[av],[ai])],bL:=[(zU,Kb),(iQ,wz)],bJ:=[⟨pe,0,16514,[137,3,138,139],[]⟩]}
@[simp] theorem aeS:jN.f=pe/\jN.rs=[ai]:=⟨rfl,rfl⟩
def px (W:WS)(y:D)(n0:Int):au:=hdS pe 1215 [(3,(.aP 3 0)),(137,(.bw iF (y.aa 11).ae)),(138,(.int .i64 ((y.aa 11).ae.length:Int))),(139,(.int .i64 n0))] [(0,wrC W 4 1 2 5),(1,wrT W 1),(2,wrF W),(3,(.cells (aK pg aH y) aH false)),(4,(.ak ai W.cu true)),(5,(.ak af W.ma true))]
theorem Y4:lh jN (tK W y) (Wm W) 3 oX Q
 ((fun (j:BV)=>((fun (z:D)=>((fun (u:RT)=>((fun (v:RT)=>(.call CJ [(bU pg aH y)] fun d0=>(.ite ((y.aa 0).int==(0:Int)) u (.ite (decide ((y.aa 0).int>(16:Int))) u (.ite ((y.aa 4).int !=(d0.aa 4).int) u (.ite ((y.aa 5).int !=(d0.aa 5).int) u (.ite ((y.aa 6).int !=(d0.aa 6).int) u (.ite ((y.aa 7).int !=(d0.aa 7).int) u (.ite ((y.aa 8).int !=(d0.aa 8).int) u (.ite (! ((y.aa 9).bool==(d0.aa 9).bool)) u (.ite ((y.aa 1).int !=(d0.aa 1).int) u (.ite (((y.aa 3).ae.length:Int)!=((d0.aa 3).ae.length:Int)) u (.ite (((y.aa 10).ae.length:Int)!=((d0.aa 10).ae.length:Int)) u (.ite (((y.aa 11).ae.length:Int)!=((d0.aa 11).ae.length:Int)) u (.call sT [(bU pg av (d0.aa 2))] fun d1=>(.ite d1.bool (.call sT [(bU pg av (y.aa 2))] fun d2=>(.ite (! d2.bool) u (.ite ((y.aa 0).int !=(14:Int)) (.aC zU [(.aP 0 0),j] (Wm W) 3 fun d3=>(.ite (! d3.bool) u (.call fH [(bU pg av (y.aa 2))] fun d4=>(.ite (! d4.bool) u (.call zi [z] fun d5=>(.ite ((d5.aa 1).int !=(0:Int)) u v)))))) (.call fH [(bU pg av (y.aa 2))] fun d6=>(.ite (! d6.bool) u (.call zi [z] fun d7=>(.ite ((d7.aa 1).int !=(0:Int)) u v))))))) (.ite ((y.aa 0).int !=(14:Int)) (.aC zU [(.aP 0 0),j] (Wm W) 3 fun d8=>(.ite (! d8.bool) u (.call fH [(bU pg av (y.aa 2))] fun d9=>(.ite (! d9.bool) u (.call zi [z] fun d10=>(.ite ((d10.aa 1).int !=(0:Int)) u v)))))) (.call fH [(bU pg av (y.aa 2))] fun d11=>(.ite (! d11.bool) u (.call zi [z] fun d12=>(.ite ((d12.aa 1).int !=(0:Int)) u v))))))))))))))))))))) (.ite (decide (((y.aa 11).ae.length:Int)>(64:Int))) u (.bj (px W y 0))))) (.aS (.bool false) (Wm W)))) (D.r (y.aa 3).ae))) (.int .i64 (y.aa 1).int)):=
  oH jN 0x20300b20500b20500b20500b20500b20500b20500b20500b220700b20700b20300b20300b016006016320500b059220400b2110400a3110500a20400b220400b2110400a3110400a310300a016005016220500b059220400b2110400a3110500a20400b220400b2110400a3110400a3110500a310700a07910700a0f9110500a310500a07910500a0d910500a13910500a19910500a1f910500a25910300a2b91
theorem EK:lk jN (.bx 3 (oX (tK W y) (Wm W)) Q) (px W y n0)
 ((fun (j:RT)=>((fun (v:RT)=>((fun (u:RT)=>(.ite (decide (n0<((y.aa 11).ae.length:Int))) (.gd (cP n0 (y.aa 11).ae.length) (.call fH [(bU pg av ((D.at (y.aa 11).ae n0.toNat).aa 1))] fun d0=>(.ite (! d0.bool) v (.bj (px W y (wp .i64 (n0+1))))))) (.ite ((y.aa 0).int==(3:Int)) u (.ite ((y.aa 0).int==(8:Int)) u (.ite ((y.aa 0).int==(9:Int)) u (.ite ((y.aa 0).int==(10:Int)) (.ite (y.aa 9).bool j (.call sT [(bU pg av (y.aa 2))] fun d1=>(.aS (.bool d1.bool) (Wm W)))) (.ite ((y.aa 0).int==(12:Int)) (.aC iQ [(.bw ba (y.aa 10).ae),(.aP 0 0)] [(0,(.cells [(.int .i64 0)] af false))] 1 fun d2=>(.aS (.bool (d2.aa 0).bool) (Wm W))) (.ite ((y.aa 0).int==(14:Int)) (.call q0 [(D.z (y.aa 8).int)] fun d3=>(.aS (.bool d3.bool) (Wm W))) j)))))))) (.ite (decide ((y.aa 4).int≥(0:Int))) (.ite (decide ((y.aa 4).int<=(9007199254740992:Int))) (.ite (decide ((y.aa 5).int≥(0:Int))) (.aS (.bool (decide ((y.aa 5).int<=(y.aa 4).int))) (Wm W)) v) v) v))) (.aS (.bool false) (Wm W)))) (.aS (.bool true) (Wm W))):=
  oE jN 0x222222211120300b10300a120300b0a910300a20300b06910300a20500b10500a100520300b0a910300a20300b06910300a20500b10500a100520300b0a910300a20300b06910300a20500b10500a121211
end
section
variable {a0 a1:D} {Q:D->Prop} {b0 b9 b13 b14:Bool} {n1 n2 n5 n6 n7 n8 n10 n11 n12 n0:Int} {s3:List UInt8} {l4:List D}
def nM:cm:={f:=iP,rs:=[ai],cz:=[(je,[av],[ai]),(fy,[av,av],[ai]),(fB,[bK],[af]),(cw,[bK],[ai])],bJ:=[⟨iP,0,20626,[2,9,8,7,5,10],[]⟩],U5:=[⟨iP,0,4205,[2,9,8,7,5],[]⟩],fzs:=[(aH,5,dE),(aH,7,dE),(aH,14,bK),(aH,15,ke)]}
@[simp] theorem ad1:nM.f=iP/\nM.rs=[ai]:=⟨rfl,rfl⟩
def bC (a0 a1:D)(b0:Bool)(n1 n2:Int)(s3:List UInt8)(l4:List D)(n5 n6:Int)(n7 n8:Int)(b9:Bool)(n10 n11 n12:Int)(b13 b14:Bool):au:=hdS iP 255 [(2,(.aP 0 0)),(5,(.aP 1 0)),(7,(.bool b0)),(8,(.bool b13)),(9,(.bool b14))] [(0,(.cells (aK pg aH a0) aH false)),(1,(.cells [(.int .u8 (a0.aa 0).int),(.int .i64 n12),(.int .u8 n1),(.int .i64 n2),(.b8 s3),(.bw av l4),(.int .i64 n5),(.bw av (D.r []).ae),(.int .i64 n6),(.int .i64 n8),(.int .i64 n7),(.int .i64 n11),(.int .u8 n10),(.bool b9),(.bw ba (D.r []).ae),(.bw iF (D.r []).ae)] aH false))]
def fX (a0 a1:D)(n0 n1:Int):au:=hdS iP 5301599935 [(2,(.aP 0 0)),(5,(.aP 1 0)),(7,(.bool false)),(8,(.bool true)),(9,(.bool true)),(10,(.int .i64 n1))] [(0,(.cells (aK pg aH a0) aH false)),(1,(.cells [(.int .u8 (a0.aa 0).int),(.int .i64 n0),(.int .u8 0),(.int .i64 0),(.b8 []),(.bw av (D.r []).ae),(.int .i64 0),(.bw av (D.r []).ae),(.int .i64 0),(.int .i64 0),(.int .i64 0),(.int .i64 0),(.int .u8 0),(.bool false),(.bw ba (D.r []).ae),(.bw iF (D.r []).ae)] aH false))]
theorem Wd:lp nM [aH,af] [a0,a1] Q
 ((fun (vk:Int)=>((fun (vj:Bool)=>((fun (vz:Bool)=>((fun (vv:Bool)=>((fun (vu:D)=>((fun (ut:D)=>((fun (uq:D)=>((fun (up:D)=>((fun (uk:D)=>((fun (uj:RT)=>((fun (uz:RT)=>((fun (uv:RT)=>((fun (uu:RT)=>((fun (o:RT)=>((fun (i:D)=>((fun (t:RT)=>((fun (q:Bool)=>((fun (p:RT)=>((fun (k:D)=>((fun (j:RT)=>((fun (v:RT)=>((fun (u:Int)=>(.ite (decide (u<(1:Int))) v (.ite (decide (u>(16:Int))) v (.ite (u !=(14:Int)) (.ite (decide ((a0.aa 1).int<(0:Int))) v (.ite (decide ((a0.aa 1).int≥a1.int)) v (.ite (u==(1:Int)) (.bj (bC a0 a1 false i.int ut.int uq.b8 up.ae uk.int 0 0 0 false 0 0 (a0.aa 1).int false false)) (.ite (u==(2:Int)) (.ite q v (.call je [k] fun d0=>(.ite (! d0.bool) v uz))) (.ite (u==(4:Int)) (.ite q v (.call je [k] fun d1=>(.ite (! d1.bool) v uz))) (.ite (u==(3:Int)) (.bj (bC a0 a1 false 0 0 [] (D.r []).ae 0 (a0.aa 4).int 0 0 false 0 0 (a0.aa 1).int false false)) (.ite (u==(6:Int)) o (.ite (u==(11:Int)) o (.ite (u==(7:Int)) (.bj (bC a0 a1 false i.int ut.int uq.b8 up.ae uk.int 0 (a0.aa 6).int 0 false 0 0 (a0.aa 1).int false false)) (.ite (u==(8:Int)) (.ite vj v (.ite vz v (.bj (bC a0 a1 false 0 0 [] (D.r []).ae 0 (a0.aa 4).int 0 (a0.aa 5).int false 0 0 (a0.aa 1).int false false)))) (.ite (u==(9:Int)) (.bj (bC a0 a1 false 0 0 [] (D.r []).ae 0 (a0.aa 4).int (a0.aa 6).int 0 false 0 0 (a0.aa 1).int false false)) (.ite (u==(10:Int)) (.ite (! (a0.aa 9).bool) (.ite (i.int !=(0:Int)) v j) j) (.ite (u==(12:Int)) (.ite vv v (.call fB [vu] fun d2=>(.ite (decide (d2.int>vk)) v (.call cw [vu] fun d3=>(.ite (! d3.bool) v (.bj (fX a0 a1 (a0.aa 1).int 0))))))) (.ite (u==(13:Int)) (.bj (bC a0 a1 false 0 0 [] (D.r []).ae 0 0 (a0.aa 6).int 0 (a0.aa 9).bool 0 0 (a0.aa 1).int false false)) (.ite (u==(14:Int)) (.bj (bC a0 a1 false 0 0 [] (D.r []).ae 0 0 (a0.aa 6).int 0 false (a0.aa 8).int 0 (a0.aa 1).int false false)) (.ite (u==(15:Int)) t (.ite (u==(16:Int)) t (.bj (bC a0 a1 false 0 0 [] (D.r []).ae 0 0 0 0 false 0 0 (a0.aa 1).int false false))))))))))))))))))) (.ite (u==(1:Int)) (.bj (bC a0 a1 false i.int ut.int uq.b8 up.ae uk.int 0 0 0 false 0 0 0 false false)) (.ite (u==(2:Int)) (.ite q v (.call je [k] fun d4=>(.ite (! d4.bool) v uj))) (.ite (u==(4:Int)) (.ite q v (.call je [k] fun d5=>(.ite (! d5.bool) v uj))) (.ite (u==(3:Int)) (.bj (bC a0 a1 false 0 0 [] (D.r []).ae 0 (a0.aa 4).int 0 0 false 0 0 0 false false)) (.ite (u==(6:Int)) uv (.ite (u==(11:Int)) uv (.ite (u==(7:Int)) (.bj (bC a0 a1 false i.int ut.int uq.b8 up.ae uk.int 0 (a0.aa 6).int 0 false 0 0 0 false false)) (.ite (u==(8:Int)) (.ite vj v (.ite vz v (.bj (bC a0 a1 false 0 0 [] (D.r []).ae 0 (a0.aa 4).int 0 (a0.aa 5).int false 0 0 0 false false)))) (.ite (u==(9:Int)) (.bj (bC a0 a1 false 0 0 [] (D.r []).ae 0 (a0.aa 4).int (a0.aa 6).int 0 false 0 0 0 false false)) (.ite (u==(10:Int)) (.ite (! (a0.aa 9).bool) (.ite (i.int !=(0:Int)) v p) p) (.ite (u==(12:Int)) (.ite vv v (.call fB [vu] fun d6=>(.ite (decide (d6.int>vk)) v (.call cw [vu] fun d7=>(.ite (! d7.bool) v (.bj (fX a0 a1 0 0))))))) (.ite (u==(13:Int)) (.bj (bC a0 a1 false 0 0 [] (D.r []).ae 0 0 (a0.aa 6).int 0 (a0.aa 9).bool 0 0 0 false false)) (.ite (u==(14:Int)) (.bj (bC a0 a1 false 0 0 [] (D.r []).ae 0 0 (a0.aa 6).int 0 false (a0.aa 8).int 0 0 false false)) (.ite (u==(15:Int)) uu (.ite (u==(16:Int)) uu (.bj (bC a0 a1 false 0 0 [] (D.r []).ae 0 0 0 0 false 0 0 0 false false))))))))))))))))))))) (wp .i64 (a0.aa 0).int))) (.ret (D.b false)))) (.bj (bC a0 a1 false i.int ut.int uq.b8 up.ae uk.int 0 0 0 (a0.aa 9).bool 0 0 (a0.aa 1).int false false)))) (D.r [(D.z 3),(D.z 0),(D.s []),(D.r (a0.aa 3).ae),(D.z 0)]))) (.bj (bC a0 a1 false i.int ut.int uq.b8 up.ae uk.int 0 0 0 (a0.aa 9).bool 0 0 0 false false)))) (decide (((a0.aa 3).ae.length:Int)>vk)))) (.bj (bC a0 a1 false 0 0 [] (D.r []).ae 0 0 (a0.aa 6).int 0 false 0 (a0.aa 7).int (a0.aa 1).int false false)))) ((a0.aa 2).aa 0))) (.bj (bC a0 a1 false 0 0 [] (D.r []).ae 0 0 (a0.aa 6).int 0 false 0 0 (a0.aa 1).int false false)))) (.bj (bC a0 a1 false 0 0 [] (D.r []).ae 0 0 (a0.aa 6).int 0 false 0 (a0.aa 7).int 0 false false)))) (.bj (bC a0 a1 false 0 0 [] (D.r []).ae 0 0 (a0.aa 6).int 0 false 0 0 0 false false)))) (.bj (bC a0 a1 true 0 0 [] (D.r []).ae 0 0 0 0 false 0 0 (a0.aa 1).int false false)))) (.bj (bC a0 a1 true 0 0 [] (D.r []).ae 0 0 0 0 false 0 0 0 false false)))) ((a0.aa 2).aa 4))) ((a0.aa 2).aa 3))) ((a0.aa 2).aa 2))) ((a0.aa 2).aa 1))) (D.r (a0.aa 10).ae))) (decide (((a0.aa 11).ae.length:Int)>(64:Int))))) (decide ((a0.aa 5).int>(a0.aa 4).int)))) (decide ((a0.aa 5).int<(0:Int))))) (512:Int)):=
  oP nM 0x20200b2222222222222222214100541414120400b20400b2110400a310400a0691420400b310400a21141420500b2110500a314110051120500b2110500a3100520500b2110500a31120400b222222222222222214100541414120400b20400b2110400a310400a0691420400b310400a21141420500b2110500a314110051120500b2110500a3100520500b2110500a31110400a3110200a31
theorem L9:lk nM (.dQ Q) (bC a0 a1 b0 n1 n2 s3 l4 n5 n6 n7 n8 b9 n10 n11 n12 b13 b14)
 ((fun (j:RT)=>((fun (v:RT)=>((fun (u:RT)=>(.ite (decide ((a0.aa 4).int<(0:Int))) v (.ite (decide ((a0.aa 4).int>(9007199254740992:Int))) v (.call je [(bU pg av (a0.aa 2))] fun d0=>(.ite (! d0.bool) v (.ite ((a0.aa 1).int==n12) (.call fy [(bU pg av (a0.aa 2)),(D.r [(D.z n1),(D.z n2),(D.s s3),(D.r l4),(D.z n5)])] fun d1=>(.ite d1.bool (.ite ((a0.aa 4).int==n6) (.ite ((a0.aa 5).int==n8) (.ite ((a0.aa 6).int==n7) (.ite ((a0.aa 7).int==n11) (.ite ((a0.aa 8).int==n10) (.ite ((a0.aa 9).bool==b9) (.ite b0 u (.ite (((a0.aa 3).ae.length:Int)==(0:Int)) u v)) v) v) v) v) v) v) v)) v)))))) (.ite b13 j (.ite (((a0.aa 11).ae.length:Int)==(0:Int)) j v)))) (.ret (D.b false)))) (.ite b14 (.ret (D.b true)) (.ret (D.b (((a0.aa 10).ae.length:Int)==(0:Int)))))):=
  oE nM 0x20300b20400b220500b30910500a20500b2a910500a20500b24910500a20500b1e910500a20500b18910500a20500b12910500a20500b0c910500a20300b089100520300b01500601520300b049100520300b01500601520300b100520300b01500601510300a01500501510300a01500501502920300b3006310300a3005310300a01500501502920300b3006320300b100520300b01500601510300a01500501510300a300503920300b3006310300a30053110400a310300a0691
theorem u7:lk nM (.dQ Q) (fX a0 a1 n0 n1)
 (.ite (decide (n1<((a0.aa 11).ae.length:Int))) (.gd (cP n1 (a0.aa 11).ae.length) (.call je [(bU pg av ((D.at (a0.aa 11).ae n1.toNat).aa 1))] fun d0=>(.ite (! d0.bool) (.ret (D.b false)) (.bj (fX a0 a1 n0 (wp .i64 (n1+1))))))) (.bj (bC a0 a1 false 0 0 [] (D.r []).ae 0 0 0 0 false 0 0 n0 true true))):=
  oE nM 0x2121211
end
section
variable {R:RS} {r n0 k o:Int} {Q:D->Prop} {b:Bool}
def Dy:cm:={f:=eG,rs:=[aH,ai],bx:=some 1,bJ:=[⟨eG,0,16440,[4,6,0,1],[]⟩],fzs:=[(aH,5,dE),(aH,7,dE),(aH,14,bK),(aH,15,ke)]}
@[simp] theorem afm:Dy.f=eG/\Dy.rs=[aH,ai]:=⟨rfl,rfl⟩
def Bc (R:RS)(r n0:Int):au:=hdS eG 37 [(0,(.aP 0 0)),(1,(.int .i64 r)),(4,(.aP 1 0)),(6,(.int .i64 n0))] [(0,rrC R 2 3 4 5),(1,(.cells [(.int .u8 0),(.int .i64 0),(.int .u8 0),(.int .i64 0),(.b8 []),(.bw av (D.r []).ae),(.int .i64 0),(.bw av (D.r []).ae),(.int .i64 0),(.int .i64 0),(.int .i64 0),(.int .i64 0),(.int .u8 0),(.bool false),(.bw ba (D.r []).ae),(.bw iF (D.r []).ae)] aH false)),(2,(.ak af R.pa true)),(3,(.ak ai R.cu true)),(4,(.ak bF R.th true)),(5,(.ak af R.ma true))]
theorem abQ:lh Dy (JD R r) (Rm R) 1 pH Q
 (.bj (Bc R r 0)):=
  oH Dy 0x1
theorem K6:lk Dy (.bx 1 (pH (JD R r) (Rm R)) Q) (Bc R r n0)
 ((fun (j:D)=>((fun (z:BV)=>((fun (v:BV)=>((fun (u:BV)=>(.ite (decide (n0<(R.th.length:Int))) (.gd (cP n0 R.th.length) (.gd (decide (n0.toNat<R.th.length)) (.ite ((j.aa 0).int==(r:Int)) (.aS (.tuple [(.agg (aK pg aH (j.aa 1))),(.bool true)]) (Rm R)) (.bj (Bc R r (wp .i64 (n0+1))))))) (.aS (.tuple [(.agg [z,u,z,u,(.b8 []),v,u,v,u,u,u,u,z,(.bool false),(.bw ba (D.r []).ae),(.bw iF (D.r []).ae)]),(.bool false)]) (Rm R)))) (.int .i64 0))) (.bw av (D.r []).ae))) (.int .u8 0))) (D.at R.th n0.toNat)):=
  oE Dy 0x212121210250151
def Dz:cm:={f:=nQ,rs:=[af],bx:=some 1,bL:=[(eG,pH)]}
@[simp] theorem adz:Dz.f=nQ/\Dz.rs=[af]:=⟨rfl,rfl⟩
theorem VL:lh Dz (Ml R r) (Rm R) 1 zu Q
 (.aC eG [(.aP 0 0),(.int .i64 r)] (Rm R) 1 fun d0=>(.aS (.int .i64 (wp .i64 ((d0.aa 0).aa 0).int)) (Rm R))):=
  oH Dz 0x1
def zH:cm:={f:=ml,rs:=[lM],bx:=some 1,bL:=[(eG,pH),(ml,wx)]}
@[simp] theorem adx:zH.f=ml/\zH.rs=[lM]:=⟨rfl,rfl⟩
theorem VI:lh zH (HE R r) (Rm R) 1 wx Q
 ((fun (k:RT)=>((fun (j:RT)=>((fun (v:RT)=>(.aC eG [(.aP 0 0),(.int .i64 r)] (Rm R) 1 fun d0=>((fun (z:BV)=>((fun (u:Int)=>(.ite (! (d0.aa 1).bool) k (.ite (u==(1:Int)) (.aS (.int .u8 3) (Rm R)) (.ite (u==(2:Int)) j (.ite (u==(3:Int)) j (.ite (u==(4:Int)) (.aS (.int .u8 12) (Rm R)) (.ite (u==(5:Int)) v (.ite (u==(6:Int)) v (.ite (u==(8:Int)) v (.ite (u==(12:Int)) v (.ite (u==(9:Int)) (.aS (.int .u8 13) (Rm R)) (.ite (u==(10:Int)) (.aS (.int .u8 1) (Rm R)) (.ite (u==(11:Int)) (.aS (.int .u8 8) (Rm R)) (.ite (u==(13:Int)) (.aS (.int .u8 33) (Rm R)) (.ite (u==(14:Int)) (.aS (.int .u8 ((d0.aa 0).aa 8).int) (Rm R)) (.ite (u==(15:Int)) (.aC ml [(.aP 0 0),z] (Rm R) 1 fun d1=>(.aS (.int .u8 d1.int) (Rm R))) (.ite (u==(16:Int)) (.aC ml [(.aP 0 0),z] (Rm R) 1 fun d2=>(.aS (.int .u8 d2.int) (Rm R))) k))))))))))))))))) (wp .i64 ((d0.aa 0).aa 0).int))) (.int .i64 ((d0.aa 0).aa 6).int)))) (.aS (.int .u8 16) (Rm R)))) (.aS (.int .u8 9) (Rm R)))) (.aS (.int .u8 0) (Rm R))):=
  oH zH 0x222222222222222211005111111100510051005111005111
def sF:cm:={f:=ia,rs:=[ai],bx:=some 1,bJ:=[⟨ia,0,16467,[3,4,2,1,0,11],[]⟩]}
@[simp] theorem acE:sF.f=ia/\sF.rs=[ai]:=⟨rfl,rfl⟩
def po (R:RS)(r k o:Int)(b:Bool)(n0:Int):au:=hdS ia 37 [(0,(.aP 0 0)),(1,(.int .i64 r)),(2,(.int .i64 k)),(3,(.int .i64 o)),(4,(.bool b)),(11,(.int .i64 n0))] [(0,rrC R 1 2 3 4),(1,(.ak af R.pa true)),(2,(.ak ai R.cu true)),(3,(.ak bF R.th true)),(4,(.ak af R.ma true))]
theorem SH:lh sF (wV R r k o b) (Rm R) 1 su Q
 (.bj (po R r k o b 0)):=
  oH sF 0x1
theorem EI:lk sF (.bx 1 (su (wV R r k o b) (Rm R)) Q) (po R r k o b n0)
 ((fun (j:D)=>((fun (z:RT)=>((fun (v:D)=>((fun (u:RT)=>(.ite (decide (n0<(R.th.length:Int))) (.gd (cP n0 R.th.length) (.gd (decide (n0.toNat<R.th.length)) (.ite ((j.aa 0).int !=(r:Int)) (.ite ((wp .i64 (v.aa 0).int)==(k:Int)) (.ite b (.ite ((v.aa 7).int==(o:Int)) z u) (.ite ((v.aa 6).int==(o:Int)) z u)) u) u))) (.aS (.bool false) (Rm R)))) (.bj (po R r k o b (wp .i64 (n0+1)))))) (j.aa 1))) (.aS (.bool true) (Rm R)))) (D.at R.th n0.toNat)):=
  oE sF 0x21212101500520500b07910500a20500b3100520300b015006015039007007007007300701530152110300a01500501520200b018018018018006018025006025310300a02500502531
end
section
variable {l l2:List D} {Q:D->Prop} {n0:Int} {c1:Nat}
def zP:cm:={f:=uN,rs:=[bP,aM],bx:=some 0,bJ:=[⟨uN,0,16448,[0,4,5],[]⟩],B8:=[(bd,0,af),(bd,2,bF)]}
@[simp] theorem ae3:zP.f=uN/\zP.rs=[bP,aM]:=⟨rfl,rfl⟩
def vW (l:List D)(n0:Int)(c1:Nat)(l2:List D):au:=hdS uN 151 [(0,(.bw cC l)),(4,(.aP 0 0)),(5,(.int .i64 n0))] [(0,(.cells [(.aZ 1 c1 true),(.aZ 2 l.length true),(.aZ 3 0 true),(.int .i64 0),(.aZ 4 (wp .i64 ((l.length:Int)+1)).toNat true)] bd false)),(1,(.ak af l2 true)),(2,(.ak ai (List.replicate l.length (D.b false)) true)),(3,(.ak bF [] true)),(4,(.ak af (List.replicate (wp .i64 ((l.length:Int)+1)).toNat (D.z 0)) true))]
theorem Zf:lh zP (Cf l) [] 0 zA Q
 ((fun (u:Int)=>((fun (v:Int)=>(.ite (decide (u≥(16:Int))) (.aS (.tuple [.nA,(.int .i64 71)]) []) (.gd (rZ v v 8) (.gd (rZ u u 1) (.bj (vW l 0 0 [])))))) (wp .i64 (u+1)))) (l.length:Int)):=
  oH zP 0x2212111
theorem He:lk zP (.bx 0 (zA (Cf l) []) Q) (vW l n0 c1 l2)
 ((fun (j:D)=>((fun (v:Int)=>((fun (u:RT)=>(.ite (decide (n0<(l.length:Int))) (.gd (cP n0 l.length) (.ite (decide (j.int<(0:Int))) u (.ite (decide (j.int>n0)) u (.gd ((decide (c1=l2.length))&&(aO 8 (c1+1))) (.bj (vW l (wp .i64 (n0+1)) (c1+1) (l2++[(D.z j.int)]))))))) (.aS (.tuple [(.aP 0 0),(.int .i64 0)]) [(0,(.cells [(.aZ 1 c1 true),(.aZ 2 l.length true),(.aZ 3 0 true),(.int .i64 0),(.aZ 4 v.toNat true)] bd false)),(1,(.ak af l2 true)),(2,(.ak ai (List.replicate l.length (D.b false)) true)),(3,(.ak bF [] true)),(4,(.ak af (List.replicate v.toNat (D.z 0)) true))]))) (.aS (.tuple [.nA,(.int .i64 71)]) []))) (wp .i64 ((l.length:Int)+1)))) (D.at l n0.toNat)):=
  oE zP 0x212120200b0150400b2025321110600a31
end
section
variable {W:WS} {r:Int} {y:D} {Q:D->Prop}
def Cw:cm:={f:=pc,rs:=[ai],bx:=some 3,bL:=[(cH,sw),(ib,F0),(lx,xb),(jU,sx)]}
@[simp] theorem aeR:Cw.f=pc/\Cw.rs=[ai]:=⟨rfl,rfl⟩
theorem Y3:lh Cw (J3 W r y) (Wm W) 3 Ci Q
 ((fun (uk:D)=>((fun (uj:BV)=>((fun (uz:Bool)=>((fun (uv:D)=>((fun (uu:D)=>((fun (o:D)=>((fun (i:D)=>((fun (t:RT)=>((fun (q:D)=>((fun (p:Bool)=>((fun (j:RT)=>((fun (v:BV)=>((fun (u:RT)=>(.ite ((y.aa 0).int==(6:Int)) (.aC ib [(.aP 0 0),v] (Wm W) 3 fun d0=>(.ite (d0.int==(5:Int)) (.gd p (.ite (q.int==(y.aa 1).int) (.aC jU [(.aP 0 0),(.int .i64 r),(.int .u8 6),v] (Wm W) 3 fun d1=>(.aS (.bool (! d1.bool)) (Wm W))) u)) u)) (.ite ((y.aa 0).int==(7:Int)) (.aC ib [(.aP 0 0),v] (Wm W) 3 fun d2=>(.ite (d2.int==(5:Int)) j u)) (.ite ((y.aa 0).int==(9:Int)) (.aC ib [(.aP 0 0),v] (Wm W) 3 fun d3=>(.ite (d3.int==(8:Int)) j u)) (.ite ((y.aa 0).int==(11:Int)) (.aC ib [(.aP 0 0),v] (Wm W) 3 fun d4=>(.ite (d4.int==(10:Int)) (.gd p (.ite (q.int==(y.aa 1).int) (.aC jU [(.aP 0 0),(.int .i64 r),(.int .u8 11),v] (Wm W) 3 fun d5=>(.aS (.bool (! d5.bool)) (Wm W))) u)) u)) (.ite ((y.aa 0).int==(15:Int)) (.aC ib [(.aP 0 0),uj] (Wm W) 3 fun d6=>(.ite (d6.int==(13:Int)) (.gd uz (.ite (o.int==(y.aa 1).int) (.aC cH [(.aP 0 0),v] (Wm W) 3 fun d7=>(.ite d7.bool (.aS (.bool ((uv.aa 6).int==(r:Int))) (Wm W)) u)) u)) u)) (.ite ((y.aa 0).int==(16:Int)) (.aC ib [(.aP 0 0),uj] (Wm W) 3 fun d8=>(.ite (d8.int==(3:Int)) (.gd uz (.ite (o.int==(y.aa 1).int) (.aC cH [(.aP 0 0),v] (Wm W) 3 fun d9=>(.aS (.bool d9.bool) (Wm W))) u)) u)) (.ite ((y.aa 0).int==(13:Int)) (.ite ((y.aa 6).int==(0:Int)) t (.aC ib [(.aP 0 0),v] (Wm W) 3 fun d10=>(.ite (d10.int==(15:Int)) (.gd p (.aS (.bool (((D.val W.th uu).aa 7).int==(r:Int))) (Wm W))) u))) (.ite ((y.aa 0).int==(14:Int)) (.aC lx [(.aP 0 0),v] (Wm W) 3 fun d11=>((fun (k:Int)=>(.ite (D.cS W.fa i) (.aC cH [(.aP 0 0),v] (Wm W) 3 fun d12=>(.ite d12.bool (.aC ib [(.aP 0 0),v] (Wm W) 3 fun d13=>(.ite (d13.int !=(14:Int)) (.ite ((y.aa 8).int !=d11.int) (.ite (k==(0:Int)) (.aS (.bool ((D.val W.fa i).int==(r:Int))) (Wm W)) u) u) u)) u)) (.aC cH [(.aP 0 0),v] (Wm W) 3 fun d14=>(.ite d14.bool (.aC ib [(.aP 0 0),v] (Wm W) 3 fun d15=>(.ite (d15.int !=(14:Int)) (.ite ((y.aa 8).int !=d11.int) (.ite (k==(0:Int)) t u) u) u)) u)))) (wp .u8 ((BitVec.toNat ((BitVec.ofInt 8 (y.aa 8).int) &&& (~~~ (BitVec.ofInt 8 d11.int)))):Int)))) t))))))))) (.aS (.bool false) (Wm W)))) (.int .i64 (y.aa 6).int))) (.gd p (.aS (.bool (q.int==(y.aa 1).int)) (Wm W))))) (D.cS W.th uu))) ((D.val W.th uu).aa 1))) (.aS (.bool true) (Wm W)))) (D.r [uu,(D.z (y.aa 8).int)]))) (uv.aa 1))) (D.z (y.aa 6).int))) (D.val W.th uk))) (D.cS W.th uk))) (.int .i64 (y.aa 7).int))) (D.z (y.aa 7).int)):=
  oH Cw 0x222222221220500b10910500a20400b0b910400a20500b05910500a20400b10200a0390053005120500b10910500a20400b0b910400a20500b05910500a20400b10200a0390053005120500b20b00b01600601610600a201510301a0050201a02601502610700a120c00b05910500a201510301a0050401a20400b10400a120c00b12910500a201510301a0050401a20400b0d910400a20c00b10600a0250300a0250300a120c00b07910500a201510301a0050401a20600b10600a120c00b10500a201510301a0050401a120c00b10500a201510301a0050401a120c00b07910500a201510301a0050401a20600b10600a1
end
section
variable {a0:D} {Q:D->Prop}
def A1:cm:={f:=qd,rs:=[ai],cz:=[(sV,[lO],[ai])]}
@[simp] theorem ac1:A1.f=qd/\A1.rs=[ai]:=⟨rfl,rfl⟩
theorem S7:lp A1 [lO] [a0] Q
 ((fun (u:RT)=>(.ite (a0.int==(6:Int)) u (.ite (a0.int==(7:Int)) u (.ite (a0.int==(9:Int)) u (.ite (a0.int==(11:Int)) u (.call sV [(D.z a0.int)] fun d0=>(.ret (D.b d0.bool)))))))) (.ret (D.b true))):=
  oP A1 0x20200b20200b20200b20200b10200a10200a03910200a06910200a0991
def A0:cm:={f:=ik,rs:=[ai]}
@[simp] theorem ac0:A0.f=ik/\A0.rs=[ai]:=⟨rfl,rfl⟩
theorem S6:lp A0 [lO] [a0] Q
 (.ite (a0.int==(15:Int)) (.ret (D.b true)) (.ret (D.b (a0.int==(16:Int))))):=
  oP A0 0x20200b10200a1
def DQ:cm:={f:=sV,rs:=[ai]}
@[simp] theorem aea:DQ.f=sV/\DQ.rs=[ai]:=⟨rfl,rfl⟩
theorem Wq:lp DQ [lO] [a0] Q
 (.ite (a0.int==(14:Int)) (.ret (D.b true)) (.ite (a0.int==(15:Int)) (.ret (D.b true)) (.ret (D.b (a0.int==(16:Int)))))):=
  oP DQ 0x20200b20200b10200a10200a0391
def vM:cm:={f:=gJ,rs:=[ai]}
@[simp] theorem aar:vM.f=gJ/\vM.rs=[ai]:=⟨rfl,rfl⟩
theorem On:lp vM [af] [a0] Q
 (.ite (a0.int==(14:Int)) (.ret (D.b true)) (.ite (a0.int==(15:Int)) (.ret (D.b true)) (.ret (D.b (a0.int==(16:Int)))))):=
  oP vM 0x20200b20200b10200a10200a0391
end
section
variable {W:WS} {Q:D->Prop} {l0 l3 l1 l4:List D} {st1 st2:List Nat} {c2 c3:Nat} {m0 m1:List (D×D)} {n0 n5:Int}
def bQ:cm:={f:=cY,rs:=[ai],bx:=some 3,cz:=[(qd,[lO],[ai]),(ik,[lO],[ai]),(sV,[lO],[ai])],bL:=[(cH,sw),(sR,Dw),(pc,Ci),(sQ,zw)],bJ:=[⟨cY,0,16661,[0,17],[]⟩,⟨cY,0,28857,[0,17,6,5],[]⟩,⟨cY,0,16493,[0,131],[]⟩,⟨cY,0,16423,[0,167],[]⟩]}
@[simp] theorem adG:bQ.f=cY/\bQ.rs=[ai]:=⟨rfl,rfl⟩
def nX (W:WS)(l0:List D)(st1:List Nat)(c2:Nat)(l3:List D):au:=hdS cY 37 [(0,(.aP 0 0)),(17,(.aP 3 0))] [(0,wrC W 4 1 2 5),(1,wrT W 1),(2,wrF W),(3,(.gV 1 l0 st1 c2 l3)),(4,(.ak ai W.cu true)),(5,(.ak af W.ma true))]
def nY (W:WS)(m0:List (D×D))(st1:List Nat)(c2:Nat)(l3:List D):au:=hdS cY 75 [(0,(.aP 0 0)),(131,(.aP 3 0))] [(0,wrC W 4 1 2 5),(1,wrT W 1),(2,(.bg aF (.data aA) m0 st1 c2)),(3,(.gV 1 (D.ct W.th) W.st W.ck l3)),(4,(.ak ai W.cu true)),(5,(.ak af W.ma true))]
def db (W:WS)(n0:Int)(l1:List D)(st2:List Nat)(c3:Nat)(l4:List D)(n5:Int):au:=hdS cY 20325 [(0,(.aP 0 0)),(5,(.int .i64 n5)),(6,(.int .i64 n0)),(17,(.aP 3 0))] [(0,wrC W 4 1 2 5),(1,wrT W 1),(2,wrF W),(3,(.gV 1 l1 st2 c3 l4)),(4,(.ak ai W.cu true)),(5,(.ak af W.ma true))]
def py (W:WS)(l0:List D)(m1:List (D×D))(st2:List Nat)(c3:Nat):au:=hdS cY 151 [(0,(.aP 0 0)),(167,(.aP 3 0))] [(0,wrC W 4 1 2 5),(1,wrT W 1),(2,(.bg aF (.data aA) m1 st2 c3)),(3,(.gV 1 (D.ct W.th) W.st W.ck l0)),(4,(.ak ai W.cu true)),(5,(.ak af W.ma true))]
theorem VS:lh bQ (cp W) (Wm W) 3 ca Q
 (.bj (nX W (D.ct W.th) W.st W.ck [])):=
  oH bQ 0x1
theorem Oy:lk bQ (.bx 3 (ca (cp W) (Wm W)) Q) (nX W l0 st1 c2 l3)
 ((fun (v:RT)=>(.gd (oK W.th W.st W.ck l0 st1 c2) (.pick l0 l3 (.bj (nY W W.fa W.sf W.cf [])) fun d0=>((fun (q:D)=>((fun (t:BV)=>((fun (p:D)=>((fun (i:D)=>((fun (k:D)=>((fun (j:BV)=>((fun (u:RT)=>(.gd (D.cS W.th d0) (.aC sR [(.aP 0 0),(.agg (aK pg aH q))] (Wm W) 3 fun d1=>(.ite (! d1.bool) v (.call qd [i] fun d2=>(.ite d2.bool (.aC cH [(.aP 0 0),j] (Wm W) 3 fun d3=>(.ite (! d3.bool) v (.call ik [i] fun d4=>(.ite d4.bool (.aC cH [(.aP 0 0),t] (Wm W) 3 fun d5=>(.ite (! d5.bool) v (.ite (p.int==(13:Int)) (.ite (k.int !=(0:Int)) (.aC cH [(.aP 0 0),j] (Wm W) 3 fun d6=>(.ite (! d6.bool) v u)) u) u))) (.ite (p.int==(13:Int)) (.ite (k.int !=(0:Int)) (.aC cH [(.aP 0 0),j] (Wm W) 3 fun d7=>(.ite (! d7.bool) v u)) u) u))))) (.call ik [i] fun d8=>(.ite d8.bool (.aC cH [(.aP 0 0),t] (Wm W) 3 fun d9=>(.ite (! d9.bool) v (.ite (p.int==(13:Int)) (.ite (k.int !=(0:Int)) (.aC cH [(.aP 0 0),j] (Wm W) 3 fun d10=>(.ite (! d10.bool) v u)) u) u))) (.ite (p.int==(13:Int)) (.ite (k.int !=(0:Int)) (.aC cH [(.aP 0 0),j] (Wm W) 3 fun d11=>(.ite (! d11.bool) v u)) u) u))))))))) (.bj (db W d0.int l0 st1 c2 (d0::l3) 0)))) (.int .i64 k.int))) (q.aa 6))) (D.z p.int))) (q.aa 0))) (.int .i64 (q.aa 7).int))) (D.val W.th d0))))) (.aS (.bool false) (Wm W))):=
  oE bQ 0x21230052120300b0150200b20600b01600601604902502920600b300605903502920400b30060c910300a0450053005320600b300602910400a0550200a300532110400a0350200a3005320300b0450200b20400b0160060160790163016310300a05500501600501620600b026006026310400a0650200a0260050262110900a310400a0250200a01600501620300b0350200b20600b01600601604904502920400b30060c910300a0550053005320600b300602910400a0650200a300532110400a0450200a01600501620300b0550200b20400b0160060160790163016310300a06500501600501620600b026006026310400a0750200a0260050262110900a310700a0b910700a139131
theorem Oz:lk bQ (.bx 3 (ca (cp W) (Wm W)) Q) (nY W m0 st1 c2 l3)
 (.gd (oK W.th W.st W.ck (D.ct W.th) W.st W.ck) (.pick (D.ct W.th) l3 (.bj (py W [] m0 st1 c2)) fun d0=>((fun (u:D)=>(.gd (D.cS W.th d0) (.ite ((u.aa 0).int==(14:Int)) (.ite (D.cS m0 (D.r [(D.z (u.aa 6).int),(D.z (u.aa 8).int)])) (.aS (.bool false) (Wm (WS.mk W.pa W.cu W.th W.st W.ck m0 st1 c2 W.la W.ma))) (.aC sQ [(.aP 0 0),(.int .i64 d0.int)] (Wm (WS.mk W.pa W.cu W.th W.st W.ck m0 st1 c2 W.la W.ma)) 3 fun d1=>(.bj (nY W (cn (d1.aa 0)) (cK (d1.aa 1)) (cJ (d1.aa 2)) (d0::l3))))) (.bj (nY W m0 st1 c2 (d0::l3)))))) (D.val W.th d0)))):=
  oE bQ 0x212300521210201a2313131
theorem BH:lk bQ (.bx 3 (ca (cp W) (Wm W)) Q) (db W n0 l1 st2 c3 l4 n5)
 ((fun (k:D)=>((fun (j:Int)=>((fun (v:RT)=>((fun (u:D)=>(.gd (D.cS W.th (D.z n0)) (.call sV [(D.z (k.aa 0).int)] fun d0=>(.ite d0.bool (.ite (decide (j>(W.th.length:Int))) v (.aC cH [(.aP 0 0),(.int .i64 u.int)] (Wm W) 3 fun d1=>(.ite (! d1.bool) v (.bj (db W u.int l1 st2 c3 l4 j))))) (.bj (nX W l1 st2 c3 l4)))))) (k.aa 6))) (.aS (.bool false) (Wm W)))) (wp .i64 (n5+1)))) (D.val W.th (D.z n0))):=
  oE bQ 0x210052120600b0250300b0250300b20203a110c00a31
theorem L4:lk bQ (.bx 3 (ca (cp W) (Wm W)) Q) (py W l0 m1 st2 c3)
 (.gd (oK W.th W.st W.ck (D.ct W.th) W.st W.ck) (.pick (D.ct W.th) l0 (.aS (.bool true) (Wm (WS.mk W.pa W.cu W.th W.st W.ck m1 st2 c3 W.la W.ma))) fun d0=>(.gd (D.cS W.th d0) (.aC pc [(.aP 0 0),(.int .i64 d0.int),(.agg (aK pg aH (D.val W.th d0)))] (Wm (WS.mk W.pa W.cu W.th W.st W.ck m1 st2 c3 W.la W.ma)) 3 fun d1=>(.ite (! d1.bool) (.aS (.bool false) (Wm (WS.mk W.pa W.cu W.th W.st W.ck m1 st2 c3 W.la W.ma))) (.bj (py W (d0::l0) m1 st2 c3))))))):=
  oE bQ 0x21230052121131
end
section
variable {W:WS} {r:Int} {Q:D->Prop}
def zJ:cm:={f:=sQ,rs:=[],bx:=some 3}
@[simp] theorem adD:zJ.f=sQ/\zJ.rs=[]:=⟨rfl,rfl⟩
theorem VP:lh zJ (HF W r) (Wm W) 3 zw Q
 ((fun (v:D)=>((fun (u:D)=>(.gd (D.cS W.th (D.z r)) (.ite ((v.aa 0).int==(14:Int)) (.ite (D.cS W.fa u) (.aS (.tuple []) (Wm (WS.mk W.pa W.cu W.th W.st W.ck (D.fE W.fa u (D.z r)) W.sf W.cf W.la W.ma))) (.aS (.tuple []) (Wm (WS.mk W.pa W.cu W.th W.st W.ck (W.fa++[(u,(D.z r))]) (W.sf++[W.cf]) (W.cf+1) W.la W.ma)))) (.aS (.tuple []) (Wm W))))) (D.r [(D.z (v.aa 6).int),(D.z (v.aa 8).int)]))) (D.val W.th (D.z r))):=
  oH zJ 0x21005210201a211
end
section
variable {R:RS} {r n2 n1:Int} {y y0 y1:D} {Q:D->Prop} {c0:Nat} {l1:List D} {b0:Bool}
def gn:cm:={f:=eI,rs:=[aM],bx:=some 1,cz:=[(gJ,[af],[ai])],bL:=[(eG,pH),(nQ,zu),(ml,wx),(ia,su),(fA,qm)],bJ:=[⟨eI,0,16796,[7,0,5,1,8],[]⟩,⟨eI,0,20566,[5,1,0,17,15],[]⟩],U5:=[⟨eI,0,4385,[5,1,0,10,12,15,9],[]⟩]}
@[simp] theorem acD:gn.f=eI/\gn.rs=[aM]:=⟨rfl,rfl⟩
def tm (R:RS)(r:Int)(y:D)(c0:Nat)(l1:List D)(n2:Int):au:=hdS eI 75 [(0,(.aP 0 0)),(1,(.int .i64 r)),(5,(.aP 1 0)),(7,(.aZ 2 c0 true)),(8,(.int .i64 n2))] [(0,rrC R 3 4 5 6),(1,(.cells (aK pg aH y) aH false)),(2,(.ak aA l1 true)),(3,(.ak af R.pa true)),(4,(.ak ai R.cu true)),(5,(.ak bF R.th true)),(6,(.ak af R.ma true))]
def vm (R:RS)(r:Int)(y y0 y1:D):au:=hdS eI 1023 [(0,(.aP 0 0)),(1,(.int .i64 r)),(5,(.aP 1 0)),(9,(.int .i64 (wp .i64 (y.aa 0).int))),(10,(.aP 2 0)),(12,(.aP 3 0)),(15,(.bool true))] [(0,rrC R 4 5 6 7),(1,(.cells (aK pg aH y) aH false)),(2,(.cells (aK pg aH y0) aH false)),(3,(.cells (aK pg aH y1) aH false)),(4,(.ak af R.pa true)),(5,(.ak ai R.cu true)),(6,(.ak bF R.th true)),(7,(.ak af R.ma true))]
def dw (R:RS)(r:Int)(y:D)(b0:Bool)(n1:Int):au:=hdS eI 10603197951 [(0,(.aP 0 0)),(1,(.int .i64 r)),(5,(.aP 1 0)),(15,(.bool b0)),(17,(.int .i64 n1))] [(0,rrC R 2 3 4 5),(1,(.cells (aK pg aH y) aH false)),(2,(.ak af R.pa true)),(3,(.ak ai R.cu true)),(4,(.ak bF R.th true)),(5,(.ak af R.ma true))]
theorem SG:lh gn (jt R r y) (Rm R) 1 hU Q
 (.aC fA [(.agg (aK pg aH y))] [] 0 fun d0=>(.bj (tm R r y d0.ae.length d0.ae 0))):=
  oH gn 0x1
theorem EH:lk gn (.bx 1 (hU (jt R r y) (Rm R)) Q) (tm R r y c0 l1 n2)
 ((fun (p:RT)=>((fun (j:Int)=>(.ite (decide (n2<(c0:Int))) (.gd (cP n2 c0) (.gd (decide (n2.toNat<l1.length)) (.aC nQ [(.aP 0 0),(.int .i64 (D.at l1 n2.toNat).int)] (Rm R) 1 fun d0=>(.ite (d0.int==(0:Int)) p (.bj (tm R r y c0 l1 (wp .i64 (n2+1)))))))) (.aC eG [(.aP 0 0),(.int .i64 (y.aa 6).int)] (Rm R) 1 fun d1=>(.aC eG [(.aP 0 0),(.int .i64 (y.aa 7).int)] (Rm R) 1 fun d2=>((fun (q:RT)=>((fun (k:RT)=>((fun (v:RT)=>((fun (u:RT)=>(.ite (j==(6:Int)) u (.ite (j==(7:Int)) u (.ite (j==(9:Int)) u (.ite (j==(11:Int)) u (.call gJ [(D.z j)] fun d3=>(.ite d3.bool u (.ite (j==(13:Int)) (.ite ((y.aa 6).int !=(0:Int)) u v) v)))))))) (.ite (! (d1.aa 1).bool) p v))) (.ite (j==(15:Int)) k (.ite (j==(16:Int)) k q)))) (.ite (! (d2.aa 1).bool) p q))) (.bj (vm R r y (d1.aa 0) (d2.aa 0)))))))) (wp .i64 (y.aa 0).int))) (.aS (.int .i64 5) (Rm R))):=
  oE gn 0x220200b20200b20200b20200b20200b20200b0160060160692006300632006300602910053005321100530050692110200a01600501620200b0392006300632006300602910053005321100530050692110200a20200b200601600601620060260060263100502600502621100501600501602901630162110600a310400a03920200b200601600601620060260060263100502600502621100501600501602901630162110600a310200a08920200b200601600601620060260060263100502600502621100501600501602901630162110600a310200a0b920200b200601600601620060260060263100502600502621100501600501602901630162110600a310200a0e920200b200601600601620060260060263100502600502621100501600501602901630162110600a310200a11920200b200601600601620060260060263100502600502621100501600501602901630162110600a312121211
theorem Jz:lk gn (.bx 1 (hU (jt R r y) (Rm R)) Q) (vm R r y y0 y1)
 ((fun (i:BV)=>((fun (t:Int)=>((fun (q:RT)=>((fun (p:BV)=>((fun (j:Int)=>((fun (z:RT)=>((fun (v:Int)=>((fun (u:RT)=>((fun (k:RT)=>(.ite (v==(6:Int)) (.ite (j==(5:Int)) (.ite ((y0.aa 1).int==(y.aa 1).int) (.aC ia [(.aP 0 0),i,(.int .i64 6),p,(.bool false)] (Rm R) 1 fun d0=>(.ite (! (! d0.bool)) u z)) u) u) (.ite (v==(7:Int)) (.ite (j==(5:Int)) k u) (.ite (v==(9:Int)) (.ite (j==(8:Int)) k u) (.ite (v==(11:Int)) (.ite (j==(10:Int)) (.ite ((y0.aa 1).int==(y.aa 1).int) (.aC ia [(.aP 0 0),i,(.int .i64 11),p,(.bool false)] (Rm R) 1 fun d1=>(.ite (! (! d1.bool)) u z)) u) u) (.ite (v==(13:Int)) (.ite ((y.aa 6).int==(0:Int)) z (.ite (j==(15:Int)) (.ite (! ((y0.aa 7).int==(r:Int))) u z) u)) (.ite (v==(15:Int)) (.ite (t==(13:Int)) (.ite ((y1.aa 1).int==(y.aa 1).int) (.aC ia [(.aP 0 0),i,(.int .i64 15),(.int .i64 (y.aa 7).int),(.bool true)] (Rm R) 1 fun d2=>(.ite (! d2.bool) (.ite ((r:Int)==(0:Int)) z (.ite (! ((y1.aa 6).int==(r:Int))) u z)) u)) u) u) (.ite (v==(16:Int)) (.ite (t==(3:Int)) (.ite (! ((y1.aa 1).int==(y.aa 1).int)) u z) u) (.ite (v==(14:Int)) (.aC ml [(.aP 0 0),p] (Rm R) 1 fun d3=>(.ite (j !=(14:Int)) (.ite ((wp .u8 ((BitVec.toNat ((BitVec.ofInt 8 (y.aa 8).int) &&& (~~~ (BitVec.ofInt 8 d3.int)))):Int))==(0:Int)) (.bj (dw R r y ((y.aa 8).int !=d3.int) 0)) q) q)) z))))))))) (.ite (! ((y0.aa 1).int==(y.aa 1).int)) u z))) (.aS (.int .i64 70) (Rm R)))) (wp .i64 (y.aa 0).int))) (.aS (.int .i64 0) (Rm R)))) (wp .i64 (y0.aa 0).int))) (.int .i64 (y.aa 6).int))) (.bj (dw R r y false 0)))) (wp .i64 (y1.aa 0).int))) (.int .i64 r)):=
  oE gn 0x222222223120500b05910500a20400b10400a120500b310500a21120500b0d910500a20600b06910600a20400b310200a20300b0150060152110300a0150050153120400b20300b016006016310300a0160050162110600a3120500b08910500a20600b310600a21120500b310500a21120500b310500a21120500b08910500a20600b310600a211
theorem rO:lk gn (.bx 1 (hU (jt R r y) (Rm R)) Q) (dw R r y b0 n1)
 ((fun (k:D)=>((fun (j:Int)=>((fun (z:RT)=>((fun (v:D)=>((fun (u:RT)=>(.ite (decide (n1<(R.th.length:Int))) (.ite b0 (.gd (cP n1 R.th.length) (.gd (decide (n1.toNat<R.th.length)) (.ite ((k.aa 0).int==(r:Int)) u (.ite ((wp .i64 (v.aa 0).int)!=(14:Int)) u (.ite ((v.aa 6).int !=(y.aa 6).int) u (.bj (dw R r y ((v.aa 8).int !=(y.aa 8).int) j))))))) z) (.ite (!b0) z (.aS (.int .i64 0) (Rm R))))) (.bj (dw R r y true j)))) (k.aa 1))) (.aS (.int .i64 70) (Rm R)))) (wp .i64 (n1+1)))) (D.at R.th n1.toNat)):=
  oE gn 0x2006321100520071212101500520400b20500b20500b10500a10500a06910400a0c91
end
section
variable {R:RS} {Q:D->Prop} {n0 n1 n2 n3:Int}
def mX:cm:={f:=gr,rs:=[af],bx:=some 1,bL:=[(ml,wx)],bJ:=[⟨gr,0,16478,[0,4,3],[]⟩,⟨gr,0,36908,[0,4,3,7,6],[]⟩]}
@[simp] theorem acF:mX.f=gr/\mX.rs=[af]:=⟨rfl,rfl⟩
def pt (R:RS)(n0 n1:Int):au:=hdS gr 75 [(0,(.aP 0 0)),(3,(.int .i64 n0)),(4,(.int .i64 n1))] [(0,rrC R 1 2 3 4),(1,(.ak af R.pa true)),(2,(.ak ai R.cu true)),(3,(.ak bF R.th true)),(4,(.ak af R.ma true))]
def nU (R:RS)(n0 n1:Int)(n2 n3:Int):au:=hdS gr 77387 [(0,(.aP 0 0)),(3,(.int .i64 n1)),(4,(.int .i64 n2)),(6,(.int .i64 n3)),(7,(.int .u8 n0))] [(0,rrC R 1 2 3 4),(1,(.ak af R.pa true)),(2,(.ak ai R.cu true)),(3,(.ak bF R.th true)),(4,(.ak af R.ma true))]
theorem SI:lh mX (p8 R) (Rm R) 1 mT Q
 (.bj (pt R 0 0)):=
  oH mX 0x1
theorem EJ:lk mX (.bx 1 (mT (p8 R) (Rm R)) Q) (pt R n0 n1)
 ((fun (u:D)=>(.ite (decide (n1<(R.th.length:Int))) (.gd (cP n1 R.th.length) (.gd (decide (n1.toNat<R.th.length)) (.ite ((wp .i64 ((u.aa 1).aa 0).int)==(14:Int)) (.bj (pt R (wp .i64 (n0-1)) (wp .i64 (n1+1)))) (.aC ml [(.aP 0 0),(.int .i64 (u.aa 0).int)] (Rm R) 1 fun d0=>(.bj (nU R d0.int n0 n1 1)))))) (.aS (.int .i64 n0) (Rm R)))) (D.at R.th n1.toNat)):=
  oE mX 0x212121211
theorem It:lk mX (.bx 1 (mT (p8 R) (Rm R)) Q) (nU R n0 n1 n2 n3)
 (.ite (decide (n0>(0:Int))) (.bj (nU R (wp .u8 ((BitVec.toNat ((BitVec.ofInt 8 n0) &&& (BitVec.ofInt 8 (wp .u8 (n0-1))))):Int)) n1 n2 (wp .i64 (2*n3)))) (.bj (pt R (wp .i64 ((wp .i64 (n1+n3))-1)) (wp .i64 (n2+1))))):=
  oE mX 0x211
end
section
variable {R:RS} {r n0 n2:Int} {Q:D->Prop} {c1:Nat} {l3:List D}
def xe:cm:={f:=uf,rs:=[aW],bx:=some 1,cz:=[(gJ,[af],[ai])],bL:=[(eG,pH)],bJ:=[⟨uf,0,16461,[5,0,6,1],[(5,25)]⟩],B8:=[(aW,0,aA)],xM:=[some aA]}
@[simp] theorem aeK:xe.f=uf/\xe.rs=[aW]:=⟨rfl,rfl⟩
def yy (R:RS)(r n0:Int)(c1:Nat)(n2:Int)(l3:List D):au:=hdS uf 75 [(0,(.aP 0 0)),(1,(.int .i64 n0)),(5,(.aZ 1 c1 true)),(6,(.int .i64 n2))] [(0,rrC R 2 3 4 5),(1,(.ak aA l3 true)),(2,(.ak af R.pa true)),(3,(.ak ai R.cu true)),(4,(.ak bF R.th true)),(5,(.ak af R.ma true))]
theorem YW:lh xe (Cb R r) (Rm R) 1 zv Q
 (.bj (yy R r r 0 0 [])):=
  oH xe 0x1
theorem I5:lk xe (.bx 1 (zv (Cb R r) (Rm R)) Q) (yy R r n0 c1 n2 l3)
 ((fun (q:aI)=>((fun (p:aI)=>((fun (k:aI)=>((fun (j:aI)=>((fun (v:aI)=>((fun (u:RT)=>(.ite (decide (n2<=(R.th.length:Int))) (.aC eG [(.aP 0 0),(.int .i64 n0)] (Rm R) 1 fun d0=>(.ite (! (d0.aa 1).bool) u (.gd ((decide (c1=l3.length))&&(aO 8 (c1+1))) (.call gJ [(D.z (wp .i64 ((d0.aa 0).aa 0).int))] fun d1=>(.ite (! d1.bool) (.aS (.aZ 1 (c1+1) true) [(0,v),(1,(.ak aA (l3++[(D.z n0)]) true)),(2,j),(3,q),(4,p),(5,k)]) (.bj (yy R r ((d0.aa 0).aa 6).int (c1+1) (wp .i64 (n2+1)) (l3++[(D.z n0)])))))))) u)) (.aS (.aZ 1 c1 true) [(0,v),(1,(.ak aA l3 true)),(2,j),(3,q),(4,p),(5,k)]))) (.cells [(.aZ 2 R.pa.length true),(.aZ 3 R.cu.length true),(.aZ 4 R.th.length true),(.int .i64 R.la),(.aZ 5 R.ma.length true)] bd false))) (.ak af R.pa true))) (.ak af R.ma true))) (.ak bF R.th true))) (.ak ai R.cu true)):=
  oE xe 0x2123212111
end
end Go.Proofs
end
