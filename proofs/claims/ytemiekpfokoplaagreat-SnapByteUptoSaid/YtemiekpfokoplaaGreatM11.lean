import Derived.Test.YtemiekpfokoplaaGreatM9
set_option linter.all false
noncomputable section
open Go.IntKind renaming wrap→wp
set_option maxHeartbeats 8000000
namespace Go.Proofs
open Go Go.PB
section
variable {W:WS} {l l1:List D} {Q:D->Prop} {n0 s:Int} {y:D}
def iD:cw:={f:=cv,rs:=[ah],bu:=some 4,bD:=[(dz,Bb)],bK:=[⟨cv,0,16423,[0,1,7,8],[]⟩]}
@[simp] theorem SW:iD.f=cv/\iD.rs=[ah]:=⟨rfl,rfl⟩
def kA (W:WS)(l:List D)(n0:Int):av:=hdS cv 37 [(0,(.bC bh l)),(1,(.func (.func tc) [] [(.aG 0 0)])),(7,(.int .i64 (l.length:Int))),(8,(.int .i64 n0))] [(0,(.cells [(.aG 1 0)] cq false)),(1,wrC W 4 2 3 5),(2,wrT W 2),(3,wrF W),(4,(.an aj W.cu true)),(5,(.an ah W.ma true))]
theorem Ib:lh iD (oA W l) (Vj W) 4 eX Q
 (.bE (kA W l 0)):=
  oH iD 0x1
theorem wM:lk iD (.bu 4 (eX (oA W l) (Vj W)) Q) (kA W l n0)
 (.ite (decide (n0<(l.length:Int))) (.gd (dy n0 l.length) (.aq dz [(.aG 0 0),(.int .i64 (D.at l n0.toNat).int)] (Wm W) 3 fun d0=>(.ite (! d0.bool) (.aL (.int .i64 n0) (Vj W)) (.bE (kA W l (wp .i64 (n0+1))))))) (.aL (.int .i64 (-1)) (Vj W))):=
  oE iD 0x2121211
def kj:cw:={f:=cz,rs:=[aj],bu:=some 4,bD:=[(cv,eX)],HZ:=[(cv,[some dS,none])]}
@[simp] theorem Pu:kj.f=cz/\kj.rs=[aj]:=⟨rfl,rfl⟩
theorem DZ:lh kj (wg W l) (Vj W) 4 fi Q
 (.aq cv [(.bC bh (D.r l).aa),(.func (.func tc) [] [(.aG 0 0)])] (Vj W) 4 fun d0=>(.aL (.bool (decide (d0.int≥(0:Int)))) (Vj W))):=
  oH kj 0x1
def Ck:cw:={f:=yS,rs:=[aj],bu:=some 3,bD:=[(mL,wt),(cz,fi)],HZ:=[(cz,[some dS,none])]}
@[simp] theorem abA:Ck.f=yS/\Ck.rs=[aj]:=⟨rfl,rfl⟩
theorem TN:lh Ck (KP W y) (Wm W) 3 Gk Q
 (.aq mL [(.agg (aK pg aO y))] [] 0 fun d0=>(.gd (decide (d0.aa.length=d0.aa.length)) (.aq cz [(.bC bh (D.r d0.aa).aa),(.func (.func tc) [] [(.aG 0 0)])] (Vj W) 4 fun d1=>(.aL (.bool (! d1.bool)) (Wm W))))):=
  oH Ck 0x211
def vM:cw:={f:=kY,rs:=[ah],bu:=some 3,cK:=[(gg,[q9],[ah])],bD:=[(oe,yy)],bK:=[⟨kY,0,16432,[0,10,3],[]⟩]}
@[simp] theorem abD:vM.f=kY/\vM.rs=[ah]:=⟨rfl,rfl⟩
def nC (W:WS)(n0:Int)(l1:List D):av:=hdS kY 75 [(0,(.aG 0 0)),(3,(.int .i64 n0)),(10,(.aG 3 0))] [(0,wrC W 4 1 2 5),(1,wrT W 1),(2,wrF W),(3,(.jS 1 (D.cX W.th) W.st W.ck l1)),(4,(.an aj W.cu true)),(5,(.an ah W.ma true))]
theorem TQ:lh vM (vH W) (Wm W) 3 rM Q
 (.bE (nC W 0 [])):=
  oH vM 0x1
theorem MO:lk vM (.bu 3 (rM (vH W) (Wm W)) Q) (nC W n0 l1)
 (.gd (tR W.th W.st W.ck (D.cX W.th) W.st W.ck) (.pick (D.cX W.th) l1 (.aL (.int .i64 n0) (Wm W)) fun d0=>(.gd (D.fv W.th d0) (.ite (((D.val W.th d0).ae 0).int==(14:Int)) (.bE (nC W (wp .i64 (n0-1)) (d0::l1))) (.aq oe [(.aG 0 0),(.int .i64 d0.int)] (Wm W) 3 fun d1=>(.call gg [(D.z (wp .u64 d1.int))] fun d2=>(.gd (decide ((0:Int)<=d2.int)) (.bE (nC W (wp .i64 (n0+(wp .i64 ((wp .i64 (1*(2^(min d2.int.toNat 64))))-1)))) (d0::l1)))))))))):=
  oE vM 0x2123005212211131
def Cj:cw:={f:=dH,rs:=[ah],bu:=some 3}
@[simp] theorem aby:Cj.f=dH/\Cj.rs=[ah]:=⟨rfl,rfl⟩
theorem TL:lh Cj (KO W) (Wm W) 3 nc Q
 (.aL (.int .i64 (W.ma.length:Int)) (Wm W)):=
  oH Cj 0x0791
def EP:cw:={f:=yT,rs:=[aj],bu:=some 3,bD:=[(dH,nc)]}
@[simp] theorem acO:EP.f=yT/\EP.rs=[aj]:=⟨rfl,rfl⟩
theorem Xc:lh EP (Na W s) (Wm W) 3 IU Q
 (.ite (decide ((s:Int)≥(0:Int))) (.aq dH [(.aG 0 0)] (Wm W) 3 fun d0=>(.aL (.bool (decide ((s:Int)<d0.int))) (Wm W))) (.aL (.bool false) (Wm W))):=
  oH EP 0x20400b10400a1
end
section
variable {l:List D} {Q:D->Prop} {n0 n:Int} {W:WS}
def Cu:cw:={f:=qD,rs:=[cq,aX],bu:=some 0,bD:=[(dN,qg)],bK:=[⟨qD,0,16444,[10,0,11,12],[]⟩],Tg:=[(aU,0,jU)],HZ:=[(dN,[some jU])]}
@[simp] theorem ads:Cu.f=qD/\Cu.rs=[cq,aX]:=⟨rfl,rfl⟩
def Ac (l:List D)(n0:Int):av:=hdS qD 75 [(0,(.bC bY l)),(10,(.bC bY l)),(11,(.int .i64 (l.length:Int))),(12,(.int .i64 n0))] []
theorem aad:lh Cu (Et l) [] 0 zE Q
 (.ite (decide ((l.length:Int)≥(16:Int))) (.aL (.tuple [.gT,(.int .i64 71)]) []) (.bE (Ac l 0))):=
  oH Cu 0x211
theorem JV:lk Cu (.bu 0 (zE (Et l) []) Q) (Ac l n0)
 ((fun (v:RT)=>((fun (u:Int)=>(.ite (decide (n0<(l.length:Int))) (.gd (dy n0 l.length) (.ite (decide ((D.at l n0.toNat).int<(0:Int))) v (.ite (decide ((D.at l n0.toNat).int>n0)) v (.bE (Ac l (wp .i64 (n0+1))))))) (.gd (rv u u 1) (.gd (rv u u 8) (.aq dN [(.bC bY (D.r l).aa)] [] 0 fun d0=>(.gd (decide (d0.aa.length=d0.aa.length)) (.aL (.tuple [(.aG 0 0),(.int .i64 0)]) [(0,(.cells [(.bC bY (D.r d0.aa).aa),(.aV 1 u.toNat true),(.map 2),(.map 3),(.int .i64 0),(.aV 4 u.toNat true)] aU false)),(1,(.an aj (List.replicate u.toNat (D.b false)) true)),(2,(.bo bh (.cp 7 aO) [] [] 0)),(3,(.bo aM (.data bh) [] [] 0)),(4,(.an ah (List.replicate u.toNat (D.z 0)) true))]))))))) (wp .i64 ((l.length:Int)+1)))) (.aL (.tuple [.gT,(.int .i64 71)]) [])):=
  oE Cu 0x221212112120300b2110300a31
def xd:cw:={f:=pM,rs:=[aX],bu:=some 3,bD:=[(dH,nc)]}
@[simp] theorem YU:xd.f=pM/\xd.rs=[aX]:=⟨rfl,rfl⟩
theorem Oo:lh xd (A6 W n) (Wm W) 3 w6 Q
 ((fun (u:RT)=>(.ite (decide ((n:Int)>(0:Int))) (.aq dH [(.aG 0 0)] (Wm W) 3 fun d0=>(.ite (! (decide ((n:Int)<d0.int))) u (.gd (dy n W.cu.length) (.gd (decide (n.toNat<W.cu.length)) (.aL (.int .i64 0) [(0,(.cells [(.bC bY W.pa),(.aV 3 W.cu.length true),(.map 1),(.map 2),(.int .i64 W.la),(.aV 4 W.ma.length true)] aU false)),(1,(.bo bh (.cp 1 aO) W.th W.st W.ck)),(2,(.bo aM (.data bh) W.fa W.sf W.cf)),(3,(.an aj (List.set W.cu n.toNat (D.b true)) true)),(4,(.an ah W.ma true))]))))) u)) (.aL (.int .i64 2) (Wm W))):=
  oH xd 0x07920400b310400a2212111
end
section
variable {W:WS} {Q:D->Prop} {c0:Nat} {l1 l2:List D}
def yL:cw:={f:=qB,rs:=[dS],bu:=some 3,bD:=[(wD,zD)],bK:=[⟨qB,0,16417,[15,3],[]⟩],pns:=[(wD,1)]}
@[simp] theorem acN:yL.f=qB/\yL.rs=[dS]:=⟨rfl,rfl⟩
def tD (W:WS)(c0:Nat)(l1 l2:List D):av:=hdS qB 75 [(3,(.aV 3 c0 true)),(15,(.aG 4 0))] [(0,wrC W 5 1 2 6),(1,wrT W 1),(2,wrF W),(3,(.an bh l1 true)),(4,(.jS 1 (D.cX W.th) W.st W.ck l2)),(5,(.an aj W.cu true)),(6,(.an ah W.ma true))]
theorem Xb:lh yL (A7 W) (Wm W) 3 yA Q
 (.gd (rv 0 (W.th.length:Int) 8) (.bE (tD W 0 (List.replicate 0 (D.z 0)) []))):=
  oH yL 0x211
theorem OP:lk yL (.bu 3 (yA (A7 W) (Wm W)) Q) (tD W c0 l1 l2)
 (.gd (tR W.th W.st W.ck (D.cX W.th) W.st W.ck) (.pick (D.cX W.th) l2 (.aq wD [(.aV 0 c0 true)] [(0,(.an bh l1 true))] 1 fun d1=>(.aL (.aV 3 c0 true) [(0,(.cells [(.bC bY W.pa),(.aV 4 W.cu.length true),(.map 1),(.map 2),(.int .i64 W.la),(.aV 5 W.ma.length true)] aU false)),(1,(.bo bh (.cp 1 aO) W.th W.st W.ck)),(2,(.bo aM (.data bh) W.fa W.sf W.cf)),(3,(.an bh d1.aa true)),(4,(.an aj W.cu true)),(5,(.an ah W.ma true))])) fun d0=>(.gd ((decide (c0=l1.length))&&(bg 8 (c0+1))) (.bE (tD W (c0+1) (l1++[(D.z d0.int)]) (d0::l2)))))):=
  oE yL 0x2123005321131
end
section
variable {W:WS} {y:D} {Q:D->Prop} {n0:Int}
def jG:cw:={f:=ta,rs:=[aj],bu:=some 3,cK:=[(eN,[ao],[aj]),(yd,[eQ],[ao,aX]),(qC,[nP],[aj]),(BA,[aO],[aO]),(r6,[ao],[aj])],bD:=[(yT,IU),(iI,vK)],bK:=[⟨ta,0,16514,[137,3,138,139],[]⟩]}
@[simp] theorem acM:jG.f=ta/\jG.rs=[aj]:=⟨rfl,rfl⟩
def oq (W:WS)(y:D)(n0:Int):av:=hdS ta 1215 [(3,(.aG 3 0)),(137,(.bC fT (y.ae 11).aa)),(138,(.int .i64 ((y.ae 11).aa.length:Int))),(139,(.int .i64 n0))] [(0,wrC W 4 1 2 5),(1,wrT W 1),(2,wrF W),(3,(.cells (aK pg aO y) aO false)),(4,(.an aj W.cu true)),(5,(.an ah W.ma true))]
theorem Xa:lh jG (sP W y) (Wm W) 3 qj Q
 ((fun (j:BV)=>((fun (z:D)=>((fun (u:RT)=>((fun (v:RT)=>(.call BA [(ct pg aO y)] fun d0=>(.ite ((y.ae 0).int==(0:Int)) u (.ite (decide ((y.ae 0).int>(16:Int))) u (.ite ((y.ae 4).int !=(d0.ae 4).int) u (.ite ((y.ae 5).int !=(d0.ae 5).int) u (.ite ((y.ae 6).int !=(d0.ae 6).int) u (.ite ((y.ae 7).int !=(d0.ae 7).int) u (.ite ((y.ae 8).int !=(d0.ae 8).int) u (.ite (! ((y.ae 9).bool==(d0.ae 9).bool)) u (.ite ((y.ae 1).int !=(d0.ae 1).int) u (.ite (((y.ae 3).aa.length:Int)!=((d0.ae 3).aa.length:Int)) u (.ite (((y.ae 10).aa.length:Int)!=((d0.ae 10).aa.length:Int)) u (.ite (((y.ae 11).aa.length:Int)!=((d0.ae 11).aa.length:Int)) u (.call r6 [(ct pg ao (d0.ae 2))] fun d1=>(.ite d1.bool (.call r6 [(ct pg ao (y.ae 2))] fun d2=>(.ite (! d2.bool) u (.ite ((y.ae 0).int !=(14:Int)) (.aq yT [(.aG 0 0),j] (Wm W) 3 fun d3=>(.ite (! d3.bool) u (.call eN [(ct pg ao (y.ae 2))] fun d4=>(.ite (! d4.bool) u (.call yd [z] fun d5=>(.ite ((d5.ae 1).int !=(0:Int)) u v)))))) (.call eN [(ct pg ao (y.ae 2))] fun d6=>(.ite (! d6.bool) u (.call yd [z] fun d7=>(.ite ((d7.ae 1).int !=(0:Int)) u v))))))) (.ite ((y.ae 0).int !=(14:Int)) (.aq yT [(.aG 0 0),j] (Wm W) 3 fun d8=>(.ite (! d8.bool) u (.call eN [(ct pg ao (y.ae 2))] fun d9=>(.ite (! d9.bool) u (.call yd [z] fun d10=>(.ite ((d10.ae 1).int !=(0:Int)) u v)))))) (.call eN [(ct pg ao (y.ae 2))] fun d11=>(.ite (! d11.bool) u (.call yd [z] fun d12=>(.ite ((d12.ae 1).int !=(0:Int)) u v))))))))))))))))))))) (.ite (decide (((y.ae 11).aa.length:Int)>(64:Int))) u (.bE (oq W y 0))))) (.aL (.bool false) (Wm W)))) (D.r (y.ae 3).aa))) (.int .i64 (y.ae 1).int)):=
  oH jG 0x20300b20500b20500b20500b20500b20500b20500b20500b220700b20700b20300b20300b016006016320500b059220400b2110400a3110500a20400b220400b2110400a3110400a310300a016005016220500b059220400b2110400a3110500a20400b220400b2110400a3110400a3110500a310700a07910700a0f9110500a310500a07910500a0d910500a13910500a19910500a1f910500a25910300a2b91
theorem Dr:lk jG (.bu 3 (qj (sP W y) (Wm W)) Q) (oq W y n0)
 ((fun (j:RT)=>((fun (v:RT)=>((fun (u:RT)=>(.ite (decide (n0<((y.ae 11).aa.length:Int))) (.gd (dy n0 (y.ae 11).aa.length) (.call eN [(ct pg ao ((D.at (y.ae 11).aa n0.toNat).ae 1))] fun d0=>(.ite (! d0.bool) v (.bE (oq W y (wp .i64 (n0+1))))))) (.ite ((y.ae 0).int==(3:Int)) u (.ite ((y.ae 0).int==(8:Int)) u (.ite ((y.ae 0).int==(9:Int)) u (.ite ((y.ae 0).int==(10:Int)) (.ite (y.ae 9).bool j (.call r6 [(ct pg ao (y.ae 2))] fun d1=>(.aL (.bool d1.bool) (Wm W)))) (.ite ((y.ae 0).int==(12:Int)) (.aq iI [(.bC aT (y.ae 10).aa),(.aG 0 0)] [(0,(.cells [(.int .i64 0)] ah false))] 1 fun d2=>(.aL (.bool (d2.ae 0).bool) (Wm W))) (.ite ((y.ae 0).int==(14:Int)) (.call qC [(D.z (y.ae 8).int)] fun d3=>(.aL (.bool d3.bool) (Wm W))) j)))))))) (.ite (decide ((y.ae 4).int≥(0:Int))) (.ite (decide ((y.ae 4).int<=(9007199254740992:Int))) (.ite (decide ((y.ae 5).int≥(0:Int))) (.aL (.bool (decide ((y.ae 5).int<=(y.ae 4).int))) (Wm W)) v) v) v))) (.aL (.bool false) (Wm W)))) (.aL (.bool true) (Wm W))):=
  oE jG 0x222222211120300b10300a120300b0a910300a20300b06910300a20500b10500a100520300b0a910300a20300b06910300a20500b10500a100520300b0a910300a20300b06910300a20500b10500a121211
end
section
variable {a0 a1:D} {Q:D->Prop} {b0 b9 b13 b14:Bool} {n1 n2 n5 n6 n7 n8 n10 n11 n12 n0:Int} {s3:List UInt8} {l4:List D}
def nr:cw:={f:=iH,rs:=[aj],cK:=[(kM,[ao],[aj]),(lg,[ao,ao],[aj]),(fp,[bB],[ah]),(cm,[bB],[aj])],bK:=[⟨iH,0,20626,[2,9,8,7,5,10],[]⟩],S5:=[⟨iH,0,4205,[2,9,8,7,5],[]⟩],Tg:=[(aO,5,eQ),(aO,7,eQ),(aO,14,bB),(aO,15,jT)]}
@[simp] theorem abV:nr.f=iH/\nr.rs=[aj]:=⟨rfl,rfl⟩
def bw (a0 a1:D)(b0:Bool)(n1 n2:Int)(s3:List UInt8)(l4:List D)(n5 n6:Int)(n7 n8:Int)(b9:Bool)(n10 n11 n12:Int)(b13 b14:Bool):av:=hdS iH 255 [(2,(.aG 0 0)),(5,(.aG 1 0)),(7,(.bool b0)),(8,(.bool b13)),(9,(.bool b14))] [(0,(.cells (aK pg aO a0) aO false)),(1,(.cells [(.int .u8 (a0.ae 0).int),(.int .i64 n12),(.int .u8 n1),(.int .i64 n2),(.bj s3),(.bC ao l4),(.int .i64 n5),(.bC ao (D.r []).aa),(.int .i64 n6),(.int .i64 n8),(.int .i64 n7),(.int .i64 n11),(.int .u8 n10),(.bool b9),(.bC aT (D.r []).aa),(.bC fT (D.r []).aa)] aO false))]
def fP (a0 a1:D)(n0 n1:Int):av:=hdS iH 5301599935 [(2,(.aG 0 0)),(5,(.aG 1 0)),(7,(.bool false)),(8,(.bool true)),(9,(.bool true)),(10,(.int .i64 n1))] [(0,(.cells (aK pg aO a0) aO false)),(1,(.cells [(.int .u8 (a0.ae 0).int),(.int .i64 n0),(.int .u8 0),(.int .i64 0),(.bj []),(.bC ao (D.r []).aa),(.int .i64 0),(.bC ao (D.r []).aa),(.int .i64 0),(.int .i64 0),(.int .i64 0),(.int .i64 0),(.int .u8 0),(.bool false),(.bC aT (D.r []).aa),(.bC fT (D.r []).aa)] aO false))]
theorem T7:lp nr [aO,ah] [a0,a1] Q
 ((fun (vk:Int)=>((fun (vj:Bool)=>((fun (vz:Bool)=>((fun (vv:Bool)=>((fun (vu:D)=>((fun (ut:D)=>((fun (uq:D)=>((fun (up:D)=>((fun (uk:D)=>((fun (uj:RT)=>((fun (uz:RT)=>((fun (uv:RT)=>((fun (uu:RT)=>((fun (o:RT)=>((fun (i:D)=>((fun (t:RT)=>((fun (q:Bool)=>((fun (p:RT)=>((fun (k:D)=>((fun (j:RT)=>((fun (v:RT)=>((fun (u:Int)=>(.ite (decide (u<(1:Int))) v (.ite (decide (u>(16:Int))) v (.ite (u !=(14:Int)) (.ite (decide ((a0.ae 1).int<(0:Int))) v (.ite (decide ((a0.ae 1).int≥a1.int)) v (.ite (u==(1:Int)) (.bE (bw a0 a1 false i.int ut.int uq.bj up.aa uk.int 0 0 0 false 0 0 (a0.ae 1).int false false)) (.ite (u==(2:Int)) (.ite q v (.call kM [k] fun d0=>(.ite (! d0.bool) v uz))) (.ite (u==(4:Int)) (.ite q v (.call kM [k] fun d1=>(.ite (! d1.bool) v uz))) (.ite (u==(3:Int)) (.bE (bw a0 a1 false 0 0 [] (D.r []).aa 0 (a0.ae 4).int 0 0 false 0 0 (a0.ae 1).int false false)) (.ite (u==(6:Int)) o (.ite (u==(11:Int)) o (.ite (u==(7:Int)) (.bE (bw a0 a1 false i.int ut.int uq.bj up.aa uk.int 0 (a0.ae 6).int 0 false 0 0 (a0.ae 1).int false false)) (.ite (u==(8:Int)) (.ite vj v (.ite vz v (.bE (bw a0 a1 false 0 0 [] (D.r []).aa 0 (a0.ae 4).int 0 (a0.ae 5).int false 0 0 (a0.ae 1).int false false)))) (.ite (u==(9:Int)) (.bE (bw a0 a1 false 0 0 [] (D.r []).aa 0 (a0.ae 4).int (a0.ae 6).int 0 false 0 0 (a0.ae 1).int false false)) (.ite (u==(10:Int)) (.ite (! (a0.ae 9).bool) (.ite (i.int !=(0:Int)) v j) j) (.ite (u==(12:Int)) (.ite vv v (.call fp [vu] fun d2=>(.ite (decide (d2.int>vk)) v (.call cm [vu] fun d3=>(.ite (! d3.bool) v (.bE (fP a0 a1 (a0.ae 1).int 0))))))) (.ite (u==(13:Int)) (.bE (bw a0 a1 false 0 0 [] (D.r []).aa 0 0 (a0.ae 6).int 0 (a0.ae 9).bool 0 0 (a0.ae 1).int false false)) (.ite (u==(14:Int)) (.bE (bw a0 a1 false 0 0 [] (D.r []).aa 0 0 (a0.ae 6).int 0 false (a0.ae 8).int 0 (a0.ae 1).int false false)) (.ite (u==(15:Int)) t (.ite (u==(16:Int)) t (.bE (bw a0 a1 false 0 0 [] (D.r []).aa 0 0 0 0 false 0 0 (a0.ae 1).int false false))))))))))))))))))) (.ite (u==(1:Int)) (.bE (bw a0 a1 false i.int ut.int uq.bj up.aa uk.int 0 0 0 false 0 0 0 false false)) (.ite (u==(2:Int)) (.ite q v (.call kM [k] fun d4=>(.ite (! d4.bool) v uj))) (.ite (u==(4:Int)) (.ite q v (.call kM [k] fun d5=>(.ite (! d5.bool) v uj))) (.ite (u==(3:Int)) (.bE (bw a0 a1 false 0 0 [] (D.r []).aa 0 (a0.ae 4).int 0 0 false 0 0 0 false false)) (.ite (u==(6:Int)) uv (.ite (u==(11:Int)) uv (.ite (u==(7:Int)) (.bE (bw a0 a1 false i.int ut.int uq.bj up.aa uk.int 0 (a0.ae 6).int 0 false 0 0 0 false false)) (.ite (u==(8:Int)) (.ite vj v (.ite vz v (.bE (bw a0 a1 false 0 0 [] (D.r []).aa 0 (a0.ae 4).int 0 (a0.ae 5).int false 0 0 0 false false)))) (.ite (u==(9:Int)) (.bE (bw a0 a1 false 0 0 [] (D.r []).aa 0 (a0.ae 4).int (a0.ae 6).int 0 false 0 0 0 false false)) (.ite (u==(10:Int)) (.ite (! (a0.ae 9).bool) (.ite (i.int !=(0:Int)) v p) p) (.ite (u==(12:Int)) (.ite vv v (.call fp [vu] fun d6=>(.ite (decide (d6.int>vk)) v (.call cm [vu] fun d7=>(.ite (! d7.bool) v (.bE (fP a0 a1 0 0))))))) (.ite (u==(13:Int)) (.bE (bw a0 a1 false 0 0 [] (D.r []).aa 0 0 (a0.ae 6).int 0 (a0.ae 9).bool 0 0 0 false false)) (.ite (u==(14:Int)) (.bE (bw a0 a1 false 0 0 [] (D.r []).aa 0 0 (a0.ae 6).int 0 false (a0.ae 8).int 0 0 false false)) (.ite (u==(15:Int)) uu (.ite (u==(16:Int)) uu (.bE (bw a0 a1 false 0 0 [] (D.r []).aa 0 0 0 0 false 0 0 0 false false))))))))))))))))))))) (wp .i64 (a0.ae 0).int))) (.ret (D.b false)))) (.bE (bw a0 a1 false i.int ut.int uq.bj up.aa uk.int 0 0 0 (a0.ae 9).bool 0 0 (a0.ae 1).int false false)))) (D.r [(D.z 3),(D.z 0),(D.s []),(D.r (a0.ae 3).aa),(D.z 0)]))) (.bE (bw a0 a1 false i.int ut.int uq.bj up.aa uk.int 0 0 0 (a0.ae 9).bool 0 0 0 false false)))) (decide (((a0.ae 3).aa.length:Int)>vk)))) (.bE (bw a0 a1 false 0 0 [] (D.r []).aa 0 0 (a0.ae 6).int 0 false 0 (a0.ae 7).int (a0.ae 1).int false false)))) ((a0.ae 2).ae 0))) (.bE (bw a0 a1 false 0 0 [] (D.r []).aa 0 0 (a0.ae 6).int 0 false 0 0 (a0.ae 1).int false false)))) (.bE (bw a0 a1 false 0 0 [] (D.r []).aa 0 0 (a0.ae 6).int 0 false 0 (a0.ae 7).int 0 false false)))) (.bE (bw a0 a1 false 0 0 [] (D.r []).aa 0 0 (a0.ae 6).int 0 false 0 0 0 false false)))) (.bE (bw a0 a1 true 0 0 [] (D.r []).aa 0 0 0 0 false 0 0 (a0.ae 1).int false false)))) (.bE (bw a0 a1 true 0 0 [] (D.r []).aa 0 0 0 0 false 0 0 0 false false)))) ((a0.ae 2).ae 4))) ((a0.ae 2).ae 3))) ((a0.ae 2).ae 2))) ((a0.ae 2).ae 1))) (D.r (a0.ae 10).aa))) (decide (((a0.ae 11).aa.length:Int)>(64:Int))))) (decide ((a0.ae 5).int>(a0.ae 4).int)))) (decide ((a0.ae 5).int<(0:Int))))) (512:Int)):=
  oP nr 0x20200b2222222222222222214100541414120400b20400b2110400a310400a0691420400b310400a21141420500b2110500a314110051120500b2110500a3100520500b2110500a31120400b222222222222222214100541414120400b20400b2110400a310400a0691420400b310400a21141420500b2110500a314110051120500b2110500a3100520500b2110500a31110400a3110200a31
theorem KB:lk nr (.kE Q) (bw a0 a1 b0 n1 n2 s3 l4 n5 n6 n7 n8 b9 n10 n11 n12 b13 b14)
 ((fun (j:RT)=>((fun (v:RT)=>((fun (u:RT)=>(.ite (decide ((a0.ae 4).int<(0:Int))) v (.ite (decide ((a0.ae 4).int>(9007199254740992:Int))) v (.call kM [(ct pg ao (a0.ae 2))] fun d0=>(.ite (! d0.bool) v (.ite ((a0.ae 1).int==n12) (.call lg [(ct pg ao (a0.ae 2)),(D.r [(D.z n1),(D.z n2),(D.s s3),(D.r l4),(D.z n5)])] fun d1=>(.ite d1.bool (.ite ((a0.ae 4).int==n6) (.ite ((a0.ae 5).int==n8) (.ite ((a0.ae 6).int==n7) (.ite ((a0.ae 7).int==n11) (.ite ((a0.ae 8).int==n10) (.ite ((a0.ae 9).bool==b9) (.ite b0 u (.ite (((a0.ae 3).aa.length:Int)==(0:Int)) u v)) v) v) v) v) v) v) v)) v)))))) (.ite b13 j (.ite (((a0.ae 11).aa.length:Int)==(0:Int)) j v)))) (.ret (D.b false)))) (.ite b14 (.ret (D.b true)) (.ret (D.b (((a0.ae 10).aa.length:Int)==(0:Int)))))):=
  oE nr 0x20300b20400b220500b30910500a20500b2a910500a20500b24910500a20500b1e910500a20500b18910500a20500b12910500a20500b0c910500a20300b089100520300b01500601520300b049100520300b01500601520300b100520300b01500601510300a01500501510300a01500501502920300b3006310300a3005310300a01500501502920300b3006320300b100520300b01500601510300a01500501510300a300503920300b3006310300a30053110400a310300a0691
theorem tJ:lk nr (.kE Q) (fP a0 a1 n0 n1)
 (.ite (decide (n1<((a0.ae 11).aa.length:Int))) (.gd (dy n1 (a0.ae 11).aa.length) (.call kM [(ct pg ao ((D.at (a0.ae 11).aa n1.toNat).ae 1))] fun d0=>(.ite (! d0.bool) (.ret (D.b false)) (.bE (fP a0 a1 n0 (wp .i64 (n1+1))))))) (.bE (bw a0 a1 false 0 0 [] (D.r []).aa 0 0 0 0 false 0 0 n0 true true))):=
  oE nr 0x2121211
end
section
variable {R:RS} {r n0 k o:Int} {Q:D->Prop} {b:Bool}
def Ch:cw:={f:=ky,rs:=[aO,aj],bu:=some 1,bK:=[⟨ky,0,16440,[4,6,0,1],[]⟩],Tg:=[(aO,5,eQ),(aO,7,eQ),(aO,14,bB),(aO,15,jT)]}
@[simp] theorem ade:Ch.f=ky/\Ch.rs=[aO,aj]:=⟨rfl,rfl⟩
def z7 (R:RS)(r n0:Int):av:=hdS ky 37 [(0,(.aG 0 0)),(1,(.int .i64 r)),(4,(.aG 1 0)),(6,(.int .i64 n0))] [(0,rrC R 2 3 4 5),(1,(.cells [(.int .u8 0),(.int .i64 0),(.int .u8 0),(.int .i64 0),(.bj []),(.bC ao (D.r []).aa),(.int .i64 0),(.bC ao (D.r []).aa),(.int .i64 0),(.int .i64 0),(.int .i64 0),(.int .i64 0),(.int .u8 0),(.bool false),(.bC aT (D.r []).aa),(.bC fT (D.r []).aa)] aO false)),(2,(.an ah R.pa true)),(3,(.an aj R.cu true)),(4,(.an bQ R.th true)),(5,(.an ah R.ma true))]
theorem ZY:lh Ch (Iq R r) (Rm R) 1 wZ Q
 (.bE (z7 R r 0)):=
  oH Ch 0x1
theorem JS:lk Ch (.bu 1 (wZ (Iq R r) (Rm R)) Q) (z7 R r n0)
 ((fun (j:D)=>((fun (z:BV)=>((fun (v:BV)=>((fun (u:BV)=>(.ite (decide (n0<(R.th.length:Int))) (.gd (dy n0 R.th.length) (.gd (decide (n0.toNat<R.th.length)) (.ite ((j.ae 0).int==(r:Int)) (.aL (.tuple [(.agg (aK pg aO (j.ae 1))),(.bool true)]) (Rm R)) (.bE (z7 R r (wp .i64 (n0+1))))))) (.aL (.tuple [(.agg [z,u,z,u,(.bj []),v,u,v,u,u,u,u,z,(.bool false),(.bC aT (D.r []).aa),(.bC fT (D.r []).aa)]),(.bool false)]) (Rm R)))) (.int .i64 0))) (.bC ao (D.r []).aa))) (.int .u8 0))) (D.at R.th n0.toNat)):=
  oE Ch 0x212121210250151
def Ci:cw:={f:=rX,rs:=[ah],bu:=some 1,bD:=[(ky,wZ)]}
@[simp] theorem abx:Ci.f=rX/\Ci.rs=[ah]:=⟨rfl,rfl⟩
theorem TK:lh Ci (KN R r) (Rm R) 1 Cd Q
 (.aq ky [(.aG 0 0),(.int .i64 r)] (Rm R) 1 fun d0=>(.aL (.int .i64 (wp .i64 ((d0.ae 0).ae 0).int)) (Rm R))):=
  oH Ci 0x1
def yH:cw:={f:=kX,rs:=[nP],bu:=some 1,bD:=[(ky,wZ),(kX,vI)]}
@[simp] theorem abw:yH.f=kX/\yH.rs=[nP]:=⟨rfl,rfl⟩
theorem TJ:lh yH (Gd R r) (Rm R) 1 vI Q
 ((fun (k:RT)=>((fun (j:RT)=>((fun (v:RT)=>(.aq ky [(.aG 0 0),(.int .i64 r)] (Rm R) 1 fun d0=>((fun (z:BV)=>((fun (u:Int)=>(.ite (! (d0.ae 1).bool) k (.ite (u==(1:Int)) (.aL (.int .u8 3) (Rm R)) (.ite (u==(2:Int)) j (.ite (u==(3:Int)) j (.ite (u==(4:Int)) (.aL (.int .u8 12) (Rm R)) (.ite (u==(5:Int)) v (.ite (u==(6:Int)) v (.ite (u==(8:Int)) v (.ite (u==(12:Int)) v (.ite (u==(9:Int)) (.aL (.int .u8 13) (Rm R)) (.ite (u==(10:Int)) (.aL (.int .u8 1) (Rm R)) (.ite (u==(11:Int)) (.aL (.int .u8 8) (Rm R)) (.ite (u==(13:Int)) (.aL (.int .u8 33) (Rm R)) (.ite (u==(14:Int)) (.aL (.int .u8 ((d0.ae 0).ae 8).int) (Rm R)) (.ite (u==(15:Int)) (.aq kX [(.aG 0 0),z] (Rm R) 1 fun d1=>(.aL (.int .u8 d1.int) (Rm R))) (.ite (u==(16:Int)) (.aq kX [(.aG 0 0),z] (Rm R) 1 fun d2=>(.aL (.int .u8 d2.int) (Rm R))) k))))))))))))))))) (wp .i64 ((d0.ae 0).ae 0).int))) (.int .i64 ((d0.ae 0).ae 6).int)))) (.aL (.int .u8 16) (Rm R)))) (.aL (.int .u8 9) (Rm R)))) (.aL (.int .u8 0) (Rm R))):=
  oH yH 0x222222222222222211005111111100510051005111005111
def rR:cw:={f:=hT,rs:=[aj],bu:=some 1,bK:=[⟨hT,0,16467,[3,4,2,1,0,11],[]⟩]}
@[simp] theorem aaL:rR.f=hT/\rR.rs=[aj]:=⟨rfl,rfl⟩
def om (R:RS)(r k o:Int)(b:Bool)(n0:Int):av:=hdS hT 37 [(0,(.aG 0 0)),(1,(.int .i64 r)),(2,(.int .i64 k)),(3,(.int .i64 o)),(4,(.bool b)),(11,(.int .i64 n0))] [(0,rrC R 1 2 3 4),(1,(.an ah R.pa true)),(2,(.an aj R.cu true)),(3,(.an bQ R.th true)),(4,(.an ah R.ma true))]
theorem QM:lh rR (wj R r k o b) (Rm R) 1 rK Q
 (.bE (om R r k o b 0)):=
  oH rR 0x1
theorem Dp:lk rR (.bu 1 (rK (wj R r k o b) (Rm R)) Q) (om R r k o b n0)
 ((fun (j:D)=>((fun (z:RT)=>((fun (v:D)=>((fun (u:RT)=>(.ite (decide (n0<(R.th.length:Int))) (.gd (dy n0 R.th.length) (.gd (decide (n0.toNat<R.th.length)) (.ite ((j.ae 0).int !=(r:Int)) (.ite ((wp .i64 (v.ae 0).int)==(k:Int)) (.ite b (.ite ((v.ae 7).int==(o:Int)) z u) (.ite ((v.ae 6).int==(o:Int)) z u)) u) u))) (.aL (.bool false) (Rm R)))) (.bE (om R r k o b (wp .i64 (n0+1)))))) (j.ae 1))) (.aL (.bool true) (Rm R)))) (D.at R.th n0.toNat)):=
  oE rR 0x21212101500520500b07910500a20500b3100520300b015006015039007007007007300701530152110300a01500501520200b018018018018006018025006025310300a02500502531
end
section
variable {l l2:List D} {Q:D->Prop} {n0:Int} {c1:Nat}
def yN:cw:={f:=tx,rs:=[bN,aX],bu:=some 0,bK:=[⟨tx,0,16448,[0,4,5],[]⟩],C5:=[(bp,0,ah),(bp,2,bQ)]}
@[simp] theorem acT:yN.f=tx/\yN.rs=[bN,aX]:=⟨rfl,rfl⟩
def vn (l:List D)(n0:Int)(c1:Nat)(l2:List D):av:=hdS tx 151 [(0,(.bC bY l)),(4,(.aG 0 0)),(5,(.int .i64 n0))] [(0,(.cells [(.aV 1 c1 true),(.aV 2 l.length true),(.aV 3 0 true),(.int .i64 0),(.aV 4 (wp .i64 ((l.length:Int)+1)).toNat true)] bp false)),(1,(.an ah l2 true)),(2,(.an aj (List.replicate l.length (D.b false)) true)),(3,(.an bQ [] true)),(4,(.an ah (List.replicate (wp .i64 ((l.length:Int)+1)).toNat (D.z 0)) true))]
theorem Xh:lh yN (A8 l) [] 0 yB Q
 ((fun (u:Int)=>((fun (v:Int)=>(.ite (decide (u≥(16:Int))) (.aL (.tuple [.gT,(.int .i64 71)]) []) (.gd (rv v v 8) (.gd (rv u u 1) (.bE (vn l 0 0 [])))))) (wp .i64 (u+1)))) (l.length:Int)):=
  oH yN 0x2212111
theorem FN:lk yN (.bu 0 (yB (A8 l) []) Q) (vn l n0 c1 l2)
 ((fun (j:D)=>((fun (v:Int)=>((fun (u:RT)=>(.ite (decide (n0<(l.length:Int))) (.gd (dy n0 l.length) (.ite (decide (j.int<(0:Int))) u (.ite (decide (j.int>n0)) u (.gd ((decide (c1=l2.length))&&(bg 8 (c1+1))) (.bE (vn l (wp .i64 (n0+1)) (c1+1) (l2++[(D.z j.int)]))))))) (.aL (.tuple [(.aG 0 0),(.int .i64 0)]) [(0,(.cells [(.aV 1 c1 true),(.aV 2 l.length true),(.aV 3 0 true),(.int .i64 0),(.aV 4 v.toNat true)] bp false)),(1,(.an ah l2 true)),(2,(.an aj (List.replicate l.length (D.b false)) true)),(3,(.an bQ [] true)),(4,(.an ah (List.replicate v.toNat (D.z 0)) true))]))) (.aL (.tuple [.gT,(.int .i64 71)]) []))) (wp .i64 ((l.length:Int)+1)))) (D.at l n0.toNat)):=
  oE yN 0x212120200b0150400b2025321110600a31
end
section
variable {W:WS} {r:Int} {y:D} {Q:D->Prop}
def Bm:cw:={f:=Bw,rs:=[aj],bu:=some 3,bD:=[(dz,Bb),(jK,IT),(oe,yy),(jL,rL)]}
@[simp] theorem acL:Bm.f=Bw/\Bm.rs=[aj]:=⟨rfl,rfl⟩
theorem W9:lh Bm (IN W r y) (Wm W) 3 EF Q
 ((fun (uk:D)=>((fun (uj:BV)=>((fun (uz:Bool)=>((fun (uv:D)=>((fun (uu:D)=>((fun (o:D)=>((fun (i:D)=>((fun (t:RT)=>((fun (q:D)=>((fun (p:Bool)=>((fun (j:RT)=>((fun (v:BV)=>((fun (u:RT)=>(.ite ((y.ae 0).int==(6:Int)) (.aq jK [(.aG 0 0),v] (Wm W) 3 fun d0=>(.ite (d0.int==(5:Int)) (.gd p (.ite (q.int==(y.ae 1).int) (.aq jL [(.aG 0 0),(.int .i64 r),(.int .u8 6),v] (Wm W) 3 fun d1=>(.aL (.bool (! d1.bool)) (Wm W))) u)) u)) (.ite ((y.ae 0).int==(7:Int)) (.aq jK [(.aG 0 0),v] (Wm W) 3 fun d2=>(.ite (d2.int==(5:Int)) j u)) (.ite ((y.ae 0).int==(9:Int)) (.aq jK [(.aG 0 0),v] (Wm W) 3 fun d3=>(.ite (d3.int==(8:Int)) j u)) (.ite ((y.ae 0).int==(11:Int)) (.aq jK [(.aG 0 0),v] (Wm W) 3 fun d4=>(.ite (d4.int==(10:Int)) (.gd p (.ite (q.int==(y.ae 1).int) (.aq jL [(.aG 0 0),(.int .i64 r),(.int .u8 11),v] (Wm W) 3 fun d5=>(.aL (.bool (! d5.bool)) (Wm W))) u)) u)) (.ite ((y.ae 0).int==(15:Int)) (.aq jK [(.aG 0 0),uj] (Wm W) 3 fun d6=>(.ite (d6.int==(13:Int)) (.gd uz (.ite (o.int==(y.ae 1).int) (.aq dz [(.aG 0 0),v] (Wm W) 3 fun d7=>(.ite d7.bool (.aL (.bool ((uv.ae 6).int==(r:Int))) (Wm W)) u)) u)) u)) (.ite ((y.ae 0).int==(16:Int)) (.aq jK [(.aG 0 0),uj] (Wm W) 3 fun d8=>(.ite (d8.int==(3:Int)) (.gd uz (.ite (o.int==(y.ae 1).int) (.aq dz [(.aG 0 0),v] (Wm W) 3 fun d9=>(.aL (.bool d9.bool) (Wm W))) u)) u)) (.ite ((y.ae 0).int==(13:Int)) (.ite ((y.ae 6).int==(0:Int)) t (.aq jK [(.aG 0 0),v] (Wm W) 3 fun d10=>(.ite (d10.int==(15:Int)) (.gd p (.aL (.bool (((D.val W.th uu).ae 7).int==(r:Int))) (Wm W))) u))) (.ite ((y.ae 0).int==(14:Int)) (.aq oe [(.aG 0 0),v] (Wm W) 3 fun d11=>((fun (k:Int)=>(.ite (D.fv W.fa i) (.aq dz [(.aG 0 0),v] (Wm W) 3 fun d12=>(.ite d12.bool (.aq jK [(.aG 0 0),v] (Wm W) 3 fun d13=>(.ite (d13.int !=(14:Int)) (.ite ((y.ae 8).int !=d11.int) (.ite (k==(0:Int)) (.aL (.bool ((D.val W.fa i).int==(r:Int))) (Wm W)) u) u) u)) u)) (.aq dz [(.aG 0 0),v] (Wm W) 3 fun d14=>(.ite d14.bool (.aq jK [(.aG 0 0),v] (Wm W) 3 fun d15=>(.ite (d15.int !=(14:Int)) (.ite ((y.ae 8).int !=d11.int) (.ite (k==(0:Int)) t u) u) u)) u)))) (wp .u8 ((BitVec.toNat ((BitVec.ofInt 8 (y.ae 8).int) &&& (~~~ (BitVec.ofInt 8 d11.int)))):Int)))) t))))))))) (.aL (.bool false) (Wm W)))) (.int .i64 (y.ae 6).int))) (.gd p (.aL (.bool (q.int==(y.ae 1).int)) (Wm W))))) (D.fv W.th uu))) ((D.val W.th uu).ae 1))) (.aL (.bool true) (Wm W)))) (D.r [uu,(D.z (y.ae 8).int)]))) (uv.ae 1))) (D.z (y.ae 6).int))) (D.val W.th uk))) (D.fv W.th uk))) (.int .i64 (y.ae 7).int))) (D.z (y.ae 7).int)):=
  oH Bm 0x222222221220500b10910500a20400b0b910400a20500b05910500a20400b10200a0390053005120500b10910500a20400b0b910400a20500b05910500a20400b10200a0390053005120500b20b00b01600601610600a201510301a0050201a02601502610700a120c00b05910500a201510301a0050401a20400b10400a120c00b12910500a201510301a0050401a20400b0d910400a20c00b10600a0250300a0250300a120c00b07910500a201510301a0050401a20600b10600a120c00b10500a201510301a0050401a120c00b10500a201510301a0050401a120c00b07910500a201510301a0050401a20600b10600a1
end
section
variable {a0:D} {Q:D->Prop}
def zP:cw:={f:=wH,rs:=[aj],cK:=[(r7,[q8],[aj])]}
@[simp] theorem aaT:zP.f=wH/\zP.rs=[aj]:=⟨rfl,rfl⟩
theorem QU:lp zP [q8] [a0] Q
 ((fun (u:RT)=>(.ite (a0.int==(6:Int)) u (.ite (a0.int==(7:Int)) u (.ite (a0.int==(9:Int)) u (.ite (a0.int==(11:Int)) u (.call r7 [(D.z a0.int)] fun d0=>(.ret (D.b d0.bool)))))))) (.ret (D.b true))):=
  oP zP 0x20200b20200b20200b20200b10200a10200a03910200a06910200a0991
def zO:cw:={f:=mK,rs:=[aj]}
@[simp] theorem aaS:zO.f=mK/\zO.rs=[aj]:=⟨rfl,rfl⟩
theorem QT:lp zO [q8] [a0] Q
 (.ite (a0.int==(15:Int)) (.ret (D.b true)) (.ret (D.b (a0.int==(16:Int))))):=
  oP zO 0x20200b10200a1
def Cw:cw:={f:=r7,rs:=[aj]}
@[simp] theorem ab3:Cw.f=r7/\Cw.rs=[aj]:=⟨rfl,rfl⟩
theorem Uf:lp Cw [q8] [a0] Q
 (.ite (a0.int==(14:Int)) (.ret (D.b true)) (.ite (a0.int==(15:Int)) (.ret (D.b true)) (.ret (D.b (a0.int==(16:Int)))))):=
  oP Cw 0x20200b20200b10200a10200a0391
def va:cw:={f:=gD,rs:=[aj]}
@[simp] theorem Yu:va.f=gD/\va.rs=[aj]:=⟨rfl,rfl⟩
theorem MF:lp va [ah] [a0] Q
 (.ite (a0.int==(14:Int)) (.ret (D.b true)) (.ite (a0.int==(15:Int)) (.ret (D.b true)) (.ret (D.b (a0.int==(16:Int)))))):=
  oP va 0x20200b20200b10200a10200a0391
end
section
variable {W:WS} {Q:D->Prop} {l0 l3 l1 l4:List D} {st1 st2:List Nat} {c2 c3:Nat} {m0 m1:List (D×D)} {n0 n5:Int}
def bR:cw:={f:=cP,rs:=[aj],bu:=some 3,cK:=[(wH,[q8],[aj]),(mK,[q8],[aj]),(r7,[q8],[aj])],bD:=[(dz,Bb),(yS,Gk),(Bw,EF),(rY,yz)],bK:=[⟨cP,0,16661,[0,17],[]⟩,⟨cP,0,28857,[0,17,6,5],[]⟩,⟨cP,0,16493,[0,131],[]⟩,⟨cP,0,16423,[0,167],[]⟩]}
@[simp] theorem abC:bR.f=cP/\bR.rs=[aj]:=⟨rfl,rfl⟩
def nA (W:WS)(l0:List D)(st1:List Nat)(c2:Nat)(l3:List D):av:=hdS cP 37 [(0,(.aG 0 0)),(17,(.aG 3 0))] [(0,wrC W 4 1 2 5),(1,wrT W 1),(2,wrF W),(3,(.jS 1 l0 st1 c2 l3)),(4,(.an aj W.cu true)),(5,(.an ah W.ma true))]
def nB (W:WS)(m0:List (D×D))(st1:List Nat)(c2:Nat)(l3:List D):av:=hdS cP 75 [(0,(.aG 0 0)),(131,(.aG 3 0))] [(0,wrC W 4 1 2 5),(1,wrT W 1),(2,(.bo aM (.data bh) m0 st1 c2)),(3,(.jS 1 (D.cX W.th) W.st W.ck l3)),(4,(.an aj W.cu true)),(5,(.an ah W.ma true))]
def cV (W:WS)(n0:Int)(l1:List D)(st2:List Nat)(c3:Nat)(l4:List D)(n5:Int):av:=hdS cP 20325 [(0,(.aG 0 0)),(5,(.int .i64 n5)),(6,(.int .i64 n0)),(17,(.aG 3 0))] [(0,wrC W 4 1 2 5),(1,wrT W 1),(2,wrF W),(3,(.jS 1 l1 st2 c3 l4)),(4,(.an aj W.cu true)),(5,(.an ah W.ma true))]
def ot (W:WS)(l0:List D)(m1:List (D×D))(st2:List Nat)(c3:Nat):av:=hdS cP 151 [(0,(.aG 0 0)),(167,(.aG 3 0))] [(0,wrC W 4 1 2 5),(1,wrT W 1),(2,(.bo aM (.data bh) m1 st2 c3)),(3,(.jS 1 (D.cX W.th) W.st W.ck l0)),(4,(.an aj W.cu true)),(5,(.an ah W.ma true))]
theorem TP:lh bR (cj W) (Wm W) 3 b7 Q
 (.bE (nA W (D.cX W.th) W.st W.ck [])):=
  oH bR 0x1
theorem MM:lk bR (.bu 3 (b7 (cj W) (Wm W)) Q) (nA W l0 st1 c2 l3)
 ((fun (v:RT)=>(.gd (tR W.th W.st W.ck l0 st1 c2) (.pick l0 l3 (.bE (nB W W.fa W.sf W.cf [])) fun d0=>((fun (q:D)=>((fun (t:BV)=>((fun (p:D)=>((fun (i:D)=>((fun (k:D)=>((fun (j:BV)=>((fun (u:RT)=>(.gd (D.fv W.th d0) (.aq yS [(.aG 0 0),(.agg (aK pg aO q))] (Wm W) 3 fun d1=>(.ite (! d1.bool) v (.call wH [i] fun d2=>(.ite d2.bool (.aq dz [(.aG 0 0),j] (Wm W) 3 fun d3=>(.ite (! d3.bool) v (.call mK [i] fun d4=>(.ite d4.bool (.aq dz [(.aG 0 0),t] (Wm W) 3 fun d5=>(.ite (! d5.bool) v (.ite (p.int==(13:Int)) (.ite (k.int !=(0:Int)) (.aq dz [(.aG 0 0),j] (Wm W) 3 fun d6=>(.ite (! d6.bool) v u)) u) u))) (.ite (p.int==(13:Int)) (.ite (k.int !=(0:Int)) (.aq dz [(.aG 0 0),j] (Wm W) 3 fun d7=>(.ite (! d7.bool) v u)) u) u))))) (.call mK [i] fun d8=>(.ite d8.bool (.aq dz [(.aG 0 0),t] (Wm W) 3 fun d9=>(.ite (! d9.bool) v (.ite (p.int==(13:Int)) (.ite (k.int !=(0:Int)) (.aq dz [(.aG 0 0),j] (Wm W) 3 fun d10=>(.ite (! d10.bool) v u)) u) u))) (.ite (p.int==(13:Int)) (.ite (k.int !=(0:Int)) (.aq dz [(.aG 0 0),j] (Wm W) 3 fun d11=>(.ite (! d11.bool) v u)) u) u))))))))) (.bE (cV W d0.int l0 st1 c2 (d0::l3) 0)))) (.int .i64 k.int))) (q.ae 6))) (D.z p.int))) (q.ae 0))) (.int .i64 (q.ae 7).int))) (D.val W.th d0))))) (.aL (.bool false) (Wm W))):=
  oE bR 0x21230052120300b0150200b20600b01600601604902502920600b300605903502920400b30060c910300a0450053005320600b300602910400a0550200a300532110400a0350200a3005320300b0450200b20400b0160060160790163016310300a05500501600501620600b026006026310400a0650200a0260050262110900a310400a0250200a01600501620300b0350200b20600b01600601604904502920400b30060c910300a0550053005320600b300602910400a0650200a300532110400a0450200a01600501620300b0550200b20400b0160060160790163016310300a06500501600501620600b026006026310400a0750200a0260050262110900a310700a0b910700a139131
theorem MN:lk bR (.bu 3 (b7 (cj W) (Wm W)) Q) (nB W m0 st1 c2 l3)
 (.gd (tR W.th W.st W.ck (D.cX W.th) W.st W.ck) (.pick (D.cX W.th) l3 (.bE (ot W [] m0 st1 c2)) fun d0=>((fun (u:D)=>(.gd (D.fv W.th d0) (.ite ((u.ae 0).int==(14:Int)) (.ite (D.fv m0 (D.r [(D.z (u.ae 6).int),(D.z (u.ae 8).int)])) (.aL (.bool false) (Wm (WS.mk W.pa W.cu W.th W.st W.ck m0 st1 c2 W.la W.ma))) (.aq rY [(.aG 0 0),(.int .i64 d0.int)] (Wm (WS.mk W.pa W.cu W.th W.st W.ck m0 st1 c2 W.la W.ma)) 3 fun d1=>(.bE (nB W (gu (d1.ae 0)) (hG (d1.ae 1)) (hC (d1.ae 2)) (d0::l3))))) (.bE (nB W m0 st1 c2 (d0::l3)))))) (D.val W.th d0)))):=
  oE bR 0x212300521210201a2313131
theorem AI:lk bR (.bu 3 (b7 (cj W) (Wm W)) Q) (cV W n0 l1 st2 c3 l4 n5)
 ((fun (k:D)=>((fun (j:Int)=>((fun (v:RT)=>((fun (u:D)=>(.gd (D.fv W.th (D.z n0)) (.call r7 [(D.z (k.ae 0).int)] fun d0=>(.ite d0.bool (.ite (decide (j>(W.th.length:Int))) v (.aq dz [(.aG 0 0),(.int .i64 u.int)] (Wm W) 3 fun d1=>(.ite (! d1.bool) v (.bE (cV W u.int l1 st2 c3 l4 j))))) (.bE (nA W l1 st2 c3 l4)))))) (k.ae 6))) (.aL (.bool false) (Wm W)))) (wp .i64 (n5+1)))) (D.val W.th (D.z n0))):=
  oE bR 0x210052120600b0250300b0250300b20203a110c00a31
theorem KA:lk bR (.bu 3 (b7 (cj W) (Wm W)) Q) (ot W l0 m1 st2 c3)
 (.gd (tR W.th W.st W.ck (D.cX W.th) W.st W.ck) (.pick (D.cX W.th) l0 (.aL (.bool true) (Wm (WS.mk W.pa W.cu W.th W.st W.ck m1 st2 c3 W.la W.ma))) fun d0=>(.gd (D.fv W.th d0) (.aq Bw [(.aG 0 0),(.int .i64 d0.int),(.agg (aK pg aO (D.val W.th d0)))] (Wm (WS.mk W.pa W.cu W.th W.st W.ck m1 st2 c3 W.la W.ma)) 3 fun d1=>(.ite (! d1.bool) (.aL (.bool false) (Wm (WS.mk W.pa W.cu W.th W.st W.ck m1 st2 c3 W.la W.ma))) (.bE (ot W (d0::l0) m1 st2 c3))))))):=
  oE bR 0x21230052121131
end
section
variable {W:WS} {r:Int} {Q:D->Prop}
def yK:cw:={f:=rY,rs:=[],bu:=some 3}
@[simp] theorem abz:yK.f=rY/\yK.rs=[]:=⟨rfl,rfl⟩
theorem TM:lh yK (Ge W r) (Wm W) 3 yz Q
 ((fun (v:D)=>((fun (u:D)=>(.gd (D.fv W.th (D.z r)) (.ite ((v.ae 0).int==(14:Int)) (.ite (D.fv W.fa u) (.aL (.tuple []) (Wm (WS.mk W.pa W.cu W.th W.st W.ck (D.jP W.fa u (D.z r)) W.sf W.cf W.la W.ma))) (.aL (.tuple []) (Wm (WS.mk W.pa W.cu W.th W.st W.ck (W.fa++[(u,(D.z r))]) (W.sf++[W.cf]) (W.cf+1) W.la W.ma)))) (.aL (.tuple []) (Wm W))))) (D.r [(D.z (v.ae 6).int),(D.z (v.ae 8).int)]))) (D.val W.th (D.z r))):=
  oH yK 0x21005210201a211
end
section
variable {R:RS} {r n2 n1:Int} {y y0 y1:D} {Q:D->Prop} {c0:Nat} {l1:List D} {b0:Bool}
def gl:cw:={f:=eG,rs:=[aX],bu:=some 1,cK:=[(gD,[ah],[aj])],bD:=[(ky,wZ),(rX,Cd),(kX,vI),(hT,rK),(pQ,yC)],bK:=[⟨eG,0,16796,[7,0,5,1,8],[]⟩,⟨eG,0,20566,[5,1,0,17,15],[]⟩],S5:=[⟨eG,0,4385,[5,1,0,10,12,15,9],[]⟩]}
@[simp] theorem aaK:gl.f=eG/\gl.rs=[aX]:=⟨rfl,rfl⟩
def sB (R:RS)(r:Int)(y:D)(c0:Nat)(l1:List D)(n2:Int):av:=hdS eG 75 [(0,(.aG 0 0)),(1,(.int .i64 r)),(5,(.aG 1 0)),(7,(.aV 2 c0 true)),(8,(.int .i64 n2))] [(0,rrC R 3 4 5 6),(1,(.cells (aK pg aO y) aO false)),(2,(.an bh l1 true)),(3,(.an ah R.pa true)),(4,(.an aj R.cu true)),(5,(.an bQ R.th true)),(6,(.an ah R.ma true))]
def uf (R:RS)(r:Int)(y y0 y1:D):av:=hdS eG 1023 [(0,(.aG 0 0)),(1,(.int .i64 r)),(5,(.aG 1 0)),(9,(.int .i64 (wp .i64 (y.ae 0).int))),(10,(.aG 2 0)),(12,(.aG 3 0)),(15,(.bool true))] [(0,rrC R 4 5 6 7),(1,(.cells (aK pg aO y) aO false)),(2,(.cells (aK pg aO y0) aO false)),(3,(.cells (aK pg aO y1) aO false)),(4,(.an ah R.pa true)),(5,(.an aj R.cu true)),(6,(.an bQ R.th true)),(7,(.an ah R.ma true))]
def dt (R:RS)(r:Int)(y:D)(b0:Bool)(n1:Int):av:=hdS eG 10603197951 [(0,(.aG 0 0)),(1,(.int .i64 r)),(5,(.aG 1 0)),(15,(.bool b0)),(17,(.int .i64 n1))] [(0,rrC R 2 3 4 5),(1,(.cells (aK pg aO y) aO false)),(2,(.an ah R.pa true)),(3,(.an aj R.cu true)),(4,(.an bQ R.th true)),(5,(.an ah R.ma true))]
theorem QL:lh gl (jf R r y) (Rm R) 1 gV Q
 (.aq pQ [(.agg (aK pg aO y))] [] 0 fun d0=>(.bE (sB R r y d0.aa.length d0.aa 0))):=
  oH gl 0x1
theorem Dn:lk gl (.bu 1 (gV (jf R r y) (Rm R)) Q) (sB R r y c0 l1 n2)
 ((fun (p:RT)=>((fun (j:Int)=>(.ite (decide (n2<(c0:Int))) (.gd (dy n2 c0) (.gd (decide (n2.toNat<l1.length)) (.aq rX [(.aG 0 0),(.int .i64 (D.at l1 n2.toNat).int)] (Rm R) 1 fun d0=>(.ite (d0.int==(0:Int)) p (.bE (sB R r y c0 l1 (wp .i64 (n2+1)))))))) (.aq ky [(.aG 0 0),(.int .i64 (y.ae 6).int)] (Rm R) 1 fun d1=>(.aq ky [(.aG 0 0),(.int .i64 (y.ae 7).int)] (Rm R) 1 fun d2=>((fun (q:RT)=>((fun (k:RT)=>((fun (v:RT)=>((fun (u:RT)=>(.ite (j==(6:Int)) u (.ite (j==(7:Int)) u (.ite (j==(9:Int)) u (.ite (j==(11:Int)) u (.call gD [(D.z j)] fun d3=>(.ite d3.bool u (.ite (j==(13:Int)) (.ite ((y.ae 6).int !=(0:Int)) u v) v)))))))) (.ite (! (d1.ae 1).bool) p v))) (.ite (j==(15:Int)) k (.ite (j==(16:Int)) k q)))) (.ite (! (d2.ae 1).bool) p q))) (.bE (uf R r y (d1.ae 0) (d2.ae 0)))))))) (wp .i64 (y.ae 0).int))) (.aL (.int .i64 5) (Rm R))):=
  oE gl 0x220200b20200b20200b20200b20200b20200b0160060160692006300632006300602910053005321100530050692110200a01600501620200b0392006300632006300602910053005321100530050692110200a20200b200601600601620060260060263100502600502621100501600501602901630162110600a310400a03920200b200601600601620060260060263100502600502621100501600501602901630162110600a310200a08920200b200601600601620060260060263100502600502621100501600501602901630162110600a310200a0b920200b200601600601620060260060263100502600502621100501600501602901630162110600a310200a0e920200b200601600601620060260060263100502600502621100501600501602901630162110600a310200a11920200b200601600601620060260060263100502600502621100501600501602901630162110600a312121211
theorem Ij:lk gl (.bu 1 (gV (jf R r y) (Rm R)) Q) (uf R r y y0 y1)
 ((fun (i:BV)=>((fun (t:Int)=>((fun (q:RT)=>((fun (p:BV)=>((fun (j:Int)=>((fun (z:RT)=>((fun (v:Int)=>((fun (u:RT)=>((fun (k:RT)=>(.ite (v==(6:Int)) (.ite (j==(5:Int)) (.ite ((y0.ae 1).int==(y.ae 1).int) (.aq hT [(.aG 0 0),i,(.int .i64 6),p,(.bool false)] (Rm R) 1 fun d0=>(.ite (! (! d0.bool)) u z)) u) u) (.ite (v==(7:Int)) (.ite (j==(5:Int)) k u) (.ite (v==(9:Int)) (.ite (j==(8:Int)) k u) (.ite (v==(11:Int)) (.ite (j==(10:Int)) (.ite ((y0.ae 1).int==(y.ae 1).int) (.aq hT [(.aG 0 0),i,(.int .i64 11),p,(.bool false)] (Rm R) 1 fun d1=>(.ite (! (! d1.bool)) u z)) u) u) (.ite (v==(13:Int)) (.ite ((y.ae 6).int==(0:Int)) z (.ite (j==(15:Int)) (.ite (! ((y0.ae 7).int==(r:Int))) u z) u)) (.ite (v==(15:Int)) (.ite (t==(13:Int)) (.ite ((y1.ae 1).int==(y.ae 1).int) (.aq hT [(.aG 0 0),i,(.int .i64 15),(.int .i64 (y.ae 7).int),(.bool true)] (Rm R) 1 fun d2=>(.ite (! d2.bool) (.ite ((r:Int)==(0:Int)) z (.ite (! ((y1.ae 6).int==(r:Int))) u z)) u)) u) u) (.ite (v==(16:Int)) (.ite (t==(3:Int)) (.ite (! ((y1.ae 1).int==(y.ae 1).int)) u z) u) (.ite (v==(14:Int)) (.aq kX [(.aG 0 0),p] (Rm R) 1 fun d3=>(.ite (j !=(14:Int)) (.ite ((wp .u8 ((BitVec.toNat ((BitVec.ofInt 8 (y.ae 8).int) &&& (~~~ (BitVec.ofInt 8 d3.int)))):Int))==(0:Int)) (.bE (dt R r y ((y.ae 8).int !=d3.int) 0)) q) q)) z))))))))) (.ite (! ((y0.ae 1).int==(y.ae 1).int)) u z))) (.aL (.int .i64 70) (Rm R)))) (wp .i64 (y.ae 0).int))) (.aL (.int .i64 0) (Rm R)))) (wp .i64 (y0.ae 0).int))) (.int .i64 (y.ae 6).int))) (.bE (dt R r y false 0)))) (wp .i64 (y1.ae 0).int))) (.int .i64 r)):=
  oE gl 0x222222223120500b05910500a20400b10400a120500b310500a21120500b0d910500a20600b06910600a20400b310200a20300b0150060152110300a0150050153120400b20300b016006016310300a0160050162110600a3120500b08910500a20600b310600a21120500b310500a21120500b310500a21120500b08910500a20600b310600a211
theorem qW:lk gl (.bu 1 (gV (jf R r y) (Rm R)) Q) (dt R r y b0 n1)
 ((fun (k:D)=>((fun (j:Int)=>((fun (z:RT)=>((fun (v:D)=>((fun (u:RT)=>(.ite (decide (n1<(R.th.length:Int))) (.ite b0 (.gd (dy n1 R.th.length) (.gd (decide (n1.toNat<R.th.length)) (.ite ((k.ae 0).int==(r:Int)) u (.ite ((wp .i64 (v.ae 0).int)!=(14:Int)) u (.ite ((v.ae 6).int !=(y.ae 6).int) u (.bE (dt R r y ((v.ae 8).int !=(y.ae 8).int) j))))))) z) (.ite (!b0) z (.aL (.int .i64 0) (Rm R))))) (.bE (dt R r y true j)))) (k.ae 1))) (.aL (.int .i64 70) (Rm R)))) (wp .i64 (n1+1)))) (D.at R.th n1.toNat)):=
  oE gl 0x2006321100520071212101500520400b20500b20500b10500a10500a06910400a0c91
end
section
variable {R:RS} {Q:D->Prop} {n0 n1 n2 n3:Int}
def mB:cw:={f:=gp,rs:=[ah],bu:=some 1,bD:=[(kX,vI)],bK:=[⟨gp,0,16478,[0,4,3],[]⟩,⟨gp,0,36908,[0,4,3,7,6],[]⟩]}
@[simp] theorem aaM:mB.f=gp/\mB.rs=[ah]:=⟨rfl,rfl⟩
def oo (R:RS)(n0 n1:Int):av:=hdS gp 75 [(0,(.aG 0 0)),(3,(.int .i64 n0)),(4,(.int .i64 n1))] [(0,rrC R 1 2 3 4),(1,(.an ah R.pa true)),(2,(.an aj R.cu true)),(3,(.an bQ R.th true)),(4,(.an ah R.ma true))]
def nw (R:RS)(n0 n1:Int)(n2 n3:Int):av:=hdS gp 77387 [(0,(.aG 0 0)),(3,(.int .i64 n1)),(4,(.int .i64 n2)),(6,(.int .i64 n3)),(7,(.int .u8 n0))] [(0,rrC R 1 2 3 4),(1,(.an ah R.pa true)),(2,(.an aj R.cu true)),(3,(.an bQ R.th true)),(4,(.an ah R.ma true))]
theorem QN:lh mB (pf R) (Rm R) 1 mz Q
 (.bE (oo R 0 0)):=
  oH mB 0x1
theorem Dq:lk mB (.bu 1 (mz (pf R) (Rm R)) Q) (oo R n0 n1)
 ((fun (u:D)=>(.ite (decide (n1<(R.th.length:Int))) (.gd (dy n1 R.th.length) (.gd (decide (n1.toNat<R.th.length)) (.ite ((wp .i64 ((u.ae 1).ae 0).int)==(14:Int)) (.bE (oo R (wp .i64 (n0-1)) (wp .i64 (n1+1)))) (.aq kX [(.aG 0 0),(.int .i64 (u.ae 0).int)] (Rm R) 1 fun d0=>(.bE (nw R d0.int n0 n1 1)))))) (.aL (.int .i64 n0) (Rm R)))) (D.at R.th n1.toNat)):=
  oE mB 0x212121211
theorem GU:lk mB (.bu 1 (mz (pf R) (Rm R)) Q) (nw R n0 n1 n2 n3)
 (.ite (decide (n0>(0:Int))) (.bE (nw R (wp .u8 ((BitVec.toNat ((BitVec.ofInt 8 n0) &&& (BitVec.ofInt 8 (wp .u8 (n0-1))))):Int)) n1 n2 (wp .i64 (2*n3)))) (.bE (oo R (wp .i64 ((wp .i64 (n1+n3))-1)) (wp .i64 (n2+1))))):=
  oE mB 0x211
end
section
variable {R:RS} {r n0 n2:Int} {Q:D->Prop} {c1:Nat} {l3:List D}
def wx:cw:={f:=s9,rs:=[dS],bu:=some 1,cK:=[(gD,[ah],[aj])],bD:=[(ky,wZ)],bK:=[⟨s9,0,16461,[5,0,6,1],[(5,bh)]⟩],C5:=[(dS,0,bh)],Ee:=[some bh]}
@[simp] theorem acG:wx.f=s9/\wx.rs=[dS]:=⟨rfl,rfl⟩
def xy (R:RS)(r n0:Int)(c1:Nat)(n2:Int)(l3:List D):av:=hdS s9 75 [(0,(.aG 0 0)),(1,(.int .i64 n0)),(5,(.aV 1 c1 true)),(6,(.int .i64 n2))] [(0,rrC R 2 3 4 5),(1,(.an bh l3 true)),(2,(.an ah R.pa true)),(3,(.an aj R.cu true)),(4,(.an bQ R.th true)),(5,(.an ah R.ma true))]
theorem W4:lh wx (A4 R r) (Rm R) 1 yx Q
 (.bE (xy R r r 0 0 [])):=
  oH wx 0x1
theorem Hw:lk wx (.bu 1 (yx (A4 R r) (Rm R)) Q) (xy R r n0 c1 n2 l3)
 ((fun (q:ax)=>((fun (p:ax)=>((fun (k:ax)=>((fun (j:ax)=>((fun (v:ax)=>((fun (u:RT)=>(.ite (decide (n2<=(R.th.length:Int))) (.aq ky [(.aG 0 0),(.int .i64 n0)] (Rm R) 1 fun d0=>(.ite (! (d0.ae 1).bool) u (.gd ((decide (c1=l3.length))&&(bg 8 (c1+1))) (.call gD [(D.z (wp .i64 ((d0.ae 0).ae 0).int))] fun d1=>(.ite (! d1.bool) (.aL (.aV 1 (c1+1) true) [(0,v),(1,(.an bh (l3++[(D.z n0)]) true)),(2,j),(3,q),(4,p),(5,k)]) (.bE (xy R r ((d0.ae 0).ae 6).int (c1+1) (wp .i64 (n2+1)) (l3++[(D.z n0)])))))))) u)) (.aL (.aV 1 c1 true) [(0,v),(1,(.an bh l3 true)),(2,j),(3,q),(4,p),(5,k)]))) (.cells [(.aV 2 R.pa.length true),(.aV 3 R.cu.length true),(.aV 4 R.th.length true),(.int .i64 R.la),(.aV 5 R.ma.length true)] bp false))) (.an ah R.pa true))) (.an ah R.ma true))) (.an bQ R.th true))) (.an aj R.cu true)):=
  oE wx 0x2123212111
end
section
variable {y:D} {Q:D->Prop} {n0 n3 n4 n6 n7:Int} {l1 l2 l5:List D} {c0 c7 c4:Nat} {m5 m2:List (D×D)} {st6 st3:List Nat}
def iR:cw:={f:=eO,rs:=[cq,aX],bu:=some 0,cK:=[(di,[aO],[aO])],bD:=[(dC,mw),(kY,rM),(dH,nc),(qD,zE),(pM,w6),(cP,b7),(ta,qj)],bK:=[⟨eO,0,16647,[4,1,33,34,35],[]⟩,⟨eO,0,16583,[8,4,1,63,64,65,9],[]⟩,⟨eO,0,16488,[8,110,4,1,111,112,13],[]⟩],HZ:=[(dC,[some oy])]}
@[simp] theorem ac0:iR.f=eO/\iR.rs=[cq,aX]:=⟨rfl,rfl⟩
def nH (y:D)(n0:Int)(l1:List D):av:=hdS eO 151 [(1,(.aG 0 0)),(4,(.aG 1 0)),(33,(.bC ah (y.ae 1).aa)),(34,(.int .i64 ((y.ae 1).aa.length:Int))),(35,(.int .i64 n0))] [(0,(.cells (aK pg bF y) bF false)),(1,(.cells [(.bC bY (y.ae 0).aa),(.aV 4 ((y.ae 0).aa.length+1) true),(.map 2),(.map 3),(.int .i64 0),(.aV 5 ((y.ae 0).aa.length+1) true)] aU false)),(2,(.bo bh (.cp 8 aO) [] [] 0)),(3,(.bo aM (.data bh) [] [] 0)),(4,(.an aj l1 true)),(5,(.an ah (List.replicate ((y.ae 0).aa.length+1) (D.z 0)) true))]
def lx (y:D)(c0:Nat)(l1 l2:List D)(n3 n4:Int)(m5:List (D×D))(st6:List Nat)(c7:Nat):av:=hdS eO 1215 [(1,(.aG 0 0)),(4,(.aG 1 0)),(8,(.aV 2 c0 true)),(9,(.int .i64 n3)),(63,(.bC bQ (y.ae 2).aa)),(64,(.int .i64 ((y.ae 2).aa.length:Int))),(65,(.int .i64 n4))] [(0,(.cells (aK pg bF y) bF false)),(1,(.cells [(.bC bY (y.ae 0).aa),(.aV 5 ((y.ae 0).aa.length+1) true),(.map 3),(.map 4),(.int .i64 0),(.aV 6 ((y.ae 0).aa.length+1) true)] aU false)),(2,(.an ah l1 true)),(3,(.bo bh (.cp 10 aO) m5 st6 c7)),(4,(.bo aM (.data bh) [] [] 0)),(5,(.an aj l2 true)),(6,(.an ah (List.replicate ((y.ae 0).aa.length+1) (D.z 0)) true))]
def sL (y:D)(c0:Nat)(l1:List D)(m2:List (D×D))(st3:List Nat)(c4:Nat)(l5:List D)(n6 n7:Int):av:=hdS eO 4863 [(1,(.aG 0 0)),(4,(.aG 1 0)),(8,(.aV 2 c0 true)),(13,(.int .i64 n6)),(110,(.bC ah (y.ae 4).aa)),(111,(.int .i64 ((y.ae 4).aa.length:Int))),(112,(.int .i64 n7))] [(0,(.cells (aK pg bF y) bF false)),(1,(.cells [(.bC bY (y.ae 0).aa),(.aV 5 ((y.ae 0).aa.length+1) true),(.map 3),(.map 4),(.int .i64 0),(.aV 6 ((y.ae 0).aa.length+1) true)] aU false)),(2,(.an ah l1 true)),(3,(.bo bh (.cp 10 aO) m2 st3 c4)),(4,(.bo aM (.data bh) [] [] 0)),(5,(.an aj l5 true)),(6,(.an ah (List.replicate ((y.ae 0).aa.length+1) (D.z 0)) true))]
theorem Xo:lh iR (jA y) [] 0 iP Q
 ((fun (v:BV)=>((fun (u:RT)=>(.aq qD [v] [] 0 fun d0=>(.ite d0.bool (.aq dH [(.aG 0 0)] [(0,(.cells [v,(.aV 3 ((y.ae 0).aa.length+1) true),(.map 1),(.map 2),(.int .i64 0),(.aV 4 ((y.ae 0).aa.length+1) true)] aU false)),(1,(.bo bh (.cp 1 aO) [] [] 0)),(2,(.bo aM (.data bh) [] [] 0)),(3,(.an aj (List.replicate ((y.ae 0).aa.length+1) (D.b false)) true)),(4,(.an ah (List.replicate ((y.ae 0).aa.length+1) (D.z 0)) true))] 3 fun d1=>(.ite (((y.ae 4).aa.length:Int)!=d1.int) u (.bE (nH y 0 (List.replicate ((y.ae 0).aa.length+1) (D.b false)))))) u))) (.aL (.tuple [.gT,(.int .i64 71)]) []))) (.bC bY (y.ae 0).aa)):=
  oH iR 0x20a91069434029211
theorem FU:lk iR (.bu 0 (iP (jA y) []) Q) (nH y n0 l1)
 ((fun (uu:Int)=>((fun (o:Int)=>((fun (i:D)=>((fun (t:ax)=>((fun (q:BV)=>((fun (p:ax)=>((fun (k:RT)=>((fun (j:ax)=>((fun (v:ax)=>((fun (u:ax)=>(.ite (decide (n0<((y.ae 1).aa.length:Int))) (.gd (dy n0 (y.ae 1).aa.length) (.ite (decide (n0>(0:Int))) (.gd (dy o (y.ae 1).aa.length) (.ite (decide (i.int<=(D.at (y.ae 1).aa o.toNat).int)) k (.aq pM [(.aG 0 0),q] [(0,u),(1,p),(2,j),(3,t),(4,v)] 3 fun d0=>(.ite ((d0.ae 0).int !=(0:Int)) k (.bE (nH y uu (d0.ae 1).aa)))))) (.aq pM [(.aG 0 0),q] [(0,u),(1,p),(2,j),(3,t),(4,v)] 3 fun d1=>(.ite ((d1.ae 0).int !=(0:Int)) k (.bE (nH y uu (d1.ae 1).aa)))))) (.aq dH [(.aG 0 0)] [(0,u),(1,p),(2,j),(3,t),(4,v)] 3 fun d2=>(.gd (rv d2.int d2.int 8) (.bE (lx y d2.int.toNat (List.replicate d2.int.toNat (D.z 0)) l1 0 0 [] [] 0)))))) (.cells [(.bC bY (y.ae 0).aa),(.aV 3 ((y.ae 0).aa.length+1) true),(.map 1),(.map 2),(.int .i64 0),(.aV 4 ((y.ae 0).aa.length+1) true)] aU false))) (.an ah (List.replicate ((y.ae 0).aa.length+1) (D.z 0)) true))) (.bo aM (.data bh) [] [] 0))) (.aL (.tuple [.gT,(.int .i64 71)]) []))) (.bo bh (.cp 1 aO) [] [] 0))) (.int .i64 i.int))) (.an aj l1 true))) (D.at (y.ae 1).aa n0.toNat))) (wp .i64 (n0-1)))) (wp .i64 (n0+1))):=
  oE iR 0x22112120800b0592110500a210301a20400b2110400a31
theorem DD:lk iR (.bu 0 (iP (jA y) []) Q) (lx y c0 l1 l2 n3 n4 m5 st6 c7)
 ((fun (i:Int)=>((fun (t:D)=>((fun (q:D)=>((fun (k:RT)=>((fun (j:D)=>((fun (v:D)=>(.ite (decide (n4<((y.ae 2).aa.length:Int))) (.gd (dy n4 (y.ae 2).aa.length) (.ite (decide (j.int<=n3)) k (.ite (decide (j.int>(y.ae 3).int)) k (.aq ta [(.aG 0 0),(.agg (aK pg aO q))] [(0,(.cells [(.bC bY (y.ae 0).aa),(.aV 3 ((y.ae 0).aa.length+1) true),(.map 1),(.map 2),(.int .i64 0),(.aV 4 ((y.ae 0).aa.length+1) true)] aU false)),(1,(.bo bh (.cp 1 aO) m5 st6 c7)),(2,(.bo aM (.data bh) [] [] 0)),(3,(.an aj l2 true)),(4,(.an ah (List.replicate ((y.ae 0).aa.length+1) (D.z 0)) true))] 3 fun d0=>(.ite (! d0.bool) k (.call di [(ct pg aO q)] fun d1=>((fun (p:D)=>((fun (u:D)=>(.ite (D.fv m5 v) .bq (.gd (D.fv (m5++[(v,(ct pg aO d1))]) v) (.ite ((p.ae 0).int !=(14:Int)) (.gd (dy u.int c0) (.gd (decide (u.int.toNat<l1.length)) (.bE (lx y c0 (List.set l1 u.int.toNat (D.z (wp .i64 ((D.at l1 u.int.toNat).int+1)))) l2 j.int i (m5++[(v,(ct pg aO d1))]) (st6++[c7]) (c7+1))))) (.bE (lx y c0 l1 l2 j.int i (m5++[(v,(ct pg aO d1))]) (st6++[c7]) (c7+1))))))) (p.ae 1))) (D.val (m5++[(v,(ct pg aO d1))]) v)))))))) (.bE (sL y c0 l1 m5 st6 c7 l2 0 0)))) (D.z j.int))) (t.ae 0))) (.aL (.tuple [.gT,(.int .i64 71)]) []))) (t.ae 1))) (D.at (y.ae 2).aa n4.toNat))) (wp .i64 (n4+1))):=
  oE iR 0x212120500b20500b22212101521210150051110500a310500a0791
theorem DE:lk iR (.bu 0 (iP (jA y) []) Q) (sL y c0 l1 m2 st3 c4 l5 n6 n7)
 ((fun (uu:BV)=>((fun (o:Int)=>((fun (i:ax)=>((fun (t:ax)=>((fun (q:BV)=>((fun (p:D)=>((fun (k:ax)=>((fun (v:ax)=>((fun (u:RT)=>(.ite (decide (n7<((y.ae 4).aa.length:Int))) (.gd (dy n7 (y.ae 4).aa.length) (.gd (dy n7 c0) (.gd (decide (n7.toNat<l1.length)) (.ite (decide (p.int<(D.at l1 n7.toNat).int)) u (.ite (decide (p.int>(512:Int))) u (.bE (sL y c0 l1 m2 st3 c4 l5 (wp .i64 (n6+p.int)) (wp .i64 (n7+1))))))))) (.ite (decide ((y.ae 3).int<(0:Int))) u (.ite (decide ((y.ae 3).int>o)) u (.aq cP [(.aG 0 0)] [(0,v),(1,i),(2,(.bo aM (.data bh) [] [] 0)),(3,t),(4,k)] 3 fun d0=>((fun (j:ax)=>(.ite (! (d0.ae 0).bool) u (.aq kY [(.aG 0 0)] [(0,v),(1,i),(2,j),(3,t),(4,k)] 3 fun d1=>(.ite (decide ((wp .i64 ((y.ae 3).int+d1.int))>o)) u (.aq dC [(.bC ah (D.r (y.ae 4).aa).aa)] [] 0 fun d2=>(.aL (.tuple [(.aG 0 0),(.int .i64 0)]) [(0,(.cells [uu,q,(.map 1),(.map 2),(.int .i64 (y.ae 3).int),(.aV 4 d2.aa.length true)] aU false)),(1,(.bo bh (.cp 6 aO) m2 st3 c4)),(2,j),(3,t),(4,(.an ah d2.aa true))])))))) (.bo aM (.data bh) (gu (d0.ae 1)) (hG (d0.ae 2)) (hC (d0.ae 3))))))))) (.aL (.tuple [.gT,(.int .i64 71)]) []))) (.cells [uu,q,(.map 1),(.map 2),(.int .i64 0),(.aV 4 ((y.ae 0).aa.length+1) true)] aU false))) (.an ah (List.replicate ((y.ae 0).aa.length+1) (D.z 0)) true))) (D.at (y.ae 4).aa n7.toNat))) (.aV 3 ((y.ae 0).aa.length+1) true))) (.an aj l5 true))) (.bo bh (.cp 1 aO) m2 st3 c4))) (wp .i64 (64*n6)))) (.bC bY (y.ae 0).aa)):=
  oE iR 0x220500b20300b20600b400640300b24110a00a310300a0c910500a109121212120200b2110200a31
end
end Go.Proofs
end
