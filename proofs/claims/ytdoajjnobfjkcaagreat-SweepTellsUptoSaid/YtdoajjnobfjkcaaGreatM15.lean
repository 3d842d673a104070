import Derived.Test.YtdoajjnobfjkcaaGreatM9
set_option linter.all false
noncomputable section
open Go.IntKind renaming wrap→wp
set_option maxHeartbeats 8000000
namespace Go.Proofs
open Go Go.PB
section
variable {R:RS} {l l2 l1 l4 l3 l10 l12 l18 l19 l22:List D} {Q:D->Prop} {n0 n2 n3 n5 n4 n6 n7 n8 n11 n13 n14 n15 n16 n20:Int} {c1 c0 c2 c3 c21:Nat} {s9:List UInt8} {b17:Bool}
def eR:cm:={f:=cd,rs:=[aM],bx:=some 1,cz:=[(mJ,[aW,aA],[ai])],bL:=[(nQ,zu),(fA,qm)],bJ:=[⟨cd,0,16784,[1,0,5],[]⟩,⟨cd,0,16738,[6,1,0,7],[]⟩,⟨cd,0,16664,[6,0,9],[]⟩,⟨cd,0,32978,[11,6,0,9,12],[]⟩,⟨cd,0,16547,[6,0,13,14],[(13,58)]⟩,⟨cd,0,36969,[15,6,0,14,13,16],[]⟩]}
@[simp] theorem ady:eR.f=cd/\eR.rs=[aM]:=⟨rfl,rfl⟩
def vQ (R:RS)(l:List D)(n0:Int):au:=hdS cd 37 [(0,(.aP 0 0)),(1,(.bw aA l)),(5,(.int .i64 n0))] [(0,rrC R 1 2 3 4),(1,(.ak af R.pa true)),(2,(.ak ai R.cu true)),(3,(.ak bF R.th true)),(4,(.ak af R.ma true))]
def pk (R:RS)(l:List D)(n0:Int)(c1:Nat)(l2:List D):au:=hdS cd 303 [(0,(.aP 0 0)),(1,(.bw aA l)),(6,(.aZ 1 c1 true)),(7,(.int .i64 n0))] [(0,rrC R 2 3 4 5),(1,(.ak aA l2 true)),(2,(.ak af R.pa true)),(3,(.ak ai R.cu true)),(4,(.ak bF R.th true)),(5,(.ak af R.ma true))]
def pn (R:RS)(l:List D)(c0:Nat)(l1:List D)(n2:Int):au:=hdS cd 607 [(0,(.aP 0 0)),(6,(.aZ 1 c0 true)),(9,(.int .i64 n2))] [(0,rrC R 2 3 4 5),(1,(.ak aA l1 true)),(2,(.ak af R.pa true)),(3,(.ak ai R.cu true)),(4,(.ak bF R.th true)),(5,(.ak af R.ma true))]
def ji (R:RS)(l:List D)(c0:Nat)(l1:List D)(c2:Nat)(n3:Int)(l4:List D)(n5:Int):au:=hdS cd 1307231 [(0,(.aP 0 0)),(6,(.aZ 1 c2 true)),(9,(.int .i64 n3)),(11,(.aZ 2 c0 true)),(12,(.int .i64 n5))] [(0,rrC R 3 4 5 6),(1,(.ak aA l4 true)),(2,(.ak aA l1 true)),(3,(.ak af R.pa true)),(4,(.ak ai R.cu true)),(5,(.ak bF R.th true)),(6,(.ak af R.ma true))]
def fV (R:RS)(l:List D)(c0:Nat)(l1:List D)(n2:Int)(c3:Nat)(l4:List D):au:=hdS cd 2431 [(0,(.aP 0 0)),(6,(.aZ 1 c0 true)),(13,(.aZ 2 c3 true)),(14,(.int .i64 n2))] [(0,rrC R 3 4 5 6),(1,(.ak aA l1 true)),(2,(.ak bF l4 true)),(3,(.ak af R.pa true)),(4,(.ak ai R.cu true)),(5,(.ak bF R.th true)),(6,(.ak af R.ma true))]
def dC (R:RS)(l:List D)(n0:Int)(c1:Nat)(n2:Int)(l3:List D)(n4 n5:Int)(n6 n7 n8:Int)(s9:List UInt8)(l10:List D)(n11:Int)(l12:List D)(n13 n14:Int)(n15 n16:Int)(b17:Bool)(l18 l19:List D)(n20:Int)(c21:Nat)(l22:List D):au:=hdS cd 2476415 [(0,(.aP 0 0)),(6,(.aZ 1 c1 true)),(13,(.aZ 2 c21 true)),(14,(.int .i64 n2)),(15,(.aP 3 0)),(16,(.int .i64 n20))] [(0,rrC R 4 5 6 7),(1,(.ak aA l3 true)),(2,(.ak bF l22 true)),(3,(.cells [(.int .i64 n4),(.int .u8 n5),(.int .i64 n6),(.int .u8 n7),(.int .i64 n8),(.b8 s9),(.bw av l10),(.int .i64 n11),(.bw av l12),(.int .i64 n13),(.int .i64 n14),(.int .i64 n0),(.int .i64 n15),(.int .u8 n16),(.bool b17),(.bw ba l18),(.bw iF l19)] bF false)),(4,(.ak af R.pa true)),(5,(.ak ai R.cu true)),(6,(.ak bF R.th true)),(7,(.ak af R.ma true))]
theorem VJ:lh eR (nH R l) (Rm R) 1 lP Q
 (.bj (vQ R l 0)):=
  oH eR 0x1
theorem G3:lk eR (.bx 1 (lP (nH R l) (Rm R)) Q) (vQ R l n0)
 (.ite (decide (n0<(l.length:Int))) (.gd (cP n0 l.length) (.aC nQ [(.aP 0 0),(.int .i64 (D.at l n0.toNat).int)] (Rm R) 1 fun d0=>(.ite (d0.int==(0:Int)) (.aS (.int .i64 5) (Rm R)) (.bj (vQ R l (wp .i64 (n0+1))))))) (.gd (aO 8 l.length) (.bj (pk R l 0 l.length l)))):=
  oE eR 0x221121211
theorem EE:lk eR (.bx 1 (lP (nH R l) (Rm R)) Q) (pk R l n0 c1 l2)
 ((fun (p:D)=>((fun (k:Int)=>((fun (j:D)=>((fun (v:D)=>((fun (u:RT)=>(.ite (decide (n0<(R.th.length:Int))) (.gd (cP n0 R.th.length) (.gd (decide (n0.toNat<R.th.length)) (.ite ((wp .i64 (j.aa 0).int)!=(14:Int)) u (.call mJ [(D.r l),(D.z (j.aa 6).int)] fun d0=>(.ite d0.bool (.gd ((decide (c1=l2.length))&&(aO 8 (c1+1))) (.bj (pk R l k (c1+1) (l2++[v])))) (.call mJ [(D.r l),v] fun d1=>(.ite d1.bool (.aS (.int .i64 72) (Rm R)) u))))))) (.bj (pn R l c1 l2 0)))) (.bj (pk R l k c1 l2)))) (D.z (p.aa 0).int))) (p.aa 1))) (wp .i64 (n0+1)))) (D.at R.th n0.toNat)):=
  oE eR 0x2121212221132111
theorem EF:lk eR (.bx 1 (lP (nH R l) (Rm R)) Q) (pn R l c0 l1 n2)
 ((fun (k:D)=>((fun (u:D)=>((fun (q:D)=>((fun (p:D)=>(.ite (decide (n2<(R.th.length:Int))) (.gd (cP n2 R.th.length) (.gd (decide (n2.toNat<R.th.length)) (.gd (decide (c0=l1.length)) (.call mJ [(D.r l1),(D.z (k.aa 0).int)] fun d0=>(.ite d0.bool (.bj (pn R l c0 l1 (wp .i64 (n2+1)))) (.aC fA [(.agg (aK pg aH u))] [] 0 fun d1=>((fun (j:Bool)=>((fun (v:Nat)=>(.ite ((wp .i64 (u.aa 0).int)!=(13:Int)) (.gd (j&&(aO 8 v)) (.gd ((decide (v=(d1.ae++[q]).length))&&(aO 8 (v+1))) (.bj (ji R l (v+1) ((d1.ae++[q])++[p]) c0 n2 l1 0)))) (.gd (j&&(aO 8 v)) (.bj (ji R l v (d1.ae++[p]) c0 n2 l1 0))))) (d1.ae.length+1))) (decide (d1.ae.length=d1.ae.length))))))))) (.bj (fV R l c0 l1 0 0 [])))) (D.z (u.aa 7).int))) (D.z (u.aa 6).int))) (k.aa 1))) (D.at R.th n2.toNat)):=
  oE eR 0x2121212122321132132111
theorem yM:lk eR (.bx 1 (lP (nH R l) (Rm R)) Q) (ji R l c0 l1 c2 n3 l4 n5)
 (.ite (decide (n5<(c0:Int))) (.gd (cP n5 c0) (.gd (decide (n5.toNat<l1.length)) (.gd (decide (c2=l4.length)) (.call mJ [(D.r l4),(D.z (D.at l1 n5.toNat).int)] fun d0=>(.ite d0.bool (.aS (.int .i64 72) (Rm R)) (.bj (ji R l c0 l1 c2 n3 l4 (wp .i64 (n5+1))))))))) (.bj (pn R l c2 l4 (wp .i64 (n3+1))))):=
  oE eR 0x21212121211
theorem C1:lk eR (.bx 1 (lP (nH R l) (Rm R)) Q) (fV R l c0 l1 n2 c3 l4)
 ((fun (k:D)=>((fun (j:D)=>((fun (v:D)=>((fun (u:RT)=>(.ite (decide (n2<(R.th.length:Int))) (.gd (cP n2 R.th.length) (.gd (decide (n2.toNat<R.th.length)) (.gd (decide (c0=l1.length)) (.call mJ [(D.r l1),(D.z j.int)] fun d0=>(.ite d0.bool (.bj (fV R l c0 l1 (wp .i64 (n2+1)) c3 l4)) (.ite ((wp .i64 (v.aa 0).int)==(13:Int)) (.call mJ [(D.r l1),(D.z (v.aa 6).int)] fun d1=>(.ite d1.bool (.bj (dC R l 0 c0 n2 l1 j.int (v.aa 0).int (v.aa 1).int ((v.aa 2).aa 0).int ((v.aa 2).aa 1).int ((v.aa 2).aa 2).b8 ((v.aa 2).aa 3).ae ((v.aa 2).aa 4).int (v.aa 3).ae (v.aa 4).int (v.aa 5).int (v.aa 7).int (v.aa 8).int (v.aa 9).bool (v.aa 10).ae (v.aa 11).ae 0 c3 l4)) u)) u)))))) (.aS (.int .i64 0) [(0,(.cells [(.aZ 1 R.pa.length true),(.aZ 2 R.cu.length true),(.aZ 3 c3 true),(.int .i64 R.la),(.aZ 4 R.ma.length true)] bd false)),(1,(.ak af R.pa true)),(2,(.ak ai R.cu true)),(3,(.ak bF l4 true)),(4,(.ak af R.ma true))]))) (.bj (dC R l (v.aa 6).int c0 n2 l1 j.int (v.aa 0).int (v.aa 1).int ((v.aa 2).aa 0).int ((v.aa 2).aa 1).int ((v.aa 2).aa 2).b8 ((v.aa 2).aa 3).ae ((v.aa 2).aa 4).int (v.aa 3).ae (v.aa 4).int (v.aa 5).int (v.aa 7).int (v.aa 8).int (v.aa 9).bool (v.aa 10).ae (v.aa 11).ae 0 c3 l4)))) (k.aa 1))) (k.aa 0))) (D.at R.th n2.toNat)):=
  oE eR 0x21212121220500b310400a0250052111
theorem yN:lk eR (.bx 1 (lP (nH R l) (Rm R)) Q) (dC R l n0 c1 n2 l3 n4 n5 n6 n7 n8 s9 l10 n11 l12 n13 n14 n15 n16 b17 l18 l19 n20 c21 l22)
 ((fun (q:D)=>((fun (p:Int)=>((fun (k:D)=>((fun (j:Int)=>((fun (v:RT)=>((fun (u:RT)=>(.ite (decide (n20<(R.th.length:Int))) (.ite ((wp .i64 n5)==(8:Int)) (.gd (cP n20 R.th.length) (.gd (decide (n20.toNat<R.th.length)) (.gd (decide (c1=l3.length)) (.call mJ [(D.r l3),(D.z (q.aa 0).int)] fun d0=>(.ite d0.bool (.ite ((wp .i64 (k.aa 0).int)==(9:Int)) (.ite ((k.aa 6).int==n4) (.bj (dC R l n0 c1 n2 l3 n4 n5 n6 n7 n8 s9 l10 n11 l12 n13 (if (n13<j)then n13 else j) n15 n16 b17 l18 l19 p c21 l22)) v) v) v))))) u) u)) (.gd ((decide (c21=l22.length))&&(aO 200 (c21+1))) (.bj (fV R l c1 l3 (wp .i64 (n2+1)) (c21+1) (l22++[(D.r [(D.z n4),(D.r [(D.z n5),(D.z n6),(D.r [(D.z n7),(D.z n8),(D.s s9),(D.r l10),(D.z n11)]),(D.r l12),(D.z n13),(D.z n14),(D.z n0),(D.z n15),(D.z n16),(D.b b17),(D.r l18),(D.r l19)])])])))))) (.bj (dC R l n0 c1 n2 l3 n4 n5 n6 n7 n8 s9 l10 n11 l12 n13 n14 n15 n16 b17 l18 l19 p c21 l22)))) (wp .i64 (n14+(k.aa 4).int)))) (q.aa 1))) (wp .i64 (n20+1)))) (D.at R.th n20.toNat)):=
  oE eR 0x20500b0292110500a2321121212120500b08910500a20600b310600a211
end
section
variable {R:RS} {l:List D} {Q:D->Prop}
def yp:cm:={f:=uM,rs:=[aW,aM],bx:=some 1,bL:=[(jB,sB),(cd,lP)],Ry:=[some aW,none],D0:=[(cd,[none,some aW])]}
@[simp] theorem aa4:yp.f=uM/\yp.rs=[aW,aM]:=⟨rfl,rfl⟩
theorem Qp:lh yp (IK R l) (Rm R) 1 Cl Q
 (.aC jB [(.aP 0 0),(.bw br l)] (Rm R) 1 fun d0=>((fun (u:BV)=>(.ite ((d0.aa 1).int !=(0:Int)) (.aS (.tuple [(.bw aA (D.r []).ae),(.int .i64 (d0.aa 1).int)]) (Rm R)) (.aC cd [(.aP 0 0),u] (Rm R) 1 fun d1=>(.aS (.tuple [u,(.int .i64 0)]) (Rm (RS.mk R.pa R.cu (d1.aa 1).ae R.la R.ma)))))) (.bw aA (D.r (d0.aa 0).ae).ae))):=
  oH yp 0x211
end
section
variable {W:WS} {l:List D} {Q:D->Prop}
def DM:cm:={f:=jW,rs:=[aW,aM],bx:=some 1,bL:=[(uP,Cm),(cA,lq)],xM:=[some aA,none],pns:=[(cA,2)]}
@[simp] theorem ad5:DM.f=jW/\DM.rs=[aW,aM]:=⟨rfl,rfl⟩
theorem Wi:lh DM (HH W l) (Wm W) 1 wy Q
 ((fun (p:aI)=>((fun (k:aI)=>((fun (j:aI)=>((fun (u:aI)=>(.aC uP [(.aP 0 0),(.bw br l)] (Wm W) 3 fun d0=>((fun (t:aI)=>((fun (q:BV)=>(.ite ((d0.aa 1).int !=(0:Int)) (.aS (.tuple [(.aZ 1 0 true),(.int .i64 (d0.aa 1).int)]) [(0,u),(1,(.ak aA [] true)),(2,(.bg aA (.bY 8 aH) W.th W.st W.ck)),(3,p),(4,k),(5,j)]) (.aC cA [(.aP 0 0),q] [(0,u),(1,t),(2,(.bg aA (.bY 2 aH) W.th W.st W.ck)),(3,p),(4,k),(5,j)] 2 fun d1=>((fun (z:aI)=>((fun (v:aI)=>(.ite ((d1.aa 0).int !=(0:Int)) (.aS (.tuple [(.aZ 1 0 true),(.int .i64 (d1.aa 0).int)]) [(0,u),(1,(.ak aA [] true)),(2,z),(3,v),(4,k),(5,j)]) (.aS (.tuple [q,(.int .i64 0)]) [(0,u),(1,t),(2,z),(3,v),(4,k),(5,j)]))) (.bg aF (.data aA) (cn (d1.aa 4)) (cK (d1.aa 5)) (cJ (d1.aa 6))))) (.bg aA (.bY 8 aH) (cn (d1.aa 1)) (cK (d1.aa 2)) (cJ (d1.aa 3))))))) (.aZ 1 (d0.aa 0).ae.length true))) (.ak aA (d0.aa 0).ae true)))) (.cells [(.bw cC W.pa),(.aZ 4 W.cu.length true),(.map 2),(.map 3),(.int .i64 W.la),(.aZ 5 W.ma.length true)] bh false))) (.ak af W.ma true))) (.ak ai W.cu true))) (.bg aF (.data aA) W.fa W.sf W.cf)):=
  oH DM 0x22111
end
section
variable {W:WS} {y:D} {Q:D->Prop}
def Gf:cm:={f:=pJ,rs:=[aA],bx:=some 3,bL:=[(sQ,zw)]}
@[simp] theorem afn:Gf.f=pJ/\Gf.rs=[aA]:=⟨rfl,rfl⟩
theorem abS:lh Gf (Nh W y) (Wm W) 3 Dv Q
 ((fun (k:Int)=>((fun (j:BV)=>((fun (v:D)=>((fun (p:D)=>((fun (u:D)=>(.ite (D.cS W.th v) .bG (.aC sQ [(.aP 0 0),j] (Wm (WS.mk W.pa W.cu (W.th++[(v,(bU pg aH y))]) (W.st++[W.ck]) (W.ck+1) W.fa W.sf W.cf k W.ma)) 3 fun d0=>(.gd (D.cS (W.th++[(v,(bU pg aH y))]) v) (.ite ((p.aa 0).int !=(14:Int)) (.gd (cP u.int W.ma.length) (.gd (decide (u.int.toNat<W.ma.length)) (.aS j [(0,(.cells [(.bw cC W.pa),(.aZ 3 W.cu.length true),(.map 1),(.map 2),j,(.aZ 4 W.ma.length true)] bh false)),(1,(.bg aA (.bY 1 aH) (W.th++[(v,(bU pg aH y))]) (W.st++[W.ck]) (W.ck+1))),(2,(.bg aF (.data aA) (cn (d0.aa 0)) (cK (d0.aa 1)) (cJ (d0.aa 2)))),(3,(.ak ai W.cu true)),(4,(.ak af (List.set W.ma u.int.toNat (D.z (wp .i64 ((D.at W.ma u.int.toNat).int+1)))) true))]))) (.aS j (Wm (WS.mk W.pa W.cu (W.th++[(v,(bU pg aH y))]) (W.st++[W.ck]) (W.ck+1) (cn (d0.aa 0)) (cK (d0.aa 1)) (cJ (d0.aa 2)) k W.ma)))))))) (p.aa 1))) (D.val (W.th++[(v,(bU pg aH y))]) v))) (D.z k))) (.int .i64 k))) (wp .i64 (W.la+1))):=
  oH Gf 0x22121015212101500511
end
section
variable {W:WS} {r s:Int} {Q:D->Prop}
def DA:cm:={f:=zT,rs:=[aA,aM],bx:=some 3,bL:=[(cH,sw),(ib,F0),(lx,xb),(pJ,Dv)],D0:=[(pJ,[none,some aH])]}
@[simp] theorem adB:DA.f=zT/\DA.rs=[aA,aM]:=⟨rfl,rfl⟩
theorem VN:lh DA (Mm W r s) (Wm W) 3 Du Q
 ((fun (k:BV)=>((fun (j:D)=>((fun (v:BV)=>((fun (u:RT)=>(.aC cH [(.aP 0 0),k] (Wm W) 3 fun d0=>(.ite (! d0.bool) (.aS (.tuple [v,(.int .i64 5)]) (Wm W)) (.aC lx [(.aP 0 0),k] (Wm W) 3 fun d1=>(.aC ib [(.aP 0 0),k] (Wm W) 3 fun d2=>(.ite (d2.int==(14:Int)) u (.ite ((s:Int)==d1.int) u (.ite ((wp .u8 ((BitVec.toNat ((BitVec.ofInt 8 s) &&& (~~~ (BitVec.ofInt 8 d1.int)))):Int))!=(0:Int)) u (.ite (D.cS W.fa j) (.aS (.tuple [(.int .i64 (D.val W.fa j).int),v]) (Wm W)) (.aC pJ [(.aP 0 0),(.agg (aK pg aH (D.r [(D.z 14),(D.z 0),(D.r [(D.z 0),(D.z 0),(D.s []),(D.r []),(D.z 0)]),(D.r []),(D.z 0),(D.z 0),(D.z r),(D.z 0),(D.z s),(D.b false),(D.r []),(D.r [])])))] (Wm W) 3 fun d3=>(.aS (.tuple [(.int .i64 (d3.aa 8).int),v]) (Wm (WS.mk W.pa W.cu (cn (d3.aa 1)) (cK (d3.aa 2)) (cJ (d3.aa 3)) (cn (d3.aa 4)) (cK (d3.aa 5)) (cJ (d3.aa 6)) (d3.aa 0).int (d3.aa 7).ae))))))))))))) (.aS (.tuple [v,(.int .i64 70)]) (Wm W)))) (.int .i64 0))) (D.r [(D.z r),(D.z s)]))) (.int .i64 r)):=
  oH DA 0x079220300b20400b20792313110400a310300a06911
end
section
variable {a0 a1 y2 y3:D} {Q:D->Prop} {n0 n1:Int}
def mg:cm:={f:=dK,rs:=[ai],cz:=[(dK,[aG,aG],[ai])],bJ:=[⟨dK,0,16429,[3,2,5],[]⟩]}
@[simp] theorem XZ:mg.f=dK/\mg.rs=[ai]:=⟨rfl,rfl⟩
def oo (a0 a1:D)(n0:Int):au:=hdS dK 75 [(2,(.aP 0 0)),(3,(.aP 1 0)),(5,(.int .i64 n0))] [(0,(.cells (aK pg aG a0) aG false)),(1,(.cells (aK pg aG a1) aG false))]
theorem LX:lp mg [aG,aG] [a0,a1] Q
 ((fun (u:RT)=>(.ite ((a0.aa 0).int !=(a1.aa 0).int) u (.ite ((a0.aa 1).int !=(a1.aa 1).int) u (.ite (! ((a0.aa 2).b8==(a1.aa 2).b8)) u (.ite (((a0.aa 3).ae.length:Int)!=((a1.aa 3).ae.length:Int)) u (.bj (oo a0 a1 0))))))) (.ret (D.b false))):=
  oP mg 0x20500b20500b20700b2110700a310500a09910500a0f91
theorem Ar:lk mg (.dQ Q) (oo a0 a1 n0)
 (.ite (decide (n0<((a0.aa 3).ae.length:Int))) (.gd (cP n0 (a0.aa 3).ae.length) (.gd (cP n0 (a1.aa 3).ae.length) (.call dK [(bU pg aG (D.at (a0.aa 3).ae n0.toNat)),(bU pg aG (D.at (a1.aa 3).ae n0.toNat))] fun d0=>(.ite (! d0.bool) (.ret (D.b false)) (.bj (oo a0 a1 (wp .i64 (n0+1)))))))) (.ret (D.b true))):=
  oE mg 0x212121211
def gO:cm:={f:=cG,rs:=[ai],cz:=[(dK,[aG,aG],[ai]),(cG,[bK,bK],[ai])],bJ:=[⟨cG,0,16554,[1,0,5],[]⟩,⟨cG,0,32820,[7,6,1,0,5,8],[]⟩]}
@[simp] theorem XU:gO.f=cG/\gO.rs=[ai]:=⟨rfl,rfl⟩
def j6 (a0 a1:D)(n0:Int):au:=hdS cG 75 [(0,(.bw ba a0.ae)),(1,(.bw ba a1.ae)),(5,(.int .i64 n0))] []
def jH (a0 a1:D)(n0 n1:Int)(y2 y3:D):au:=hdS cG 20043 [(0,(.bw ba a0.ae)),(1,(.bw ba a1.ae)),(5,(.int .i64 n1)),(6,(.aP 0 0)),(7,(.aP 1 0)),(8,(.int .i64 n0))] [(0,(.cells (aK pg ba y2) ba false)),(1,(.cells (aK pg ba y3) ba false))]
theorem LR:lp gO [bK,bK] [a0,a1] Q
 (.ite ((a0.ae.length:Int)!=(a1.ae.length:Int)) (.ret (D.b false)) (.bj (j6 a0 a1 0))):=
  oP gO 0x211
theorem Ao:lk gO (.dQ Q) (j6 a0 a1 n0)
 ((fun (z:RT)=>((fun (v:D)=>((fun (u:D)=>(.ite (decide (n0<(a0.ae.length:Int))) (.gd (cP n0 a0.ae.length) (.gd (cP n0 a1.ae.length) (.ite ((v.aa 0).int !=(u.aa 0).int) z (.ite (! ((v.aa 1).b8==(u.aa 1).b8)) z (.ite (! ((v.aa 2).b8==(u.aa 2).b8)) z (.ite ((v.aa 3).int !=(u.aa 3).int) z (.ite ((v.aa 4).int !=(u.aa 4).int) z (.call dK [(bU pg aG (v.aa 5)),(bU pg aG (u.aa 5))] fun d0=>(.ite (! d0.bool) z (.call dK [(bU pg aG (v.aa 6)),(bU pg aG (u.aa 6))] fun d1=>(.ite (! d1.bool) z (.call cG [(D.r (v.aa 7).ae),(D.r (u.aa 7).ae)] fun d2=>(.ite (! d2.bool) z (.call cG [(D.r (v.aa 8).ae),(D.r (u.aa 8).ae)] fun d3=>(.ite (! d3.bool) z (.call cG [(D.r (v.aa 9).ae),(D.r (u.aa 9).ae)] fun d4=>(.ite (! d4.bool) z (.ite (((v.aa 10).ae.length:Int)!=((u.aa 10).ae.length:Int)) z (.bj (jH a0 a1 0 n0 v u)))))))))))))))))))) (.ret (D.b true)))) (D.at a1.ae n0.toNat))) (D.at a0.ae n0.toNat))) (.ret (D.b false))):=
  oE gO 0x212121420500b20500b20500b20500b20600b20600b20600b20600b20600b20700b2110700a310600a09910600a10910600a17910600a1e910600a25910500a2c910500a32910500a38910500a3e91
theorem vE:lk gO (.dQ Q) (jH a0 a1 n0 n1 y2 y3)
 (.ite (decide (n0<((y2.aa 10).ae.length:Int))) (.gd (cP n0 (y2.aa 10).ae.length) (.gd (cP n0 (y3.aa 10).ae.length) (.ite (! ((D.at (y2.aa 10).ae n0.toNat).b8==(D.at (y3.aa 10).ae n0.toNat).b8)) (.ret (D.b false)) (.bj (jH a0 a1 (wp .i64 (n0+1)) n1 y2 y3))))) (.bj (j6 a0 a1 (wp .i64 (n1+1))))):=
  oE gO 0x212121211
def lX:cm:={f:=gR,rs:=[ai],cz:=[(fy,[av,av],[ai]),(cG,[bK,bK],[ai]),(wO,[dE],[av])],bJ:=[⟨gR,0,16451,[3,2,5],[]⟩]}
@[simp] theorem XV:lX.f=gR/\lX.rs=[ai]:=⟨rfl,rfl⟩
def og (a0 a1:D)(n0:Int):au:=hdS gR 75 [(2,(.aP 0 0)),(3,(.aP 1 0)),(5,(.int .i64 n0))] [(0,(.cells (aK pg aH a0) aH false)),(1,(.cells (aK pg aH a1) aH false))]
theorem LS:lp lX [aH,aH] [a0,a1] Q
 ((fun (u:RT)=>(.ite ((a0.aa 0).int !=(a1.aa 0).int) u (.ite ((a0.aa 1).int !=(a1.aa 1).int) u (.call fy [(bU pg av (a0.aa 2)),(bU pg av (a1.aa 2))] fun d0=>(.ite (! d0.bool) u (.call wO [(D.r (a0.aa 3).ae)] fun d1=>(.call wO [(D.r (a1.aa 3).ae)] fun d2=>(.call fy [(bU pg av d1),(bU pg av d2)] fun d3=>(.ite (! d3.bool) u (.ite ((a0.aa 4).int !=(a1.aa 4).int) u (.ite ((a0.aa 5).int !=(a1.aa 5).int) u (.ite ((a0.aa 6).int !=(a1.aa 6).int) u (.ite ((a0.aa 7).int !=(a1.aa 7).int) u (.ite ((a0.aa 8).int !=(a1.aa 8).int) u (.ite (! ((a0.aa 9).bool==(a1.aa 9).bool)) u (.ite (((a0.aa 11).ae.length:Int)!=((a1.aa 11).ae.length:Int)) u (.bj (og a0 a1 0)))))))))))))))))) (.ret (D.b false))):=
  oP lX 0x20500b20600b20500b40400b20500b20500b20500b20500b20500b20500b20700b2110700a310500a09910500a0f910500a15910500a1b910500a21910500a27910900a2d910600a37910500a3e91
theorem Ap:lk lX (.dQ Q) (og a0 a1 n0)
 ((fun (v:D)=>((fun (u:D)=>(.ite (decide (n0<((a0.aa 11).ae.length:Int))) (.gd (cP n0 (a0.aa 11).ae.length) (.gd (cP n0 (a1.aa 11).ae.length) (.ite (! ((v.aa 0).b8==(u.aa 0).b8)) (.ret (D.b false)) (.call fy [(bU pg av (v.aa 1)),(bU pg av (u.aa 1))] fun d0=>(.ite (! d0.bool) (.ret (D.b false)) (.bj (og a0 a1 (wp .i64 (n0+1))))))))) (.call cG [(D.r (a0.aa 10).ae),(D.r (a1.aa 10).ae)] fun d1=>(.ret (D.b d1.bool))))) (D.at (a1.aa 11).ae n0.toNat))) (D.at (a0.aa 11).ae n0.toNat)):=
  oE lX 0x21212120300b0250600b0150500b2110e00a31
def iM:cm:={f:=dH,rs:=[ai],cz:=[(gR,[aH,aH],[ai])],bJ:=[⟨dH,0,16572,[3,2,5],[]⟩,⟨dH,0,16530,[3,2,6],[]⟩,⟨dH,0,16488,[3,2,7],[]⟩,⟨dH,0,16446,[3,2,8],[]⟩]}
@[simp] theorem adX:iM.f=dH/\iM.rs=[ai]:=⟨rfl,rfl⟩
def vY (a0 a1:D)(n0:Int):au:=hdS dH 75 [(2,(.aP 0 0)),(3,(.aP 1 0)),(5,(.int .i64 n0))] [(0,(.cells (aK pg bu a0) bu false)),(1,(.cells (aK pg bu a1) bu false))]
def tC (a0 a1:D)(n0:Int):au:=hdS dH 151 [(2,(.aP 0 0)),(3,(.aP 1 0)),(6,(.int .i64 n0))] [(0,(.cells (aK pg bu a0) bu false)),(1,(.cells (aK pg bu a1) bu false))]
def tD (a0 a1:D)(n0:Int):au:=hdS dH 303 [(2,(.aP 0 0)),(3,(.aP 1 0)),(7,(.int .i64 n0))] [(0,(.cells (aK pg bu a0) bu false)),(1,(.cells (aK pg bu a1) bu false))]
def tE (a0 a1:D)(n0:Int):au:=hdS dH 607 [(2,(.aP 0 0)),(3,(.aP 1 0)),(8,(.int .i64 n0))] [(0,(.cells (aK pg bu a0) bu false)),(1,(.cells (aK pg bu a1) bu false))]
theorem V9:lp iM [bu,bu] [a0,a1] Q
 ((fun (u:RT)=>(.ite (((a0.aa 0).ae.length:Int)!=((a1.aa 0).ae.length:Int)) u (.ite (((a0.aa 1).ae.length:Int)!=((a1.aa 1).ae.length:Int)) u (.ite (((a0.aa 2).ae.length:Int)!=((a1.aa 2).ae.length:Int)) u (.ite ((a0.aa 3).int !=(a1.aa 3).int) u (.ite (((a0.aa 4).ae.length:Int)!=((a1.aa 4).ae.length:Int)) u (.bj (vY a0 a1 0)))))))) (.ret (D.b false))):=
  oP iM 0x20700b20700b20500b20700b2110700a310500a09910700a0f910700a1791
theorem Hg:lk iM (.dQ Q) (vY a0 a1 n0)
 (.ite (decide (n0<((a0.aa 0).ae.length:Int))) (.gd (cP n0 (a0.aa 0).ae.length) (.gd (cP n0 (a1.aa 0).ae.length) (.ite ((D.at (a0.aa 0).ae n0.toNat).int !=(D.at (a1.aa 0).ae n0.toNat).int) (.ret (D.b false)) (.bj (vY a0 a1 (wp .i64 (n0+1))))))) (.bj (tC a0 a1 0))):=
  oE iM 0x212121211
theorem EY:lk iM (.dQ Q) (tC a0 a1 n0)
 (.ite (decide (n0<((a0.aa 1).ae.length:Int))) (.gd (cP n0 (a0.aa 1).ae.length) (.gd (cP n0 (a1.aa 1).ae.length) (.ite ((D.at (a0.aa 1).ae n0.toNat).int !=(D.at (a1.aa 1).ae n0.toNat).int) (.ret (D.b false)) (.bj (tC a0 a1 (wp .i64 (n0+1))))))) (.bj (tD a0 a1 0))):=
  oE iM 0x212121211
theorem EZ:lk iM (.dQ Q) (tD a0 a1 n0)
 (.ite (decide (n0<((a0.aa 4).ae.length:Int))) (.gd (cP n0 (a0.aa 4).ae.length) (.gd (cP n0 (a1.aa 4).ae.length) (.ite ((D.at (a0.aa 4).ae n0.toNat).int !=(D.at (a1.aa 4).ae n0.toNat).int) (.ret (D.b false)) (.bj (tD a0 a1 (wp .i64 (n0+1))))))) (.bj (tE a0 a1 0))):=
  oE iM 0x212121211
theorem E0:lk iM (.dQ Q) (tE a0 a1 n0)
 ((fun (v:D)=>((fun (u:D)=>(.ite (decide (n0<((a0.aa 2).ae.length:Int))) (.gd (cP n0 (a0.aa 2).ae.length) (.gd (cP n0 (a1.aa 2).ae.length) (.ite ((v.aa 0).int !=(u.aa 0).int) (.ret (D.b false)) (.call gR [(bU pg aH (v.aa 1)),(bU pg aH (u.aa 1))] fun d0=>(.ite (! d0.bool) (.ret (D.b false)) (.bj (tE a0 a1 (wp .i64 (n0+1))))))))) (.ret (D.b true)))) (D.at (a1.aa 2).ae n0.toNat))) (D.at (a0.aa 2).ae n0.toNat)):=
  oE iM 0x21212120300b0250600b0150500b2110e00a31
end
section
variable {a0:D} {Q:D->Prop}
def DK:cm:={f:=wO,rs:=[av]}
@[simp] theorem ad2:DK.f=wO/\DK.rs=[av]:=⟨rfl,rfl⟩
theorem We:lp DK [dE] [a0] Q
 (.ret (D.r [(D.z 3),(D.z 0),(D.s []),(D.r a0.ae),(D.z 0)])):=
  oP DK 0x1
end
section
variable {y:D} {l l0 l15 l16 l17 l18 l19 l20:List D} {Q:D->Prop} {c1 c3 c4 c5 c6 c8 c11 c14:Nat} {n2 n7 n21:Int} {m9 m12:List (D×D)} {st10 st13:List Nat}
def fq:cm:={f:=fw,rs:=[ai],bx:=some 0,cz:=[(ig,[bu,eg],[ai]),(dH,[bu,bu],[ai])],bL:=[(ij,jL),(cD,dF),(ic,tR),(iN,ss),(cB,kI),(jB,sB),(ie,sA),(q6,F5),(uP,Cm),(wP,HL),(jW,wy),(uM,Cl),(kr,tS)],bJ:=[⟨fw,0,16558,[6,5,1,7],[]⟩],D0:=[(q6,[none,some eg]),(uP,[none,some eg]),(wP,[none,some eg]),(jW,[none,some eg])],pns:=[(jW,1)]}
@[simp] theorem Uc:fq.f=fw/\fq.rs=[ai]:=⟨rfl,rfl⟩
def jk (y:D)(l l0:List D)(c1:Nat)(n2:Int)(c3 c4:Nat)(c5 c6:Nat)(n7:Int)(c8:Nat)(m9:List (D×D))(st10:List Nat)(c11:Nat)(m12:List (D×D))(st13:List Nat)(c14:Nat)(l15 l16:List D)(l17 l18:List D)(l19 l20:List D)(n21:Int):au:=hdS fw 303 [(1,(.bw br l)),(5,(.aP 0 0)),(6,(.aP 1 0)),(7,(.int .i64 n21))] [(0,(.cells [(.bw cC l0),(.aZ 4 c1 true),(.map 2),(.map 3),(.int .i64 n2),(.aZ 5 c3 true)] bh false)),(1,(.cells [(.aZ 6 c4 true),(.aZ 7 c5 true),(.aZ 8 c6 true),(.int .i64 n7),(.aZ 9 c8 true)] bd false)),(2,(.bg aA (.bY 12 aH) m9 st10 c11)),(3,(.bg aF (.data aA) m12 st13 c14)),(4,(.ak ai l15 true)),(5,(.ak af l16 true)),(6,(.ak af l17 true)),(7,(.ak ai l18 true)),(8,(.ak bF l19 true)),(9,(.ak af l20 true))]
theorem Is:lh fq (jI y l) [] 0 gZ Q
 ((fun (v:RT)=>((fun (u:BV)=>(.call ig [(bU pg bu y),(D.r l)] fun d0=>(.ite (! d0.bool) (.aC kr [] [] 0 fun d1=>(.aS (.bool d1.bool) [])) (.aC ij [u] [] 0 fun d2=>(.ite (d2.aa 0).bool (.aC cD [u] [] 0 fun d3=>(.ite (d3.aa 0).bool (.bj (jk y l (d2.aa 1).ae (d2.aa 2).ae.length (d2.aa 3).int (d2.aa 4).ae.length (d3.aa 1).ae.length (d3.aa 2).ae.length (d3.aa 3).ae.length (d3.aa 4).int (d3.aa 5).ae.length (cn (d2.aa 5)) (cK (d2.aa 6)) (cJ (d2.aa 7)) (cn (d2.aa 8)) (cK (d2.aa 9)) (cJ (d2.aa 10)) (d2.aa 2).ae (d2.aa 4).ae (d3.aa 1).ae (d3.aa 2).ae (d3.aa 3).ae (d3.aa 5).ae 0)) v)) (.aC cD [u] [] 0 fun d4=>(.ite (d4.aa 0).bool v (.aC kr [] [] 0 fun d5=>(.aS (.bool d5.bool) []))))))))) (.agg (aK pg bu y)))) (.aS (.bool false) [])):=
  oH fq 0x222069106912069104911
theorem u6:lk fq (.bx 0 (gZ (jI y l) []) Q) (jk y l l0 c1 n2 c3 c4 c5 c6 n7 c8 m9 st10 c11 m12 st13 c14 l15 l16 l17 l18 l19 l20 n21)
 ((fun (uz:BV)=>((fun (uv:aI)=>((fun (uu:BV)=>((fun (o:aI)=>((fun (i:aI)=>((fun (t:aI)=>((fun (q:aI)=>((fun (p:aI)=>((fun (k:aI)=>((fun (j:aI)=>((fun (z:RT)=>((fun (v:aI)=>((fun (u:aI)=>(.ite (decide (n21<(2:Int))) (.aC q6 [(.aP 0 0),uu] [(0,u),(1,k),(2,j),(3,q),(4,p)] 3 fun d0=>(.aC cB [(.aP 0 0),uz] [(0,v),(1,i),(2,o),(3,uv),(4,t)] 1 fun d1=>(.aC uP [(.aP 0 0),uu] [(0,u),(1,k),(2,j),(3,q),(4,p)] 3 fun d2=>(.aC jB [(.aP 0 0),uz] [(0,v),(1,i),(2,o),(3,uv),(4,t)] 1 fun d3=>(.aC wP [(.aP 0 0),uu] [(0,u),(1,k),(2,j),(3,q),(4,p)] 3 fun d4=>(.ite ((d0.aa 1).int !=(d1.aa 1).int) z (.ite ((d2.aa 1).int !=(d3.aa 1).int) z (.ite ((d4.aa 2).int !=(d1.aa 1).int) z (.ite ((d4.aa 0).int !=((d1.aa 0).ae.length:Int)) z (.ite ((d4.aa 1).int !=((d3.aa 0).ae.length:Int)) z (.aC ie [(.aZ 0 (d0.aa 0).ae.length true),(.bw aA (d1.aa 0).ae)] [(0,(.ak aA (d0.aa 0).ae true))] 0 fun d5=>(.ite (! (d5.aa 0).bool) z (.aC ie [(.aZ 0 (d2.aa 0).ae.length true),(.bw aA (d3.aa 0).ae)] [(0,(.ak aA (d2.aa 0).ae true))] 0 fun d6=>(.ite (! (d6.aa 0).bool) z (.aC ic [(.aP 0 0)] [(0,u),(1,k),(2,j),(3,q),(4,p)] 3 fun d7=>(.aC iN [(.aP 0 0)] [(0,v),(1,i),(2,o),(3,uv),(4,t)] 1 fun d8=>(.call dH [(bU pg bu d7),(bU pg bu d8)] fun d9=>(.ite (! d9.bool) z (.aC jW [(.aP 0 0),uu] [(0,u),(1,k),(2,j),(3,q),(4,p)] 1 fun d10=>(.aC uM [(.aP 0 0),uz] [(0,v),(1,i),(2,o),(3,uv),(4,t)] 1 fun d11=>(.ite ((d10.aa 1).int !=(d11.aa 1).int) z (.aC ie [(.aZ 0 (d10.aa 0).ae.length true),(.bw aA (d11.aa 0).ae)] [(0,(.ak aA (d10.aa 0).ae true))] 0 fun d12=>(.ite (! (d12.aa 0).bool) z (.aC ic [(.aP 0 0)] [(0,u),(1,(.bg aA (.bY 1 aH) (cn (d10.aa 2)) (cK (d10.aa 3)) (cJ (d10.aa 4)))),(2,(.bg aF (.data aA) (cn (d10.aa 5)) (cK (d10.aa 6)) (cJ (d10.aa 7)))),(3,q),(4,p)] 3 fun d13=>(.aC iN [(.aP 0 0)] [(0,(.cells [(.aZ 1 c4 true),(.aZ 2 c5 true),(.aZ 3 (d11.aa 2).ae.length true),(.int .i64 n7),(.aZ 4 c8 true)] bd false)),(1,i),(2,o),(3,(.ak bF (d11.aa 2).ae true)),(4,t)] 1 fun d14=>(.call dH [(bU pg bu d13),(bU pg bu d14)] fun d15=>(.ite (! d15.bool) z (.bj (jk y l l0 c1 n2 c3 c4 c5 (d11.aa 2).ae.length n7 c8 (cn (d10.aa 2)) (cK (d10.aa 3)) (cJ (d10.aa 4)) (cn (d10.aa 5)) (cK (d10.aa 6)) (cJ (d10.aa 7)) l15 l16 l17 l18 (d11.aa 2).ae l20 (wp .i64 (n21+1))))))))))))))))))))))))))))))) (.aC kr [] [] 0 fun d16=>(.aS (.bool d16.bool) [])))) (.cells [(.bw cC l0),(.aZ 3 c1 true),(.map 1),(.map 2),(.int .i64 n2),(.aZ 4 c3 true)] bh false))) (.cells [(.aZ 1 c4 true),(.aZ 2 c5 true),(.aZ 3 c6 true),(.int .i64 n7),(.aZ 4 c8 true)] bd false))) (.aS (.bool false) []))) (.bg aF (.data aA) m12 st13 c14))) (.bg aA (.bY 1 aH) m9 st10 c11))) (.ak af l16 true))) (.ak ai l15 true))) (.ak af l20 true))) (.ak af l17 true))) (.ak ai l18 true))) (.bw br (D.r l).ae))) (.ak bF l19 true))) (.bw br l)):=
  oE fq 0x2120300b20300b20400b20400b20400b20400b20600b220400b20600b2110600a310400a089110600a310400a08910400a0d910400a12910400a17910300a1c910300a2091
end
section
variable {Q:D->Prop}
def tZ:cm:={f:=kr,rs:=[ai],bx:=some 0,bL:=[(q7,AN),(q6,F5),(jW,wy),(ug,F1),(zT,Du)],fzs:=[(br,2,ke),(br,3,aW)],D0:=[(q7,[some Bz]),(q6,[none,some eg]),(jW,[none,some eg]),(ug,[none,some aH])],pns:=[(jW,1)]}
@[simp] theorem aaW:tZ.f=kr/\tZ.rs=[ai]:=⟨rfl,rfl⟩
theorem Qh:lh tZ (xP) (xR) 0 tS Q
 ((fun (uv:BV)=>((fun (uu:BV)=>((fun (t:BV)=>((fun (p:aI)=>((fun (k:RT)=>((fun (v:D)=>((fun (u:BV)=>(.aC q7 [t] [] 0 fun d0=>(.ite d0.bool (.aC ug [(.aP 0 0),u] [(0,(.cells [t,uv,(.map 1),(.map 2),uu,(.aZ 4 1 true)] bh false)),(1,(.bg aA (.bY 1 aH) [] [] 0)),(2,(.bg aF (.data aA) [] [] 0)),(3,p),(4,(.ak af (List.replicate 1 (D.z 0)) true))] 3 fun d1=>((fun (uj:D)=>((fun (j:BV)=>(.aC ug [(.aP 0 0),(.agg (aK pg aH v))] [(0,(.cells [t,uv,(.map 1),(.map 2),(.int .i64 (d1.aa 0).int),(.aZ 4 (d1.aa 7).ae.length true)] bh false)),(1,(.bg aA (.bY 1 aH) (cn (d1.aa 1)) (cK (d1.aa 2)) (cJ (d1.aa 3)))),(2,(.bg aF (.data aA) (cn (d1.aa 4)) (cK (d1.aa 5)) (cJ (d1.aa 6)))),(3,p),(4,(.ak af (d1.aa 7).ae true))] 3 fun d2=>(.aC zT [(.aP 0 0),(.int .i64 (d1.aa 8).int),(.int .u8 1)] [(0,(.cells [t,uv,(.map 1),(.map 2),(.int .i64 (d2.aa 0).int),(.aZ 4 (d2.aa 7).ae.length true)] bh false)),(1,(.bg aA (.bY 1 aH) (cn (d2.aa 1)) (cK (d2.aa 2)) (cJ (d2.aa 3)))),(2,(.bg aF (.data aA) (cn (d2.aa 4)) (cK (d2.aa 5)) (cJ (d2.aa 6)))),(3,p),(4,(.ak af (d2.aa 7).ae true))] 3 fun d3=>((fun (uz:aI)=>((fun (o:aI)=>((fun (i:aI)=>((fun (q:aI)=>(.aC q6 [(.aP 0 0),j] [(0,q),(1,o),(2,i),(3,p),(4,uz)] 3 fun d4=>(.aC jW [(.aP 0 0),j] [(0,q),(1,o),(2,i),(3,p),(4,uz)] 1 fun d5=>(.ite ((d1.aa 9).int==(0:Int)) (.ite ((d2.aa 9).int==(0:Int)) (.ite ((d3.aa 9).int==(0:Int)) (.ite ((d4.aa 1).int==(0:Int)) (.ite (((d4.aa 0).ae.length:Int)==(2:Int)) (.gd (cP 0 (d4.aa 0).ae.length) (.gd (decide ((0:Nat)<(d4.aa 0).ae.length)) (.ite ((D.at (d4.aa 0).ae 0).int==(d1.aa 8).int) (.gd (cP 1 (d4.aa 0).ae.length) (.gd (decide ((1:Nat)<(d4.aa 0).ae.length)) (.ite ((D.at (d4.aa 0).ae 1).int==(d3.aa 8).int) (.ite ((d5.aa 1).int==(0:Int)) (.ite (((d5.aa 0).ae.length:Int)==(1:Int)) (.gd (cP 0 (d5.aa 0).ae.length) (.gd (decide ((0:Nat)<(d5.aa 0).ae.length)) (.ite ((D.at (d5.aa 0).ae 0).int==(d2.aa 8).int) (.aS (.bool (((cn (d5.aa 2)).length:Int)==(2:Int))) []) k))) k) k) k))) k))) k) k) k) k) k)))) (.cells [t,uv,(.map 1),(.map 2),(.int .i64 (d3.aa 0).int),(.aZ 4 (d3.aa 7).ae.length true)] bh false))) (.bg aF (.data aA) (cn (d3.aa 4)) (cK (d3.aa 5)) (cJ (d3.aa 6))))) (.bg aA (.bY 1 aH) (cn (d3.aa 1)) (cK (d3.aa 2)) (cJ (d3.aa 3))))) (.ak af (d3.aa 7).ae true))))) (.bw br (D.r [(D.r [(D.z 0),(D.r []),(D.r (D.r [(D.r [(D.s [({toBitVec:=120#8})]),(D.r [(D.z 4),(D.z 0),(D.s []),(D.r []),uj])])]).ae),(D.r (D.r [uj]).ae)])]).ae))) (D.z (d1.aa 8).int))) (.aC ug [.nA,u] [] 0 fun d6=> .bG)))) (.agg [(.int .u8 1),uu,(.int .u8 0),uu,(.b8 ((v.aa 2).aa 2).b8),(.bw av ((v.aa 2).aa 3).ae),uu,(.bw av (v.aa 3).ae),uu,uu,uu,uu,(.int .u8 0),(.bool false),(.bw ba (v.aa 10).ae),(.bw iF (v.aa 11).ae)]))) (D.r [(D.z 1),(D.z 0),(D.r [(D.z 0),(D.z 0),(D.s []),(D.r []),(D.z 0)]),(D.r []),(D.z 0),(D.z 0),(D.z 0),(D.z 0),(D.z 0),(D.b false),(D.r []),(D.r [])]))) (.aS (.bool false) []))) (.ak ai (List.replicate 1 (D.b false)) true))) (.bw cC (D.r []).ae))) (.int .i64 0))) (.aZ 3 1 true)):=
  oH tZ 0x2104920200b27910200a20200b24910200a20200b21910200a20300b1d910300a20500b179100521015210302a20500b119100521015210302a20200b0e910200a20300b0a910300a20500b049100521015210302a20300b10050790200a1
end
section
variable {W:WS} {Q:D->Prop}
def Gd:cm:={f:=ug,rs:=[aA,aM],bx:=some 3,cz:=[(cE,[aH],[aH]),(qd,[lO],[ai]),(ik,[lO],[ai])],bL:=[(cH,sw),(sR,Dw),(pc,Ci),(pe,oX),(pJ,Dv)],D0:=[(pJ,[none,some aH])]}
@[simp] theorem aeO:Gd.f=ug/\Gd.rs=[aA,aM]:=⟨rfl,rfl⟩
theorem Y0:lh Gd (OX W) (Wm W) 3 F1 Q
 ((fun (uu:Bool)=>((fun (o:Bool)=>((fun (i:Bool)=>((fun (k:BV)=>((fun (t:RT)=>((fun (q:RT)=>((fun (p:RT)=>((fun (j:D)=>((fun (v:D)=>((fun (u:BV)=>(.aC pe [(.aP 0 0),u] (Wm W) 3 fun d0=>(.ite (! d0.bool) p (.aC sR [(.aP 0 0),u] (Wm W) 3 fun d1=>(.ite (! d1.bool) t (.call qd [(D.z 1)] fun d2=>(.ite d2.bool (.aC cH [(.aP 0 0),k] (Wm W) 3 fun d3=>(.ite (! d3.bool) t (.call ik [(D.z 1)] fun d4=>(.ite d4.bool (.aC cH [(.aP 0 0),k] (Wm W) 3 fun d5=>(.ite (! d5.bool) t (.aC pc [(.aP 0 0),k,u] (Wm W) 3 fun d6=>(.ite (! d6.bool) p (.gd uu (.gd o (.ite i q (.call cE [v] fun d7=>(.aC pJ [(.aP 0 0),(.agg (aK pg aH (bU pg aH d7)))] (Wm W) 3 fun d8=>(.aS (.tuple [(.int .i64 (d8.aa 8).int),k]) (Wm (WS.mk W.pa W.cu (cn (d8.aa 1)) (cK (d8.aa 2)) (cJ (d8.aa 3)) (cn (d8.aa 4)) (cK (d8.aa 5)) (cJ (d8.aa 6)) (d8.aa 0).int (d8.aa 7).ae)))))))))))) (.aC pc [(.aP 0 0),k,u] (Wm W) 3 fun d9=>(.ite (! d9.bool) p (.gd uu (.gd o (.ite i q (.call cE [v] fun d10=>(.aC pJ [(.aP 0 0),(.agg (aK pg aH (bU pg aH d10)))] (Wm W) 3 fun d11=>(.aS (.tuple [(.int .i64 (d11.aa 8).int),k]) (Wm (WS.mk W.pa W.cu (cn (d11.aa 1)) (cK (d11.aa 2)) (cJ (d11.aa 3)) (cn (d11.aa 4)) (cK (d11.aa 5)) (cJ (d11.aa 6)) (d11.aa 0).int (d11.aa 7).ae)))))))))))))) (.call ik [(D.z 1)] fun d12=>(.ite d12.bool (.aC cH [(.aP 0 0),k] (Wm W) 3 fun d13=>(.ite (! d13.bool) t (.aC pc [(.aP 0 0),k,u] (Wm W) 3 fun d14=>(.ite (! d14.bool) p (.gd uu (.gd o (.ite i q (.call cE [v] fun d15=>(.aC pJ [(.aP 0 0),(.agg (aK pg aH (bU pg aH d15)))] (Wm W) 3 fun d16=>(.aS (.tuple [(.int .i64 (d16.aa 8).int),k]) (Wm (WS.mk W.pa W.cu (cn (d16.aa 1)) (cK (d16.aa 2)) (cJ (d16.aa 3)) (cn (d16.aa 4)) (cK (d16.aa 5)) (cJ (d16.aa 6)) (d16.aa 0).int (d16.aa 7).ae)))))))))))) (.aC pc [(.aP 0 0),k,u] (Wm W) 3 fun d17=>(.ite (! d17.bool) p (.gd uu (.gd o (.ite i q (.call cE [v] fun d18=>(.aC pJ [(.aP 0 0),(.agg (aK pg aH (bU pg aH d18)))] (Wm W) 3 fun d19=>(.aS (.tuple [(.int .i64 (d19.aa 8).int),k]) (Wm (WS.mk W.pa W.cu (cn (d19.aa 1)) (cK (d19.aa 2)) (cJ (d19.aa 3)) (cn (d19.aa 4)) (cK (d19.aa 5)) (cJ (d19.aa 6)) (d19.aa 0).int (d19.aa 7).ae))))))))))))))))))) (.agg [(.int .u8 1),k,(.int .u8 0),k,(.b8 ((j.aa 2).aa 2).b8),(.bw av ((j.aa 2).aa 3).ae),k,(.bw av (j.aa 3).ae),k,k,k,k,(.int .u8 0),(.bool false),(.bw ba (j.aa 10).ae),(.bw iF (j.aa 11).ae)]))) (D.r [(D.z 1),(D.z 0),(D.r [(D.z 0),(D.z 0),(D.s ((j.aa 2).aa 2).b8),(D.r ((j.aa 2).aa 3).ae),(D.z 0)]),(D.r (j.aa 3).ae),(D.z 0),(D.z 0),(D.z 0),(D.z 0),(D.z 0),(D.b false),(D.r (j.aa 10).ae),(D.r (j.aa 11).ae)]))) (D.r [(D.z 1),(D.z 0),(D.r [(D.z 0),(D.z 0),(D.s []),(D.r []),(D.z 0)]),(D.r []),(D.z 0),(D.z 0),(D.z 0),(D.z 0),(D.z 0),(D.b false),(D.r []),(D.r [])]))) (.aS (.tuple [k,(.int .i64 70)]) (Wm W)))) (.aS (.tuple [k,(.int .i64 8)]) (Wm W)))) (.aS (.tuple [k,(.int .i64 5)]) (Wm W)))) (.int .i64 0))) (decide ((D.at W.ma 0).int≥(512:Int))))) (decide ((0:Nat)<W.ma.length)))) (cP 0 W.ma.length)):=
  oH Gd 0x169220300b20400b01600601604920400b300602922121231110400a300532221212311110400a01600501620300b20400b016006016322121231110400a0160050162221212311110500a310500a07911
end
end Go.Proofs
end
