import Derived.Test.YtdoajjnobfjkcaaGreatM9
set_option linter.all false
noncomputable section
open Go.IntKind renaming wrap→wp
set_option maxHeartbeats 8000000
namespace Go.Proofs
open Go Go.PB
section
variable {y:D} {Q:D->Prop} {n0 n3 n4 n6 n7:Int} {l1 l2 l5:List D} {c0 c7 c4:Nat} {m5 m2:List (D×D)} {st6 st3:List Nat}
def i0:cm:={f:=ij,rs:=[b6,aM],bx:=some 0,cz:=[(cE,[aH],[aH])],bL:=[(fQ,qk),(mn,sy),(dG,nI),(q7,AN),(qz,xV),(cY,ca),(pe,oX)],bJ:=[⟨ij,0,16647,[4,1,33,34,35],[]⟩,⟨ij,0,16583,[8,4,1,63,64,65,9],[]⟩,⟨ij,0,16488,[8,110,4,1,111,112,13],[]⟩],D0:=[(fQ,[some Dn])]}
@[simp] theorem afb:i0.f=ij/\i0.rs=[b6,aM]:=⟨rfl,rfl⟩
def ot (y:D)(n0:Int)(l1:List D):au:=hdS ij 151 [(1,(.aP 0 0)),(4,(.aP 1 0)),(33,(.bw af (y.aa 1).ae)),(34,(.int .i64 ((y.aa 1).ae.length:Int))),(35,(.int .i64 n0))] [(0,(.cells (aK pg bu y) bu false)),(1,(.cells [(.bw cC (y.aa 0).ae),(.aZ 4 ((y.aa 0).ae.length+1) true),(.map 2),(.map 3),(.int .i64 0),(.aZ 5 ((y.aa 0).ae.length+1) true)] bh false)),(2,(.bg aA (.bY 8 aH) [] [] 0)),(3,(.bg aF (.data aA) [] [] 0)),(4,(.ak ai l1 true)),(5,(.ak af (List.replicate ((y.aa 0).ae.length+1) (D.z 0)) true))]
def mA (y:D)(c0:Nat)(l1 l2:List D)(n3 n4:Int)(m5:List (D×D))(st6:List Nat)(c7:Nat):au:=hdS ij 1215 [(1,(.aP 0 0)),(4,(.aP 1 0)),(8,(.aZ 2 c0 true)),(9,(.int .i64 n3)),(63,(.bw bF (y.aa 2).ae)),(64,(.int .i64 ((y.aa 2).ae.length:Int))),(65,(.int .i64 n4))] [(0,(.cells (aK pg bu y) bu false)),(1,(.cells [(.bw cC (y.aa 0).ae),(.aZ 5 ((y.aa 0).ae.length+1) true),(.map 3),(.map 4),(.int .i64 0),(.aZ 6 ((y.aa 0).ae.length+1) true)] bh false)),(2,(.ak af l1 true)),(3,(.bg aA (.bY 10 aH) m5 st6 c7)),(4,(.bg aF (.data aA) [] [] 0)),(5,(.ak ai l2 true)),(6,(.ak af (List.replicate ((y.aa 0).ae.length+1) (D.z 0)) true))]
def tI (y:D)(c0:Nat)(l1:List D)(m2:List (D×D))(st3:List Nat)(c4:Nat)(l5:List D)(n6 n7:Int):au:=hdS ij 4863 [(1,(.aP 0 0)),(4,(.aP 1 0)),(8,(.aZ 2 c0 true)),(13,(.int .i64 n6)),(110,(.bw af (y.aa 4).ae)),(111,(.int .i64 ((y.aa 4).ae.length:Int))),(112,(.int .i64 n7))] [(0,(.cells (aK pg bu y) bu false)),(1,(.cells [(.bw cC (y.aa 0).ae),(.aZ 5 ((y.aa 0).ae.length+1) true),(.map 3),(.map 4),(.int .i64 0),(.aZ 6 ((y.aa 0).ae.length+1) true)] bh false)),(2,(.ak af l1 true)),(3,(.bg aA (.bY 10 aH) m2 st3 c4)),(4,(.bg aF (.data aA) [] [] 0)),(5,(.ak ai l5 true)),(6,(.ak af (List.replicate ((y.aa 0).ae.length+1) (D.z 0)) true))]
theorem Zn:lh i0 (lj y) [] 0 jL Q
 ((fun (v:BV)=>((fun (u:RT)=>(.aC q7 [v] [] 0 fun d0=>(.ite d0.bool (.aC dG [(.aP 0 0)] [(0,(.cells [v,(.aZ 3 ((y.aa 0).ae.length+1) true),(.map 1),(.map 2),(.int .i64 0),(.aZ 4 ((y.aa 0).ae.length+1) true)] bh false)),(1,(.bg aA (.bY 1 aH) [] [] 0)),(2,(.bg aF (.data aA) [] [] 0)),(3,(.ak ai (List.replicate ((y.aa 0).ae.length+1) (D.b false)) true)),(4,(.ak af (List.replicate ((y.aa 0).ae.length+1) (D.z 0)) true))] 3 fun d1=>(.ite (((y.aa 4).ae.length:Int)!=d1.int) u (.bj (ot y 0 (List.replicate ((y.aa 0).ae.length+1) (D.b false)))))) u))) (.aS (.tuple [.nA,(.int .i64 71)]) []))) (.bw cC (y.aa 0).ae)):=
  oH i0 0x20a91069434029211
theorem Hk:lk i0 (.bx 0 (jL (lj y) []) Q) (ot y n0 l1)
 ((fun (uu:Int)=>((fun (o:Int)=>((fun (i:D)=>((fun (t:aI)=>((fun (q:BV)=>((fun (p:aI)=>((fun (k:RT)=>((fun (j:aI)=>((fun (v:aI)=>((fun (u:aI)=>(.ite (decide (n0<((y.aa 1).ae.length:Int))) (.gd (cP n0 (y.aa 1).ae.length) (.ite (decide (n0>(0:Int))) (.gd (cP o (y.aa 1).ae.length) (.ite (decide (i.int<=(D.at (y.aa 1).ae o.toNat).int)) k (.aC qz [(.aP 0 0),q] [(0,u),(1,p),(2,j),(3,t),(4,v)] 3 fun d0=>(.ite ((d0.aa 0).int !=(0:Int)) k (.bj (ot y uu (d0.aa 1).ae)))))) (.aC qz [(.aP 0 0),q] [(0,u),(1,p),(2,j),(3,t),(4,v)] 3 fun d1=>(.ite ((d1.aa 0).int !=(0:Int)) k (.bj (ot y uu (d1.aa 1).ae)))))) (.aC dG [(.aP 0 0)] [(0,u),(1,p),(2,j),(3,t),(4,v)] 3 fun d2=>(.gd (rZ d2.int d2.int 8) (.bj (mA y d2.int.toNat (List.replicate d2.int.toNat (D.z 0)) l1 0 0 [] [] 0)))))) (.cells [(.bw cC (y.aa 0).ae),(.aZ 3 ((y.aa 0).ae.length+1) true),(.map 1),(.map 2),(.int .i64 0),(.aZ 4 ((y.aa 0).ae.length+1) true)] bh false))) (.ak af (List.replicate ((y.aa 0).ae.length+1) (D.z 0)) true))) (.bg aF (.data aA) [] [] 0))) (.aS (.tuple [.nA,(.int .i64 71)]) []))) (.bg aA (.bY 1 aH) [] [] 0))) (.int .i64 i.int))) (.ak ai l1 true))) (D.at (y.aa 1).ae n0.toNat))) (wp .i64 (n0-1)))) (wp .i64 (n0+1))):=
  oE i0 0x22112120800b0592110500a210301a20400b2110400a31
theorem E5:lk i0 (.bx 0 (jL (lj y) []) Q) (mA y c0 l1 l2 n3 n4 m5 st6 c7)
 ((fun (i:Int)=>((fun (t:D)=>((fun (q:D)=>((fun (k:RT)=>((fun (j:D)=>((fun (v:D)=>(.ite (decide (n4<((y.aa 2).ae.length:Int))) (.gd (cP n4 (y.aa 2).ae.length) (.ite (decide (j.int<=n3)) k (.ite (decide (j.int>(y.aa 3).int)) k (.aC pe [(.aP 0 0),(.agg (aK pg aH q))] [(0,(.cells [(.bw cC (y.aa 0).ae),(.aZ 3 ((y.aa 0).ae.length+1) true),(.map 1),(.map 2),(.int .i64 0),(.aZ 4 ((y.aa 0).ae.length+1) true)] bh false)),(1,(.bg aA (.bY 1 aH) m5 st6 c7)),(2,(.bg aF (.data aA) [] [] 0)),(3,(.ak ai l2 true)),(4,(.ak af (List.replicate ((y.aa 0).ae.length+1) (D.z 0)) true))] 3 fun d0=>(.ite (! d0.bool) k (.call cE [(bU pg aH q)] fun d1=>((fun (p:D)=>((fun (u:D)=>(.ite (D.cS m5 v) .bG (.gd (D.cS (m5++[(v,(bU pg aH d1))]) v) (.ite ((p.aa 0).int !=(14:Int)) (.gd (cP u.int c0) (.gd (decide (u.int.toNat<l1.length)) (.bj (mA y c0 (List.set l1 u.int.toNat (D.z (wp .i64 ((D.at l1 u.int.toNat).int+1)))) l2 j.int i (m5++[(v,(bU pg aH d1))]) (st6++[c7]) (c7+1))))) (.bj (mA y c0 l1 l2 j.int i (m5++[(v,(bU pg aH d1))]) (st6++[c7]) (c7+1))))))) (p.aa 1))) (D.val (m5++[(v,(bU pg aH d1))]) v)))))))) (.bj (tI y c0 l1 m5 st6 c7 l2 0 0)))) (D.z j.int))) (t.aa 0))) (.aS (.tuple [.nA,(.int .i64 71)]) []))) (t.aa 1))) (D.at (y.aa 2).ae n4.toNat))) (wp .i64 (n4+1))):=
  oE i0 0x212120500b20500b22212101521210150051110500a310500a0791
theorem E6:lk i0 (.bx 0 (jL (lj y) []) Q) (tI y c0 l1 m2 st3 c4 l5 n6 n7)
 ((fun (uu:BV)=>((fun (o:Int)=>((fun (i:aI)=>((fun (t:aI)=>((fun (q:BV)=>((fun (p:D)=>((fun (k:aI)=>((fun (v:aI)=>((fun (u:RT)=>(.ite (decide (n7<((y.aa 4).ae.length:Int))) (.gd (cP n7 (y.aa 4).ae.length) (.gd (cP n7 c0) (.gd (decide (n7.toNat<l1.length)) (.ite (decide (p.int<(D.at l1 n7.toNat).int)) u (.ite (decide (p.int>(512:Int))) u (.bj (tI y c0 l1 m2 st3 c4 l5 (wp .i64 (n6+p.int)) (wp .i64 (n7+1))))))))) (.ite (decide ((y.aa 3).int<(0:Int))) u (.ite (decide ((y.aa 3).int>o)) u (.aC cY [(.aP 0 0)] [(0,v),(1,i),(2,(.bg aF (.data aA) [] [] 0)),(3,t),(4,k)] 3 fun d0=>((fun (j:aI)=>(.ite (! (d0.aa 0).bool) u (.aC mn [(.aP 0 0)] [(0,v),(1,i),(2,j),(3,t),(4,k)] 3 fun d1=>(.ite (decide ((wp .i64 ((y.aa 3).int+d1.int))>o)) u (.aC fQ [(.bw af (D.r (y.aa 4).ae).ae)] [] 0 fun d2=>(.aS (.tuple [(.aP 0 0),(.int .i64 0)]) [(0,(.cells [uu,q,(.map 1),(.map 2),(.int .i64 (y.aa 3).int),(.aZ 4 d2.ae.length true)] bh false)),(1,(.bg aA (.bY 6 aH) m2 st3 c4)),(2,j),(3,t),(4,(.ak af d2.ae true))])))))) (.bg aF (.data aA) (cn (d0.aa 1)) (cK (d0.aa 2)) (cJ (d0.aa 3))))))))) (.aS (.tuple [.nA,(.int .i64 71)]) []))) (.cells [uu,q,(.map 1),(.map 2),(.int .i64 0),(.aZ 4 ((y.aa 0).ae.length+1) true)] bh false))) (.ak af (List.replicate ((y.aa 0).ae.length+1) (D.z 0)) true))) (D.at (y.aa 4).ae n7.toNat))) (.aZ 3 ((y.aa 0).ae.length+1) true))) (.ak ai l5 true))) (.bg aA (.bY 1 aH) m2 st3 c4))) (wp .i64 (64*n6)))) (.bw cC (y.aa 0).ae)):=
  oE i0 0x220500b20300b20600b400640300b24110a00a310300a0c910500a109121212120200b2110200a31
end
section
variable {y:D} {Q:D->Prop} {n0 n1 n2 n3 n6 n5:Int} {l1 l0 l3 l2 l5 l6 l4:List D} {c4 c1:Nat}
def dX:cm:={f:=cD,rs:=[bP,aM],bx:=some 0,cz:=[(iP,[aH,af],[ai]),(gA,[aH],[aH]),(gJ,[af],[ai])],bL:=[(nQ,zu),(eI,hU),(gr,mT),(uN,zA),(uf,zv)],bJ:=[⟨cD,0,16881,[1,4,6],[]⟩,⟨cD,0,16797,[1,4,8,7],[]⟩,⟨cD,0,16684,[4,9,1,7,10],[]⟩,⟨cD,0,16570,[4,9,7,12],[]⟩,⟨cD,0,16527,[4,7,13],[]⟩,⟨cD,0,16461,[4,7,15],[]⟩]}
@[simp] theorem adV:dX.f=cD/\dX.rs=[bP,aM]:=⟨rfl,rfl⟩
def tx (y:D)(n0:Int)(l1:List D):au:=hdS cD 151 [(1,(.aP 0 0)),(4,(.aP 1 0)),(6,(.int .i64 n0))] [(0,(.cells (aK pg bu y) bu false)),(1,(.cells [(.aZ 2 (y.aa 0).ae.length true),(.aZ 3 (y.aa 0).ae.length true),(.aZ 4 0 true),(.int .i64 0),(.aZ 5 ((y.aa 0).ae.length+1) true)] bd false)),(2,(.ak af (y.aa 0).ae true)),(3,(.ak ai l1 true)),(4,(.ak bF [] true)),(5,(.ak af (List.replicate ((y.aa 0).ae.length+1) (D.z 0)) true))]
def tz (y:D)(l0:List D)(n1 n2:Int)(l3:List D):au:=hdS cD 607 [(1,(.aP 0 0)),(4,(.aP 1 0)),(7,(.int .i64 n1)),(8,(.int .i64 n2))] [(0,(.cells (aK pg bu y) bu false)),(1,(.cells [(.aZ 2 (y.aa 0).ae.length true),(.aZ 3 (y.aa 0).ae.length true),(.aZ 4 0 true),(.int .i64 0),(.aZ 5 ((y.aa 0).ae.length+1) true)] bd false)),(2,(.ak af (y.aa 0).ae true)),(3,(.ak ai l0 true)),(4,(.ak bF [] true)),(5,(.ak af l3 true))]
def fW (y:D)(n0:Int)(l1 l2:List D)(n3:Int)(c4:Nat)(l5 l6:List D):au:=hdS cD 9727 [(1,(.aP 0 0)),(4,(.aP 1 0)),(7,(.int .i64 n0)),(9,(.aZ 2 (y.aa 4).ae.length true)),(10,(.int .i64 n3))] [(0,(.cells (aK pg bu y) bu false)),(1,(.cells [(.aZ 3 (y.aa 0).ae.length true),(.aZ 4 (y.aa 0).ae.length true),(.aZ 5 c4 true),(.int .i64 (y.aa 3).int),(.aZ 6 ((y.aa 0).ae.length+1) true)] bd false)),(2,(.ak af l5 true)),(3,(.ak af (y.aa 0).ae true)),(4,(.ak ai l1 true)),(5,(.ak bF l6 true)),(6,(.ak af l2 true))]
def pR (y:D)(n0:Int)(c1:Nat)(l2 l3:List D)(l4 l5:List D)(n6:Int):au:=hdS cD 19455 [(4,(.aP 0 0)),(7,(.int .i64 n0)),(9,(.aZ 1 (y.aa 4).ae.length true)),(12,(.int .i64 n6))] [(0,(.cells [(.aZ 2 (y.aa 0).ae.length true),(.aZ 3 (y.aa 0).ae.length true),(.aZ 4 c1 true),(.int .i64 (y.aa 3).int),(.aZ 5 ((y.aa 0).ae.length+1) true)] bd false)),(1,(.ak af l2 true)),(2,(.ak af (y.aa 0).ae true)),(3,(.ak ai l3 true)),(4,(.ak bF l4 true)),(5,(.ak af l5 true))]
def lF (y:D)(n0:Int)(c1:Nat)(l2 l3 l4:List D)(n5:Int):au:=hdS cD 38911 [(4,(.aP 0 0)),(7,(.int .i64 n0)),(13,(.int .i64 n5))] [(0,(.cells [(.aZ 1 (y.aa 0).ae.length true),(.aZ 2 (y.aa 0).ae.length true),(.aZ 3 c1 true),(.int .i64 (y.aa 3).int),(.aZ 4 ((y.aa 0).ae.length+1) true)] bd false)),(1,(.ak af (y.aa 0).ae true)),(2,(.ak ai l2 true)),(3,(.ak bF l3 true)),(4,(.ak af l4 true))]
def pS (y:D)(n0:Int)(c1:Nat)(l2 l3 l4:List D)(n5:Int):au:=hdS cD 77823 [(4,(.aP 0 0)),(7,(.int .i64 n0)),(15,(.int .i64 n5))] [(0,(.cells [(.aZ 1 (y.aa 0).ae.length true),(.aZ 2 (y.aa 0).ae.length true),(.aZ 3 c1 true),(.int .i64 (y.aa 3).int),(.aZ 4 ((y.aa 0).ae.length+1) true)] bd false)),(1,(.ak af (y.aa 0).ae true)),(2,(.ak ai l2 true)),(3,(.ak bF l3 true)),(4,(.ak af l4 true))]
theorem V7:lh dX (dV y) [] 0 dF Q
 ((fun (u:RT)=>(.aC uN [(.bw cC (y.aa 0).ae)] [] 0 fun d0=>(.ite d0.bool (.ite (((y.aa 4).ae.length:Int)!=(wp .i64 (((y.aa 0).ae.length:Int)+1))) u (.bj (tx y 0 (List.replicate (y.aa 0).ae.length (D.b false))))) u))) (.aS (.tuple [.nA,(.int .i64 71)]) [])):=
  oH dX 0x20a91099211
theorem EU:lk dX (.bx 0 (dF (dV y) []) Q) (tx y n0 l1)
 ((fun (p:Int)=>((fun (k:RT)=>((fun (j:D)=>((fun (v:Int)=>((fun (u:RT)=>(.ite (decide (n0<((y.aa 1).ae.length:Int))) (.gd (cP n0 (y.aa 1).ae.length) (.ite (decide (j.int<(1:Int))) k (.ite (decide (j.int>((y.aa 0).ae.length:Int))) k (.ite (decide (n0>(0:Int))) (.gd (cP p (y.aa 1).ae.length) (.ite (decide (j.int<=(D.at (y.aa 1).ae p.toNat).int)) k u)) u)))) (.bj (tz y l1 0 0 (List.replicate ((y.aa 0).ae.length+1) (D.z 0)))))) (.gd (cP v (y.aa 0).ae.length) (.gd (decide (v.toNat<l1.length)) (.bj (tx y (wp .i64 (n0+1)) (List.set l1 v.toNat (D.b true)))))))) (wp .i64 (j.int-1)))) (D.at (y.aa 1).ae n0.toNat))) (.aS (.tuple [.nA,(.int .i64 71)]) []))) (wp .i64 (n0-1))):=
  oE dX 0x212120300b0150600b20200b20b00b0160060163035212110300a0350600a210201a02601502620552121110400a310900a0691
theorem EV:lk dX (.bx 0 (dF (dV y) []) Q) (tz y l0 n1 n2 l3)
 ((fun (j:Int)=>((fun (v:D)=>((fun (u:RT)=>(.ite (decide (n2<((y.aa 4).ae.length:Int))) (.gd (cP n2 (y.aa 4).ae.length) (.ite (decide (v.int<(0:Int))) u (.ite (decide (v.int>(512:Int))) u (.gd (cP n2 ((y.aa 0).ae.length+1)) (.gd (decide (n2.toNat<l3.length)) (.bj (tz y l0 (wp .i64 (n1+v.int)) (wp .i64 (n2+1)) (List.set l3 n2.toNat (D.z v.int))))))))) (.ite (decide ((y.aa 3).int<(0:Int))) u (.ite (decide ((y.aa 3).int>j)) u (.ite (decide (((y.aa 2).ae.length:Int)>j)) u (.gd (rZ ((y.aa 4).ae.length:Int) ((y.aa 4).ae.length:Int) 8) (.bj (fW y n1 l0 l3 0 0 (List.replicate (y.aa 4).ae.length (D.z 0)) [])))))))) (.aS (.tuple [.nA,(.int .i64 71)]) []))) (D.at (y.aa 4).ae n2.toNat))) (wp .i64 (64*n1))):=
  oE dX 0x220500b20600b221110600a310500a08912120300b0150300b20252121045110600a31
theorem Df:lk dX (.bx 0 (dF (dV y) []) Q) (fW y n0 l1 l2 n3 c4 l5 l6)
 ((fun (uk:Int)=>((fun (uj:D)=>((fun (uv:D)=>((fun (i:Bool)=>((fun (q:Bool)=>((fun (p:Int)=>((fun (k:D)=>((fun (j:D)=>((fun (v:RT)=>((fun (u:D)=>((fun (uz:Int)=>((fun (uu:Bool)=>((fun (o:Bool)=>((fun (t:D)=>(.ite (decide (n3<((y.aa 2).ae.length:Int))) (.gd (cP n3 (y.aa 2).ae.length) (.ite (decide (k.int<(1:Int))) v (.ite (decide (k.int>(y.aa 3).int)) v (.ite (decide (n3>(0:Int))) (.gd (cP uk (y.aa 2).ae.length) (.ite (decide (k.int<=((D.at (y.aa 2).ae uk.toNat).aa 0).int)) v (.call iP [(bU pg aH u),uv] fun d0=>(.ite (! d0.bool) v (.ite (uz !=(14:Int)) (.gd uu (.gd o (.call gA [(bU pg aH u)] fun d1=>(.gd (q&&i) (.bj (fW y n0 l1 l2 p (c4+1) (List.set l5 (u.aa 1).int.toNat t) (l6++[(D.r [j,(bU pg aH d1)])]))))))) (.call gA [(bU pg aH u)] fun d2=>(.gd (q&&i) (.bj (fW y n0 l1 l2 p (c4+1) l5 (l6++[(D.r [j,(bU pg aH d2)])])))))))))) (.call iP [(bU pg aH u),uv] fun d3=>(.ite (! d3.bool) v (.ite (uz !=(14:Int)) (.gd uu (.gd o (.call gA [(bU pg aH u)] fun d4=>(.gd (q&&i) (.bj (fW y n0 l1 l2 p (c4+1) (List.set l5 (u.aa 1).int.toNat t) (l6++[(D.r [j,(bU pg aH d4)])]))))))) (.call gA [(bU pg aH u)] fun d5=>(.gd (q&&i) (.bj (fW y n0 l1 l2 p (c4+1) l5 (l6++[(D.r [j,(bU pg aH d5)])])))))))))))) (.bj (pR y n0 c4 l5 l1 l6 l2 0)))) (D.z (wp .i64 ((D.at l5 (u.aa 1).int.toNat).int+1))))) (decide ((u.aa 1).int.toNat<l5.length)))) (cP (u.aa 1).int (y.aa 4).ae.length))) (wp .i64 (u.aa 0).int))) (uj.aa 1))) (.aS (.tuple [.nA,(.int .i64 71)]) []))) (D.z k.int))) (uj.aa 0))) (wp .i64 (n3+1)))) (decide (c4=l6.length)))) (aO 200 (c4+1)))) (D.z ((y.aa 4).ae.length:Int)))) (D.at (y.aa 2).ae n3.toNat))) (wp .i64 (n3-1))):=
  oE dX 0x212120500b20200b20900b01600601608922443211212101500544321110600a210301a02601502620700b22443211212101500544321110700a310400a09910500a0e91
theorem BP:lk dX (.bx 0 (dF (dV y) []) Q) (pR y n0 c1 l2 l3 l4 l5 n6)
 (.ite (decide (n6<((y.aa 4).ae.length:Int))) (.gd (cP n6 (y.aa 4).ae.length) (.gd (decide (n6.toNat<l2.length)) (.gd (cP n6 ((y.aa 0).ae.length+1)) (.gd (decide (n6.toNat<l5.length)) (.ite (decide ((D.at l2 n6.toNat).int>(D.at l5 n6.toNat).int)) (.aS (.tuple [.nA,(.int .i64 71)]) []) (.bj (pR y n0 c1 l2 l3 l4 l5 (wp .i64 (n6+1))))))))) (.bj (lF y n0 c1 l3 l4 l5 0))):=
  oE dX 0x2121212121211
theorem BQ:lk dX (.bx 0 (dF (dV y) []) Q) (lF y n0 c1 l2 l3 l4 n5)
 ((fun (i:aI)=>((fun (t:aI)=>((fun (q:aI)=>((fun (k:aI)=>((fun (j:RT)=>((fun (u:aI)=>(.ite (decide (n5<(c1:Int))) (.gd (cP n5 c1) (.gd (decide (n5.toNat<l3.length)) (.aC uf [(.aP 0 0),(.int .i64 ((D.at l3 n5.toNat).aa 0).int)] [(0,u),(1,k),(2,i),(3,t),(4,q)] 1 fun d0=>((fun (p:Int)=>((fun (v:Int)=>(.ite (decide (p>(c1:Int))) j (.gd (cP v d0.ae.length) (.gd (decide (v.toNat<d0.ae.length)) (.aC nQ [(.aP 0 0),(.int .i64 (D.at d0.ae v.toNat).int)] [(0,u),(1,k),(2,i),(3,t),(4,q)] 1 fun d1=>(.call gJ [(D.z d1.int)] fun d2=>(.ite d2.bool j (.bj (lF y n0 c1 l2 l3 l4 (wp .i64 (n5+1))))))))))) (wp .i64 (p-1)))) (d0.ae.length:Int))))) (.bj (pS y n0 c1 l2 l3 l4 0)))) (.cells [(.aZ 1 (y.aa 0).ae.length true),(.aZ 2 (y.aa 0).ae.length true),(.aZ 3 c1 true),(.int .i64 (y.aa 3).int),(.aZ 4 ((y.aa 0).ae.length+1) true)] bd false))) (.aS (.tuple [.nA,(.int .i64 71)]) []))) (.ak af (y.aa 0).ae true))) (.ak af l4 true))) (.ak bF l3 true))) (.ak ai l2 true)):=
  oE dX 0x21212120500b21016210302b2110900a31
theorem BR:lk dX (.bx 0 (dF (dV y) []) Q) (pS y n0 c1 l2 l3 l4 n5)
 ((fun (q:D)=>((fun (p:aI)=>((fun (k:aI)=>((fun (j:aI)=>((fun (z:RT)=>((fun (v:aI)=>((fun (u:aI)=>(.ite (decide (n5<(c1:Int))) (.gd (cP n5 c1) (.gd (decide (n5.toNat<l3.length)) (.aC eI [(.aP 0 0),(.int .i64 (q.aa 0).int),(.agg (aK pg aH (q.aa 1)))] [(0,u),(1,v),(2,p),(3,k),(4,j)] 1 fun d0=>(.ite (d0.int !=(0:Int)) z (.bj (pS y n0 c1 l2 l3 l4 (wp .i64 (n5+1)))))))) (.aC gr [(.aP 0 0)] [(0,u),(1,v),(2,p),(3,k),(4,j)] 1 fun d1=>(.ite (decide ((wp .i64 ((y.aa 3).int+d1.int))>(wp .i64 (64*n0)))) z (.aS (.tuple [(.aP 0 0),(.int .i64 0)]) [(0,u),(1,v),(2,p),(3,k),(4,j)]))))) (.cells [(.aZ 1 (y.aa 0).ae.length true),(.aZ 2 (y.aa 0).ae.length true),(.aZ 3 c1 true),(.int .i64 (y.aa 3).int),(.aZ 4 ((y.aa 0).ae.length+1) true)] bd false))) (.ak af (y.aa 0).ae true))) (.aS (.tuple [.nA,(.int .i64 71)]) []))) (.ak af l4 true))) (.ak bF l3 true))) (.ak ai l2 true))) (D.at l3 n5.toNat)):=
  oE dX 0x2442112121015005211
end
section
variable {W:WS} {Q:D->Prop} {c0 c1 c5 c2 c3 c7 c10:Nat} {l2 l3 l6 l4 l5 l8 l11:List D} {n4 n1 n9:Int}
def tW:cm:={f:=ic,rs:=[bu],bx:=some 3,cz:=[(cE,[aH],[aH])],bL:=[(fQ,qk),(gH,vH),(jb,qP)],bJ:=[⟨ic,0,16469,[3,29,0,2,30,31],[]⟩,⟨ic,0,16428,[3,0,45,2,46,47],[]⟩],B8:=[(bu,1,af),(bu,2,bF)],Ry:=[some bu],D0:=[(gH,[some Bz])],pns:=[(fQ,1)]}
@[simp] theorem aeP:tW.f=ic/\tW.rs=[bu]:=⟨rfl,rfl⟩
def rv (W:WS)(c0 c1:Nat)(l2 l3:List D)(n4:Int)(c5:Nat)(l6:List D):au:=hdS ic 151 [(0,(.aP 0 0)),(2,(.aP 3 0)),(3,(.aP 4 0)),(29,(.aZ 5 W.cu.length true)),(30,(.int .i64 (W.cu.length:Int))),(31,(.int .i64 n4))] [(0,wrC W 5 1 2 6),(1,wrT W 1),(2,wrF W),(3,(.cells [.cX,(.aZ 7 0 true),(.aZ 8 0 true),(.int .i64 0),.cX] bu false)),(4,(.cells [(.aZ 9 c0 true),(.aZ 10 c5 true),(.aZ 11 0 true),(.int .i64 W.la),(.aZ 12 c1 true)] bu false)),(5,(.ak ai W.cu true)),(6,(.ak af W.ma true)),(7,(.ak af [] true)),(8,(.ak bF [] true)),(9,(.ak cC l2 true)),(10,(.ak af l6 true)),(11,(.ak bF [] true)),(12,(.ak af l3 true))]
def vR (W:WS)(c0:Nat)(n1:Int)(c2 c3:Nat)(l4 l5 l6:List D)(c7:Nat)(l8:List D)(n9:Int)(c10:Nat)(l11:List D):au:=hdS ic 303 [(0,(.aP 0 0)),(2,(.aP 3 0)),(3,(.aP 4 0)),(45,(.aZ 5 c0 true)),(46,(.int .i64 n1)),(47,(.int .i64 n9))] [(0,wrC W 6 1 2 7),(1,wrT W 1),(2,wrF W),(3,(.cells [.cX,(.aZ 8 0 true),(.aZ 9 0 true),(.int .i64 0),.cX] bu false)),(4,(.cells [(.aZ 10 c2 true),(.aZ 11 c7 true),(.aZ 12 c10 true),(.int .i64 W.la),(.aZ 13 c3 true)] bu false)),(5,(.ak aA l4 true)),(6,(.ak ai W.cu true)),(7,(.ak af W.ma true)),(8,(.ak af [] true)),(9,(.ak bF [] true)),(10,(.ak cC l5 true)),(11,(.ak af l8 true)),(12,(.ak bF l11 true)),(13,(.ak af l6 true))]
theorem Y1:lh tW (zq W) (Wm W) 3 tR Q
 (.aC gH [(.bw cC (D.r W.pa).ae)] [] 0 fun d0=>(.aC fQ [(.aZ 0 W.ma.length true)] [(0,(.ak af W.ma true))] 1 fun d1=>(.bj (rv W d0.ae.length d1.ae.length d0.ae d1.ae 0 0 [])))):=
  oH tW 0x0794441
theorem G6:lk tW (.bx 3 (tR (zq W) (Wm W)) Q) (rv W c0 c1 l2 l3 n4 c5 l6)
 ((fun (u:Int)=>(.ite (decide (n4<(W.cu.length:Int))) (.gd (cP n4 W.cu.length) (.gd (decide (n4.toNat<W.cu.length)) (.ite (D.at W.cu n4.toNat).bool (.gd ((decide (c5=l6.length))&&(aO 8 (c5+1))) (.bj (rv W c0 c1 l2 l3 u (c5+1) (l6++[(D.z n4)])))) (.bj (rv W c0 c1 l2 l3 u c5 l6))))) (.aC jb [(.aP 0 0)] (Wm W) 3 fun d0=>(.bj (vR W d0.ae.length (d0.ae.length:Int) c0 c1 d0.ae l2 l3 c5 l6 0 0 []))))) (wp .i64 (n4+1))):=
  oE tW 0x212121213211
theorem G7:lk tW (.bx 3 (tR (zq W) (Wm W)) Q) (vR W c0 n1 c2 c3 l4 l5 l6 c7 l8 n9 c10 l11)
 ((fun (v:Bool)=>((fun (u:D)=>(.ite (decide (n9<n1)) (.gd (cP n9 c0) (.gd (decide (n9.toNat<l4.length)) (.gd (D.cS W.th u) (.call cE [(bU pg aH (D.val W.th u))] fun d0=>(.gd (v&&(aO 200 (c10+1))) (.bj (vR W c0 n1 c2 c3 l4 l5 l6 c7 l8 (wp .i64 (n9+1)) (c10+1) (l11++[(D.r [u,(bU pg aH d0)])])))))))) (.gd (decide (c2=l5.length)) (.gd (decide (c7=l8.length)) (.gd v (.gd (decide (c3=l6.length)) (.aS (.agg (aK pg bu (D.r [(D.r l5),(D.r l8),(D.r l11),(D.z W.la),(D.r l6)]))) (Wm W)))))))) (D.z (D.at l4 n9.toNat).int))) (decide (c10=l11.length))):=
  oE tW 0x221212121121212100543211
end
section
variable {R:RS} {Q:D->Prop} {n0 n4:Int} {c1 c2 c0 c5:Nat} {l3 l4 l2 l6:List D}
def qo:cm:={f:=iN,rs:=[bu],bx:=some 1,cz:=[(gA,[aH],[aH])],bJ:=[⟨iN,0,16516,[3,0,2,4],[]⟩,⟨iN,0,16456,[3,0,2,5],[]⟩],B8:=[(bu,0,cC),(bu,1,af),(bu,2,bF),(bu,4,af)],Ry:=[some bu]}
@[simp] theorem adA:qo.f=iN/\qo.rs=[bu]:=⟨rfl,rfl⟩
def rq (R:RS)(n0:Int)(c1 c2:Nat)(l3 l4:List D):au:=hdS iN 75 [(0,(.aP 0 0)),(2,(.aP 1 0)),(3,(.aP 2 0)),(4,(.int .i64 n0))] [(0,rrC R 3 4 5 6),(1,(.cells [(.aZ 7 0 true),(.aZ 8 0 true),(.aZ 9 0 true),(.int .i64 0),(.aZ 10 0 true)] bu false)),(2,(.cells [(.aZ 11 c1 true),(.aZ 12 c2 true),(.aZ 13 0 true),(.int .i64 0),(.aZ 14 0 true)] bu false)),(3,(.ak af R.pa true)),(4,(.ak ai R.cu true)),(5,(.ak bF R.th true)),(6,(.ak af R.ma true)),(7,(.ak cC [] true)),(8,(.ak af [] true)),(9,(.ak bF [] true)),(10,(.ak af [] true)),(11,(.ak cC l3 true)),(12,(.ak af l4 true)),(13,(.ak bF [] true)),(14,(.ak af [] true))]
def tj (R:RS)(c0 c1:Nat)(l2 l3:List D)(n4:Int)(c5:Nat)(l6:List D):au:=hdS iN 151 [(0,(.aP 0 0)),(2,(.aP 1 0)),(3,(.aP 2 0)),(5,(.int .i64 n4))] [(0,rrC R 3 4 5 6),(1,(.cells [(.aZ 7 0 true),(.aZ 8 0 true),(.aZ 9 0 true),(.int .i64 0),(.aZ 10 0 true)] bu false)),(2,(.cells [(.aZ 11 c0 true),(.aZ 12 c1 true),(.aZ 13 c5 true),(.int .i64 0),(.aZ 14 0 true)] bu false)),(3,(.ak af R.pa true)),(4,(.ak ai R.cu true)),(5,(.ak bF R.th true)),(6,(.ak af R.ma true)),(7,(.ak cC [] true)),(8,(.ak af [] true)),(9,(.ak bF [] true)),(10,(.ak af [] true)),(11,(.ak cC l2 true)),(12,(.ak af l3 true)),(13,(.ak bF l6 true)),(14,(.ak af [] true))]
theorem VM:lh qo (wt R) (Rm R) 1 ss Q
 (.bj (rq R 0 0 0 [] [])):=
  oH qo 0x1
theorem G4:lk qo (.bx 1 (ss (wt R) (Rm R)) Q) (rq R n0 c1 c2 l3 l4)
 ((fun (v:D)=>((fun (u:Int)=>(.ite (decide (n0<(R.pa.length:Int))) (.gd (cP n0 R.pa.length) (.gd (decide (n0.toNat<R.pa.length)) (.gd ((decide (c1=l3.length))&&(aO 8 (c1+1))) (.gd (cP n0 R.cu.length) (.gd (decide (n0.toNat<R.cu.length)) (.ite (D.at R.cu n0.toNat).bool (.gd ((decide (c2=l4.length))&&(aO 8 (c2+1))) (.bj (rq R u (c1+1) (c2+1) (l3++[v]) (l4++[(D.z u)])))) (.bj (rq R u (c1+1) c2 (l3++[v]) l4)))))))) (.bj (tj R c1 c2 l3 l4 0 0 [])))) (wp .i64 (n0+1)))) (D.z (D.at R.pa n0.toNat).int)):=
  oE qo 0x2121213212121213211
theorem EG:lk qo (.bx 1 (ss (wt R) (Rm R)) Q) (tj R c0 c1 l2 l3 n4 c5 l6)
 ((fun (k:D)=>((fun (j:Bool)=>((fun (v:D)=>((fun (u:D)=>(.ite (decide (n4<(R.th.length:Int))) (.gd (cP n4 R.th.length) (.gd (decide (n4.toNat<R.th.length)) (.call gA [(D.r [(D.z (v.aa 0).int),(D.z (v.aa 1).int),(D.r [(D.z ((v.aa 2).aa 0).int),(D.z ((v.aa 2).aa 1).int),(D.s ((v.aa 2).aa 2).b8),(D.r ((v.aa 2).aa 3).ae),(D.z ((v.aa 2).aa 4).int)]),(D.r (v.aa 3).ae),(D.z (v.aa 4).int),(D.z (v.aa 5).int),(D.z (v.aa 6).int),(D.z (v.aa 7).int),(D.z (v.aa 8).int),(D.b (v.aa 9).bool),(D.r (v.aa 10).ae),(D.r (v.aa 11).ae)])] fun d0=>(.gd (j&&(aO 200 (c5+1))) (.bj (tj R c0 c1 l2 l3 (wp .i64 (n4+1)) (c5+1) (l6++[(D.r [(D.z (k.aa 0).int),(D.r [(D.z (d0.aa 0).int),(D.z (d0.aa 1).int),(D.r [(D.z ((d0.aa 2).aa 0).int),(D.z ((d0.aa 2).aa 1).int),(D.s ((d0.aa 2).aa 2).b8),(D.r ((d0.aa 2).aa 3).ae),(D.z ((d0.aa 2).aa 4).int)]),(D.r (d0.aa 3).ae),(D.z (d0.aa 4).int),(D.z (d0.aa 5).int),(D.z (d0.aa 6).int),(D.z (d0.aa 7).int),(D.z (d0.aa 8).int),(D.b (d0.aa 9).bool),(D.r (d0.aa 10).ae),(D.r (d0.aa 11).ae)])])]))))))) (.gd (decide (R.ma.length<=R.ma.length)) (.gd (true&&(aO 8 (0+(List.take R.ma.length R.ma).length))) (.gd (decide (c0=l2.length)) (.gd (decide (c1=l3.length)) (.gd j (.gd (decide ((0+(List.take R.ma.length R.ma).length)=([]++(List.take R.ma.length R.ma)).length)) (.aS (.agg [(.bw cC (u.aa 0).ae),(.bw af (u.aa 1).ae),(.bw bF (u.aa 2).ae),(.int .i64 (u.aa 3).int),(.bw af (u.aa 4).ae)]) (Rm R)))))))))) (D.r [(D.r l2),(D.r l3),(D.r l6),(D.z R.la),(D.r ([]++(List.take R.ma.length R.ma)))]))) (k.aa 1))) (decide (c5=l6.length)))) (D.at R.th n4.toNat)):=
  oE qo 0x2212121212121121210150054400543211
end
section
variable {l:List D} {Q:D->Prop}
def qU:cm:={f:=CG,rs:=[Dn],bx:=some 1,xM:=[some af]}
@[simp] theorem W8:qU.f=CG/\qU.rs=[Dn]:=⟨rfl,rfl⟩
theorem KZ:lh qU (wT l) (wX l) 1 Ch Q
 ((fun (v:aI)=>((fun (u:RT)=>(.ite (decide (l.length=(0:Nat))) (.HN (.aS (.aZ 1 0 true) [(0,v),(1,(.ak af [] true))]) u) u)) (.gd (decide (l.length<=l.length)) (.gd (true&&(aO 8 (0+(List.take l.length l).length))) (.aS (.aZ 1 (0+(List.take l.length l).length) true) [(0,v),(1,(.ak af ([]++(List.take l.length l)) true))]))))) (.ak af l true)):=
  oH qU 0x2006321211232121131
end
section
variable {l l2 l1:List D} {Q:D->Prop} {n0 n2:Int} {c1:Nat} {a0:D}
def iZ:cm:={f:=cv,rs:=[aW],bx:=some 0,cz:=[(ni,[aW,aA],[ai])],bJ:=[⟨cv,0,16481,[3,0,4],[(3,25)]⟩,⟨cv,0,36936,[0,4,3,5],[]⟩],xM:=[some aA],fzl:=[(36936,3,aW)]}
@[simp] theorem aaq:iZ.f=cv/\iZ.rs=[aW]:=⟨rfl,rfl⟩
def iR (l:List D)(n0:Int)(c1:Nat)(l2:List D):au:=hdS cv 75 [(0,(.bw aA l)),(3,(.aZ 0 c1 true)),(4,(.int .i64 n0))] [(0,(.ak aA l2 true))]
def kX (l:List D)(n0:Int)(l1:List D)(n2:Int):au:=hdS cv 17995 [(0,(.bw aA l)),(3,(.bw aA l1)),(4,(.int .i64 n0)),(5,(.int .i64 n2))] []
theorem Om:lh iZ (qM l) [] 0 iV Q
 (.bj (iR l 0 0 [])):=
  oH iZ 0x1
theorem BN:lk iZ (.bx 0 (iV (qM l) []) Q) (iR l n0 c1 l2)
 (.ite (decide (n0<(l.length:Int))) (.gd (cP n0 l.length) (.gd (decide (c1=l2.length)) (.call ni [(D.r l2),(D.z (D.at l n0.toNat).int)] fun d0=>(.ite d0.bool (.bj (iR l (wp .i64 (n0+1)) c1 l2)) (.bj (kX l n0 (D.r l2).ae 0)))))) (.aS (.aZ 0 c1 true) [(0,(.ak aA l2 true))])):=
  oE iZ 0x212121201511
theorem xE:lk iZ (.bx 0 (iV (qM l) []) Q) (kX l n0 l1 n2)
 ((fun (q:Bool)=>((fun (p:D)=>((fun (k:Bool)=>((fun (j:Bool)=>((fun (v:Bool)=>((fun (u:RT)=>(.ite (decide (n2<(l1.length:Int))) (.gd (cP n2 l1.length) (.gd (cP n0 l.length) (.ite (decide ((D.at l1 n2.toNat).int<(D.at l n0.toNat).int)) (.bj (kX l n0 l1 (wp .i64 (n2+1)))) (.gd q (.gd (k&&v) (.gd j u)))))) (.gd q (.gd (k&&v) (.gd j (.gd (cP n0 l.length) u)))))) (.gd ((decide ((kg l1 0 n2.toNat).length=(kg l1 0 n2.toNat).length))&&(aO 8 ((kg l1 0 n2.toNat).length+1))) (.gd (v&&(decide (l1.length<=l1.length))) (.gd ((decide (((kg l1 0 n2.toNat).length+1)=((kg l1 0 n2.toNat)++[p]).length))&&(aO 8 (((kg l1 0 n2.toNat).length+1)+(kg l1 n2.toNat l1.length).length))) (.bj (iR l (wp .i64 (n0+1)) (((kg l1 0 n2.toNat).length+1)+(kg l1 n2.toNat l1.length).length) (((kg l1 0 n2.toNat)++[p])++(kg l1 n2.toNat l1.length))))))))) (decide (n2.toNat<=l1.length)))) (aO 8 (kg l1 0 n2.toNat).length))) (decide ((0:Nat)<=n2.toNat)))) (D.z (D.at l n0.toNat).int))) (decide ((0:Int)<=n2))):=
  oE iZ 0x20900b321212121321045212110200a210401a210302a2212121045321035212111
def yk:cm:={f:=uH,rs:=[aW],bL:=[(cv,iV),(fA,qm)],D0:=[(cv,[some aW]),(fA,[some aH])]}
@[simp] theorem aa0:yk.f=uH/\yk.rs=[aW]:=⟨rfl,rfl⟩
theorem Ql:lp yk [br] [a0] Q
 (.aC fA [(.agg (aK pg aH (D.r [(D.z 0),(D.z 0),(D.r [(D.z 0),(D.z 0),(D.s []),(D.r []),(D.z 0)]),(D.r []),(D.z 0),(D.z 0),(D.z 0),(D.z 0),(D.z 0),(D.b false),(D.r []),(D.r (a0.aa 2).ae)])))] [] 0 fun d0=>(.gd (decide (d0.ae.length=d0.ae.length)) (.aC cv [(.bw aA (D.r d0.ae).ae)] [] 0 fun d1=>(.gd (decide (d1.ae.length=d1.ae.length)) (.ret (D.r d1.ae)))))):=
  oP yk 0x21211
end
section
variable {m m1:List (D×D)} {st st2:List Nat} {ck c3:Nat} {l:List D} {Q:D->Prop} {n0:Int}
def mi:cm:={f:=bZ,rs:=[ai],bx:=some 1,bJ:=[⟨bZ,0,16417,[0,10,5,11,12],[]⟩]}
@[simp] theorem X0:mi.f=bZ/\mi.rs=[ai]:=⟨rfl,rfl⟩
def j7 (m:List (D×D))(st:List Nat)(ck:Nat)(l:List D)(n0:Int)(m1:List (D×D))(st2:List Nat)(c3:Nat):au:=hdS bZ 75 [(0,(.map 0)),(5,(.int .i64 (m.length:Int))),(10,(.bw aA l)),(11,(.int .i64 (l.length:Int))),(12,(.int .i64 n0))] [(0,(.bg aA (.data af) m1 st2 c3))]
theorem LY:lh mi (s8 m st ck l) (ta m st ck l) 1 ju Q
 (.bj (j7 m st ck l 0 m st ck)):=
  oH mi 0x1
theorem As:lk mi (.bx 1 (ju (s8 m st ck l) (ta m st ck l)) Q) (j7 m st ck l n0 m1 st2 c3)
 ((fun (v:Int)=>((fun (u:D)=>(.ite (decide (n0<(l.length:Int))) (.gd (cP n0 l.length) (.ite (D.cS m1 u) (.bj (j7 m st ck l v (D.fE m1 u (D.z 1)) st2 c3)) (.bj (j7 m st ck l v (m1++[(u,(D.z 1))]) (st2++[c3]) (c3+1))))) (.aS (.bool (decide ((m1.length:Int)>(m.length:Int)))) [(0,(.bg aA (.data af) m1 st2 c3))]))) (D.z (D.at l n0.toNat).int))) (wp .i64 (n0+1))):=
  oE mi 0x2121211
end
section
variable {a b l2:List D} {Q:D->Prop} {b0:Bool} {n1:Int}
def sG:cm:={f:=ie,rs:=[ai],bx:=some 1,bJ:=[⟨ie,0,16429,[0,1,6,5],[]⟩]}
@[simp] theorem acI:sG.f=ie/\sG.rs=[ai]:=⟨rfl,rfl⟩
def nq (a b:List D)(b0:Bool)(n1:Int)(l2:List D):au:=hdS ie 151 [(0,(.aZ 0 a.length true)),(1,(.bw aA b)),(5,(.bool b0)),(6,(.int .i64 n1))] [(0,(.ak aA l2 true))]
theorem SL:lh sG (wW a b) (wZ a b) 1 sA Q
 (.ite ((a.length:Int)!=(b.length:Int)) (.aS (.bool false) [(0,(.ak aA a true))]) (.bj (nq a b true 0 a))):=
  oH sG 0x211
theorem C3:lk sG (.bx 1 (sA (wW a b) (wZ a b)) Q) (nq a b b0 n1 l2)
 ((fun (v:Int)=>((fun (u:Bool)=>(.ite (decide (n1<(a.length:Int))) (.ite b0 (.gd (cP n1 a.length) (.gd u (.gd (cP n1 b.length) (.bj (nq a b ((D.at l2 n1.toNat).int==(D.at b n1.toNat).int) v (List.set l2 n1.toNat (D.z 77))))))) (.gd (cP n1 a.length) (.gd u (.bj (nq a b false v (List.set l2 n1.toNat (D.z 77))))))) (.aS (.bool b0) [(0,(.ak aA l2 true))]))) (decide (n1.toNat<l2.length)))) (wp .i64 (n1+1))):=
  oE sG 0x2120900b212110200a21015210302a210303a0250151
end
section
variable {a0 a1:D} {Q:D->Prop} {n0 n1:Int} {c0:Nat} {l2:List D}
def qq:cm:={f:=gP,rs:=[af],cz:=[(gP,[aG,af],[af])],bJ:=[⟨gP,0,16426,[1,2,6,5],[]⟩]}
@[simp] theorem aaZ:qq.f=gP/\qq.rs=[af]:=⟨rfl,rfl⟩
def pO (a0 a1:D)(n0 n1:Int):au:=hdS gP 151 [(1,(.int .i64 a1.int)),(2,(.aP 0 0)),(5,(.int .i64 n0)),(6,(.int .i64 n1))] [(0,(.cells (aK pg aG a0) aG false))]
theorem Qk:lp qq [aG,af] [a0,a1] Q
 (.ite (decide (a1.int>(16:Int))) (.ret (D.z 513)) (.bj (pO a0 a1 1 0))):=
  oP qq 0x211
theorem BK:lk qq (.dQ Q) (pO a0 a1 n0 n1)
 (.ite (decide (n1<((a0.aa 3).ae.length:Int))) (.ite (decide (n0<=(512:Int))) (.gd (cP n1 (a0.aa 3).ae.length) (.call gP [(bU pg aG (D.at (a0.aa 3).ae n1.toNat)),(D.z (wp .i64 (a1.int+1)))] fun d0=>(.bj (pO a0 a1 (wp .i64 (n0+d0.int)) (wp .i64 (n1+1)))))) (.ret (D.z n0))) (.ret (D.z n0))):=
  oE qq 0x20200b310200a21211
def sH:cm:={f:=jz,rs:=[af],cz:=[(jz,[aG],[af])],bJ:=[⟨jz,0,16421,[1,4,3],[]⟩]}
@[simp] theorem acL:sH.f=jz/\sH.rs=[af]:=⟨rfl,rfl⟩
def rC (a0:D)(n0 n1:Int):au:=hdS jz 151 [(1,(.aP 0 0)),(3,(.int .i64 n0)),(4,(.int .i64 n1))] [(0,(.cells (aK pg aG a0) aG false))]
theorem SO:lp sH [aG] [a0] Q
 (.ite ((a0.aa 0).int !=(3:Int)) (.ret (D.z 0)) (.bj (rC a0 0 0))):=
  oP sH 0x211
theorem C6:lk sH (.dQ Q) (rC a0 n0 n1)
 (.ite (decide (n1<((a0.aa 3).ae.length:Int))) (.gd (cP n1 (a0.aa 3).ae.length) (.call jz [(bU pg aG (D.at (a0.aa 3).ae n1.toNat))] fun d0=>(.bj (rC a0 (if (d0.int>n0)then d0.int else n0) (wp .i64 (n1+1)))))) (.ret (D.z (wp .i64 (n0+1))))):=
  oE sH 0x21211
def nL:cm:={f:=fG,rs:=[ai],cz:=[(fG,[aG],[ai]),(cL,[bX],[ai])],bJ:=[⟨fG,0,16513,[1,3],[]⟩]}
@[simp] theorem aap:nL.f=fG/\nL.rs=[ai]:=⟨rfl,rfl⟩
def pN (a0:D)(n0:Int):au:=hdS fG 37 [(1,(.aP 0 0)),(3,(.int .i64 n0))] [(0,(.cells (aK pg aG a0) aG false))]
theorem Ol:lp nL [aG] [a0] Q
 (.bj (pN a0 0)):=
  oP nL 0x1
theorem BJ:lk nL (.dQ Q) (pN a0 n0)
 ((fun (v:RT)=>((fun (u:RT)=>(.ite (decide (n0<((a0.aa 3).ae.length:Int))) (.gd (cP n0 (a0.aa 3).ae.length) (.call fG [(bU pg aG (D.at (a0.aa 3).ae n0.toNat))] fun d0=>(.ite (! d0.bool) u (.bj (pN a0 (wp .i64 (n0+1))))))) (.ite ((a0.aa 0).int==(1:Int)) (.ite ((a0.aa 2).b8==[]) v u) (.ite ((a0.aa 0).int==(2:Int)) (.ite ((a0.aa 1).int==(0:Int)) (.ite (decide (((a0.aa 2).b8.length:Int)<=(256:Int))) v u) u) (.ite ((a0.aa 0).int==(3:Int)) (.ite ((a0.aa 1).int==(0:Int)) (.ret (D.b ((a0.aa 2).b8==[]))) u) (.ite ((a0.aa 0).int==(4:Int)) (.ite ((a0.aa 1).int==(0:Int)) (.call cL [(D.s (a0.aa 2).b8)] fun d1=>(.ite d1.bool v u)) u) u)))))) (.ret (D.b false)))) (.ret (D.b (((a0.aa 3).ae.length:Int)==(0:Int))))):=
  oE nL 0x22222120300b05910300a20400b10400a120300b10300a120400b05910400a20400b10400a120400b10400a121211
def tf:cm:={f:=ey,rs:=[ai],cz:=[(gP,[aG,af],[af]),(jz,[aG],[af]),(fG,[aG],[ai])]}
@[simp] theorem XR:tf.f=ey/\tf.rs=[ai]:=⟨rfl,rfl⟩
theorem LO:lp tf [aG] [a0] Q
 (.call gP [(bU pg aG a0),(D.z 0)] fun d0=>(.ite (decide (d0.int<=(512:Int))) (.call jz [(bU pg aG a0)] fun d1=>(.ite (decide (d1.int<=(16:Int))) (.call fG [(bU pg aG a0)] fun d2=>(.ret (D.b d2.bool))) (.ret (D.b false)))) (.ret (D.b false)))):=
  oP tf 0x20300b03910300a20200b10200a1
def lQ:cm:={f:=cL,rs:=[ai],bJ:=[⟨cL,0,16460,[0,3],[]⟩]}
@[simp] theorem XS:lQ.f=cL/\lQ.rs=[ai]:=⟨rfl,rfl⟩
def jX (a0:D)(n0:Int):au:=hdS cL 37 [(0,(.b8 a0.b8)),(3,(.int .i64 n0))] []
theorem LP:lp lQ [bX] [a0] Q
 (.bj (jX a0 0)):=
  oP lQ 0x1
theorem Ak:lk lQ (.dQ Q) (jX a0 n0)
 ((fun (k:Int)=>((fun (j:RT)=>((fun (z:RT)=>((fun (v:Int)=>((fun (q:Bool)=>((fun (p:Bool)=>((fun (u:RT)=>(.ite (decide (n0<k)) (.gd (cP n0 a0.b8.length) (.ite (decide (v≥(97:Int))) (.ite q (.ite p u z) (.ite p j z)) (.ite q u j))) (.ite (decide (k≥(1:Int))) (.ret (D.b (decide (k<=(32:Int))))) j))) (.ite (! (decide (v<=(57:Int)))) j (.ite (n0==(0:Int)) j z)))) (! (decide (v<=(122:Int)))))) (decide (v≥(48:Int))))) ((UInt8.toNat (a0.b8.getD n0.toNat 0)):Int))) (.bj (jX a0 (wp .i64 (n0+1)))))) (.ret (D.b false)))) (a0.b8.length:Int)):=
  oE lQ 0x220300b10300a12120400b01520400b09910200a0250200a039200630063211005300502910200a0150200a01520400b20400b310200a0290053005310200a0250200a20400b310200a200601500601521100501500501531
def kn:cm:={f:=dY,rs:=[ai],bJ:=[⟨dY,0,16445,[0,3],[]⟩,⟨dY,0,32816,[0,3,4],[]⟩]}
@[simp] theorem aaY:kn.f=dY/\kn.rs=[ai]:=⟨rfl,rfl⟩
def rB (a0:D)(n0:Int):au:=hdS dY 37 [(0,(.bw bX a0.ae)),(3,(.int .i64 n0))] []
def od (a0:D)(n0 n1:Int):au:=hdS dY 2341 [(0,(.bw bX a0.ae)),(3,(.int .i64 n0)),(4,(.int .i64 n1))] []
theorem Qj:lp kn [gD] [a0] Q
 (.bj (rB a0 0)):=
  oP kn 0x1
theorem C5:lk kn (.dQ Q) (rB a0 n0)
 (.ite (decide (n0<(a0.ae.length:Int))) (.bj (od a0 n0 0)) (.ret (D.b false))):=
  oE kn 0x211
theorem Al:lk kn (.dQ Q) (od a0 n0 n1)
 (.ite (decide (n1<n0)) (.gd (cP n0 a0.ae.length) (.gd (cP n1 a0.ae.length) (.ite ((D.at a0.ae n0.toNat).b8==(D.at a0.ae n1.toNat).b8) (.ret (D.b true)) (.bj (od a0 n0 (wp .i64 (n1+1))))))) (.bj (rB a0 (wp .i64 (n0+1))))):=
  oE kn 0x212121211
def AW:cm:={f:=sS,rs:=[ai],cz:=[(cL,[bX],[ai])]}
@[simp] theorem acO:AW.f=sS/\AW.rs=[ai]:=⟨rfl,rfl⟩
theorem SR:lp AW [bX,af] [a0,a1] Q
 (.ite (a1.int==(0:Int)) (.ret (D.b (a0.b8==[]))) (.call cL [(D.s a0.b8)] fun d0=>(.ret (D.b d0.bool)))):=
  oP AW 0x211
def xf:cm:={f:=gu,rs:=[ai],cz:=[(ey,[aG],[ai])]}
@[simp] theorem acM:xf.f=gu/\xf.rs=[ai]:=⟨rfl,rfl⟩
theorem SP:lp xf [aG,af] [a0,a1] Q
 ((fun (v:RT)=>((fun (u:Bool)=>(.ite ((a0.aa 0).int==(0:Int)) (.ite ((a0.aa 1).int==(0:Int)) (.ite ((a0.aa 2).b8==[]) (.ite (((a0.aa 3).ae.length:Int)==(0:Int)) (.ret (D.b (decide (a1.int<(2:Int))))) (.ite u (.call ey [(bU pg aG a0)] fun d0=>(.ret (D.b d0.bool))) v)) (.ite u (.call ey [(bU pg aG a0)] fun d1=>(.ret (D.b d1.bool))) v)) (.ite u (.call ey [(bU pg aG a0)] fun d2=>(.ret (D.b d2.bool))) v)) (.ite u (.call ey [(bU pg aG a0)] fun d3=>(.ret (D.b d3.bool))) v))) (decide (a1.int>(0:Int))))) (.ret (D.b false))):=
  oP xf 0x20300b0a920200b10200a10300a20300b06920200b10200a10300a20400b320200b10200a10400a220200b10200a11
def jO:cm:={f:=fS,rs:=[ai],cz:=[(je,[av],[ai]),(cL,[bX],[ai]),(dY,[gD],[ai])],bJ:=[⟨fS,0,16446,[0,4,3],[(3,9)]⟩]}
@[simp] theorem Xa:jO.f=fS/\jO.rs=[ai]:=⟨rfl,rfl⟩
def kW (a0:D)(c0:Nat)(n1:Int)(l2:List D):au:=hdS fS 151 [(0,(.bw iF a0.ae)),(3,(.aZ 0 c0 true)),(4,(.int .i64 n1))] [(0,(.ak bX l2 true))]
theorem K1:lp jO [ke] [a0] Q
 (.ite (decide ((a0.ae.length:Int)>(64:Int))) (.ret (D.b false)) (.bj (kW a0 0 0 []))):=
  oP jO 0x211
theorem xD:lk jO (.dQ Q) (kW a0 c0 n1 l2)
 ((fun (z:Bool)=>((fun (v:D)=>((fun (u:D)=>(.ite (decide (n1<(a0.ae.length:Int))) (.gd (cP n1 a0.ae.length) (.call cL [u] fun d0=>(.ite (! d0.bool) (.ret (D.b false)) (.call je [(bU pg av (v.aa 1))] fun d1=>(.ite (! d1.bool) (.ret (D.b false)) (.gd (z&&(aO 16 (c0+1))) (.bj (kW a0 (c0+1) (wp .i64 (n1+1)) (l2++[u]))))))))) (.gd z (.call dY [(D.r l2)] fun d2=>(.ret (D.b (! d2.bool))))))) (D.s (v.aa 0).b8))) (D.at a0.ae n1.toNat))) (decide (c0=l2.length))):=
  oE jO 0x22112120200b0150500b2025321110700a31
def DI:cm:={f:=zZ,rs:=[ai],cz:=[(ku,[bK],[af,aM])]}
@[simp] theorem adP:DI.f=zZ/\DI.rs=[ai]:=⟨rfl,rfl⟩
theorem V1:lp DI [bK] [a0] Q
 (.call ku [(D.r a0.ae)] fun d0=>(.ret (D.b ((d0.aa 1).int==(0:Int))))):=
  oP DI 0x1
def sJ:cm:={f:=jA,rs:=[aW],cz:=[(jA,[av],[aW])],bJ:=[⟨jA,0,16420,[1,4,3],[(3,25)]⟩]}
@[simp] theorem acR:sJ.f=jA/\sJ.rs=[aW]:=⟨rfl,rfl⟩
def rE (a0:D)(c0:Nat)(n1:Int)(l2:List D):au:=hdS jA 151 [(1,(.aP 0 0)),(3,(.aZ 1 c0 true)),(4,(.int .i64 n1))] [(0,(.cells (aK pg av a0) av false)),(1,(.ak aA l2 true))]
theorem SV:lp sJ [av] [a0] Q
 (.ite ((a0.aa 0).int==(4:Int)) (.ret (D.r [(D.z (a0.aa 4).int)])) (.bj (rE a0 0 0 []))):=
  oP sJ 0x2131
theorem C8:lk sJ (.dQ Q) (rE a0 c0 n1 l2)
 ((fun (u:Bool)=>(.ite (decide (n1<((a0.aa 3).ae.length:Int))) (.gd (cP n1 (a0.aa 3).ae.length) (.call jA [(bU pg av (D.at (a0.aa 3).ae n1.toNat))] fun d0=>(.gd (u&&(aO 8 (c0+d0.ae.length))) (.bj (rE a0 (c0+d0.ae.length) (wp .i64 (n1+1)) (l2++d0.ae)))))) (.gd u (.ret (D.r l2))))) (decide (c0=l2.length))):=
  oE sJ 0x221121211
end
section
variable {a0:D} {Q:D->Prop} {n0 n1:Int} {m1:List (D×D)} {st2:List Nat} {c3 c0:Nat} {l2:List D}
def wD:cm:={f:=mo,rs:=[ai],bJ:=[⟨mo,0,16428,[3,7,8,9],[]⟩]}
@[simp] theorem adO:wD.f=mo/\wD.rs=[ai]:=⟨rfl,rfl⟩
def ry (a0:D)(n0:Int)(m1:List (D×D))(st2:List Nat)(c3:Nat):au:=hdS mo 75 [(3,(.map 0)),(7,(.bw bX a0.ae)),(8,(.int .i64 (a0.ae.length:Int))),(9,(.int .i64 n0))] [(0,(.bg bX (.data af) m1 st2 c3))]
theorem V0:lp wD [gD] [a0] Q
 (.bj (ry a0 0 [] [] 0)):=
  oP wD 0x1
theorem Ha:lk wD (.dQ Q) (ry a0 n0 m1 st2 c3)
 ((fun (p:Int)=>((fun (u:D)=>((fun (k:RT)=>((fun (j:List (D×D))=>((fun (v:RT)=>(.ite (decide (n0<(a0.ae.length:Int))) (.gd (cP n0 a0.ae.length) (.ite (D.cS m1 u) (.ite (D.cS j u) (.ite (decide ((D.val j u).int>(1:Int))) (.ret (D.b true)) v) v) (.ite (D.cS (m1++[(u,(D.z 1))]) u) (.ite (decide ((D.val (m1++[(u,(D.z 1))]) u).int>(1:Int))) (.ret (D.b true)) k) k))) (.ret (D.b false)))) (.bj (ry a0 p j st2 c3)))) (D.fE m1 u (D.z (wp .i64 ((D.val m1 u).int+1)))))) (.bj (ry a0 p (m1++[(u,(D.z 1))]) (st2++[c3]) (c3+1))))) (D.s (D.at a0.ae n0.toNat).b8))) (wp .i64 (n0+1))):=
  oE wD 0x21212006231211005231211
def nK:cm:={f:=jc,rs:=[ai],cz:=[(fH,[av],[ai]),(bH,[bX],[ai]),(mo,[gD],[ai])],bJ:=[⟨jc,0,16439,[9,10,11,3],[(3,9)]⟩]}
@[simp] theorem aao:nK.f=jc/\nK.rs=[ai]:=⟨rfl,rfl⟩
def oc (a0:D)(c0:Nat)(n1:Int)(l2:List D):au:=hdS jc 151 [(3,(.aZ 0 c0 true)),(9,(.bw iF a0.ae)),(10,(.int .i64 (a0.ae.length:Int))),(11,(.int .i64 n1))] [(0,(.ak bX l2 true))]
theorem Oj:lp nK [ke] [a0] Q
 (.ite (decide ((a0.ae.length:Int)>(64:Int))) (.ret (D.b false)) (.bj (oc a0 0 0 []))):=
  oP nK 0x211
theorem Aj:lk nK (.dQ Q) (oc a0 c0 n1 l2)
 ((fun (z:Bool)=>((fun (v:D)=>((fun (u:D)=>(.ite (decide (n1<(a0.ae.length:Int))) (.gd (cP n1 a0.ae.length) (.call bH [u] fun d0=>(.ite (! d0.bool) (.ret (D.b false)) (.call fH [(bU pg av (v.aa 1))] fun d1=>(.ite (! d1.bool) (.ret (D.b false)) (.gd (z&&(aO 16 (c0+1))) (.bj (oc a0 (c0+1) (wp .i64 (n1+1)) (l2++[u]))))))))) (.gd z (.call mo [(D.r l2)] fun d2=>(.ret (D.b (! d2.bool))))))) (D.s (v.aa 0).b8))) (D.at a0.ae n1.toNat))) (decide (c0=l2.length))):=
  oE nK 0x22112120400b2321110400a31
end
section
variable {y a0:D} {m k n0 n1:Int} {Q:D->Prop} {l:List D}
def mY:cm:={f:=nh,rs:=[ai],bx:=some 1,cz:=[(bH,[bX],[ai])],bL:=[(bp,eP)]}
@[simp] theorem aaV:mY.f=nh/\mY.rs=[ai]:=⟨rfl,rfl⟩
theorem Qg:lh mY (tL y m k) (tP y m k) 1 mU Q
 ((fun (uz:Int)=>((fun (uv:Bool)=>((fun (uu:Bool)=>((fun (o:D)=>((fun (i:BV)=>((fun (q:Bool)=>((fun (p:aI)=>((fun (j:aI)=>((fun (v:aI)=>((fun (t:RT)=>((fun (z:RT)=>((fun (u:RT)=>(.ite (decide (uz<(0:Int))) u (.ite ((y.aa 0).int !=(1:Int)) (.ite ((y.aa 1).int !=(0:Int)) u (.ite ((y.aa 0).int !=(3:Int)) (.ite uv u (.ite ((y.aa 0).int !=(2:Int)) (.ite ((y.aa 0).int !=(4:Int)) (.ite uu u (.ite ((y.aa 0).int==(1:Int)) t (.ite ((y.aa 0).int==(2:Int)) z (.ite ((y.aa 0).int==(4:Int)) (.call bH [o] fun d0=>(.aS (.bool d0.bool) [(0,v)])) (.ite ((y.aa 0).int==(3:Int)) (.ite q (.aC bp [i,(.func (.func cF) [] [(.aP 0 0),(.aP 1 0)])] [(0,p),(1,j),(2,v)] 3 fun d1=>(.aS (.bool (! (d1.aa 0).bool)) [(0,(.cells [(.int .i64 (d1.aa 1).int)] af false))])) u) u))))) (.ite ((y.aa 0).int==(1:Int)) t (.ite ((y.aa 0).int==(2:Int)) z (.ite ((y.aa 0).int==(4:Int)) (.call bH [o] fun d2=>(.aS (.bool d2.bool) [(0,v)])) (.ite ((y.aa 0).int==(3:Int)) (.ite q (.aC bp [i,(.func (.func cF) [] [(.aP 0 0),(.aP 1 0)])] [(0,p),(1,j),(2,v)] 3 fun d3=>(.aS (.bool (! (d3.aa 0).bool)) [(0,(.cells [(.int .i64 (d3.aa 1).int)] af false))])) u) u))))) (.ite ((y.aa 0).int==(1:Int)) t (.ite ((y.aa 0).int==(2:Int)) z (.ite ((y.aa 0).int==(4:Int)) (.call bH [o] fun d4=>(.aS (.bool d4.bool) [(0,v)])) (.ite ((y.aa 0).int==(3:Int)) (.ite q (.aC bp [i,(.func (.func cF) [] [(.aP 0 0),(.aP 1 0)])] [(0,p),(1,j),(2,v)] 3 fun d5=>(.aS (.bool (! (d5.aa 0).bool)) [(0,(.cells [(.int .i64 (d5.aa 1).int)] af false))])) u) u)))))) (.ite ((y.aa 0).int !=(2:Int)) (.ite ((y.aa 0).int !=(4:Int)) (.ite uu u (.ite ((y.aa 0).int==(1:Int)) t (.ite ((y.aa 0).int==(2:Int)) z (.ite ((y.aa 0).int==(4:Int)) (.call bH [o] fun d6=>(.aS (.bool d6.bool) [(0,v)])) (.ite ((y.aa 0).int==(3:Int)) (.ite q (.aC bp [i,(.func (.func cF) [] [(.aP 0 0),(.aP 1 0)])] [(0,p),(1,j),(2,v)] 3 fun d7=>(.aS (.bool (! (d7.aa 0).bool)) [(0,(.cells [(.int .i64 (d7.aa 1).int)] af false))])) u) u))))) (.ite ((y.aa 0).int==(1:Int)) t (.ite ((y.aa 0).int==(2:Int)) z (.ite ((y.aa 0).int==(4:Int)) (.call bH [o] fun d8=>(.aS (.bool d8.bool) [(0,v)])) (.ite ((y.aa 0).int==(3:Int)) (.ite q (.aC bp [i,(.func (.func cF) [] [(.aP 0 0),(.aP 1 0)])] [(0,p),(1,j),(2,v)] 3 fun d9=>(.aS (.bool (! (d9.aa 0).bool)) [(0,(.cells [(.int .i64 (d9.aa 1).int)] af false))])) u) u))))) (.ite ((y.aa 0).int==(1:Int)) t (.ite ((y.aa 0).int==(2:Int)) z (.ite ((y.aa 0).int==(4:Int)) (.call bH [o] fun d10=>(.aS (.bool d10.bool) [(0,v)])) (.ite ((y.aa 0).int==(3:Int)) (.ite q (.aC bp [i,(.func (.func cF) [] [(.aP 0 0),(.aP 1 0)])] [(0,p),(1,j),(2,v)] 3 fun d11=>(.aS (.bool (! (d11.aa 0).bool)) [(0,(.cells [(.int .i64 (d11.aa 1).int)] af false))])) u) u))))))) (.ite ((y.aa 0).int !=(3:Int)) (.ite uv u (.ite ((y.aa 0).int !=(2:Int)) (.ite ((y.aa 0).int !=(4:Int)) (.ite uu u (.ite ((y.aa 0).int==(1:Int)) t (.ite ((y.aa 0).int==(2:Int)) z (.ite ((y.aa 0).int==(4:Int)) (.call bH [o] fun d12=>(.aS (.bool d12.bool) [(0,v)])) (.ite ((y.aa 0).int==(3:Int)) (.ite q (.aC bp [i,(.func (.func cF) [] [(.aP 0 0),(.aP 1 0)])] [(0,p),(1,j),(2,v)] 3 fun d13=>(.aS (.bool (! (d13.aa 0).bool)) [(0,(.cells [(.int .i64 (d13.aa 1).int)] af false))])) u) u))))) (.ite ((y.aa 0).int==(1:Int)) t (.ite ((y.aa 0).int==(2:Int)) z (.ite ((y.aa 0).int==(4:Int)) (.call bH [o] fun d14=>(.aS (.bool d14.bool) [(0,v)])) (.ite ((y.aa 0).int==(3:Int)) (.ite q (.aC bp [i,(.func (.func cF) [] [(.aP 0 0),(.aP 1 0)])] [(0,p),(1,j),(2,v)] 3 fun d15=>(.aS (.bool (! (d15.aa 0).bool)) [(0,(.cells [(.int .i64 (d15.aa 1).int)] af false))])) u) u))))) (.ite ((y.aa 0).int==(1:Int)) t (.ite ((y.aa 0).int==(2:Int)) z (.ite ((y.aa 0).int==(4:Int)) (.call bH [o] fun d16=>(.aS (.bool d16.bool) [(0,v)])) (.ite ((y.aa 0).int==(3:Int)) (.ite q (.aC bp [i,(.func (.func cF) [] [(.aP 0 0),(.aP 1 0)])] [(0,p),(1,j),(2,v)] 3 fun d17=>(.aS (.bool (! (d17.aa 0).bool)) [(0,(.cells [(.int .i64 (d17.aa 1).int)] af false))])) u) u)))))) (.ite ((y.aa 0).int !=(2:Int)) (.ite ((y.aa 0).int !=(4:Int)) (.ite uu u (.ite ((y.aa 0).int==(1:Int)) t (.ite ((y.aa 0).int==(2:Int)) z (.ite ((y.aa 0).int==(4:Int)) (.call bH [o] fun d18=>(.aS (.bool d18.bool) [(0,v)])) (.ite ((y.aa 0).int==(3:Int)) (.ite q (.aC bp [i,(.func (.func cF) [] [(.aP 0 0),(.aP 1 0)])] [(0,p),(1,j),(2,v)] 3 fun d19=>(.aS (.bool (! (d19.aa 0).bool)) [(0,(.cells [(.int .i64 (d19.aa 1).int)] af false))])) u) u))))) (.ite ((y.aa 0).int==(1:Int)) t (.ite ((y.aa 0).int==(2:Int)) z (.ite ((y.aa 0).int==(4:Int)) (.call bH [o] fun d20=>(.aS (.bool d20.bool) [(0,v)])) (.ite ((y.aa 0).int==(3:Int)) (.ite q (.aC bp [i,(.func (.func cF) [] [(.aP 0 0),(.aP 1 0)])] [(0,p),(1,j),(2,v)] 3 fun d21=>(.aS (.bool (! (d21.aa 0).bool)) [(0,(.cells [(.int .i64 (d21.aa 1).int)] af false))])) u) u))))) (.ite ((y.aa 0).int==(1:Int)) t (.ite ((y.aa 0).int==(2:Int)) z (.ite ((y.aa 0).int==(4:Int)) (.call bH [o] fun d22=>(.aS (.bool d22.bool) [(0,v)])) (.ite ((y.aa 0).int==(3:Int)) (.ite q (.aC bp [i,(.func (.func cF) [] [(.aP 0 0),(.aP 1 0)])] [(0,p),(1,j),(2,v)] 3 fun d23=>(.aS (.bool (! (d23.aa 0).bool)) [(0,(.cells [(.int .i64 (d23.aa 1).int)] af false))])) u) u))))))))) (.aS (.bool false) [(0,v)]))) (.aS (.bool (decide (((y.aa 2).b8.length:Int)<=(256:Int)))) [(0,v)]))) (.aS (.bool true) [(0,v)]))) (.cells [(.int .i64 uz)] af false))) (.cells [(.int .i64 k)] af false))) (.cells [(.aP 2 0)] BX false))) (decide ((k:Int)>(0:Int))))) (.bw aG (y.aa 3).ae))) (D.s (y.aa 2).b8))) (! ((y.aa 2).b8==[])))) (decide (((y.aa 3).ae.length:Int)>(0:Int))))) (wp .i64 (m-1))):=
  oH mY 0x20300b20200b01600601604920300b300605920200b30060892222120500b10500a11110200a3005320200b30060292222120500b10500a11110200a3005322222120500b10500a111110300a3005320300b20200b016006016039016301632222120500b10500a11110200a01600501620200b02600602632222120500b10500a11110200a02600502622222120500b10500a111110700a310200a01600501620300b20300b01600601604920200b30060892222120500b10500a11110200a3005320200b30060292222120500b10500a11110200a3005322222120500b10500a111110300a01600501620300b20200b016006016039016301632222120500b10500a11110200a01600501620200b02600602632222120500b10500a11110200a02600502622222120500b10500a111110700a310500a09910500a0f91
def eQ:cm:={f:=gy,rs:=[af],bx:=some 3,bL:=[(nh,mU)],bJ:=[⟨gy,0,16423,[0,1,7,8],[]⟩]}
@[simp] theorem Pj:eQ.f=gy/\eQ.rs=[af]:=⟨rfl,rfl⟩
def gK (l:List D)(m k:Int)(n0 n1:Int):au:=hdS gy 37 [(0,(.bw aG l)),(1,(.func (.func cF) [] [(.aP 0 0),(.aP 1 0)])),(7,(.int .i64 (l.length:Int))),(8,(.int .i64 n0))] [(0,(.cells [(.aP 2 0)] BX false)),(1,(.cells [(.int .i64 k)] af false)),(2,(.cells [(.int .i64 n1)] af false))]
theorem Em:lh eQ (oM l m k) (oN l m k) 3 oO Q
 (.bj (gK l m k 0 m)):=
  oH eQ 0x1
theorem rN:lk eQ (.bx 3 (oO (oM l m k) (oN l m k)) Q) (gK l m k n0 n1)
 ((fun (z:aI)=>((fun (v:aI)=>((fun (u:aI)=>(.ite (decide (n0<(l.length:Int))) (.gd (cP n0 l.length) (.aC nh [(.agg (aK pg aG (D.at l n0.toNat))),(.aP 0 0),(.int .i64 (wp .i64 (k-1)))] [(0,u)] 1 fun d0=>(.ite (! (d0.aa 0).bool) (.aS (.int .i64 n0) [(0,z),(1,v),(2,(.cells [(.int .i64 (d0.aa 1).int)] af false))]) (.bj (gK l m k (wp .i64 (n0+1)) (d0.aa 1).int))))) (.aS (.int .i64 (-1)) [(0,z),(1,v),(2,u)]))) (.cells [(.int .i64 n1)] af false))) (.cells [(.int .i64 k)] af false))) (.cells [(.aP 2 0)] BX false)):=
  oE eQ 0x2121211
def gG:cm:={f:=qZ,rs:=[ai],bx:=some 3,bL:=[(de,gY)]}
@[simp] theorem My:gG.f=qZ/\gG.rs=[ai]:=⟨rfl,rfl⟩
theorem Bq:lh gG (qK l m k) (qN l m k) 3 AL Q
 ((fun (v:aI)=>((fun (u:aI)=>(.aC de [(.bw aG l),(.func (.func cF) [] [(.aP 0 0),(.aP 1 0)])] [(0,v),(1,u),(2,(.cells [(.int .i64 m)] af false))] 3 fun d0=>(.aS (.bool (decide ((d0.aa 0).int≥(0:Int)))) [(0,v),(1,u),(2,(.cells [(.int .i64 (d0.aa 1).int)] af false))]))) (.cells [(.int .i64 k)] af false))) (.cells [(.aP 2 0)] BX false)):=
  oH gG 0x1
def x8:cm:={f:=cR,rs:=[ai],bL:=[(nh,mU)]}
@[simp] theorem aaM:x8.f=cR/\x8.rs=[ai]:=⟨rfl,rfl⟩
theorem P7:lp x8 [aG] [a0] Q
 (.aC nh [(.agg (aK pg aG a0)),(.aP 0 0),(.int .i64 16)] [(0,(.cells [(.int .i64 512)] af false))] 1 fun d0=>(.ret (D.b (d0.aa 0).bool))):=
  oP x8 0x1
end
end Go.Proofs
end
