import Derived.Test.YtdoajjnobfjkcaaGreatM9
set_option linter.all false
noncomputable section
open Go.IntKind renaming wrap→wp
set_option maxHeartbeats 8000000
namespace Go.Proofs
open Go Go.PB
section
variable {R:RS} {l l2 l1:List D} {Q:D->Prop} {c0:Nat} {n1 n2 n3 n4:Int}
def jw:cm:={f:=dz,rs:=[aW,aM],bx:=some 1,cz:=[(ni,[aW,aA],[ai])],bL:=[(eG,pH),(uL,Ck),(cv,iV)],bJ:=[⟨dz,0,16529,[1,0,7,6],[(6,25)]⟩,⟨dz,0,16461,[0,10,6],[]⟩,⟨dz,0,32823,[11,0,10,12,6],[]⟩],xM:=[some aA,none],D0:=[(cv,[some aW])]}
@[simp] theorem acT:jw.f=dz/\jw.rs=[aW,aM]:=⟨rfl,rfl⟩
def pB (R:RS)(l:List D)(c0:Nat)(n1:Int)(l2:List D):au:=hdS dz 75 [(0,(.aP 0 0)),(1,(.bw aA l)),(6,(.aZ 1 c0 true)),(7,(.int .i64 n1))] [(0,rrC R 2 3 4 5),(1,(.ak aA l2 true)),(2,(.ak af R.pa true)),(3,(.ak ai R.cu true)),(4,(.ak bF R.th true)),(5,(.ak af R.ma true))]
def nr (R:RS)(l:List D)(c0:Nat)(l1:List D)(n2:Int):au:=hdS dz 151 [(0,(.aP 0 0)),(6,(.aZ 1 c0 true)),(10,(.int .i64 n2))] [(0,rrC R 2 3 4 5),(1,(.ak aA l1 true)),(2,(.ak af R.pa true)),(3,(.ak ai R.cu true)),(4,(.ak bF R.th true)),(5,(.ak af R.ma true))]
def jY (R:RS)(l:List D)(c0:Nat)(l1 l2:List D)(n3 n4:Int):au:=hdS dz 19607 [(0,(.aP 0 0)),(6,(.aZ 1 c0 true)),(10,(.int .i64 n4)),(11,(.bw aA l1)),(12,(.int .i64 n3))] [(0,rrC R 2 3 4 5),(1,(.ak aA l2 true)),(2,(.ak af R.pa true)),(3,(.ak ai R.cu true)),(4,(.ak bF R.th true)),(5,(.ak af R.ma true))]
theorem SX:lh jw (sd R l) (Rm R) 1 qb Q
 (.bj (pB R l 0 0 [])):=
  oH jw 0x1
theorem ER:lk jw (.bx 1 (qb (sd R l) (Rm R)) Q) (pB R l c0 n1 l2)
 ((fun (j:Bool)=>((fun (v:Int)=>((fun (u:D)=>(.ite (decide (n1<(l.length:Int))) (.gd (cP n1 l.length) (.aC eG [(.aP 0 0),(.int .i64 (D.at l n1.toNat).int)] (Rm R) 1 fun d0=>(.ite (! (d0.aa 1).bool) (.aS (.tuple [(.aZ 1 0 true),(.int .i64 5)]) [(0,(.cells [(.aZ 2 R.pa.length true),(.aZ 3 R.cu.length true),(.aZ 4 R.th.length true),(.int .i64 R.la),(.aZ 5 R.ma.length true)] bd false)),(1,(.ak aA [] true)),(2,(.ak af R.pa true)),(3,(.ak ai R.cu true)),(4,(.ak bF R.th true)),(5,(.ak af R.ma true))]) (.gd j (.call ni [(D.r l2),u] fun d1=>(.ite (! d1.bool) (.gd (j&&(aO 8 (c0+1))) (.bj (pB R l (c0+1) v (l2++[u])))) (.bj (pB R l c0 v l2)))))))) (.bj (nr R l c0 l2 0)))) (D.z (D.at l n1.toNat).int))) (wp .i64 (n1+1)))) (decide (c0=l2.length))):=
  oE jw 0x21212015212103532111
theorem C9:lk jw (.bx 1 (qb (sd R l) (Rm R)) Q) (nr R l c0 l1 n2)
 (.ite (decide (n2<(c0:Int))) (.gd (cP n2 c0) (.gd (decide (n2.toNat<l1.length)) (.aC uL [(.aP 0 0),(.int .i64 (D.at l1 n2.toNat).int)] (Rm R) 1 fun d0=>(.bj (jY R l c0 d0.ae l1 0 n2))))) (.gd (decide (c0=l1.length)) (.aC cv [(.bw aA (D.r l1).ae)] [] 0 fun d1=>(.aS (.tuple [(.aZ 1 d1.ae.length true),(.int .i64 0)]) [(0,(.cells [(.aZ 2 R.pa.length true),(.aZ 3 R.cu.length true),(.aZ 4 R.th.length true),(.int .i64 R.la),(.aZ 5 R.ma.length true)] bd false)),(1,(.ak aA d1.ae true)),(2,(.ak af R.pa true)),(3,(.ak ai R.cu true)),(4,(.ak bF R.th true)),(5,(.ak af R.ma true))])))):=
  oE jw 0x221121211
theorem An:lk jw (.bx 1 (qb (sd R l) (Rm R)) Q) (jY R l c0 l1 l2 n3 n4)
 ((fun (j:Bool)=>((fun (v:Int)=>((fun (u:D)=>(.ite (decide (n3<(l1.length:Int))) (.gd (cP n3 l1.length) (.gd j (.call ni [(D.r l2),u] fun d0=>(.ite (! d0.bool) (.gd (j&&(aO 8 (c0+1))) (.bj (jY R l (c0+1) l1 (l2++[u]) v n4))) (.bj (jY R l c0 l1 l2 v n4)))))) (.bj (nr R l c0 l2 (wp .i64 (n4+1)))))) (D.z (D.at l1 n3.toNat).int))) (wp .i64 (n3+1)))) (decide (c0=l2.length))):=
  oE jw 0x212121210253211
def qt:cm:={f:=kv,rs:=[aW,aM],bx:=some 1,cz:=[(uH,[br],[aW])],bL:=[(fT,mV),(dz,qb)],bJ:=[⟨kv,0,16423,[1,0,7,6],[(6,25)]⟩],xM:=[some aA,none],D0:=[(dz,[none,some aW])]}
@[simp] theorem aa2:qt.f=kv/\qt.rs=[aW,aM]:=⟨rfl,rfl⟩
def pQ (R:RS)(l:List D)(c0:Nat)(n1:Int)(l2:List D):au:=hdS kv 151 [(0,(.aP 0 0)),(1,(.bw br l)),(6,(.aZ 1 c0 true)),(7,(.int .i64 n1))] [(0,rrC R 2 3 4 5),(1,(.ak aA l2 true)),(2,(.ak af R.pa true)),(3,(.ak ai R.cu true)),(4,(.ak bF R.th true)),(5,(.ak af R.ma true))]
theorem Qn:lh qt (xQ R l) (Rm R) 1 tT Q
 (.aC fT [(.aP 0 0),(.bw br l)] (Rm R) 1 fun d0=>(.ite (! d0.bool) (.aS (.tuple [(.aZ 1 0 true),(.int .i64 190)]) [(0,(.cells [(.aZ 2 R.pa.length true),(.aZ 3 R.cu.length true),(.aZ 4 R.th.length true),(.int .i64 R.la),(.aZ 5 R.ma.length true)] bd false)),(1,(.ak aA [] true)),(2,(.ak af R.pa true)),(3,(.ak ai R.cu true)),(4,(.ak bF R.th true)),(5,(.ak af R.ma true))]) (.bj (pQ R l 0 0 [])))):=
  oH qt 0x211
theorem BM:lk qt (.bx 1 (tT (xQ R l) (Rm R)) Q) (pQ R l c0 n1 l2)
 ((fun (u:Bool)=>(.ite (decide (n1<(l.length:Int))) (.gd (cP n1 l.length) (.call uH [(bU pg br (D.at l n1.toNat))] fun d0=>(.gd (u&&(aO 8 (c0+d0.ae.length))) (.bj (pQ R l (c0+d0.ae.length) (wp .i64 (n1+1)) (l2++d0.ae)))))) (.gd u (.aC dz [(.aP 0 0),(.bw aA (D.r l2).ae)] (Rm R) 1 fun d1=>(.aS (.tuple [(.aZ 1 (d1.aa 0).ae.length true),(.int .i64 (d1.aa 1).int)]) [(0,(.cells [(.aZ 2 R.pa.length true),(.aZ 3 R.cu.length true),(.aZ 4 R.th.length true),(.int .i64 R.la),(.aZ 5 R.ma.length true)] bd false)),(1,(.ak aA (d1.aa 0).ae true)),(2,(.ak af R.pa true)),(3,(.ak ai R.cu true)),(4,(.ak bF R.th true)),(5,(.ak af R.ma true))]))))) (decide (c0=l2.length))):=
  oE qt 0x221121211
end
section
variable {W:WS} {r n2 n4:Int} {Q:D->Prop} {c0:Nat} {l1 l3:List D}
def zL:cm:={f:=ui,rs:=[aW,aM],bx:=some 3,cz:=[(zh,[ke],[aW])],bL:=[(jf,zB),(xm,F4),(kT,AM)],bJ:=[⟨ui,0,16419,[28,29,30,8],[]⟩],xM:=[some aA,none],D0:=[(kT,[some aW])]}
@[simp] theorem aeW:zL.f=ui/\zL.rs=[aW,aM]:=⟨rfl,rfl⟩
def vT (W:WS)(r:Int)(c0:Nat)(l1:List D)(n2:Int)(l3:List D)(n4:Int):au:=hdS ui 303 [(8,(.aZ 3 c0 true)),(28,(.bw av l1)),(29,(.int .i64 n2)),(30,(.int .i64 n4))] [(0,wrC W 4 1 2 5),(1,wrT W 1),(2,wrF W),(3,(.ak aA l3 true)),(4,(.ak ai W.cu true)),(5,(.ak af W.ma true))]
theorem Y8:lh zL (FP W r) (Wm W) 3 Cj Q
 (.aC xm [(.aP 0 0),(.int .i64 r)] (Wm W) 3 fun d0=>((fun (v:D)=>(.ite ((d0.aa 1).int !=(0:Int)) (.aS (.tuple [(.aZ 3 0 true),(.int .i64 (d0.aa 1).int)]) [(0,(.cells [(.bw cC W.pa),(.aZ 4 W.cu.length true),(.map 1),(.map 2),(.int .i64 W.la),(.aZ 5 W.ma.length true)] bh false)),(1,(.bg aA (.bY 1 aH) W.th W.st W.ck)),(2,(.bg aF (.data aA) W.fa W.sf W.cf)),(3,(.ak aA [] true)),(4,(.ak ai W.cu true)),(5,(.ak af W.ma true))]) (.aC jf [(.agg (aK pg av ((d0.aa 0).aa 2)))] [] 0 fun d1=>(.call zh [(D.r ((d0.aa 0).aa 11).ae)] fun d2=>((fun (u:Nat)=>(.gd ((decide (d1.ae.length=d1.ae.length))&&(aO 8 u)) (.bj (vT W r u v.ae (v.ae.length:Int) (d1.ae++d2.ae) 0)))) (d1.ae.length+d2.ae.length)))))) ((d0.aa 0).aa 3))):=
  oH zL 0x242111
theorem G9:lk zL (.bx 3 (Cj (FP W r) (Wm W)) Q) (vT W r c0 l1 n2 l3 n4)
 ((fun (u:Bool)=>(.ite (decide (n4<n2)) (.gd (cP n4 l1.length) (.aC jf [(.agg (aK pg av (D.at l1 n4.toNat)))] [] 0 fun d0=>(.gd (decide (d0.ae.length<=d0.ae.length)) (.gd (u&&(aO 8 (c0+(List.take d0.ae.length d0.ae).length))) (.bj (vT W r (c0+(List.take d0.ae.length d0.ae).length) l1 n2 (l3++(List.take d0.ae.length d0.ae)) (wp .i64 (n4+1)))))))) (.gd u (.aC kT [(.bw aA (D.r l3).ae)] [] 0 fun d1=>(.aS (.tuple [(.aZ 3 d1.ae.length true),(.int .i64 0)]) [(0,(.cells [(.bw cC W.pa),(.aZ 4 W.cu.length true),(.map 1),(.map 2),(.int .i64 W.la),(.aZ 5 W.ma.length true)] bh false)),(1,(.bg aA (.bY 1 aH) W.th W.st W.ck)),(2,(.bg aF (.data aA) W.fa W.sf W.cf)),(3,(.ak aA d1.ae true)),(4,(.ak ai W.cu true)),(5,(.ak af W.ma true))]))))) (decide (c0=l3.length))):=
  oE zL 0x22112121211
def DE:cm:={f:=qB,rs:=[aW],bx:=some 3,bL:=[(ui,Cj),(zV,Dx)],Ry:=[some aW]}
@[simp] theorem adK:DE.f=qB/\DE.rs=[aW]:=⟨rfl,rfl⟩
theorem VW:lh DE (Mp W r) (Wm W) 3 HK Q
 (.aC ui [(.aP 0 0),(.int .i64 r)] (Wm W) 3 fun d0=>(.aC zV [(.aP 0 0),(.int .i64 r)] (Wm W) 3 fun d1=>(.gd ((decide ((d0.aa 0).ae.length=(d0.aa 0).ae.length))&&(aO 8 ((d0.aa 0).ae.length+(d1.aa 0).ae.length))) (.gd (decide (((d0.aa 0).ae.length+(d1.aa 0).ae.length)=((d0.aa 0).ae++(d1.aa 0).ae).length)) (.aS (.bw aA (D.r ((d0.aa 0).ae++(d1.aa 0).ae)).ae) (Wm W)))))):=
  oH DE 0x21211
end
section
variable {W:WS} {l l1 l7 l2:List D} {Q:D->Prop} {n0 n2 n1:Int} {c0 c5 c6:Nat} {m3:List (D×D)} {st4:List Nat}
def tX:cm:={f:=ly,rs:=[aW,aM],bx:=some 3,bL:=[(i9,xU),(cH,sw),(dG,nI),(qB,HK),(kT,AM)],bJ:=[⟨ly,0,16493,[0,21,6,1,22,23],[]⟩,⟨ly,0,16449,[0,9,10,6,11],[(10,25)]⟩],Ry:=[some aW,none],D0:=[(i9,[some aW]),(kT,[some aW])]}
@[simp] theorem aeV:tX.f=ly/\tX.rs=[aW,aM]:=⟨rfl,rfl⟩
def vS (W:WS)(l:List D)(n0:Int):au:=hdS ly 151 [(0,(.aP 0 0)),(1,(.bw aA l)),(6,(.map 3)),(21,(.bw aA l)),(22,(.int .i64 (l.length:Int))),(23,(.int .i64 n0))] [(0,wrC W 4 1 2 5),(1,wrT W 1),(2,wrF W),(3,(.bg aA (.data af) [] [] 0)),(4,(.ak ai W.cu true)),(5,(.ak af W.ma true))]
def fK (W:WS)(l:List D)(c0:Nat)(l1:List D)(n2:Int)(m3:List (D×D))(st4:List Nat)(c5 c6:Nat)(l7:List D):au:=hdS ly 1215 [(0,(.aP 0 0)),(6,(.map 3)),(9,(.aZ 4 c0 true)),(10,(.aZ 5 c6 true)),(11,(.int .i64 n2))] [(0,wrC W 6 1 2 7),(1,wrT W 1),(2,wrF W),(3,(.bg aA (.data af) m3 st4 c5)),(4,(.ak aA l1 true)),(5,(.ak aA l7 true)),(6,(.ak ai W.cu true)),(7,(.ak af W.ma true))]
theorem Y7:lh tX (Cd W l) (Wm W) 3 zx Q
 (.aC dG [(.aP 0 0)] (Wm W) 3 fun d0=>(.ite (d0.int==(0:Int)) (.aS (.tuple [(.bw aA (D.r []).ae),(.int .i64 1)]) (Wm W)) (.bj (vS W l 0)))):=
  oH tX 0x049211
theorem G8:lk tX (.bx 3 (zx (Cd W l) (Wm W)) Q) (vS W l n0)
 (.ite (decide (n0<(l.length:Int))) (.gd (cP n0 l.length) (.aC cH [(.aP 0 0),(.int .i64 (D.at l n0.toNat).int)] (Wm W) 3 fun d0=>(.ite (! d0.bool) (.aS (.tuple [(.bw aA (D.r []).ae),(.int .i64 5)]) (Wm W)) (.bj (vS W l (wp .i64 (n0+1))))))) (.aC i9 [(.bw aA (D.r l).ae)] [] 0 fun d1=>(.bj (fK W l d1.ae.length d1.ae 0 [] [] 0 0 [])))):=
  oE tX 0x2121211
theorem L5:lk tX (.bx 3 (zx (Cd W l) (Wm W)) Q) (fK W l c0 l1 n2 m3 st4 c5 c6 l7)
 ((fun (i:D)=>((fun (t:Bool)=>((fun (q:Bool)=>((fun (p:Bool)=>((fun (k:BV)=>((fun (j:Int)=>((fun (v:D)=>((fun (u:List (D×D))=>(.ite (decide (n2<(c0:Int))) (.gd (cP n2 c0) (.gd (decide (n2.toNat<l1.length)) (.ite (D.cS m3 v) (.ite (D.cS u v) (.ite (decide ((D.val u v).int>(1:Int))) (.bj (fK W l c0 l1 j u st4 c5 c6 l7)) (.gd (p&&t) (.aC qB [(.aP 0 0),k] (Wm W) 3 fun d0=>(.gd (q&&(aO 8 (c0+d0.ae.length))) (.bj (fK W l (c0+d0.ae.length) (l1++d0.ae) j u st4 c5 (c6+1) (l7++[v]))))))) (.gd (p&&t) (.aC qB [(.aP 0 0),k] (Wm W) 3 fun d1=>(.gd (q&&(aO 8 (c0+d1.ae.length))) (.bj (fK W l (c0+d1.ae.length) (l1++d1.ae) j u st4 c5 (c6+1) (l7++[v]))))))) (.ite (D.cS (m3++[(v,(D.z 1))]) v) (.ite (decide ((D.val (m3++[(v,(D.z 1))]) v).int>(1:Int))) (.bj (fK W l c0 l1 j (m3++[(v,(D.z 1))]) (st4++[c5]) (c5+1) c6 l7)) (.gd (p&&t) (.aC qB [(.aP 0 0),k] (Wm W) 3 fun d2=>(.gd (q&&(aO 8 (c0+d2.ae.length))) (.bj (fK W l (c0+d2.ae.length) (l1++d2.ae) j (m3++[(v,(D.z 1))]) (st4++[c5]) (c5+1) (c6+1) (l7++[v]))))))) (.gd (p&&t) (.aC qB [(.aP 0 0),k] (Wm W) 3 fun d3=>(.gd (q&&(aO 8 (c0+d3.ae.length))) (.bj (fK W l (c0+d3.ae.length) (l1++d3.ae) j (m3++[(v,(D.z 1))]) (st4++[c5]) (c5+1) (c6+1) (l7++[v])))))))))) (.gd p (.aC kT [(.bw aA (D.r l7).ae)] [] 0 fun d4=>(.gd (decide (d4.ae.length=d4.ae.length)) (.aS (.tuple [(.bw aA (D.r d4.ae).ae),(.int .i64 0)]) (Wm W))))))) (D.fE m3 v (D.z (wp .i64 ((D.val m3 v).int+1)))))) (D.z i.int))) (wp .i64 (n2+1)))) (.int .i64 i.int))) (decide (c6=l7.length)))) (decide (c0=l1.length)))) (aO 8 (c6+1)))) (D.at l1 n2.toNat)):=
  oE tX 0x221211212120062029212112321211100520292121123212111
def wC:cm:={f:=qA,rs:=[aW,aM],bx:=some 3,cz:=[(zh,[ke],[aW])],bL:=[(yw,F3),(ly,zx)],bJ:=[⟨qA,0,16423,[16,0,17,18,7],[(7,25)]⟩],Ry:=[some aW,none],D0:=[(ly,[none,some aW])]}
@[simp] theorem adJ:wC.f=qA/\wC.rs=[aW,aM]:=⟨rfl,rfl⟩
def tn (W:WS)(l:List D)(c0:Nat)(n1:Int)(l2:List D):au:=hdS qA 151 [(0,(.aP 0 0)),(7,(.aZ 3 c0 true)),(16,(.bw br l)),(17,(.int .i64 (l.length:Int))),(18,(.int .i64 n1))] [(0,wrC W 4 1 2 5),(1,wrT W 1),(2,wrF W),(3,(.ak aA l2 true)),(4,(.ak ai W.cu true)),(5,(.ak af W.ma true))]
theorem VV:lh wC (Dq W l) (Wm W) 3 zy Q
 (.aC yw [(.aP 0 0),(.bw br l)] (Wm W) 3 fun d0=>(.ite (d0.int !=(0:Int)) (.aS (.tuple [(.bw aA (D.r []).ae),(.int .i64 d0.int)]) (Wm W)) (.bj (tn W l 0 0 [])))):=
  oH wC 0x211
theorem EL:lk wC (.bx 3 (zy (Dq W l) (Wm W)) Q) (tn W l c0 n1 l2)
 ((fun (u:Bool)=>(.ite (decide (n1<(l.length:Int))) (.gd (cP n1 l.length) (.call zh [(D.r ((D.at l n1.toNat).aa 2).ae)] fun d0=>(.gd (u&&(aO 8 (c0+d0.ae.length))) (.bj (tn W l (c0+d0.ae.length) (wp .i64 (n1+1)) (l2++d0.ae)))))) (.gd u (.aC ly [(.aP 0 0),(.bw aA (D.r l2).ae)] (Wm W) 3 fun d1=>(.aS (.tuple [(.bw aA (D.r (d1.aa 0).ae).ae),(.int .i64 (d1.aa 1).int)]) (Wm W)))))) (decide (c0=l2.length))):=
  oE wC 0x221121211
end
section
variable {l:List D} {Q:D->Prop}
def AS:cm:={f:=kT,rs:=[aW],bx:=some 0,bL:=[(i9,xU),(ng,xa),(pb,tc)],xM:=[some aA],D0:=[(i9,[some aW])],pns:=[(ng,1),(pb,1)]}
@[simp] theorem acG:AS.f=kT/\AS.rs=[aW]:=⟨rfl,rfl⟩
theorem SJ:lh AS (J4 l) [] 0 AM Q
 (.aC i9 [(.bw aA (D.r l).ae)] [] 0 fun d0=>((fun (u:BV)=>(.aC ng [u] [(0,(.ak aA d0.ae true))] 1 fun d1=>(.aC pb [u] [(0,(.ak aA d1.ae true))] 1 fun d2=>(.aS (.aZ 0 d2.ae.length true) [(0,(.ak aA d2.ae true))])))) (.aZ 0 d0.ae.length true))):=
  oH AS 0x1
end
section
variable {W:WS} {m m6:List (D×D)} {st st7:List Nat} {ck c0 c3 c4 c1 c8:Nat} {Q:D->Prop} {n1 n5 n2:Int} {l2 l6 l7 l3 l4:List D} {b9:Bool}
def ko:cm:={f:=dj,rs:=[ai],bx:=some 6,bL:=[(jb,qP),(xl,F2),(bZ,ju)],bJ:=[⟨ja,1,16465,[1,12,0,13,14,4,3],[(3,25),(4,46)]⟩,⟨ja,1,12323,[4,0,35,36,37],[]⟩],msk:=[(dj,[0,1,3])],D0:=[(bZ,[none,some aW])]}
@[simp] theorem aa7:ko.f=dj/\ko.rs=[ai]:=⟨rfl,rfl⟩
def dD (W:WS)(m:List (D×D))(st:List Nat)(ck c0:Nat)(n1:Int)(l2:List D)(c3 c4:Nat)(n5:Int)(l6 l7:List D):au:=Uq [(frS pg ja 151 none [] none [(0,(.yield 6)),(1,(.aP 7 0)),(3,(.aZ 8 c3 true)),(4,(.aZ 9 c4 true)),(12,(.aZ 10 c0 true)),(13,(.int .i64 n1)),(14,(.int .i64 n5))]),(frS pg dj 43 (some 6) [(dfC 12)] none [(0,(.aP 0 0)),(1,(.aP 1 0)),(3,(.aP 11 0))])] [(0,(.cells [(.aP 2 0)] b6 false)),(1,(.cells [(.map 3)] jr false)),(2,wrC W 13 4 5 14),(3,(.bg aA (.data af) m st ck)),(4,wrT W 4),(5,wrF W),(6,(Uv pg dj 43 .ready [(0,(.aP 0 0)),(1,(.aP 1 0)),(3,(.aP 11 0))] 12)),(7,(.cells [(.aP 2 0)] b6 false)),(8,(.ak aA l6 true)),(9,(.ak lO l7 true)),(10,(.ak aA l2 true)),(11,(.cells [(.bool false)] ai false)),(12,(.deferred (some []))),(13,(.ak ai W.cu true)),(14,(.ak af W.ma true))]
def aN (W:WS)(m:List (D×D))(st:List Nat)(ck c0 c1:Nat)(n2:Int)(l3 l4:List D)(n5:Int)(m6:List (D×D))(st7:List Nat)(c8:Nat)(b9:Bool):au:=Uq [(frS pg ja 159 none [] none [(0,(.yield 6)),(4,(.aZ 7 c0 true)),(35,(.aZ 8 c1 true)),(36,(.int .i64 n2)),(37,(.int .i64 n5))]),(frS pg dj 43 (some 6) [(dfC 10)] none [(0,(.aP 0 0)),(1,(.aP 1 0)),(3,(.aP 9 0))])] [(0,(.cells [(.aP 2 0)] b6 false)),(1,(.cells [(.map 3)] jr false)),(2,wrC W 11 4 5 12),(3,(.bg aA (.data af) m6 st7 c8)),(4,wrT W 4),(5,wrF W),(6,(Uv pg dj 43 .ready [(0,(.aP 0 0)),(1,(.aP 1 0)),(3,(.aP 9 0))] 10)),(7,(.ak lO l3 true)),(8,(.ak aA l4 true)),(9,(.cells [(.bool b9)] ai false)),(10,(.deferred (some []))),(11,(.ak ai W.cu true)),(12,(.ak af W.ma true))]
theorem Qs:lh ko (kh W m st ck) (ki W m st ck) 6 gM Q
 (.aC jb [(.aP 0 0)] (Wm W) 3 fun d0=>(.bj (dD W m st ck d0.ae.length (d0.ae.length:Int) d0.ae 0 0 0 [] []))):=
  oH ko 0x0791
theorem ky:lk ko (.bx 6 (gM (kh W m st ck) (ki W m st ck)) Q) (dD W m st ck c0 n1 l2 c3 c4 n5 l6 l7)
 ((fun (u:D)=>(.ite (decide (n5<n1)) (.gd (cP n5 c0) (.gd (decide (n5.toNat<l2.length)) (.gd ((decide (c3=l6.length))&&(aO 8 (c3+1))) (.gd (D.cS W.th u) (.gd ((decide (c4=l7.length))&&(aO 1 (c4+1))) (.bj (dD W m st ck c0 n1 l2 (c3+1) (c4+1) (wp .i64 (n5+1)) (l6++[u]) (l7++[(D.z ((D.val W.th u).aa 0).int)])))))))) (.bj (aN W m st ck c4 c3 (c3:Int) l7 l6 0 m st ck false)))) (D.z (D.at l2 n5.toNat).int)):=
  oE ko 0x212121321210053211
theorem kz:lk ko (.bx 6 (gM (kh W m st ck) (ki W m st ck)) Q) (aN W m st ck c0 c1 n2 l3 l4 n5 m6 st7 c8 b9)
 ((fun (uj:D)=>((fun (uv:D)=>((fun (o:D)=>((fun (uz:BV)=>((fun (t:Bool)=>((fun (p:D)=>((fun (j:aI)=>((fun (v:Int)=>((fun (u:RT)=>(.ite (decide (n5<n2)) (.gd (cP n5 c1) (.gd (decide (n5.toNat<l4.length)) (.gd (cP n5 c0) (.gd (decide (n5.toNat<l3.length)) (.aC xl [(.aP 0 0),(.int .i64 uj.int)] (Wm W) 3 fun d0=>((fun (uu:D)=>((fun (i:Bool)=>((fun (q:D)=>((fun (k:BV)=>(.ite (uv.int==(14:Int)) (.ite i (.ite (q.int==(1:Int)) (.ite t (.ite (p.int==(0:Int)) (.aC bZ [(.map 0),uz] [(0,j)] 1 fun d1=>(.ite (d1.aa 0).bool (.bj (aN W m st ck c0 c1 n2 l3 l4 v (cn (d1.aa 1)) (cK (d1.aa 2)) (cJ (d1.aa 3)) true)) (.bj (aN W m st ck c0 c1 n2 l3 l4 v (cn (d1.aa 1)) (cK (d1.aa 2)) (cJ (d1.aa 3)) b9)))) u) (.aC bZ [(.map 0),uz] [(0,j)] 1 fun d2=>(.ite (d2.aa 0).bool (.bj (aN W m st ck c0 c1 n2 l3 l4 v (cn (d2.aa 1)) (cK (d2.aa 2)) (cJ (d2.aa 3)) true)) (.bj (aN W m st ck c0 c1 n2 l3 l4 v (cn (d2.aa 1)) (cK (d2.aa 2)) (cJ (d2.aa 3)) b9))))) u) u) (.ite (uv.int==(6:Int)) (.ite t (.ite (p.int==(1:Int)) (.ite i (.ite (q.int==(0:Int)) (.aC bZ [(.map 0),k] [(0,j)] 1 fun d3=>(.ite (d3.aa 0).bool (.bj (aN W m st ck c0 c1 n2 l3 l4 v (cn (d3.aa 1)) (cK (d3.aa 2)) (cJ (d3.aa 3)) true)) (.bj (aN W m st ck c0 c1 n2 l3 l4 v (cn (d3.aa 1)) (cK (d3.aa 2)) (cJ (d3.aa 3)) b9)))) u) (.aC bZ [(.map 0),k] [(0,j)] 1 fun d4=>(.ite (d4.aa 0).bool (.bj (aN W m st ck c0 c1 n2 l3 l4 v (cn (d4.aa 1)) (cK (d4.aa 2)) (cJ (d4.aa 3)) true)) (.bj (aN W m st ck c0 c1 n2 l3 l4 v (cn (d4.aa 1)) (cK (d4.aa 2)) (cJ (d4.aa 3)) b9))))) u) u) (.ite (uv.int==(7:Int)) (.ite t (.ite (p.int==(1:Int)) (.ite i (.ite (q.int==(0:Int)) (.aC bZ [(.map 0),k] [(0,j)] 1 fun d5=>(.ite (d5.aa 0).bool (.bj (aN W m st ck c0 c1 n2 l3 l4 v (cn (d5.aa 1)) (cK (d5.aa 2)) (cJ (d5.aa 3)) true)) (.bj (aN W m st ck c0 c1 n2 l3 l4 v (cn (d5.aa 1)) (cK (d5.aa 2)) (cJ (d5.aa 3)) b9)))) u) (.aC bZ [(.map 0),k] [(0,j)] 1 fun d6=>(.ite (d6.aa 0).bool (.bj (aN W m st ck c0 c1 n2 l3 l4 v (cn (d6.aa 1)) (cK (d6.aa 2)) (cJ (d6.aa 3)) true)) (.bj (aN W m st ck c0 c1 n2 l3 l4 v (cn (d6.aa 1)) (cK (d6.aa 2)) (cJ (d6.aa 3)) b9))))) u) u) (.ite (uv.int==(9:Int)) (.ite t (.ite (p.int==(1:Int)) (.ite i (.ite (q.int==(0:Int)) (.aC bZ [(.map 0),k] [(0,j)] 1 fun d7=>(.ite (d7.aa 0).bool (.bj (aN W m st ck c0 c1 n2 l3 l4 v (cn (d7.aa 1)) (cK (d7.aa 2)) (cJ (d7.aa 3)) true)) (.bj (aN W m st ck c0 c1 n2 l3 l4 v (cn (d7.aa 1)) (cK (d7.aa 2)) (cJ (d7.aa 3)) b9)))) u) (.aC bZ [(.map 0),k] [(0,j)] 1 fun d8=>(.ite (d8.aa 0).bool (.bj (aN W m st ck c0 c1 n2 l3 l4 v (cn (d8.aa 1)) (cK (d8.aa 2)) (cJ (d8.aa 3)) true)) (.bj (aN W m st ck c0 c1 n2 l3 l4 v (cn (d8.aa 1)) (cK (d8.aa 2)) (cJ (d8.aa 3)) b9))))) u) u) u))))) (.bw aA (D.r [uu]).ae))) (D.val m6 uu))) (D.cS m6 uu))) (D.z ((d0.aa 0).aa 6).int))))))) (.aS (.bool b9) [(0,(.cells [(.aP 2 0)] b6 false)),(1,(.cells [(.map 3)] jr false)),(2,(.cells [(.bw cC W.pa),(.aZ 6 W.cu.length true),(.map 4),(.map 5),(.int .i64 W.la),(.aZ 7 W.ma.length true)] bh false)),(3,j),(4,(.bg aA (.bY 4 aH) W.th W.st W.ck)),(5,(.bg aF (.data aA) W.fa W.sf W.cf)),(6,(.ak ai W.cu true)),(7,(.ak af W.ma true))]))) (.bj (aN W m st ck c0 c1 n2 l3 l4 v m6 st7 c8 b9)))) (wp .i64 (n5+1)))) (.bg aA (.data af) m6 st7 c8))) (D.val m6 o))) (D.cS m6 o))) (.bw aA (D.r [o]).ae))) (D.z uj.int))) (D.at l3 n5.toNat))) (D.at l4 n5.toNat)):=
  oE ko 0x21212121212222312089120500b02910300a20201a029200631005310201a2313200631005310052089120500b02910300a20201a029200631005310201a2313200631005310052089120500b02910300a20201a029200631005310201a2313200631005312079120400b02910200a20201a029200631005310201a231320063100531
end
section
variable {W:WS} {l l2 l9 l10 l6 l7 l12:List D} {Q:D->Prop} {m0 m3:List (D×D)} {st1 st4:List Nat} {c2 c0 c5 c6 c7 c3 c4 c9 c11:Nat} {n1 n8 n5:Int}
def mh:cm:={f:=du,rs:=[aW,aW,aM],bx:=some 3,bL:=[(jb,qP),(qA,zy),(bZ,ju),(dj,gM)],bJ:=[⟨du,0,16417,[4,5,8,2,9],[]⟩,⟨ja,1,16465,[1,12,0,13,14,4,3],[(3,25),(4,46)]⟩,⟨ja,1,12323,[4,0,35,36,37],[]⟩],B8:=[(aW,0,aA)],msk:=[(du,[4,5,8])],xM:=[some aA,some aA,none],D0:=[(bZ,[none,some aW])]}
@[simp] theorem ad6:mh.f=du/\mh.rs=[aW,aW,aM]:=⟨rfl,rfl⟩
def tH (W:WS)(l:List D)(m0:List (D×D))(st1:List Nat)(c2:Nat):au:=hdS du 575 [(2,(.aP 3 0)),(4,(.aP 4 0)),(5,(.aP 5 0)),(8,(.aP 6 0)),(9,(.func (.func dj) [] [(.aP 3 0),(.aP 6 0)]))] [(0,wrC W 7 1 2 8),(1,wrT W 1),(2,wrF W),(3,(.cells [(.aP 0 0)] b6 false)),(4,(.cells [(.aZ 9 0 true)] aW false)),(5,(.cells [(.aZ 10 0 true)] aW false)),(6,(.cells [(.map 11)] jr false)),(7,(.ak ai W.cu true)),(8,(.ak af W.ma true)),(9,(.ak aA [] true)),(10,(.ak aA [] true)),(11,(.bg aA (.data af) m0 st1 c2))]
def ek (W:WS)(l:List D)(c0:Nat)(n1:Int)(l2:List D)(m3:List (D×D))(st4:List Nat)(c5 c6 c7:Nat)(n8:Int)(l9 l10:List D):au:=Uq [(frS pg ja 151 none [] none [(0,(.yield 3)),(1,(.aP 4 0)),(3,(.aZ 5 c6 true)),(4,(.aZ 6 c7 true)),(12,(.aZ 7 c0 true)),(13,(.int .i64 n1)),(14,(.int .i64 n8))]),(frS pg du 1407 (some 3) [(dfC 11)] none [(4,(.aP 8 0)),(5,(.aP 9 0)),(8,(.aP 10 0))])] [(0,wrC W 12 1 2 13),(1,wrT W 1),(2,wrF W),(3,(Uv pg du 1407 .ready [(4,(.aP 8 0)),(5,(.aP 9 0)),(8,(.aP 10 0))] 11)),(4,(.cells [(.aP 0 0)] b6 false)),(5,(.ak aA l9 true)),(6,(.ak lO l10 true)),(7,(.ak aA l2 true)),(8,(.cells [(.aZ 14 0 true)] aW false)),(9,(.cells [(.aZ 15 0 true)] aW false)),(10,(.cells [(.map 16)] jr false)),(11,(.deferred (some []))),(12,(.ak ai W.cu true)),(13,(.ak af W.ma true)),(14,(.ak aA [] true)),(15,(.ak aA [] true)),(16,(.bg aA (.data af) m3 st4 c5))]
def dg (W:WS)(l:List D)(m0:List (D×D))(st1:List Nat)(c2 c3 c4:Nat)(n5:Int)(l6 l7:List D)(n8:Int)(c9:Nat)(l10:List D)(c11:Nat)(l12:List D):au:=Uq [(frS pg ja 159 none [] none [(0,(.yield 3)),(4,(.aZ 4 c3 true)),(35,(.aZ 5 c4 true)),(36,(.int .i64 n5)),(37,(.int .i64 n8))]),(frS pg du 1407 (some 3) [(dfC 9)] none [(4,(.aP 6 0)),(5,(.aP 7 0)),(8,(.aP 8 0))])] [(0,wrC W 10 1 2 11),(1,wrT W 1),(2,wrF W),(3,(Uv pg du 1407 .ready [(4,(.aP 6 0)),(5,(.aP 7 0)),(8,(.aP 8 0))] 9)),(4,(.ak lO l6 true)),(5,(.ak aA l7 true)),(6,(.cells [(.aZ 12 c9 true)] aW false)),(7,(.cells [(.aZ 13 c11 true)] aW false)),(8,(.cells [(.map 14)] jr false)),(9,(.deferred (some []))),(10,(.ak ai W.cu true)),(11,(.ak af W.ma true)),(12,(.ak aA l10 true)),(13,(.ak aA l12 true)),(14,(.bg aA (.data af) m0 st1 c2))]
theorem Wj:lh mh (qj W l) (Wm W) 3 jK Q
 (.aC qA [(.aP 0 0),(.bw br l)] (Wm W) 3 fun d0=>(.ite ((d0.aa 1).int !=(0:Int)) (.aS (.tuple [(.aZ 3 0 true),(.aZ 4 0 true),(.int .i64 (d0.aa 1).int)]) [(0,(.cells [(.bw cC W.pa),(.aZ 5 W.cu.length true),(.map 1),(.map 2),(.int .i64 W.la),(.aZ 6 W.ma.length true)] bh false)),(1,(.bg aA (.bY 1 aH) W.th W.st W.ck)),(2,(.bg aF (.data aA) W.fa W.sf W.cf)),(3,(.ak aA [] true)),(4,(.ak aA [] true)),(5,(.ak ai W.cu true)),(6,(.ak af W.ma true))]) (.aC bZ [(.map 0),(.bw aA (D.r (d0.aa 0).ae).ae)] [(0,(.bg aA (.data af) [] [] 0))] 1 fun d1=>(.bj (tH W l (cn (d1.aa 1)) (cK (d1.aa 2)) (cJ (d1.aa 3))))))):=
  oH mh 0x211
theorem Ma:lk mh (.bx 3 (jK (qj W l) (Wm W)) Q) (tH W l m0 st1 c2)
 (.aC dj [(.aP 0 0),(.aP 1 0)] [(0,(.cells [(.aP 2 0)] b6 false)),(1,(.cells [(.map 3)] jr false)),(2,(.cells [(.bw cC W.pa),(.aZ 6 W.cu.length true),(.map 4),(.map 5),(.int .i64 W.la),(.aZ 7 W.ma.length true)] bh false)),(3,(.bg aA (.data af) m0 st1 c2)),(4,(.bg aA (.bY 4 aH) W.th W.st W.ck)),(5,(.bg aF (.data aA) W.fa W.sf W.cf)),(6,(.ak ai W.cu true)),(7,(.ak af W.ma true))] 6 fun d0=>(.ite (d0.aa 0).bool (.bj (tH W l (cn (d0.aa 1)) (cK (d0.aa 2)) (cJ (d0.aa 3)))) (.aC jb [(.aP 0 0)] (Wm W) 3 fun d1=>(.bj (ek W l d1.ae.length (d1.ae.length:Int) d1.ae (cn (d0.aa 1)) (cK (d0.aa 2)) (cJ (d0.aa 3)) 0 0 0 [] []))))):=
  oE mh 0x207911
theorem mN:lk mh (.bx 3 (jK (qj W l) (Wm W)) Q) (ek W l c0 n1 l2 m3 st4 c5 c6 c7 n8 l9 l10)
 ((fun (u:D)=>(.ite (decide (n8<n1)) (.gd (cP n8 c0) (.gd (decide (n8.toNat<l2.length)) (.gd ((decide (c6=l9.length))&&(aO 8 (c6+1))) (.gd (D.cS W.th u) (.gd ((decide (c7=l10.length))&&(aO 1 (c7+1))) (.bj (ek W l c0 n1 l2 m3 st4 c5 (c6+1) (c7+1) (wp .i64 (n8+1)) (l9++[u]) (l10++[(D.z ((D.val W.th u).aa 0).int)])))))))) (.bj (dg W l m3 st4 c5 c7 c6 (c6:Int) l10 l9 0 0 [] 0 [])))) (D.z (D.at l2 n8.toNat).int)):=
  oE mh 0x212121321210053211
theorem mO:lk mh (.bx 3 (jK (qj W l) (Wm W)) Q) (dg W l m0 st1 c2 c3 c4 n5 l6 l7 n8 c9 l10 c11 l12)
 ((fun (j:Int)=>((fun (v:D)=>((fun (u:RT)=>(.ite (decide (n8<n5)) (.gd (cP n8 c4) (.gd (decide (n8.toNat<l7.length)) (.gd (cP n8 c3) (.gd (decide (n8.toNat<l6.length)) (.ite (D.cS m0 v) (.ite ((D.val m0 v).int==(1:Int)) (.gd ((decide (c9=l10.length))&&(aO 8 (c9+1))) (.bj (dg W l m0 st1 c2 c3 c4 n5 l6 l7 j (c9+1) (l10++[v]) c11 l12))) u) u))))) (.aS (.tuple [(.aZ 3 c9 true),(.aZ 4 c11 true),(.int .i64 0)]) [(0,(.cells [(.bw cC W.pa),(.aZ 5 W.cu.length true),(.map 1),(.map 2),(.int .i64 W.la),(.aZ 6 W.ma.length true)] bh false)),(1,(.bg aA (.bY 1 aH) W.th W.st W.ck)),(2,(.bg aF (.data aA) W.fa W.sf W.cf)),(3,(.ak aA l10 true)),(4,(.ak aA l12 true)),(5,(.ak ai W.cu true)),(6,(.ak af W.ma true))]))) (.gd ((decide (c11=l12.length))&&(aO 8 (c11+1))) (.bj (dg W l m0 st1 c2 c3 c4 n5 l6 l7 j c9 l10 (c11+1) (l12++[v])))))) (D.z (D.at l7 n8.toNat).int))) (wp .i64 (n8+1))):=
  oE mh 0x241212121212029213123213132131
end
section
variable {W:WS} {l:List D} {Q:D->Prop}
def Gl:cm:={f:=q6,rs:=[aW,aM],bx:=some 3,bL:=[(du,jK)],xM:=[some aA,none]}
@[simp] theorem ae5:Gl.f=q6/\Gl.rs=[aW,aM]:=⟨rfl,rfl⟩
theorem Zh:lh Gl (O1 W l) (Wm W) 3 F5 Q
 (.aC du [(.aP 0 0),(.bw br l)] (Wm W) 3 fun d0=>(.aS (.tuple [(.aZ 3 (d0.aa 0).ae.length true),(.int .i64 (d0.aa 2).int)]) [(0,(.cells [(.bw cC W.pa),(.aZ 4 W.cu.length true),(.map 1),(.map 2),(.int .i64 W.la),(.aZ 5 W.ma.length true)] bh false)),(1,(.bg aA (.bY 1 aH) W.th W.st W.ck)),(2,(.bg aF (.data aA) W.fa W.sf W.cf)),(3,(.ak aA (d0.aa 0).ae true)),(4,(.ak ai W.cu true)),(5,(.ak af W.ma true))])):=
  oH Gl 0x1
def Gm:cm:={f:=uP,rs:=[aW,aM],bx:=some 3,bL:=[(du,jK)],xM:=[some aA,none]}
@[simp] theorem ae6:Gm.f=uP/\Gm.rs=[aW,aM]:=⟨rfl,rfl⟩
theorem Zi:lh Gm (O2 W l) (Wm W) 3 Cm Q
 ((fun (p:aI)=>((fun (k:aI)=>((fun (z:aI)=>((fun (v:aI)=>((fun (u:aI)=>(.aC du [(.aP 0 0),(.bw br l)] (Wm W) 3 fun d0=>((fun (j:BV)=>(.ite ((true&&(Nat.beq (d0.aa 1).ae.length 0))&&(Nat.beq (d0.aa 1).ae.length 0)) (.aS (.tuple [(.aZ 3 0 true),j]) [(0,u),(1,z),(2,v),(3,(.ak aA [] true)),(4,p),(5,k)]) (.gd (((true&&(true&&true))&&(Nat.beq (d0.aa 1).ae.length (d0.aa 1).ae.length))&&(Nat.beq (d0.aa 1).ae.length (d0.aa 1).ae.length)) (.aS (.tuple [(.aZ 3 (d0.aa 1).ae.length true),j]) [(0,u),(1,z),(2,v),(3,(.ak aA (d0.aa 1).ae true)),(4,p),(5,k)])))) (.int .i64 (d0.aa 2).int)))) (.cells [(.bw cC W.pa),(.aZ 4 W.cu.length true),(.map 1),(.map 2),(.int .i64 W.la),(.aZ 5 W.ma.length true)] bh false))) (.bg aF (.data aA) W.fa W.sf W.cf))) (.bg aA (.bY 1 aH) W.th W.st W.ck))) (.ak af W.ma true))) (.ak ai W.cu true)):=
  oH Gm 0x02922111
def DL:cm:={f:=wP,rs:=[af,af,aM],bx:=some 3,bL:=[(du,jK)]}
@[simp] theorem ad4:DL.f=wP/\DL.rs=[af,af,aM]:=⟨rfl,rfl⟩
theorem Wg:lh DL (Mq W l) (Wm W) 3 HL Q
 (.aC du [(.aP 0 0),(.bw br l)] (Wm W) 3 fun d0=>(.aS (.tuple [(.int .i64 ((d0.aa 0).ae.length:Int)),(.int .i64 ((d0.aa 1).ae.length:Int)),(.int .i64 (d0.aa 2).int)]) (Wm W))):=
  oH DL 0x1
end
section
variable {l:List D} {m:List (D×D)} {st:List Nat} {ck:Nat} {Q:D->Prop} {n0:Int}
def fo:cm:={f:=hZ,rs:=[af],bx:=some 2,bJ:=[⟨hZ,0,16423,[0,1,7,8],[]⟩]}
@[simp] theorem Rv:fo.f=hZ/\fo.rs=[af]:=⟨rfl,rfl⟩
def iy (l:List D)(m:List (D×D))(st:List Nat)(ck:Nat)(n0:Int):au:=hdS hZ 37 [(0,(.bw aA l)),(1,(.func (.func jy) [] [(.aP 0 0)])),(7,(.int .i64 (l.length:Int))),(8,(.int .i64 n0))] [(0,(.cells [(.map 1)] dP false)),(1,(.bg aA (.data af) m st ck))]
theorem Fy:lh fo (kD l m st ck) (kF l m st ck) 2 qa Q
 (.bj (iy l m st ck 0)):=
  oH fo 0x1
theorem r6:lk fo (.bx 2 (qa (kD l m st ck) (kF l m st ck)) Q) (iy l m st ck n0)
 ((fun (k:D)=>((fun (j:aI)=>((fun (v:aI)=>((fun (u:RT)=>(.ite (decide (n0<(l.length:Int))) (.gd (cP n0 l.length) (.ite (D.cS m k) (.ite ((D.val m k).int==(1:Int)) (.aS (.int .i64 n0) [(0,v),(1,j)]) u) u)) (.aS (.int .i64 (-1)) [(0,v),(1,j)]))) (.bj (iy l m st ck (wp .i64 (n0+1)))))) (.cells [(.map 1)] dP false))) (.bg aA (.data af) m st ck))) (D.z (D.at l n0.toNat).int)):=
  oE fo 0x2121231211
def iu:cm:={f:=rY,rs:=[ai],bx:=some 2,bL:=[(cy,eW)],D0:=[(cy,[some aW,none])]}
@[simp] theorem NM:iu.f=rY/\iu.rs=[ai]:=⟨rfl,rfl⟩
theorem B6:lh iu (rV l m st ck) (rX l m st ck) 2 B1 Q
 ((fun (v:aI)=>((fun (u:aI)=>(.aC cy [(.bw aA (D.r l).ae),(.func (.func jy) [] [(.aP 0 0)])] [(0,u),(1,v)] 2 fun d0=>(.aS (.bool (decide (d0.int≥(0:Int)))) [(0,u),(1,v)]))) (.cells [(.map 1)] dP false))) (.bg aA (.data af) m st ck)):=
  oH iu 0x1
end
section
variable {W:WS} {l l3 l4 l2 l5 l0 l6 l1 l9:List D} {Q:D->Prop} {n0:Int} {m1 m0 m6 m3 m7 m9 m5 m4:List (D×D)} {st2 st1 st5 st3 st7 st4 st8 st6 st10:List Nat} {c3 c2 c6 c4 c8 c5 c7:Nat} {y1 y0:D}
def fg:cm:={f:=cA,rs:=[aM],bx:=some 2,bL:=[(fj,tV),(cH,sw),(bM,fl)],bJ:=[⟨cA,0,16737,[5,0,19,20,21],[]⟩,⟨cA,0,16693,[5,36,0],[]⟩,⟨cA,0,16619,[5,73,0],[]⟩,⟨cA,0,16547,[0,5,115],[]⟩,⟨cA,0,16413,[0,201],[]⟩],U5:=[⟨cA,0,20741,[5,36,0,8,9],[]⟩,⟨cA,0,20690,[5,73,0,11],[]⟩],D0:=[(bM,[some aW,none])]}
@[simp] theorem aeM:fg.f=cA/\fg.rs=[aM]:=⟨rfl,rfl⟩
def ru (W:WS)(l:List D)(n0:Int)(m1:List (D×D))(st2:List Nat)(c3:Nat):au:=hdS cA 151 [(0,(.aP 0 0)),(5,(.aP 2 0)),(19,(.aZ 1 l.length true)),(20,(.int .i64 (l.length:Int))),(21,(.int .i64 n0))] [(0,wrC W 5 3 4 6),(1,(.ak aA l true)),(2,(.cells [(.map 7)] dP false)),(3,wrT W 11),(4,wrF W),(5,(.ak ai W.cu true)),(6,(.ak af W.ma true)),(7,(.bg aA (.data af) m1 st2 c3))]
def jj (W:WS)(l:List D)(m0:List (D×D))(st1:List Nat)(c2:Nat)(l3 l4:List D)(st5:List Nat)(c6:Nat):au:=hdS cA 303 [(0,(.aP 0 0)),(5,(.aP 2 0)),(36,(.aP 3 0))] [(0,wrC W 6 4 5 7),(1,(.ak aA l true)),(2,(.cells [(.map 8)] dP false)),(3,(.gV 4 l4 st5 c6 l3)),(4,wrT W 13),(5,wrF W),(6,(.ak ai W.cu true)),(7,(.ak af W.ma true)),(8,(.bg aA (.data af) m0 st1 c2))]
def nV (W:WS)(l:List D)(m0:List (D×D))(st1:List Nat)(c2:Nat)(l3 l4:List D)(st5:List Nat)(c6:Nat):au:=hdS cA 607 [(0,(.aP 0 0)),(5,(.aP 2 0)),(73,(.aP 3 0))] [(0,wrC W 6 4 5 7),(1,(.ak aA l true)),(2,(.cells [(.map 8)] dP false)),(3,(.gV 4 l4 st5 c6 l3)),(4,wrT W 13),(5,wrF W),(6,(.ak ai W.cu true)),(7,(.ak af W.ma true)),(8,(.bg aA (.data af) m0 st1 c2))]
def xv (W:WS)(l:List D)(n0:Int)(y1:D)(l2:List D)(st3:List Nat)(c4:Nat)(l5:List D)(m6:List (D×D))(st7:List Nat)(c8:Nat):au:=hdS cA 31535 [(0,(.aP 0 0)),(5,(.aP 2 0)),(8,(.int .i64 n0)),(9,(.oQ 3 12 y1 0)),(36,(.aP 4 0))] [(0,wrC W 6 3 5 7),(1,(.ak aA l true)),(2,(.cells [(.map 8)] dP false)),(3,wrT W 12),(4,(.gV 3 l2 st3 c4 l5)),(5,wrF W),(6,(.ak ai W.cu true)),(7,(.ak af W.ma true)),(8,(.bg aA (.data af) m6 st7 c8))]
def fJ (W:WS)(l l0:List D)(st1:List Nat)(c2:Nat)(m3:List (D×D))(st4:List Nat)(c5:Nat)(l6:List D)(m7:List (D×D))(st8:List Nat)(m9:List (D×D)):au:=hdS cA 1215 [(0,(.aP 0 0)),(5,(.aP 2 0)),(115,(.aP 3 0))] [(0,wrC W 6 4 5 7),(1,(.ak aA l true)),(2,(.cells [(.map 8)] dP false)),(3,(.gV 8 l0 st1 c2 l6)),(4,(.bg aA (.bY 13 aH) m9 W.st W.ck)),(5,(.bg aF (.data aA) m7 st8 W.cf)),(6,(.ak ai W.cu true)),(7,(.ak af W.ma true)),(8,(.bg aA (.data af) m3 st4 c5))]
def xu (W:WS)(l:List D)(y0:D)(l1:List D)(st2:List Nat)(c3:Nat)(l4:List D)(m5:List (D×D))(st6:List Nat)(c7:Nat):au:=hdS cA 30303 [(0,(.aP 0 0)),(5,(.aP 2 0)),(11,(.oQ 3 12 y0 0)),(73,(.aP 4 0))] [(0,wrC W 6 3 5 7),(1,(.ak aA l true)),(2,(.cells [(.map 8)] dP false)),(3,wrT W 12),(4,(.gV 3 l1 st2 c3 l4)),(5,wrF W),(6,(.ak ai W.cu true)),(7,(.ak af W.ma true)),(8,(.bg aA (.data af) m5 st6 c7))]
def pw (W:WS)(l l0:List D)(st1:List Nat)(c2:Nat)(m3 m4:List (D×D))(st5:List Nat)(m6:List (D×D))(st7:List Nat)(c8:Nat)(l9:List D)(st10:List Nat):au:=hdS cA 2431 [(0,(.aP 0 0)),(201,(.aP 2 0))] [(0,wrC W 5 3 4 6),(1,(.ak aA l true)),(2,(.gV 7 l0 st1 c2 l9)),(3,(.bg aA (.bY 11 aH) m3 st10 W.ck)),(4,(.bg aF (.data aA) m4 st5 W.cf)),(5,(.ak ai W.cu true)),(6,(.ak af W.ma true)),(7,(.bg aA (.data af) m6 st7 c8))]
theorem YY:lh fg (oU W l) (oW W l) 2 lq Q
 (.bj (ru W l 0 [] [] 0)):=
  oH fg 0x0791
theorem G5:lk fg (.bx 2 (lq (oU W l) (oW W l)) Q) (ru W l n0 m1 st2 c3)
 ((fun (v:Int)=>((fun (u:D)=>(.ite (decide (n0<(l.length:Int))) (.gd (cP n0 l.length) (.gd (decide (n0.toNat<l.length)) (.aC cH [(.aP 0 0),(.int .i64 (D.at l n0.toNat).int)] (Wm W) 3 fun d0=>(.ite (! d0.bool) (.aS (.int .i64 5) [(0,(.cells [(.bw cC W.pa),(.aZ 4 W.cu.length true),(.map 2),(.map 3),(.int .i64 W.la),(.aZ 5 W.ma.length true)] bh false)),(1,(.ak aA l true)),(2,(.bg aA (.bY 8 aH) W.th W.st W.ck)),(3,(.bg aF (.data aA) W.fa W.sf W.cf)),(4,(.ak ai W.cu true)),(5,(.ak af W.ma true))]) (.ite (D.cS m1 u) (.bj (ru W l v (D.fE m1 u (D.z 1)) st2 c3)) (.bj (ru W l v (m1++[(u,(D.z 1))]) (st2++[c3]) (c3+1)))))))) (.bj (jj W l m1 st2 c3 [] (D.ct W.th) W.st W.ck)))) (D.z (D.at l n0.toNat).int))) (wp .i64 (n0+1))):=
  oE fg 0x21212122111
theorem Ov:lk fg (.bx 2 (lq (oU W l) (oW W l)) Q) (jj W l m0 st1 c2 l3 l4 st5 c6)
 ((fun (u:RT)=>(.gd (oK W.th W.st W.ck l4 st5 c6) (.pick l4 l3 (.bj (nV W l m0 st1 c2 [] (D.ct W.th) W.st W.ck)) fun d0=>((fun (j:D)=>((fun (v:RT)=>(.gd (D.cS W.th d0) (.ite (((D.val W.th d0).aa 0).int !=(14:Int)) (.bj (jj W l m0 st1 c2 (d0::l3) l4 st5 c6)) (.ite (D.cS m0 (D.z d0.int)) (.ite ((D.val m0 (D.z d0.int)).int==(1:Int)) (.ite (D.cS m0 j) (.ite ((D.val m0 j).int==(0:Int)) u v) u) v) v)))) (.bj (xv W l d0.int d0 l4 st5 c6 (d0::l3) m0 st1 c2)))) (D.z ((D.val W.th d0).aa 6).int))))) (.aS (.int .i64 72) [(0,(.cells [(.bw cC W.pa),(.aZ 4 W.cu.length true),(.map 2),(.map 3),(.int .i64 W.la),(.aZ 5 W.ma.length true)] bh false)),(1,(.ak aA l true)),(2,(.bg aA (.bY 8 aH) W.th W.st W.ck)),(3,(.bg aF (.data aA) W.fa W.sf W.cf)),(4,(.ak ai W.cu true)),(5,(.ak af W.ma true))])):=
  oE fg 0x21230052122099120700b310400a03500520201a310201a211131
theorem Ow:lk fg (.bx 2 (lq (oU W l) (oW W l)) Q) (nV W l m0 st1 c2 l3 l4 st5 c6)
 (.gd (oK W.th W.st W.ck l4 st5 c6) (.pick l4 l3 (.bj (fJ W l (D.ct m0) st1 c2 m0 st1 c2 [] W.fa W.sf W.th)) fun d0=>((fun (u:RT)=>(.ite (D.cS m0 (D.z d0.int)) (.ite ((D.val m0 (D.z d0.int)).int==(1:Int)) (.bj (nV W l m0 st1 c2 (d0::l3) l4 st5 c6)) u) u)) (.bj (xu W l d0 l4 st5 c6 (d0::l3) m0 st1 c2))))):=
  oE fg 0x212300523121131
theorem K9:lk fg (.bx 2 (lq (oU W l) (oW W l)) Q) (xv W l n0 y1 l2 st3 c4 l5 m6 st7 c8)
 ((fun (v:D)=>((fun (u:RT)=>(.gd (D.cS W.th y1) (.ite (D.cS m6 v) (.ite ((D.val m6 v).int==(1:Int)) (.ite (D.cS m6 (D.z n0)) (.bj (jj W l (D.fE m6 (D.z n0) (D.z 1)) st7 c8 l5 l2 st3 c4)) (.bj (jj W l (m6++[((D.z n0),(D.z 1))]) (st7++[c8]) (c8+1) l5 l2 st3 c4))) u) u))) (.bj (jj W l m6 st7 c8 l5 l2 st3 c4)))) (D.z ((D.val W.th y1).aa 6).int)):=
  oE fg 0x2123121211
theorem L0:lk fg (.bx 2 (lq (oU W l) (oW W l)) Q) (fJ W l l0 st1 c2 m3 st4 c5 l6 m7 st8 m9)
 (.gd (oK m3 st4 c5 l0 st1 c2) (.pick l0 l6 (.bj (pw W l (D.ct m3) st4 c5 m9 m7 st8 m3 st4 c5 [] W.st)) fun d0=>((fun (i:D)=>((fun (t:D)=>((fun (q:RT)=>((fun (p:D)=>((fun (uu:D)=>((fun (k:D)=>((fun (j:D)=>((fun (o:Int)=>((fun (v:RT)=>((fun (u:RT)=>(.gd (D.cS m9 (D.z d0.int)) (.ite ((i.aa 0).int==(14:Int)) (.bj (fJ W l l0 st1 c2 m3 st4 c5 (d0::l6) (D.pD m7 uu) (D.Ay m7 st8 uu) m9)) (.ite ((i.aa 0).int==(9:Int)) (.ite (D.cS m9 p) (.ite (D.cS m3 p) (.ite ((D.val m3 p).int==(0:Int)) u q) u) (.gd (D.cS m3 p) (.ite ((D.val m3 p).int==(0:Int)) .bG q))) (.ite ((i.aa 0).int==(15:Int)) (.ite (D.cS m3 t) (.ite ((D.val m3 t).int==(0:Int)) v q) v) q))))) (.bj (fJ W l l0 st1 c2 m3 st4 c5 (d0::l6) m7 st8 (D.fE m9 p (D.r [(D.z (j.aa 0).int),(D.z (j.aa 1).int),(bU pg av (j.aa 2)),(D.r (j.aa 3).ae),(D.z (j.aa 4).int),(D.z (if (o<(j.aa 4).int)then o else (j.aa 4).int)),(D.z (j.aa 6).int),(D.z (j.aa 7).int),(D.z (j.aa 8).int),(D.b (j.aa 9).bool),(D.r (j.aa 10).ae),(D.r (j.aa 11).ae)])))))) (.gd (D.cS m9 t) (.bj (fJ W l l0 st1 c2 m3 st4 c5 (d0::l6) m7 st8 (D.fE m9 t (D.r [(D.z (k.aa 0).int),(D.z (k.aa 1).int),(bU pg av (k.aa 2)),(D.r (k.aa 3).ae),(D.z (k.aa 4).int),(D.z (k.aa 5).int),(D.z 0),(D.z (k.aa 7).int),(D.z (k.aa 8).int),(D.b (k.aa 9).bool),(D.r (k.aa 10).ae),(D.r (k.aa 11).ae)]))))))) (wp .i64 ((j.aa 5).int+(i.aa 4).int)))) (D.val m9 p))) (D.val m9 t))) (D.r [p,(D.z (i.aa 8).int)]))) (D.z (i.aa 6).int))) (.bj (fJ W l l0 st1 c2 m3 st4 c5 (d0::l6) m7 st8 m9)))) (D.z (i.aa 7).int))) (D.val m9 (D.z d0.int))))):=
  oE fg 0x212300521005222103523045210051210552100510252035231211035230201a0450151210202a05502510201a131
theorem K7:lk fg (.bx 2 (lq (oU W l) (oW W l)) Q) (xu W l y0 l1 st2 c3 l4 m5 st6 c7)
 ((fun (i:D)=>((fun (uu:D)=>((fun (o:D)=>((fun (t:Bool)=>((fun (q:D)=>((fun (p:aI)=>((fun (k:aI)=>((fun (j:BV)=>((fun (v:RT)=>((fun (u:RT)=>(.gd (D.cS W.th y0) (.ite ((i.aa 0).int !=(13:Int)) (.ite (D.cS m5 uu) (.ite ((D.val m5 uu).int==(1:Int)) u (.ite t (.ite (q.int==(1:Int)) u (.aC fj [j] [] 0 fun d0=>(.gd (decide (d0.ae.length=d0.ae.length)) (.aC bM [(.bw aA (D.r d0.ae).ae),(.func (.func jy) [] [(.aP 0 0)])] [(0,k),(1,p)] 2 fun d1=>(.ite d1.bool u v))))) (.aC fj [j] [] 0 fun d2=>(.gd (decide (d2.ae.length=d2.ae.length)) (.aC bM [(.bw aA (D.r d2.ae).ae),(.func (.func jy) [] [(.aP 0 0)])] [(0,k),(1,p)] 2 fun d3=>(.ite d3.bool u v)))))) (.ite t (.ite (q.int==(1:Int)) u (.aC fj [j] [] 0 fun d4=>(.gd (decide (d4.ae.length=d4.ae.length)) (.aC bM [(.bw aA (D.r d4.ae).ae),(.func (.func jy) [] [(.aP 0 0)])] [(0,k),(1,p)] 2 fun d5=>(.ite d5.bool u v))))) (.aC fj [j] [] 0 fun d6=>(.gd (decide (d6.ae.length=d6.ae.length)) (.aC bM [(.bw aA (D.r d6.ae).ae),(.func (.func jy) [] [(.aP 0 0)])] [(0,k),(1,p)] 2 fun d7=>(.ite d7.bool u v)))))) (.ite t (.ite (q.int==(1:Int)) u (.aC fj [j] [] 0 fun d8=>(.gd (decide (d8.ae.length=d8.ae.length)) (.aC bM [(.bw aA (D.r d8.ae).ae),(.func (.func jy) [] [(.aP 0 0)])] [(0,k),(1,p)] 2 fun d9=>(.ite d9.bool u v))))) (.aC fj [j] [] 0 fun d10=>(.gd (decide (d10.ae.length=d10.ae.length)) (.aC bM [(.bw aA (D.r d10.ae).ae),(.func (.func jy) [] [(.aP 0 0)])] [(0,k),(1,p)] 2 fun d11=>(.ite d11.bool u v)))))))) (.aS (.int .i64 72) [(0,(.cells [(.bw cC W.pa),(.aZ 4 W.cu.length true),(.map 2),(.map 3),(.int .i64 W.la),(.aZ 5 W.ma.length true)] bh false)),(1,(.ak aA l true)),(2,(.bg aA (.bY 8 aH) W.th W.st W.ck)),(3,(.bg aF (.data aA) W.fa W.sf W.cf)),(4,(.ak ai W.cu true)),(5,(.ak af W.ma true))]))) (.bj (nV W l m5 st6 c7 l4 l1 st2 c3)))) (.agg (aK pg aH i)))) (.cells [(.map 1)] dP false))) (.bg aA (.data af) m5 st6 c7))) (D.val m5 o))) (D.cS m5 o))) (D.z (i.aa 7).int))) (D.z (i.aa 6).int))) (D.val W.th y0)):=
  oE fg 0x2120700b0590153205902503921321102920200b0350300b210162110600a310400a01500520201a0590253205903503921321102920200b0450300b210162110600a310201a20400b03500620201b0390450392132110201b20200b0550300b210162110600a310700a0891
theorem L3:lk fg (.bx 2 (lq (oU W l) (oW W l)) Q) (pw W l l0 st1 c2 m3 m4 st5 m6 st7 c8 l9 st10)
 (.gd (oK m6 st7 c8 l0 st1 c2) (.pick l0 l9 (.aS (.int .i64 0) [(0,(.cells [(.bw cC W.pa),(.aZ 4 W.cu.length true),(.map 2),(.map 3),(.int .i64 W.la),(.aZ 5 W.ma.length true)] bh false)),(1,(.ak aA l true)),(2,(.bg aA (.bY 8 aH) m3 st10 W.ck)),(3,(.bg aF (.data aA) m4 st5 W.cf)),(4,(.ak ai W.cu true)),(5,(.ak af W.ma true))]) fun d0=>(.bj (pw W l l0 st1 c2 (D.pD m3 (D.z d0.int)) m4 st5 m6 st7 c8 (d0::l9) (D.Ay m3 st10 (D.z d0.int)))))):=
  oE fg 0x2123005131
end
section
variable {R:RS} {l l1 l4 l0 l3:List D} {Q:D->Prop} {c0 c2 c1:Nat} {b2:Bool} {n3 n4 n5 n2:Int} {y6:D}
def gp:cm:={f:=cB,rs:=[aW,aM],bx:=some 1,cz:=[(gz,[aW,aA],[ai])],bL:=[(kv,tT)],bJ:=[⟨cB,0,16575,[0,6,8],[]⟩,⟨cB,0,28850,[0,9,6,8],[]⟩,⟨cB,0,16440,[0,6,14,13],[(13,25)]⟩],U5:=[⟨cB,0,36965,[0,9,10,6,8,11,12],[]⟩],Ry:=[some aW,none]}
@[simp] theorem acV:gp.f=cB/\gp.rs=[aW,aM]:=⟨rfl,rfl⟩
def jZ (R:RS)(l:List D)(c0:Nat)(l1:List D)(b2:Bool):au:=hdS cB 151 [(0,(.aP 0 0)),(6,(.aZ 1 c0 true)),(8,(.bool b2))] [(0,rrC R 2 3 4 5),(1,(.ak aA l1 true)),(2,(.ak af R.pa true)),(3,(.ak ai R.cu true)),(4,(.ak bF R.th true)),(5,(.ak af R.ma true))]
def iS (R:RS)(l:List D)(c0:Nat)(l1:List D)(b2:Bool)(n3:Int):au:=hdS cB 9879 [(0,(.aP 0 0)),(6,(.aZ 1 c0 true)),(8,(.bool b2)),(9,(.int .i64 n3))] [(0,rrC R 2 3 4 5),(1,(.ak aA l1 true)),(2,(.ak af R.pa true)),(3,(.ak ai R.cu true)),(4,(.ak bF R.th true)),(5,(.ak af R.ma true))]
def jl (R:RS)(l:List D)(c0:Nat)(l1:List D)(b2:Bool)(n3 n4 n5:Int)(y6:D):au:=hdS cB 992919 [(0,(.aP 0 0)),(6,(.aZ 1 c0 true)),(8,(.bool b2)),(9,(.int .i64 n3)),(10,(.int .i64 n4)),(11,(.aP 2 0)),(12,(.int .i64 n5))] [(0,rrC R 3 4 5 6),(1,(.ak aA l1 true)),(2,(.cells (aK pg aH y6) aH false)),(3,(.ak af R.pa true)),(4,(.ak ai R.cu true)),(5,(.ak bF R.th true)),(6,(.ak af R.ma true))]
def nt (R:RS)(l:List D)(c0:Nat)(l1:List D)(c2:Nat)(n3:Int)(l4:List D):au:=hdS cB 607 [(0,(.aP 0 0)),(6,(.aZ 1 c0 true)),(13,(.aZ 2 c2 true)),(14,(.int .i64 n3))] [(0,rrC R 3 4 5 6),(1,(.ak aA l1 true)),(2,(.ak aA l4 true)),(3,(.ak af R.pa true)),(4,(.ak ai R.cu true)),(5,(.ak bF R.th true)),(6,(.ak af R.ma true))]
theorem SZ:lh gp (p9 R l) (Rm R) 1 kI Q
 (.aC kv [(.aP 0 0),(.bw br l)] (Rm R) 1 fun d0=>(.ite ((d0.aa 1).int !=(0:Int)) (.aS (.tuple [(.bw aA (D.r []).ae),(.int .i64 (d0.aa 1).int)]) (Rm R)) (.bj (jZ R l (d0.aa 0).ae.length (d0.aa 0).ae true)))):=
  oH gp 0x211
theorem Da:lk gp (.bx 1 (kI (p9 R l) (Rm R)) Q) (jZ R l c0 l1 b2)
 (.ite b2 (.bj (iS R l c0 l1 false 0)) (.bj (nt R l c0 l1 0 0 []))):=
  oE gp 0x211
theorem BO:lk gp (.bx 1 (kI (p9 R l) (Rm R)) Q) (iS R l c0 l1 b2 n3)
 ((fun (i:D)=>((fun (t:Bool)=>((fun (q:D)=>((fun (p:D)=>((fun (k:D)=>((fun (j:Int)=>((fun (v:RT)=>((fun (u:RT)=>(.ite (decide (n3<(R.th.length:Int))) (.gd (cP n3 R.th.length) (.gd (decide (n3.toNat<R.th.length)) (.gd t (.call gz [(D.r l1),(D.z q.int)] fun d0=>(.ite d0.bool (.ite (j==(6:Int)) (.call gz [(D.r l1),k] fun d1=>(.ite (! d1.bool) v u)) (.ite (j==(7:Int)) (.call gz [(D.r l1),k] fun d2=>(.ite (! d2.bool) v u)) (.ite (j==(9:Int)) (.call gz [(D.r l1),k] fun d3=>(.ite (! d3.bool) v u)) u))) u))))) (.bj (jZ R l c0 l1 b2)))) (.bj (jl R l c0 l1 b2 n3 q.int j p)))) (.gd (t&&(aO 8 (c0+1))) (.bj (jl R l (c0+1) (l1++[k]) true n3 q.int j p))))) (wp .i64 (p.aa 0).int))) (D.z (p.aa 6).int))) (i.aa 1))) (i.aa 0))) (decide (c0=l1.length)))) (D.at R.th n3.toNat)):=
  oE gp 0x2121210150052120600b07910200a2006015006015200602500602520500b310300a0450200a2132110050250050250490350292132110050150050150290153015049025029213211
theorem Hc:lk gp (.bx 1 (kI (p9 R l) (Rm R)) Q) (jl R l c0 l1 b2 n3 n4 n5 y6)
 ((fun (j:Bool)=>((fun (v:Int)=>((fun (u:RT)=>(.ite (n5==(14:Int)) (.gd j (.call gz [(D.r l1),(D.z (y6.aa 6).int)] fun d0=>(.ite d0.bool (.call gz [(D.r l1),(D.z n4)] fun d1=>(.ite (! d1.bool) (.gd (j&&(aO 8 (c0+1))) (.bj (iS R l (c0+1) (l1++[(D.z n4)]) true v))) u)) u))) u)) (.bj (iS R l c0 l1 b2 v)))) (wp .i64 (n3+1)))) (decide (c0=l1.length))):=
  oE gp 0x20400b06910300a2101520400b310200a0150200a213211
theorem Db:lk gp (.bx 1 (kI (p9 R l) (Rm R)) Q) (nt R l c0 l1 c2 n3 l4)
 ((fun (j:Bool)=>((fun (v:Int)=>((fun (u:D)=>(.ite (decide (n3<(R.th.length:Int))) (.gd (cP n3 R.th.length) (.gd (decide (n3.toNat<R.th.length)) (.gd (decide (c0=l1.length)) (.call gz [(D.r l1),u] fun d0=>(.ite d0.bool (.gd (j&&(aO 8 (c2+1))) (.bj (nt R l c0 l1 (c2+1) v (l4++[u])))) (.bj (nt R l c0 l1 c2 v l4))))))) (.gd j (.aS (.tuple [(.bw aA (D.r l4).ae),(.int .i64 0)]) (Rm R))))) (D.z ((D.at R.th n3.toNat).aa 0).int))) (wp .i64 (n3+1)))) (decide (c2=l4.length))):=
  oE gp 0x2211212121210350253211
def sK:cm:={f:=jB,rs:=[aW,aM],bx:=some 1,cz:=[(gz,[aW,aA],[ai])],bL:=[(cB,kI)],bJ:=[⟨jB,0,16441,[0,6,9,8],[(8,25)]⟩],Ry:=[some aW,none]}
@[simp] theorem acW:sK.f=jB/\sK.rs=[aW,aM]:=⟨rfl,rfl⟩
def nu (R:RS)(l l0:List D)(c1:Nat)(n2:Int)(l3:List D):au:=hdS jB 303 [(0,(.aP 0 0)),(6,(.bw aA l0)),(8,(.aZ 1 c1 true)),(9,(.int .i64 n2))] [(0,rrC R 2 3 4 5),(1,(.ak aA l3 true)),(2,(.ak af R.pa true)),(3,(.ak ai R.cu true)),(4,(.ak bF R.th true)),(5,(.ak af R.ma true))]
theorem S0:lh sK (AD R l) (Rm R) 1 sB Q
 (.aC cB [(.aP 0 0),(.bw br l)] (Rm R) 1 fun d0=>(.ite ((d0.aa 1).int !=(0:Int)) (.aS (.tuple [(.bw aA (D.r []).ae),(.int .i64 (d0.aa 1).int)]) (Rm R)) (.bj (nu R l (d0.aa 0).ae 0 0 [])))):=
  oH sK 0x211
theorem Dc:lk sK (.bx 1 (sB (AD R l) (Rm R)) Q) (nu R l l0 c1 n2 l3)
 ((fun (j:Bool)=>((fun (v:Int)=>((fun (u:D)=>(.ite (decide (n2<(R.th.length:Int))) (.gd (cP n2 R.th.length) (.gd (decide (n2.toNat<R.th.length)) (.call gz [(D.r l0),u] fun d0=>(.ite (! d0.bool) (.gd (j&&(aO 8 (c1+1))) (.bj (nu R l l0 (c1+1) v (l3++[u])))) (.bj (nu R l l0 c1 v l3)))))) (.gd j (.aS (.tuple [(.bw aA (D.r l3).ae),(.int .i64 0)]) (Rm R))))) (D.z ((D.at R.th n2.toNat).aa 0).int))) (wp .i64 (n2+1)))) (decide (c1=l3.length))):=
  oE sK 0x22112121210250153211
end
end Go.Proofs
end
