import Derived.Test.YtemiekpfokoplaaGreatM9
set_option linter.all false
noncomputable section
open Go.IntKind renaming wrap→wp
set_option maxHeartbeats 8000000
namespace Go.Proofs
open Go Go.PB
section
variable {s s1:List UInt8} {Q:D->Prop} {n0 n3:Int} {c2:Nat} {l4:List D}
def oK:cw:={f:=bU,rs:=[ah],bu:=some 1}
@[simp] theorem SY:oK.f=bU/\oK.rs=[ah]:=⟨rfl,rfl⟩
theorem Ie:lh oK (As s) (Aw s) 1 iB Q
 ((fun (u:Bool)=>(.ite (decide ((4:Int)>(s.length:Int))) .bq (.gd ((decide ((0:Nat)<=(4:Nat)))&&u) (.gd (u&&(decide (s.length<=s.length))) (.gd (dy 0 (List.drop 0 (List.take 4 s)).length) (.gd (dy 1 (List.drop 0 (List.take 4 s)).length) (.gd (dy 2 (List.drop 0 (List.take 4 s)).length) (.gd (dy 3 (List.drop 0 (List.take 4 s)).length) (.aL (.int .i64 (wp .i64 ((BitVec.toNat ((BitVec.ofInt 64 (wp .i64 ((BitVec.toNat ((BitVec.ofInt 64 (wp .i64 ((BitVec.toNat ((BitVec.ofInt 64 (wp .i64 ((wp .i64 ((UInt8.toNat (List.getD (List.drop 0 (List.take 4 s)) 0 0)):Int))*16777216))) ||| (BitVec.ofInt 64 (wp .i64 ((wp .i64 ((UInt8.toNat (List.getD (List.drop 0 (List.take 4 s)) 1 0)):Int))*65536))))):Int))) ||| (BitVec.ofInt 64 (wp .i64 ((wp .i64 ((UInt8.toNat (List.getD (List.drop 0 (List.take 4 s)) 2 0)):Int))*256))))):Int))) ||| (BitVec.ofInt 64 (wp .i64 ((UInt8.toNat (List.getD (List.drop 0 (List.take 4 s)) 3 0)):Int))))):Int))) [(0,(.cells [(.bj (List.drop 4 (List.take s.length s)))] bd false))]))))))))) (decide ((4:Nat)<=s.length))):=
  oH oK 0x08923213212132132132111
def gS:cw:={f:=fq,rs:=[jU],bu:=some 1,bD:=[(bU,iB)],bK:=[⟨fq,0,16412,[2,21,22,8],[(8,bY)]⟩]}
@[simp] theorem R1:gS.f=fq/\gS.rs=[jU]:=⟨rfl,rfl⟩
def mQ (s:List UInt8)(n0:Int)(s1:List UInt8)(c2:Nat)(n3:Int)(l4:List D):av:=hdS fq 303 [(2,(.func (.func wE) [(.aG 0 0)] [])),(8,(.aV 1 c2 true)),(21,(.int .i64 n0)),(22,(.int .i64 n3))] [(0,(.cells [(.bj s1)] bd false)),(1,(.an bY l4 true))]
theorem GQ:lh gS (rF s) (rI s) 1 ng Q
 (.aq bU [(.aG 0 0)] [(0,(.cells [(.bj s)] bd false))] 1 fun d0=>(.ite (decide ((d0.ae 0).int>(wp .i64 (Int.tdiv ((d0.ae 1).bj.length:Int) 4)))) .bq (.bE (mQ s (d0.ae 0).int (d0.ae 1).bj 0 0 [])))):=
  oH gS 0x3211
theorem BZ:lk gS (.bu 1 (ng (rF s) (rI s)) Q) (mQ s n0 s1 c2 n3 l4)
 ((fun (u:ax)=>(.ite (decide (n3<n0)) (.aq bU [(.aG 0 0)] [(0,u)] 1 fun d0=>(.gd ((decide (c2=l4.length))&&(bg 8 (c2+1))) (.bE (mQ s n0 (d0.ae 1).bj (c2+1) (wp .i64 (n3+1)) (l4++[(D.z (d0.ae 0).int)]))))) (.aL (.aV 1 c2 true) [(0,u),(1,(.an bY l4 true))]))) (.cells [(.bj s1)] bd false)):=
  oE gS 0x213211
def iE:cw:={f:=dQ,rs:=[oy],bu:=some 1,bD:=[(bU,iB)],bK:=[⟨dQ,0,16412,[2,21,22,8],[(8,ah)]⟩]}
@[simp] theorem S0:iE.f=dQ/\iE.rs=[oy]:=⟨rfl,rfl⟩
def nU (s:List UInt8)(n0:Int)(s1:List UInt8)(c2:Nat)(n3:Int)(l4:List D):av:=hdS dQ 303 [(2,(.func (.func bU) [(.aG 0 0)] [])),(8,(.aV 1 c2 true)),(21,(.int .i64 n0)),(22,(.int .i64 n3))] [(0,(.cells [(.bj s1)] bd false)),(1,(.an ah l4 true))]
theorem AH:lh iE (oB s) (oC s) 1 kH Q
 (.aq bU [(.aG 0 0)] [(0,(.cells [(.bj s)] bd false))] 1 fun d0=>(.ite (decide ((d0.ae 0).int>(wp .i64 (Int.tdiv ((d0.ae 1).bj.length:Int) 4)))) .bq (.bE (nU s (d0.ae 0).int (d0.ae 1).bj 0 0 [])))):=
  oH iE 0x3211
theorem nW:lk iE (.bu 1 (kH (oB s) (oC s)) Q) (nU s n0 s1 c2 n3 l4)
 ((fun (u:ax)=>(.ite (decide (n3<n0)) (.aq bU [(.aG 0 0)] [(0,u)] 1 fun d0=>(.gd ((decide (c2=l4.length))&&(bg 8 (c2+1))) (.bE (nU s n0 (d0.ae 1).bj (c2+1) (wp .i64 (n3+1)) (l4++[(D.z (d0.ae 0).int)]))))) (.aL (.aV 1 c2 true) [(0,u),(1,(.an ah l4 true))]))) (.cells [(.bj s1)] bd false)):=
  oE iE 0x213211
def gb:cw:={f:=eM,rs:=[CS],bu:=some 1,bD:=[(bU,iB),(kK,HW)],bK:=[⟨eM,0,16412,[2,21,22,8],[(8,bQ)]⟩]}
@[simp] theorem P4:gb.f=eM/\gb.rs=[CS]:=⟨rfl,rfl⟩
def lG (s:List UInt8)(n0:Int)(s1:List UInt8)(c2:Nat)(n3:Int)(l4:List D):av:=hdS eM 303 [(2,(.func (.func kK) [(.aG 0 0)] [])),(8,(.aV 1 c2 true)),(21,(.int .i64 n0)),(22,(.int .i64 n3))] [(0,(.cells [(.bj s1)] bd false)),(1,(.an bQ l4 true))]
theorem FH:lh gb (qb s) (qf s) 1 me Q
 (.aq bU [(.aG 0 0)] [(0,(.cells [(.bj s)] bd false))] 1 fun d0=>(.ite (decide ((d0.ae 0).int>(wp .i64 (Int.tdiv ((d0.ae 1).bj.length:Int) 5)))) .bq (.bE (lG s (d0.ae 0).int (d0.ae 1).bj 0 0 [])))):=
  oH gb 0x3211
theorem A1:lk gb (.bu 1 (me (qb s) (qf s)) Q) (lG s n0 s1 c2 n3 l4)
 ((fun (u:ax)=>(.ite (decide (n3<n0)) (.aq kK [(.aG 0 0)] [(0,u)] 1 fun d0=>(.gd ((decide (c2=l4.length))&&(bg 200 (c2+1))) (.bE (lG s n0 (d0.ae 1).bj (c2+1) (wp .i64 (n3+1)) (l4++[(ct pg bQ (d0.ae 0))]))))) (.aL (.aV 1 c2 true) [(0,u),(1,(.an bQ l4 true))]))) (.cells [(.bj s1)] bd false)):=
  oE gb 0x213211
end
section
variable {s:List UInt8} {Q:D->Prop}
def oL:cw:={f:=kL,rs:=[bF],bu:=some 1,bD:=[(bU,iB),(fq,ng),(dQ,kH),(eM,me)],Tg:=[(bF,0,jU),(bF,1,oy),(bF,2,CS),(bF,4,oy)]}
@[simp] theorem SZ:oL.f=kL/\oL.rs=[bF]:=⟨rfl,rfl⟩
theorem Ig:lh oL (Au s) (Ax s) 1 oG Q
 ((fun (u:BV)=>(.aq fq [(.aG 0 0),u,(.func (.func wE) [(.aG 0 0)] [])] [(0,(.cells [(.bj s)] bd false))] 1 fun d0=>(.gd (decide ((d0.ae 0).aa.length=(d0.ae 0).aa.length)) (.aq dQ [(.aG 0 0),u,(.func (.func bU) [(.aG 0 0)] [])] [(0,(.cells [(.bj (d0.ae 1).bj)] bd false))] 1 fun d1=>(.gd (decide ((d1.ae 0).aa.length=(d1.ae 0).aa.length)) (.aq bU [(.aG 0 0)] [(0,(.cells [(.bj (d1.ae 1).bj)] bd false))] 1 fun d2=>(.aq dQ [(.aG 0 0),u,(.func (.func bU) [(.aG 0 0)] [])] [(0,(.cells [(.bj (d2.ae 1).bj)] bd false))] 1 fun d3=>(.gd (decide ((d3.ae 0).aa.length=(d3.ae 0).aa.length)) (.aq eM [(.aG 0 0),(.int .i64 5),(.func (.func kK) [(.aG 0 0)] [])] [(0,(.cells [(.bj (d3.ae 1).bj)] bd false))] 1 fun d4=>(.gd (decide ((d4.ae 0).aa.length=(d4.ae 0).aa.length)) (.aL (.agg [(.bC bY (D.r (d0.ae 0).aa).aa),(.bC ah (D.r (d1.ae 0).aa).aa),(.bC bQ (D.r (d4.ae 0).aa).aa),(.int .i64 (d2.ae 0).int),(.bC ah (D.r (d3.ae 0).aa).aa)]) [(0,(.cells [(.bj (d4.ae 1).bj)] bd false))]))))))))))) (.int .i64 4)):=
  oH oL 0x212121211
end
section
variable {a0 a1:D} {Q:D->Prop} {n0:Int} {l m:List D}
def nk:cw:={f:=kx,rs:=[aj],bK:=[⟨kx,0,16425,[1,0,12,13],[]⟩]}
@[simp] theorem Yk:nk.f=kx/\nk.rs=[aj]:=⟨rfl,rfl⟩
def ue (a0 a1:D)(n0:Int):av:=hdS kx 75 [(0,(.bC bY a0.aa)),(1,(.bC bY a1.aa)),(12,(.int .i64 (a0.aa.length:Int))),(13,(.int .i64 n0))] []
theorem Mw:lp nk [jU,jU] [a0,a1] Q
 (.ite ((a0.aa.length:Int)!=(a1.aa.length:Int)) (.ret (D.b false)) (.bE (ue a0 a1 0))):=
  oP nk 0x211
theorem Ii:lk nk (.kE Q) (ue a0 a1 n0)
 (.ite (decide (n0<(a0.aa.length:Int))) (.gd (dy n0 a0.aa.length) (.gd (dy n0 a1.aa.length) (.ite ((D.at a0.aa n0.toNat).int !=(D.at a1.aa n0.toNat).int) (.ret (D.b false)) (.bE (ue a0 a1 (wp .i64 (n0+1))))))) (.ret (D.b true))):=
  oE nk 0x212121211
def pB:cw:={f:=iS,rs:=[aj],bK:=[⟨iS,0,16425,[1,0,12,13],[]⟩]}
@[simp] theorem YT:pB.f=iS/\pB.rs=[aj]:=⟨rfl,rfl⟩
def qI (a0 a1:D)(n0:Int):av:=hdS iS 75 [(0,(.bC ah a0.aa)),(1,(.bC ah a1.aa)),(12,(.int .i64 (a0.aa.length:Int))),(13,(.int .i64 n0))] []
theorem On:lp pB [oy,oy] [a0,a1] Q
 (.ite ((a0.aa.length:Int)!=(a1.aa.length:Int)) (.ret (D.b false)) (.bE (qI a0 a1 0))):=
  oP pB 0x211
theorem BR:lk pB (.kE Q) (qI a0 a1 n0)
 (.ite (decide (n0<(a0.aa.length:Int))) (.gd (dy n0 a0.aa.length) (.gd (dy n0 a1.aa.length) (.ite ((D.at a0.aa n0.toNat).int !=(D.at a1.aa n0.toNat).int) (.ret (D.b false)) (.bE (qI a0 a1 (wp .i64 (n0+1))))))) (.ret (D.b true))):=
  oE pB 0x212121211
def fW:cw:={f:=eF,rs:=[aj],bu:=some 0,cK:=[(wG,[bQ,bQ],[aj])],bK:=[⟨eF,0,16433,[2,1,15,16,17],[]⟩]}
@[simp] theorem PY:fW.f=eF/\fW.rs=[aj]:=⟨rfl,rfl⟩
def mP (l m:List D)(n0:Int):av:=hdS eF 75 [(1,(.bC bQ m)),(2,(.func (.func wG) [] [])),(15,(.bC bQ l)),(16,(.int .i64 (l.length:Int))),(17,(.int .i64 n0))] []
theorem FA:lh fW (p7 l m) [] 0 lZ Q
 (.ite ((l.length:Int)!=(m.length:Int)) (.aL (.bool false) []) (.bE (mP l m 0))):=
  oH fW 0x211
theorem BQ:lk fW (.bu 0 (lZ (p7 l m) []) Q) (mP l m n0)
 (.ite (decide (n0<(l.length:Int))) (.gd (dy n0 l.length) (.gd (dy n0 m.length) (.call wG [(ct pg bQ (D.at l n0.toNat)),(ct pg bQ (D.at m n0.toNat))] fun d0=>(.ite (! d0.bool) (.aL (.bool false) []) (.bE (mP l m (wp .i64 (n0+1)))))))) (.aL (.bool true) [])):=
  oE fW 0x212121211
end
section
variable {Q:D->Prop}
def xo:cw:={f:=dg,rs:=[aj],bu:=some 0,cK:=[(ie,[bG],[q9]),(kx,[jU,jU],[aj]),(iS,[oy,oy],[aj])],bD:=[(qD,zE),(eI,nY),(ca,fC),(bM,dA),(ld,vJ),(pO,Ce),(ey,oc),(eF,lZ)],HZ:=[(qD,[some jU])]}
@[simp] theorem Y7:xo.f=dg/\xo.rs=[aj]:=⟨rfl,rfl⟩
theorem OE:lh xo (G7) (G8) 0 Bc Q
 ((fun (t:BV)=>((fun (q:ax)=>((fun (p:ax)=>((fun (k:ax)=>((fun (j:ax)=>((fun (v:ax)=>((fun (u:RT)=>(.aq qD [t] [] 0 fun d0=>(.gd d0.bool (.aq pO [(.aG 0 0)] [(0,v),(1,q),(2,p),(3,j),(4,k)] 3 fun d1=>(.aq ey [(.bj (d1.ae 0).bj)] [] 0 fun d2=>(.ite (d2.ae 0).bool .bq (.aq bM [(.aG 0 0),.bJ,(.func (.func de) [(.aG 0 0)] [])] [(0,(.cells [(.aV 1 9 true)] br false)),(1,(.an mn ([(D.z 112),(D.z 111),(D.z 115),(D.z 116),(D.z 101),(D.z 114),(D.z 110),(D.z 10)]++[(D.z 99)]) true))] 1 fun d12=>(.gd (decide (d12.aa.length<=d12.aa.length)) (.call ie [(D.s (bA (List.take d12.aa.length d12.aa)))] fun d13=>(.aq ca [(.aG 0 0),(.int .u64 d13.int)] (Lm d12.aa) 1 fun d14=>(.ite (decide ((d14.aa.length:Int)>(67108864:Int))) .bq (.gd (decide (d14.aa.length<=d14.aa.length)) (.aq ey [(.bj (bA (List.take d14.aa.length d14.aa)))] [] 0 fun d30=>(.ite (d30.ae 0).bool (.aq ld [.gT] [] 0 fun d31=>(.ite (((d1.ae 0).bj.length:Int)==(41:Int)) (.ite ((d1.ae 1).int==(0:Int)) (.aq eI [(.aG 0 0)] (Wm (WS.mk ((d2.ae 2).ae 0).aa ((d2.ae 2).ae 1).aa (gu ((d2.ae 2).ae 2)) (hG ((d2.ae 2).ae 3)) (hC ((d2.ae 2).ae 4)) (gu ((d2.ae 2).ae 5)) (hG ((d2.ae 2).ae 6)) (hC ((d2.ae 2).ae 7)) ((d2.ae 2).ae 8).int ((d2.ae 2).ae 9).aa)) 3 fun d32=>(.aq eI [(.aG 0 0)] [(0,v),(1,q),(2,p),(3,j),(4,k)] 3 fun d33=>(.call kx [(D.r (d32.ae 0).aa),(D.r (d33.ae 0).aa)] fun d34=>(.ite d34.bool (.call iS [(D.r (d32.ae 1).aa),(D.r (d33.ae 1).aa)] fun d35=>(.ite d35.bool (.ite ((d32.ae 3).int==(d33.ae 3).int) (.call iS [(D.r (d32.ae 4).aa),(D.r (d33.ae 4).aa)] fun d36=>(.ite d36.bool (.aq eF [(.bC bQ (d32.ae 2).aa),(.bC bQ (d33.ae 2).aa),(.func (.func wG) [] [])] [] 0 fun d37=>(.ite d37.bool (.ite (((bA (List.take d14.aa.length d14.aa)).length:Int)==(21:Int)) (.gd (dy 8 (bA (List.take d14.aa.length d14.aa)).length) (.ite (((UInt8.toNat (List.getD (bA (List.take d14.aa.length d14.aa)) 8 0)):Int)==(99:Int)) (.ite ((d30.ae 1).int==(270:Int)) (.ite ((d31.ae 1).int==(1:Int)) (.call ie [(D.s [])] fun d38=>(.ite (d38.int==(14695981039346656037:Int)) (.call ie [(D.s [({toBitVec:=97#8})])] fun d39=>(.aL (.bool (d39.int==(12638187200555641996:Int))) [])) u)) u) u) u)) u) u)) u)) u) u)) u)))) u) u)) .bq)))))))))))))) (.aL (.bool false) []))) (.cells [t,(.aV 3 1 true),(.map 1),(.map 2),(.int .i64 0),(.aV 4 1 true)] aU false))) (.an aj (List.replicate 1 (D.b false)) true))) (.an ah (List.replicate 1 (D.z 0)) true))) (.bo aM (.data bh) [] [] 0))) (.bo bh (.cp 1 aO) [] [] 0))) (.bC bY (D.r []).aa)):=
  oD xo 0x212079212212120200b1e910200a20300b1a910200a10920500b1290151a910500a20500b0c90251a910500a20500b0690351a910500a20500b0451a910500a04520200b17910200a04920300b0f91005210201a20200b0c910200a03920200b06910200a20200b03910200a20200b10200a111 (.wV (.wV .LZ (.wV (.wV .LZ (.wV (.wV .all .LZ) .all)) .all)) .LZ)
end
section
variable {Q:D->Prop}
def uZ:cw:={f:=Fb,rs:=[bG,aX],bu:=some 0}
@[simp] theorem Ym:uZ.f=Fb/\uZ.rs=[bG,aX]:=⟨rfl,rfl⟩
theorem My:lh uZ (Eo) (Ew) 0 Lz Q
 (.aL (.tuple [(.bj []),(.int .i64 1)]) []):=
  oH uZ 0x0891
end
section
variable {a0:D} {Q:D->Prop} {n0:Int}
def vX:cw:={f:=pR,rs:=[aj],cK:=[(jM,[aO],[aj])],bK:=[⟨pR,0,16425,[1,3],[]⟩]}
@[simp] theorem abX:vX.f=pR/\vX.rs=[aj]:=⟨rfl,rfl⟩
def vw (a0:D)(n0:Int):av:=hdS pR 75 [(1,(.aG 0 0)),(3,(.int .i64 n0))] [(0,(.cells (aK pg bF a0) bF false))]
theorem T9:lp vX [bF] [a0] Q
 ((fun (u:RT)=>(.ite (decide (((a0.ae 2).aa.length:Int)>(120:Int))) u (.ite (decide (((a0.ae 0).aa.length:Int)>(40:Int))) u (.ite (decide (((a0.ae 1).aa.length:Int)>(40:Int))) u (.ite (decide (((a0.ae 4).aa.length:Int)>(40:Int))) u (.bE (vw a0 0))))))) (.ret (D.b false))):=
  oP vX 0x20400b20400b20400b2110400a310400a06910400a0b91
theorem FT:lk vX (.kE Q) (vw a0 n0)
 (.ite (decide (n0<((a0.ae 2).aa.length:Int))) (.gd (dy n0 (a0.ae 2).aa.length) (.call jM [(ct pg aO ((D.at (a0.ae 2).aa n0.toNat).ae 1))] fun d0=>(.ite (! d0.bool) (.ret (D.b false)) (.bE (vw a0 (wp .i64 (n0+1))))))) (.ret (D.b true))):=
  oE vX 0x2121211
def rS:cw:={f:=mH,rs:=[aj],cK:=[(jM,[aO],[aj])],bK:=[⟨mH,0,16438,[0,3],[]⟩]}
@[simp] theorem aaO:rS.f=mH/\rS.rs=[aj]:=⟨rfl,rfl⟩
def sC (a0:D)(n0:Int):av:=hdS mH 75 [(0,(.bC bZ a0.aa)),(3,(.int .i64 n0))] []
theorem QP:lp rS [cB] [a0] Q
 (.ite (decide ((a0.aa.length:Int)>(40:Int))) (.ret (D.b false)) (.bE (sC a0 0))):=
  oP rS 0x211
theorem Ds:lk rS (.kE Q) (sC a0 n0)
 ((fun (u:D)=>(.ite (decide (n0<(a0.aa.length:Int))) (.gd (dy n0 a0.aa.length) (.call jM [(D.r [(D.z 0),(D.z 0),(D.r [(D.z 0),(D.z 0),(D.s []),(D.r []),(D.z 0)]),(D.r []),(D.z 0),(D.z 0),(D.z 0),(D.z 0),(D.z 0),(D.b false),(D.r (u.ae 1).aa),(D.r (u.ae 2).aa)])] fun d0=>(.ite (! d0.bool) (.ret (D.b false)) (.ite (decide (((u.ae 3).aa.length:Int)>(300:Int))) (.ret (D.b false)) (.bE (sC a0 (wp .i64 (n0+1)))))))) (.ret (D.b true)))) (D.at a0.aa n0.toNat)):=
  oE rS 0x212100520200b0150500b2110700a31
end
section
variable {y:D} {l l2 l3:List D} {ni jj n4:Int} {Q:D->Prop} {c0 c1:Nat}
def gZ:cw:={f:=eK,rs:=[aj],bu:=some 0,cK:=[(pR,[bF],[aj]),(mH,[cB],[aj])],bD:=[(eO,iP),(cF,dG),(iT,qi),(xv,Cf),(ld,vJ),(pO,Ce),(tw,IV),(ey,oc),(dg,Bc)],bK:=[⟨eK,0,16480,[3,2,69,70,71],[]⟩]}
@[simp] theorem UX:gZ.f=eK/\gZ.rs=[aj]:=⟨rfl,rfl⟩
def cZ (y:D)(l:List D)(ni jj:Int)(c0 c1:Nat)(l2 l3:List D)(n4:Int):av:=hdS eK 2431 [(2,(.int .i64 ni)),(3,(.int .u8 jj)),(69,(.PE 0 2)),(70,(.int .i64 2)),(71,(.int .i64 n4))] [(0,(.cells [(.aV 1 c0 true),(.aV 2 c1 true)] Rr false)),(1,(.an mn l2 true)),(2,(.an mn l3 true))]
theorem JN:lh gZ (mu y l ni jj) [] 0 jB Q
 ((fun (v:BV)=>((fun (u:RT)=>(.call pR [(ct pg bF y)] fun d0=>(.ite (! d0.bool) (.aq dg [] [] 0 fun d1=>(.aL (.bool d1.bool) [])) (.aq cF [v] [] 0 fun d2=>(.ite (d2.ae 0).bool (.aq eO [v] [] 0 fun d3=>(.ite (d3.ae 0).bool (.call mH [(D.r l)] fun d4=>(.ite (! d4.bool) (.aq dg [] [] 0 fun d5=>(.aL (.bool d5.bool) [])) (.aq xv [(.aG 0 0),(.bC bZ l)] (Wm (WS.mk (d3.ae 1).aa (d3.ae 2).aa (gu (d3.ae 5)) (hG (d3.ae 6)) (hC (d3.ae 7)) (gu (d3.ae 8)) (hG (d3.ae 9)) (hC (d3.ae 10)) (d3.ae 3).int (d3.ae 4).aa)) 3 fun d6=>((fun (uv:D)=>((fun (uu:D)=>((fun (o:D)=>((fun (i:D)=>((fun (t:List Nat)=>((fun (q:List Nat)=>((fun (p:Nat)=>((fun (k:Nat)=>((fun (j:D)=>((fun (z:D)=>(.ite (d6.ae 0).bool (.ite ((jj:Int)==(0:Int)) (.aq dg [] [] 0 fun d7=>(.aL (.bool d7.bool) [])) (.aq ld [(.aG 0 0)] [(0,(.cells [(.aG 1 0),(.aG 2 0),(.bC bZ (d6.ae 4).aa),(.bC bZ (d6.ae 5).aa),.bJ] wT false)),(1,(.cells [(.bC bY ((d6.ae 2).ae 0).aa),(.aV 5 uv.aa.length true),(.map 3),(.map 4),(.int .i64 ((d6.ae 2).ae 8).int),(.aV 6 uu.aa.length true)] aU false)),(2,(.cells [(.bC bY o.aa),(.aV 9 j.aa.length true),(.map 7),(.map 8),(.int .i64 i.int),(.aV 10 z.aa.length true)] aU false)),(3,(.bo bh (.cp 3 aO) (gu ((d6.ae 2).ae 2)) (hG ((d6.ae 2).ae 3)) (hC ((d6.ae 2).ae 4)))),(4,(.bo aM (.data bh) (gu ((d6.ae 2).ae 5)) (hG ((d6.ae 2).ae 6)) (hC ((d6.ae 2).ae 7)))),(5,(.an aj uv.aa true)),(6,(.an ah uu.aa true)),(7,(.bo bh (.cp 7 aO) (gu ((d6.ae 3).ae 2)) t p)),(8,(.bo aM (.data bh) (gu ((d6.ae 3).ae 5)) q k)),(9,(.an aj j.aa true)),(10,(.an ah z.aa true))] 5 fun d8=>(.aq iT [(.aG 0 0)] (Wm (WS.mk o.aa j.aa (gu ((d6.ae 3).ae 2)) t p (gu ((d6.ae 3).ae 5)) q k i.int z.aa)) 3 fun d9=>(.aq pO [(.aG 0 0)] (Wm (WS.mk (d9.ae 0).aa (d9.ae 1).aa (gu (d9.ae 2)) (hG (d9.ae 3)) (hC (d9.ae 4)) (gu (d9.ae 5)) (hG (d9.ae 6)) (hC (d9.ae 7)) (d9.ae 8).int (d9.ae 9).aa)) 3 fun d10=>(.ite ((d8.ae 1).int==(4:Int)) (.aq dg [] [] 0 fun d11=>(.aL (.bool d11.bool) [])) (.ite ((d10.ae 1).int==(4:Int)) (.aq dg [] [] 0 fun d12=>(.aL (.bool d12.bool) [])) (.ite ((d8.ae 1).int !=(0:Int)) u (.ite ((d10.ae 1).int !=(0:Int)) u (.bE (cZ y l ni jj (d8.ae 0).bj.length (d10.ae 0).bj.length (cH (d8.ae 0).bj) (cH (d10.ae 0).bj) 0)))))))))) (.ite ((d6.ae 1).int !=(0:Int)) (.aq dg [] [] 0 fun d13=>(.aL (.bool d13.bool) [])) (.ite ((jj:Int)==(0:Int)) (.aq dg [] [] 0 fun d14=>(.aL (.bool d14.bool) [])) (.aq ld [.gT] [] 0 fun d15=>(.aq pO [.gT] [] 0 fun d16=>(.ite ((d15.ae 1).int==(4:Int)) (.aq dg [] [] 0 fun d17=>(.aL (.bool d17.bool) [])) (.ite ((d16.ae 1).int==(4:Int)) (.aq dg [] [] 0 fun d18=>(.aL (.bool d18.bool) [])) (.ite ((d15.ae 1).int !=(0:Int)) u (.ite ((d16.ae 1).int !=(0:Int)) u (.bE (cZ y l ni jj (d15.ae 0).bj.length (d16.ae 0).bj.length (cH (d15.ae 0).bj) (cH (d16.ae 0).bj) 0)))))))))))) ((d6.ae 3).ae 9))) ((d6.ae 3).ae 1))) (hC ((d6.ae 3).ae 7)))) (hC ((d6.ae 3).ae 4)))) (hG ((d6.ae 3).ae 6)))) (hG ((d6.ae 3).ae 3)))) ((d6.ae 3).ae 8))) ((d6.ae 3).ae 0))) ((d6.ae 2).ae 9))) ((d6.ae 2).ae 1))))) u)) (.aq eO [v] [] 0 fun d19=>(.ite (d19.ae 0).bool u (.aq dg [] [] 0 fun d20=>(.aL (.bool d20.bool) []))))))))) (.aL (.bool false) []))) (.agg (aK pg bF y))):=
  oH gZ 0x22213911291212910c9222039207920200b220200b2110200a3110200a3102910691049207920200b220200b2110200a3110200a31029106910b91
theorem nV:lk gZ (.bu 0 (jB (mu y l ni jj) []) Q) (cZ y l ni jj c0 c1 l2 l3 n4)
 ((fun (uq:Int)=>((fun (up:Int)=>((fun (uk:Int)=>((fun (uv:RT)=>((fun (uu:Int)=>((fun (o:Int)=>((fun (q:Int)=>((fun (p:Int)=>((fun (k:D)=>((fun (uz:BV)=>((fun (i:RT)=>((fun (j:D)=>((fun (uj:BV)=>((fun (t:RT)=>(.ite (decide (n4<(2:Int))) (.ite (n4==(0:Int)) (.gd (decide ((c0:Int)≠(0:Int))) (.gd (dy (if (q>uu)then q else (Int.tmod ni (c0:Int))) c0) (.gd (decide ((if (q>uu)then q else (Int.tmod ni (c0:Int))).toNat<l2.length)) (.gd (decide (c0<=(List.set l2 (if (q>uu)then q else (Int.tmod ni (c0:Int))).toNat k).length)) (.aq tw [uz] [] 0 fun d0=>(.aq ey [uz] [] 0 fun d1=>((fun (v:RT)=>(.ite (d1.ae 0).bool (.ite (d0.int !=up) (.ite (d0.int !=uk) uv v) v) uv)) (.ite ((d1.ae 1).int !=up) (.ite ((d1.ae 1).int !=uk) uv i) i)))))))) (.gd (n4==(1:Int)) (.gd (decide ((c1:Int)≠(0:Int))) (.gd (dy (if (p>o)then p else (Int.tmod ni (c1:Int))) c1) (.gd (decide ((if (p>o)then p else (Int.tmod ni (c1:Int))).toNat<l3.length)) (.gd (decide (c1<=(List.set l3 (if (p>o)then p else (Int.tmod ni (c1:Int))).toNat j).length)) (.aq tw [uj] [] 0 fun d2=>(.aq ey [uj] [] 0 fun d3=>((fun (u:RT)=>(.ite (d3.ae 0).bool (.ite (d2.int !=up) (.ite (d2.int !=uk) uv u) u) uv)) (.ite ((d3.ae 1).int !=up) (.ite ((d3.ae 1).int !=uk) uv t) t)))))))))) (.aq dg [] [] 0 fun d4=>(.aL (.bool d4.bool) [])))) (.bE (cZ y l ni jj c0 c1 l2 (List.set l3 (if (p>o)then p else (Int.tmod ni (c1:Int))).toNat j) uq)))) (.bj (bA (List.take c1 (List.set l3 (if (p>o)then p else (Int.tmod ni (c1:Int))).toNat j)))))) (D.z (wp .u8 ((BitVec.toNat ((BitVec.ofInt 8 (D.at l3 (if (p>o)then p else (Int.tmod ni (c1:Int))).toNat).int) ^^^ (BitVec.ofInt 8 jj))):Int))))) (.bE (cZ y l ni jj c0 c1 (List.set l2 (if (q>uu)then q else (Int.tmod ni (c0:Int))).toNat k) l3 uq)))) (.bj (bA (List.take c0 (List.set l2 (if (q>uu)then q else (Int.tmod ni (c0:Int))).toNat k)))))) (D.z (wp .u8 ((BitVec.toNat ((BitVec.ofInt 8 (D.at l2 (if (q>uu)then q else (Int.tmod ni (c0:Int))).toNat).int) ^^^ (BitVec.ofInt 8 jj))):Int))))) (wp .i64 (0-(Int.tmod ni (c1:Int)))))) (wp .i64 (0-(Int.tmod ni (c0:Int)))))) ((Int.tmod ni (c1:Int)):Int))) ((Int.tmod ni (c0:Int)):Int))) (.aL (.bool false) []))) (271:Int))) (270:Int))) (wp .i64 (n4+1))):=
  oE gZ 0x212212121210150052100520e9106920063006049200630060291005300532110053005320200b2006016006016310050160050162110400a312121210150052100520e9106920063006049200630060291005300532110053005320200b2006016006016310050160050162110400a31
end
end Go.Proofs
end
