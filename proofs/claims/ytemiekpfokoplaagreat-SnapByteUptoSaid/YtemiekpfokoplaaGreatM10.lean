import Derived.Test.YtemiekpfokoplaaGreatM9
set_option linter.all false
noncomputable section
open Go.IntKind renaming wrap→wp
set_option maxHeartbeats 8000000
namespace Go.Proofs
open Go Go.PB
section
variable {a0 a1:D} {Q:D->Prop} {n0 n1:Int} {c0:Nat} {l2 l0:List D}
def vT:cw:={f:=fp,rs:=[ah],cK:=[(fp,[bB],[ah])],bK:=[⟨fp,0,16462,[0,4,3],[]⟩]}
@[simp] theorem abS:vT.f=fp/\vT.rs=[ah]:=⟨rfl,rfl⟩
def nE (a0:D)(n0 n1:Int):av:=hdS fp 75 [(0,(.bC aT a0.aa)),(3,(.int .i64 n0)),(4,(.int .i64 n1))] []
theorem T4:lp vT [bB] [a0] Q
 (.bE (nE a0 0 0)):=
  oP vT 0x1
theorem FP:lk vT (.kE Q) (nE a0 n0 n1)
 ((fun (p:Int)=>((fun (k:D)=>((fun (j:Int)=>(.ite (decide (n1<(a0.aa.length:Int))) (.ite (decide (n0<=p)) (.gd (dy n1 a0.aa.length) (.call fp [(D.r (k.ae 7).aa)] fun d0=>((fun (v:Int)=>(.ite (decide (v<=p)) (.call fp [(D.r (k.ae 8).aa)] fun d1=>((fun (u:Int)=>(.ite (decide (u<=p)) (.call fp [(D.r (k.ae 9).aa)] fun d2=>(.bE (nE a0 (wp .i64 (u+d2.int)) j))) (.bE (nE a0 u j)))) (wp .i64 (v+d1.int)))) (.bE (nE a0 v j)))) (wp .i64 ((wp .i64 (n0+1))+d0.int))))) (.ret (D.z n0))) (.ret (D.z n0)))) (wp .i64 (n1+1)))) (D.at a0.aa n1.toNat))) (512:Int)):=
  oE vT 0x20200b310200a212120061015210251
def jI:cw:={f:=dK,rs:=[ah],cK:=[(dK,[aE,ah],[ah])],bK:=[⟨dK,0,16426,[1,2,6,5],[]⟩]}
@[simp] theorem UZ:jI.f=dK/\jI.rs=[ah]:=⟨rfl,rfl⟩
def kB (a0 a1:D)(n0 n1:Int):av:=hdS dK 151 [(1,(.int .i64 a1.int)),(2,(.aG 0 0)),(5,(.int .i64 n0)),(6,(.int .i64 n1))] [(0,(.cells (aK pg aE a0) aE false))]
theorem JP:lp jI [aE,ah] [a0,a1] Q
 (.ite (decide (a1.int>(16:Int))) (.ret (D.z 513)) (.bE (kB a0 a1 1 0))):=
  oP jI 0x211
theorem wN:lk jI (.kE Q) (kB a0 a1 n0 n1)
 (.ite (decide (n1<((a0.ae 3).aa.length:Int))) (.ite (decide (n0<=(512:Int))) (.gd (dy n1 (a0.ae 3).aa.length) (.call dK [(ct pg aE (D.at (a0.ae 3).aa n1.toNat)),(D.z (wp .i64 (a1.int+1)))] fun d0=>(.bE (kB a0 a1 (wp .i64 (n0+d0.int)) (wp .i64 (n1+1)))))) (.ret (D.z n0))) (.ret (D.z n0))):=
  oE jI 0x20200b310200a21211
def kV:cw:={f:=ez,rs:=[ah],cK:=[(ez,[aE],[ah])],bK:=[⟨ez,0,16421,[1,4,3],[]⟩]}
@[simp] theorem VE:kV.f=ez/\kV.rs=[ah]:=⟨rfl,rfl⟩
def mi (a0:D)(n0 n1:Int):av:=hdS ez 151 [(1,(.aG 0 0)),(3,(.int .i64 n0)),(4,(.int .i64 n1))] [(0,(.cells (aK pg aE a0) aE false))]
theorem Kx:lp kV [aE] [a0] Q
 ((fun (u:RT)=>(.ite ((wp .i64 (a0.ae 0).int)!=(3:Int)) (.ite (((a0.ae 3).aa.length:Int)==(0:Int)) (.ret (D.z 0)) u) u)) (.bE (mi a0 0 0))):=
  oP kV 0x20400b310400a211
theorem xK:lk kV (.kE Q) (mi a0 n0 n1)
 (.ite (decide (n1<((a0.ae 3).aa.length:Int))) (.gd (dy n1 (a0.ae 3).aa.length) (.call ez [(ct pg aE (D.at (a0.ae 3).aa n1.toNat))] fun d0=>(.bE (mi a0 (if (d0.int>n0)then d0.int else n0) (wp .i64 (n1+1)))))) (.ret (D.z (wp .i64 (n0+1))))):=
  oE kV 0x21211
def sy:cw:={f:=ll,rs:=[aj],cK:=[(dK,[aE,ah],[ah]),(ez,[aE],[ah])]}
@[simp] theorem VF:sy.f=ll/\sy.rs=[aj]:=⟨rfl,rfl⟩
theorem Ky:lp sy [aE] [a0] Q
 (.call dK [(ct pg aE a0),(D.z 0)] fun d0=>(.ite (decide (d0.int<=(512:Int))) (.call ez [(ct pg aE a0)] fun d1=>(.ret (D.b (decide (d1.int<=(16:Int)))))) (.ret (D.b false)))):=
  oP sy 0x20300b10300a1
def kU:cw:={f:=cm,rs:=[aj],cK:=[(ll,[aE],[aj]),(cm,[bB],[aj])],bK:=[⟨cm,0,16468,[0,3],[]⟩]}
@[simp] theorem VD:kU.f=cm/\kU.rs=[aj]:=⟨rfl,rfl⟩
def nF (a0:D)(n0:Int):av:=hdS cm 37 [(0,(.bC aT a0.aa)),(3,(.int .i64 n0))] []
theorem Kw:lp kU [bB] [a0] Q
 (.bE (nF a0 0)):=
  oP kU 0x1
theorem zl:lk kU (.kE Q) (nF a0 n0)
 ((fun (v:RT)=>((fun (u:D)=>(.ite (decide (n0<(a0.aa.length:Int))) (.gd (dy n0 a0.aa.length) (.ite (decide (((u.ae 10).aa.length:Int)>(64:Int))) v (.call ll [(ct pg aE (u.ae 5))] fun d0=>(.ite (! d0.bool) v (.call ll [(ct pg aE (u.ae 6))] fun d1=>(.ite (! d1.bool) v (.call cm [(D.r (u.ae 7).aa)] fun d2=>(.ite (! d2.bool) v (.call cm [(D.r (u.ae 8).aa)] fun d3=>(.ite (! d3.bool) v (.call cm [(D.r (u.ae 9).aa)] fun d4=>(.ite (! d4.bool) v (.bE (nF a0 (wp .i64 (n0+1)))))))))))))))) (.ret (D.b true)))) (D.at a0.aa n0.toNat))) (.ret (D.b false))):=
  oE kU 0x212120200b0150500b20200b0250500b20200b0350500b20200b0450500b20200b0550500b2110700a310700a09910700a11910700a19910700a2191
def pE:cw:={f:=gK,rs:=[eQ],bK:=[⟨gK,0,16421,[1,4,3],[]⟩]}
@[simp] theorem Y9:pE.f=gK/\pE.rs=[eQ]:=⟨rfl,rfl⟩
def oV (a0:D)(c0:Nat)(n1:Int)(l2:List D):av:=hdS gK 151 [(1,(.aG 0 0)),(3,(.aV 1 c0 true)),(4,(.int .i64 n1))] [(0,(.cells (aK pg aO a0) aO false)),(1,(.an ao l2 true))]
theorem OG:lp pE [aO] [a0] Q
 (.gd ((decide ((1:Nat)=(1:Nat)))&&(bg 64 (1+(a0.ae 3).aa.length))) (.bE (oV a0 (1+(a0.ae 3).aa.length) 0 ([(ct pg ao (a0.ae 2))]++(a0.ae 3).aa)))):=
  oP pE 0x211
theorem AN:lk pE (.kE Q) (oV a0 c0 n1 l2)
 ((fun (u:Bool)=>(.ite (decide (n1<((a0.ae 11).aa.length:Int))) (.gd (dy n1 (a0.ae 11).aa.length) (.gd (u&&(bg 64 (c0+1))) (.bE (oV a0 (c0+1) (wp .i64 (n1+1)) (l2++[(ct pg ao ((D.at (a0.ae 11).aa n1.toNat).ae 1))]))))) (.gd u (.ret (D.r l2))))) (decide (c0=l2.length))):=
  oE pE 0x2211213211
def vW:cw:={f:=ln,rs:=[dS],cK:=[(ln,[ao],[dS])],bK:=[⟨ln,0,16420,[1,4,3],[(3,bh)]⟩]}
@[simp] theorem abW:vW.f=ln/\vW.rs=[dS]:=⟨rfl,rfl⟩
def sJ (a0:D)(c0:Nat)(n1:Int)(l2:List D):av:=hdS ln 151 [(1,(.aG 0 0)),(3,(.aV 1 c0 true)),(4,(.int .i64 n1))] [(0,(.cells (aK pg ao a0) ao false)),(1,(.an bh l2 true))]
theorem T8:lp vW [ao] [a0] Q
 (.ite ((a0.ae 0).int==(4:Int)) (.ret (D.r [(D.z (a0.ae 4).int)])) (.bE (sJ a0 0 0 []))):=
  oP vW 0x2131
theorem Dz:lk vW (.kE Q) (sJ a0 c0 n1 l2)
 ((fun (u:Bool)=>(.ite (decide (n1<((a0.ae 3).aa.length:Int))) (.gd (dy n1 (a0.ae 3).aa.length) (.call ln [(ct pg ao (D.at (a0.ae 3).aa n1.toNat))] fun d0=>(.gd (u&&(bg 8 (c0+d0.aa.length))) (.bE (sJ a0 (c0+d0.aa.length) (wp .i64 (n1+1)) (l2++d0.aa)))))) (.gd u (.ret (D.r l2))))) (decide (c0=l2.length))):=
  oE vW 0x221121211
def vR:cw:={f:=jM,rs:=[aj],cK:=[(kM,[ao],[aj]),(fp,[bB],[ah]),(cm,[bB],[aj]),(gK,[aO],[eQ])],bK:=[⟨jM,0,16422,[3,4],[]⟩]}
@[simp] theorem abO:vR.f=jM/\vR.rs=[aj]:=⟨rfl,rfl⟩
def sE (a0:D)(l0:List D)(n1:Int):av:=hdS jM 151 [(3,(.bC ao l0)),(4,(.int .i64 n1))] []
theorem T1:lp vR [aO] [a0] Q
 ((fun (v:D)=>((fun (u:RT)=>(.ite (decide (((a0.ae 3).aa.length:Int)>(1024:Int))) u (.ite (decide (((a0.ae 11).aa.length:Int)>(128:Int))) u (.call fp [v] fun d0=>(.ite (decide (d0.int>(512:Int))) u (.call cm [v] fun d1=>(.ite (! d1.bool) u (.call gK [(ct pg aO a0)] fun d2=>(.bE (sE a0 d2.aa 0)))))))))) (.ret (D.b false)))) (D.r (a0.ae 10).aa)):=
  oP vR 0x20400b20400b20400b2110400a310400a06910400a0b91
theorem Du:lk vR (.kE Q) (sE a0 l0 n1)
 (.ite (decide (n1<(l0.length:Int))) (.gd (dy n1 l0.length) (.call kM [(ct pg ao (D.at l0 n1.toNat))] fun d0=>(.ite (! d0.bool) (.ret (D.b false)) (.bE (sE a0 l0 (wp .i64 (n1+1))))))) (.ret (D.b true))):=
  oE vR 0x2121211
end
section
variable {a0 a1:D} {Q:D->Prop} {n0 n1:Int}
def rT:cw:={f:=jn,rs:=[ah],cK:=[(jn,[ao,ah],[ah])],bK:=[⟨jn,0,16426,[1,2,6,5],[]⟩]}
@[simp] theorem aaQ:rT.f=jn/\rT.rs=[ah]:=⟨rfl,rfl⟩
def qQ (a0 a1:D)(n0 n1:Int):av:=hdS jn 151 [(1,(.int .i64 a1.int)),(2,(.aG 0 0)),(5,(.int .i64 n0)),(6,(.int .i64 n1))] [(0,(.cells (aK pg ao a0) ao false))]
theorem QR:lp rT [ao,ah] [a0,a1] Q
 (.ite (decide (a1.int>(16:Int))) (.ite ((wp .i64 (a0.ae 0).int)==(3:Int)) (.ret (D.z 513)) (.ret (D.z 513))) (.bE (qQ a0 a1 1 0))):=
  oP rT 0x20400b03900610400a20200b01510200a31
theorem BX:lk rT (.kE Q) (qQ a0 a1 n0 n1)
 (.ite (decide (n1<((a0.ae 3).aa.length:Int))) (.ite (decide (n0<=(512:Int))) (.gd (dy n1 (a0.ae 3).aa.length) (.call jn [(ct pg ao (D.at (a0.ae 3).aa n1.toNat)),(D.z (wp .i64 (a1.int+1)))] fun d0=>(.bE (qQ a0 a1 (wp .i64 (n0+d0.int)) (wp .i64 (n1+1)))))) (.ret (D.z n0))) (.ret (D.z n0))):=
  oE rT 0x20200b310200a21211
def vQ:cw:={f:=lj,rs:=[ah],cK:=[(lj,[ao],[ah])],bK:=[⟨lj,0,16421,[1,4,3],[]⟩]}
@[simp] theorem abN:vQ.f=lj/\vQ.rs=[ah]:=⟨rfl,rfl⟩
def sD (a0:D)(n0 n1:Int):av:=hdS lj 151 [(1,(.aG 0 0)),(3,(.int .i64 n0)),(4,(.int .i64 n1))] [(0,(.cells (aK pg ao a0) ao false))]
theorem T0:lp vQ [ao] [a0] Q
 (.ite ((wp .i64 (a0.ae 0).int)!=(3:Int)) (.ret (D.z 0)) (.bE (sD a0 0 0))):=
  oP vQ 0x211
theorem Dt:lk vQ (.kE Q) (sD a0 n0 n1)
 (.ite (decide (n1<((a0.ae 3).aa.length:Int))) (.gd (dy n1 (a0.ae 3).aa.length) (.call lj [(ct pg ao (D.at (a0.ae 3).aa n1.toNat))] fun d0=>(.bE (sD a0 (if (d0.int>n0)then d0.int else n0) (wp .i64 (n1+1)))))) (.ret (D.z (wp .i64 (n0+1))))):=
  oE vQ 0x21211
def pD:cw:={f:=gJ,rs:=[aj],cK:=[(gJ,[ao],[aj]),(wF,[ao],[aj])],bK:=[⟨gJ,0,16426,[1,3],[]⟩]}
@[simp] theorem Y8:pD.f=gJ/\pD.rs=[aj]:=⟨rfl,rfl⟩
def qP (a0:D)(n0:Int):av:=hdS gJ 37 [(1,(.aG 0 0)),(3,(.int .i64 n0))] [(0,(.cells (aK pg ao a0) ao false))]
theorem OF:lp pD [ao] [a0] Q
 (.bE (qP a0 0)):=
  oP pD 0x1
theorem BW:lk pD (.kE Q) (qP a0 n0)
 (.ite (decide (n0<((a0.ae 3).aa.length:Int))) (.gd (dy n0 (a0.ae 3).aa.length) (.call gJ [(ct pg ao (D.at (a0.ae 3).aa n0.toNat))] fun d0=>(.ite (! d0.bool) (.ret (D.b false)) (.bE (qP a0 (wp .i64 (n0+1))))))) (.call wF [(ct pg ao a0)] fun d1=>(.ret (D.b d1.bool)))):=
  oE pD 0x2121211
def zN:cw:={f:=wF,rs:=[aj]}
@[simp] theorem aaP:zN.f=wF/\zN.rs=[aj]:=⟨rfl,rfl⟩
theorem QQ:lp zN [ao] [a0] Q
 ((fun (k:RT)=>((fun (z:Int)=>((fun (v:RT)=>((fun (j:RT)=>((fun (u:RT)=>(.ite (z==(0:Int)) (.ite ((a0.ae 1).int==(0:Int)) u v) (.ite (z==(1:Int)) u (.ite (z==(2:Int)) (.ite ((a0.ae 1).int==(0:Int)) (.ite (decide (((a0.ae 2).bj.length:Int)<=(256:Int))) j v) v) (.ite (z==(3:Int)) (.ite ((a0.ae 1).int==(0:Int)) (.ite ((a0.ae 2).bj==[]) k v) v) (.ite (z==(4:Int)) (.ite ((a0.ae 1).int==(0:Int)) (.ite ((a0.ae 2).bj==[]) (.ite (((a0.ae 3).aa.length:Int)==(0:Int)) (.ret (D.b (decide ((a0.ae 4).int≥(1:Int))))) v) v) v) v)))))) (.ite ((a0.ae 2).bj==[]) j v))) (.ite (((a0.ae 3).aa.length:Int)==(0:Int)) k v))) (.ret (D.b false)))) (wp .i64 (a0.ae 0).int))) (.ret (D.b ((a0.ae 4).int==(0:Int))))):=
  oP zN 0x22222120300b09910300a20400b04910400a20300b10300a120300b04910300a20300b10300a120400b09910400a20400b04910400a20300b10300a120400b04910400a20300b10300a120300b09910300a20400b04910400a20300b10300a1
def ET:cw:={f:=kM,rs:=[aj],cK:=[(jn,[ao,ah],[ah]),(lj,[ao],[ah]),(gJ,[ao],[aj])]}
@[simp] theorem acS:ET.f=kM/\ET.rs=[aj]:=⟨rfl,rfl⟩
theorem Xg:lp ET [ao] [a0] Q
 (.call jn [(ct pg ao a0),(D.z 0)] fun d0=>(.ite (decide (d0.int<=(512:Int))) (.call lj [(ct pg ao a0)] fun d1=>(.ite (decide (d1.int<=(16:Int))) (.call gJ [(ct pg ao a0)] fun d2=>(.ret (D.b d2.bool))) (.ret (D.b false)))) (.ret (D.b false)))):=
  oP ET 0x20300b03910300a20200b10200a1
def vP:cw:={f:=lg,rs:=[aj],cK:=[(lg,[ao,ao],[aj])],bK:=[⟨lg,0,16429,[3,2,5],[]⟩]}
@[simp] theorem abM:vP.f=lg/\vP.rs=[aj]:=⟨rfl,rfl⟩
def vm (a0 a1:D)(n0:Int):av:=hdS lg 75 [(2,(.aG 0 0)),(3,(.aG 1 0)),(5,(.int .i64 n0))] [(0,(.cells (aK pg ao a0) ao false)),(1,(.cells (aK pg ao a1) ao false))]
theorem TZ:lp vP [ao,ao] [a0,a1] Q
 ((fun (u:RT)=>(.ite ((a0.ae 0).int !=(a1.ae 0).int) u (.ite ((a0.ae 1).int !=(a1.ae 1).int) u (.ite (! ((a0.ae 2).bj==(a1.ae 2).bj)) u (.ite ((a0.ae 4).int !=(a1.ae 4).int) u (.ite (((a0.ae 3).aa.length:Int)!=((a1.ae 3).aa.length:Int)) u (.bE (vm a0 a1 0)))))))) (.ret (D.b false))):=
  oP vP 0x20500b20500b20500b20700b2110700a310500a09910500a0f910500a1591
theorem FM:lk vP (.kE Q) (vm a0 a1 n0)
 (.ite (decide (n0<((a0.ae 3).aa.length:Int))) (.gd (dy n0 (a0.ae 3).aa.length) (.gd (dy n0 (a1.ae 3).aa.length) (.call lg [(ct pg ao (D.at (a0.ae 3).aa n0.toNat)),(ct pg ao (D.at (a1.ae 3).aa n0.toNat))] fun d0=>(.ite (! d0.bool) (.ret (D.b false)) (.bE (vm a0 a1 (wp .i64 (n0+1)))))))) (.ret (D.b true))):=
  oE vP 0x212121211
end
section
variable {a0:D} {p q n0 n1 n2:Int} {Q:D->Prop} {l1 l pl zi:List D} {c c0:Nat}
def kn:cw:={f:=fF,rs:=[aj],bu:=some 1,bD:=[(fF,iO)],bK:=[⟨fF,0,24648,[0,66,5,67,68],[]⟩]}
@[simp] theorem Yv:kn.f=fF/\kn.rs=[aj]:=⟨rfl,rfl⟩
def ja (a0:D)(p q:Int)(n0 n1 n2:Int):av:=hdS fF 9895855 [(0,(.aG 0 0)),(5,(.aG 1 0)),(66,(.bC ao (a0.ae 3).aa)),(67,(.int .i64 ((a0.ae 3).aa.length:Int))),(68,(.int .i64 n0))] [(0,(.cells [(.int .i64 n1),(.int .i64 n2)] gM false)),(1,(.cells (aK pg ao a0) ao false))]
theorem MG:lh kn (uJ a0 p q) (uL a0 p q) 1 iO Q
 ((fun (t:Int)=>((fun (k:ax)=>((fun (j:RT)=>((fun (u:RT)=>((fun (z:RT)=>((fun (v:RT)=>(.ite ((p:Int)==(0:Int)) (.aL (.bool false) [(0,(.cells [(.int .i64 p),(.int .i64 q)] gM false))]) (.ite ((a0.ae 0).int==(0:Int)) (.ite ((a0.ae 1).int==(0:Int)) v u) (.ite ((a0.ae 0).int==(1:Int)) v (.ite ((a0.ae 0).int==(2:Int)) (.ite (decide (((a0.ae 2).bj.length:Int)>(256:Int))) u (.ite ((a0.ae 1).int==(0:Int)) z u)) (.ite ((a0.ae 0).int==(4:Int)) (.ite (decide ((a0.ae 4).int<(1:Int))) u (.ite ((a0.ae 1).int==(0:Int)) (.ite ((a0.ae 2).bj==[]) j u) u)) (.ite ((a0.ae 0).int==(3:Int)) (.ite ((q:Int)==(0:Int)) u (.ite (decide (((a0.ae 3).aa.length:Int)>t)) u (.bE (ja a0 p q 0 t (wp .i64 (q-1)))))) u))))))) (.ite ((a0.ae 2).bj==[]) z u))) (.ite ((a0.ae 4).int==(0:Int)) j u))) (.aL (.bool false) [(0,k)]))) (.aL (.bool (((a0.ae 3).aa.length:Int)==(0:Int))) [(0,k)]))) (.cells [(.int .i64 t),(.int .i64 q)] gM false))) (wp .i64 (p-1))):=
  oH kn 0x222222120800b2110800a31220300b09910300a20300b05910300a05911220300b09910300a04920400b10400a1104920300b05910300a20400b10400a120300b09910300a20300b05910300a20400b10400a11
theorem tO:lk kn (.bu 1 (iO (uJ a0 p q) (uL a0 p q)) Q) (ja a0 p q n0 n1 n2)
 ((fun (v:ax)=>((fun (u:RT)=>(.ite (decide (n0<((a0.ae 3).aa.length:Int))) (.gd (dy n0 (a0.ae 3).aa.length) (.aq fF [(.aG 0 0),(.agg (aK pg ao (D.at (a0.ae 3).aa n0.toNat)))] [(0,(.cells [(.int .i64 n1),(.int .i64 n2)] gM false))] 1 fun d0=>(.ite (! (d0.ae 0).bool) (.aL (.bool false) [(0,(.cells [(.int .i64 (d0.ae 1).int),(.int .i64 (d0.ae 2).int)] gM false))]) (.bE (ja a0 p q (wp .i64 (n0+1)) (d0.ae 1).int (d0.ae 2).int))))) (.ite ((a0.ae 1).int==(0:Int)) (.ite ((a0.ae 2).bj==[]) (.ite ((a0.ae 4).int==(0:Int)) (.aL (.bool true) [(0,v)]) u) u) u))) (.aL (.bool false) [(0,v)]))) (.cells [(.int .i64 n1),(.int .i64 (wp .i64 (n2+1)))] gM false)):=
  oE kn 0x220300b09910300a20300b05910300a20400b10400a121211
def xp:cw:={f:=tA,rs:=[ah],bD:=[(fF,iO)]}
@[simp] theorem Za:xp.f=tA/\xp.rs=[ah]:=⟨rfl,rfl⟩
theorem OH:lp xp [ao] [a0] Q
 (.aq fF [(.aG 0 0),(.agg (aK pg ao a0))] [(0,(.cells [(.int .i64 512),(.int .i64 16)] gM false))] 1 fun d0=>(.ite (! (d0.ae 0).bool) (.ret (D.z 0)) (.ret (D.z (wp .i64 (512-(d0.ae 1).int)))))):=
  oP xp 0x211
def Iz:cw:={f:=eN,rs:=[aj],cK:=[(tA,[ao],[ah])]}
@[simp] theorem ado:Iz.f=eN/\Iz.rs=[aj]:=⟨rfl,rfl⟩
theorem Z9:lp Iz [ao] [a0] Q
 (.call tA [(ct pg ao a0)] fun d0=>(.ret (D.b (decide (d0.int>(0:Int)))))):=
  oP Iz 0x1
def Ct:cw:={f:=oR,rs:=[ao],cK:=[(oR,[ao],[ao])],bK:=[⟨oR,0,16425,[3,17,2,1,18,19],[]⟩]}
@[simp] theorem adr:Ct.f=oR/\Ct.rs=[ao]:=⟨rfl,rfl⟩
def xC (a0:D)(n0:Int)(l1:List D):av:=hdS oR 151 [(1,(.aG 0 0)),(2,(.aG 1 0)),(3,(.aV 2 (a0.ae 3).aa.length true)),(17,(.bC ao (a0.ae 3).aa)),(18,(.int .i64 ((a0.ae 3).aa.length:Int))),(19,(.int .i64 n0))] [(0,(.cells (aK pg ao a0) ao false)),(1,(.cells [(.int .u8 0),(.int .i64 0),(.bj []),.bJ,(.int .i64 0)] ao false)),(2,(.an ao l1 true))]
theorem aac:lp Ct [ao] [a0] Q
 (.ite (((a0.ae 3).aa.length:Int)==(0:Int)) (.ret (D.r [(D.z (a0.ae 0).int),(D.z (a0.ae 1).int),(D.s (a0.ae 2).bj),(D.r []),(D.z (a0.ae 4).int)])) (.gd (rv ((a0.ae 3).aa.length:Int) ((a0.ae 3).aa.length:Int) 64) (.bE (xC a0 0 (List.replicate (a0.ae 3).aa.length (D.r [(D.z 0),(D.z 0),(D.s []),(D.r []),(D.z 0)])))))):=
  oP Ct 0x22111
theorem HA:lk Ct (.kE Q) (xC a0 n0 l1)
 (.ite (decide (n0<((a0.ae 3).aa.length:Int))) (.gd (dy n0 (a0.ae 3).aa.length) (.call oR [(ct pg ao (D.at (a0.ae 3).aa n0.toNat))] fun d0=>(.gd (decide (n0.toNat<l1.length)) (.bE (xC a0 (wp .i64 (n0+1)) (List.set l1 n0.toNat (ct pg ao d0))))))) (.gd (decide ((a0.ae 3).aa.length=l1.length)) (.ret (D.r [(D.z (a0.ae 0).int),(D.z (a0.ae 1).int),(D.s (a0.ae 2).bj),(D.r l1),(D.z (a0.ae 4).int)])))):=
  oE Ct 0x221121005211
def IA:cw:={f:=vf,rs:=[ao,aX],cK:=[(eN,[ao],[aj]),(oR,[ao],[ao])]}
@[simp] theorem adp:IA.f=vf/\IA.rs=[ao,aX]:=⟨rfl,rfl⟩
theorem aaa:lp IA [ao] [a0] Q
 (.call eN [(ct pg ao a0)] fun d0=>(.ite (! d0.bool) (.ret (D.r [(D.r [(D.z 0),(D.z 0),(D.s []),(D.r []),(D.z 0)]),(D.z 2)])) (.call oR [(ct pg ao a0)] fun d1=>(.ret (D.r [(ct pg ao d1),(D.z 0)]))))):=
  oP IA 0x211
def eC:cw:={f:=dD,rs:=[ah],bu:=some 0,cK:=[(eN,[ao],[aj])],bK:=[⟨dD,0,16423,[0,1,7,8],[]⟩]}
@[simp] theorem PZ:eC.f=dD/\eC.rs=[ah]:=⟨rfl,rfl⟩
def iX (l:List D)(n0:Int):av:=hdS dD 37 [(0,(.bC ao l)),(1,(.func (.func yX) [] [])),(7,(.int .i64 (l.length:Int))),(8,(.int .i64 n0))] []
theorem FB:lh eC (lJ l) [] 0 eB Q
 (.bE (iX l 0)):=
  oH eC 0x1
theorem tI:lk eC (.bu 0 (eB (lJ l) []) Q) (iX l n0)
 (.ite (decide (n0<(l.length:Int))) (.gd (dy n0 l.length) (.call eN [(ct pg ao (D.at l n0.toNat))] fun d0=>(.ite (! d0.bool) (.aL (.int .i64 n0) []) (.bE (iX l (wp .i64 (n0+1))))))) (.aL (.int .i64 (-1)) [])):=
  oE eC 0x2121211
def iQ:cw:={f:=fL,rs:=[aj],bu:=some 0,bD:=[(dD,eB)]}
@[simp] theorem M7:iQ.f=fL/\iQ.rs=[aj]:=⟨rfl,rfl⟩
theorem BO:lh iQ (sO l) [] 0 my Q
 (.aq dD [(.bC ao l),(.func (.func yX) [] [])] [] 0 fun d0=>(.aL (.bool (decide (d0.int≥(0:Int)))) [])):=
  oH iQ 0x1
def IB:cw:={f:=Fe,rs:=[aj],bD:=[(fL,my)]}
@[simp] theorem adq:IB.f=Fe/\IB.rs=[aj]:=⟨rfl,rfl⟩
theorem aab:lp IB [eQ] [a0] Q
 (.aq fL [(.bC ao a0.aa),(.func (.func yX) [] [])] [] 0 fun d0=>(.ret (D.b (! d0.bool)))):=
  oP IB 0x1
def LP:cw:={f:=yd,rs:=[ao,aX],cK:=[(eN,[ao],[aj]),(oR,[ao],[ao]),(Fe,[eQ],[aj])]}
@[simp] theorem aet:LP.f=yd/\LP.rs=[ao,aX]:=⟨rfl,rfl⟩
theorem acn:lp LP [eQ] [a0] Q
 ((fun (v:D)=>((fun (u:D)=>(.call Fe [(D.r a0.aa)] fun d0=>(.ite (! d0.bool) (.ret (D.r [v,(D.z 2)])) (.call eN [u] fun d1=>(.ite (! d1.bool) (.ret (D.r [v,(D.z 4)])) (.call oR [u] fun d2=>(.ret (D.r [(ct pg ao d2),(D.z 0)])))))))) (D.r [(D.z 3),(D.z 0),(D.s []),(D.r a0.aa),(D.z 0)]))) (D.r [(D.z 0),(D.z 0),(D.s []),(D.r []),(D.z 0)])):=
  oP LP 0x22111
def wy:cw:={f:=kN,rs:=[aj],bu:=some 1,bD:=[(kN,sX)],bK:=[⟨kN,0,16429,[2,1,15,16,17],[]⟩],C5:=[(dS,0,bh)],HZ:=[(kN,[none,some oy,none])]}
@[simp] theorem acZ:wy.f=kN/\wy.rs=[aj]:=⟨rfl,rfl⟩
def tE (a0:D)(pl zi:List D)(c c0:Nat)(l1:List D)(n2:Int):av:=hdS kN 75 [(1,(.bC ah pl)),(2,(.func (.func zX) [] [(.aG 0 0)])),(15,(.bC ao (a0.ae 3).aa)),(16,(.int .i64 ((a0.ae 3).aa.length:Int))),(17,(.int .i64 n2))] [(0,(.cells [(.aV 1 c0 true)] dS false)),(1,(.an bh l1 true))]
theorem Xn:lh wy (Es a0 pl zi c) (EC a0 pl zi c) 1 sX Q
 (.ite ((a0.ae 0).int==(4:Int)) (.gd ((decide (c=zi.length))&&(bg 8 (c+1))) (.bE (tE a0 pl zi c (c+1) (zi++[(D.z (a0.ae 4).int)]) 0))) (.bE (tE a0 pl zi c c zi 0))):=
  oH wy 0x23132131
theorem HB:lk wy (.bu 1 (sX (Es a0 pl zi c) (EC a0 pl zi c)) Q) (tE a0 pl zi c c0 l1 n2)
 ((fun (u:ax)=>(.ite (decide (n2<((a0.ae 3).aa.length:Int))) (.gd (dy n2 (a0.ae 3).aa.length) (.gd ((((Nat.beq pl.length pl.length)&&true)&&(decide ((0:Nat)<=pl.length)))&&(decide (pl.length<=pl.length))) (.gd (((decide ((0:Nat)<(1:Nat)))||(decide ((kp pl 0 pl.length).length=(0:Nat))))&&(bg 8 ((kp pl 0 pl.length).length+1))) (.gd (decide (((kp pl 0 pl.length).length+1)=((kp pl 0 pl.length)++[(D.z n2)]).length)) (.aq kN [(.agg (aK pg ao (D.at (a0.ae 3).aa n2.toNat))),(.bC ah (D.r ((kp pl 0 pl.length)++[(D.z n2)])).aa),(.func (.func zX) [] [(.aG 0 0)])] [(0,u),(1,(.an bh l1 true))] 1 fun d0=>(.bE (tE a0 pl zi c d0.aa.length d0.aa (wp .i64 (n2+1))))))))) (.aL (.bool true) [(0,u),(1,(.an bh l1 true))]))) (.cells [(.aV 1 c0 true)] dS false)):=
  oE wy 0x212102921432142131
def EW:cw:={f:=mI,rs:=[dS],bu:=some 0,cK:=[(eN,[ao],[aj])],bD:=[(kN,sX)],C5:=[(dS,0,bh)],HZ:=[(kN,[none,some oy,none])]}
@[simp] theorem acX:EW.f=mI/\EW.rs=[dS]:=⟨rfl,rfl⟩
theorem Xl:lh EW (Nf a0) [] 0 Bd Q
 (.call eN [(ct pg ao a0)] fun d0=>(.ite d0.bool (.aq kN [(.agg (aK pg ao a0)),(.bC ah (D.r []).aa),(.func (.func zX) [] [(.aG 0 0)])] [(0,(.cells [(.aV 1 0 true)] dS false)),(1,(.an bh [] true))] 1 fun d1=>(.aL (.aV 0 d1.aa.length true) [(0,(.an bh d1.aa true))])) (.aL (.aV 0 0 true) [(0,(.an bh [] true))]))):=
  oH EW 0x211
end
section
variable {a0:D} {Q:D->Prop} {l0 l3:List D} {c1:Nat} {n2:Int}
def vS:cw:={f:=pQ,rs:=[dS],bu:=some 0,cK:=[(gK,[aO],[eQ]),(ln,[ao],[dS])],bK:=[⟨pQ,0,16418,[4,5,3],[(3,bh)]⟩],Ee:=[some bh]}
@[simp] theorem abQ:vS.f=pQ/\vS.rs=[dS]:=⟨rfl,rfl⟩
def sI (a0:D)(l0:List D)(c1:Nat)(n2:Int)(l3:List D):av:=hdS pQ 151 [(3,(.aV 0 c1 true)),(4,(.bC ao l0)),(5,(.int .i64 n2))] [(0,(.an bh l3 true))]
theorem T3:lh vS (B9 a0) [] 0 yC Q
 (.call gK [(ct pg aO a0)] fun d0=>(.bE (sI a0 d0.aa 0 0 []))):=
  oH vS 0x1
theorem Dy:lk vS (.bu 0 (yC (B9 a0) []) Q) (sI a0 l0 c1 n2 l3)
 (.ite (decide (n2<(l0.length:Int))) (.gd (dy n2 l0.length) (.call ln [(ct pg ao (D.at l0 n2.toNat))] fun d0=>(.gd ((decide (c1=l3.length))&&(bg 8 (c1+d0.aa.length))) (.bE (sI a0 l0 (c1+d0.aa.length) (wp .i64 (n2+1)) (l3++d0.aa)))))) (.aL (.aV 0 c1 true) [(0,(.an bh l3 true))])):=
  oE vS 0x2121211
end
section
variable {a0:D} {Q:D->Prop} {c0:Nat} {l1:List D} {n2:Int}
def IC:cw:={f:=Ff,rs:=[nP]}
@[simp] theorem adt:IC.f=Ff/\IC.rs=[nP]:=⟨rfl,rfl⟩
theorem aae:lp IC [q8] [a0] Q
 ((fun (u:RT)=>(.ite (a0.int==(1:Int)) (.ret (D.z 3)) (.ite (a0.int==(2:Int)) (.ret (D.z 9)) (.ite (a0.int==(3:Int)) (.ret (D.z 9)) (.ite (a0.int==(4:Int)) (.ret (D.z 12)) (.ite (a0.int==(5:Int)) u (.ite (a0.int==(6:Int)) u (.ite (a0.int==(8:Int)) u (.ite (a0.int==(12:Int)) u (.ite (a0.int==(9:Int)) (.ret (D.z 13)) (.ite (a0.int==(10:Int)) (.ret (D.z 1)) (.ite (a0.int==(11:Int)) (.ret (D.z 8)) (.ite (a0.int==(13:Int)) (.ret (D.z 33)) (.ret (D.z 0))))))))))))))) (.ret (D.z 16))):=
  oP IC 0x22222222222210791110a9110051005100510791079100507910791
def It:cw:={f:=qC,rs:=[aj]}
@[simp] theorem adf:It.f=qC/\It.rs=[aj]:=⟨rfl,rfl⟩
theorem ZZ:lp It [nP] [a0] Q
 (.ret (D.b ((wp .u8 ((BitVec.toNat ((BitVec.ofInt 8 a0.int) &&& (~~~ (BitVec.ofInt 8 63)))):Int))==(0:Int)))):=
  oP It 0x1
def Iu:cw:={f:=E7,rs:=[aj],cK:=[(qC,[nP],[aj]),(gC,[mn],[ah])]}
@[simp] theorem adg:Iu.f=E7/\Iu.rs=[aj]:=⟨rfl,rfl⟩
theorem Z0:lp Iu [nP] [a0] Q
 (.call qC [(D.z a0.int)] fun d0=>(.ite d0.bool (.call gC [(D.z a0.int)] fun d1=>(.ret (D.b (d1.int==(1:Int))))) (.ret (D.b false)))):=
  oP Iu 0x20300b10300a1
def EX:cw:={f:=BA,rs:=[aO]}
@[simp] theorem ac1:EX.f=BA/\EX.rs=[aO]:=⟨rfl,rfl⟩
theorem Xp:lp EX [aO] [a0] Q
 ((fun (uu:D)=>((fun (o:D)=>((fun (i:D)=>((fun (t:D)=>((fun (j:D)=>((fun (v:D)=>((fun (u:D)=>((fun (q:RT)=>((fun (p:RT)=>((fun (k:RT)=>(.ite ((a0.ae 0).int==(1:Int)) (.ret (D.r [v,j,(ct pg ao (a0.ae 2)),(D.r []),(D.z 0),(D.z 0),(D.z 0),(D.z 0),(D.z 0),i,(D.r []),(D.r [])])) (.ite ((a0.ae 0).int==(2:Int)) q (.ite ((a0.ae 0).int==(4:Int)) q (.ite ((a0.ae 0).int==(3:Int)) (.ret (D.r [v,j,u,(D.r []),o,(D.z 0),(D.z 0),(D.z 0),(D.z 0),i,(D.r []),(D.r [])])) (.ite ((a0.ae 0).int==(6:Int)) p (.ite ((a0.ae 0).int==(11:Int)) p (.ite ((a0.ae 0).int==(7:Int)) (.ret (D.r [v,j,(ct pg ao (a0.ae 2)),(D.r []),(D.z 0),(D.z 0),t,(D.z 0),(D.z 0),i,(D.r []),(D.r [])])) (.ite ((a0.ae 0).int==(8:Int)) (.ret (D.r [v,j,u,(D.r []),o,(D.z (a0.ae 5).int),(D.z 0),(D.z 0),(D.z 0),i,(D.r []),(D.r [])])) (.ite ((a0.ae 0).int==(9:Int)) (.ret (D.r [v,j,u,(D.r []),o,(D.z 0),t,(D.z 0),(D.z 0),i,(D.r []),(D.r [])])) (.ite ((a0.ae 0).int==(10:Int)) (.ret (D.r [v,j,(ct pg ao (a0.ae 2)),(D.r []),(D.z 0),(D.z 0),(D.z 0),(D.z 0),(D.z 0),uu,(D.r []),(D.r [])])) (.ite ((a0.ae 0).int==(12:Int)) (.ret (D.r [v,j,u,(D.r []),(D.z 0),(D.z 0),(D.z 0),(D.z 0),(D.z 0),i,(D.r (a0.ae 10).aa),(D.r (a0.ae 11).aa)])) (.ite ((a0.ae 0).int==(13:Int)) (.ret (D.r [v,j,u,(D.r []),(D.z 0),(D.z 0),t,(D.z 0),(D.z 0),uu,(D.r []),(D.r [])])) (.ite ((a0.ae 0).int==(15:Int)) k (.ite ((a0.ae 0).int==(16:Int)) k (.ite ((a0.ae 0).int==(14:Int)) (.ret (D.r [v,(D.z 0),u,(D.r []),(D.z 0),(D.z 0),t,(D.z 0),(D.z (a0.ae 8).int),i,(D.r []),(D.r [])])) (.ret (D.r [v,j,u,(D.r []),(D.z 0),(D.z 0),(D.z 0),(D.z 0),(D.z 0),i,(D.r []),(D.r [])])))))))))))))))))) (.ret (D.r [v,j,u,(D.r []),(D.z 0),(D.z 0),t,(D.z (a0.ae 7).int),(D.z 0),i,(D.r []),(D.r [])])))) (.ret (D.r [v,j,u,(D.r []),(D.z 0),(D.z 0),t,(D.z 0),(D.z 0),i,(D.r []),(D.r [])])))) (.ret (D.r [v,j,u,(D.r (a0.ae 3).aa),(D.z 0),(D.z 0),(D.z 0),(D.z 0),(D.z 0),i,(D.r []),(D.r [])])))) (D.r [(D.z 0),(D.z 0),(D.s []),(D.r []),(D.z 0)]))) (D.z (a0.ae 0).int))) (D.z (a0.ae 1).int))) (D.z (a0.ae 6).int))) (D.b false))) (D.z (a0.ae 4).int))) (D.b (a0.ae 9).bool)):=
  oP EX 0x222222222222222114100541414141414141100511100511
def s7:cw:={f:=mL,rs:=[dS],bu:=some 0,bD:=[(mI,Bd)],bK:=[⟨mL,0,16451,[12,1,13,14,3],[]⟩,⟨mL,0,16418,[24,25,26,3],[]⟩]}
@[simp] theorem ac2:s7.f=mL/\s7.rs=[dS]:=⟨rfl,rfl⟩
def xD (a0:D)(c0:Nat)(l1:List D)(n2:Int):av:=hdS mL 75 [(1,(.aG 0 0)),(3,(.aV 1 c0 true)),(12,(.bC ao (a0.ae 3).aa)),(13,(.int .i64 ((a0.ae 3).aa.length:Int))),(14,(.int .i64 n2))] [(0,(.cells (aK pg aO a0) aO false)),(1,(.an bh l1 true))]
def vx (a0:D)(c0:Nat)(l1:List D)(n2:Int):av:=hdS mL 151 [(3,(.aV 0 c0 true)),(24,(.bC fT (a0.ae 11).aa)),(25,(.int .i64 ((a0.ae 11).aa.length:Int))),(26,(.int .i64 n2))] [(0,(.an bh l1 true))]
theorem Xq:lh s7 (yu a0) [] 0 wt Q
 (.aq mI [(.agg (aK pg ao (a0.ae 2)))] [] 0 fun d0=>(.bE (xD a0 d0.aa.length d0.aa 0))):=
  oH s7 0x1
theorem HC:lk s7 (.bu 0 (wt (yu a0) []) Q) (xD a0 c0 l1 n2)
 (.ite (decide (n2<((a0.ae 3).aa.length:Int))) (.gd (dy n2 (a0.ae 3).aa.length) (.aq mI [(.agg (aK pg ao (D.at (a0.ae 3).aa n2.toNat)))] [] 0 fun d0=>(.gd (decide (d0.aa.length<=d0.aa.length)) (.gd ((decide (c0=l1.length))&&(bg 8 (c0+(List.take d0.aa.length d0.aa).length))) (.bE (xD a0 (c0+(List.take d0.aa.length d0.aa).length) (l1++(List.take d0.aa.length d0.aa)) (wp .i64 (n2+1)))))))) (.bE (vx a0 c0 l1 0))):=
  oE s7 0x212121211
theorem FV:lk s7 (.bu 0 (wt (yu a0) []) Q) (vx a0 c0 l1 n2)
 (.ite (decide (n2<((a0.ae 11).aa.length:Int))) (.gd (dy n2 (a0.ae 11).aa.length) (.aq mI [(.agg (aK pg ao ((D.at (a0.ae 11).aa n2.toNat).ae 1)))] [] 0 fun d0=>(.gd (decide (d0.aa.length<=d0.aa.length)) (.gd ((decide (c0=l1.length))&&(bg 8 (c0+(List.take d0.aa.length d0.aa).length))) (.bE (vx a0 (c0+(List.take d0.aa.length d0.aa).length) (l1++(List.take d0.aa.length d0.aa)) (wp .i64 (n2+1)))))))) (.aL (.aV 0 c0 true) [(0,(.an bh l1 true))])):=
  oE s7 0x212121211
def Cv:cw:={f:=r6,rs:=[aj]}
@[simp] theorem ab1:Cv.f=r6/\Cv.rs=[aj]:=⟨rfl,rfl⟩
theorem Ud:lp Cv [ao] [a0] Q
 ((fun (u:RT)=>(.ite ((a0.ae 0).int==(0:Int)) (.ite ((a0.ae 1).int==(0:Int)) (.ite ((a0.ae 2).bj==[]) (.ite (((a0.ae 3).aa.length:Int)==(0:Int)) (.ret (D.b ((a0.ae 4).int==(0:Int)))) u) u) u) u)) (.ret (D.b false))):=
  oP Cv 0x20300b0d910300a20300b09910300a20400b04910400a20300b10300a1
end
section
variable {a0:D} {Q:D->Prop} {c0 c2 c1 c7 c8:Nat} {n1 n4 n2 n3 n6 n9 n11:Int} {l3 l5 l8 l9 l10 l:List D} {s4:List UInt8}
def pG:cw:={f:=fN,rs:=[aE],cK:=[(fN,[aE],[aE])],bD:=[(gA,uM)],bK:=[⟨fN,0,16421,[1,10,2,11,12],[]⟩],HZ:=[(gA,[some Ec])]}
@[simp] theorem Zc:pG.f=fN/\pG.rs=[aE]:=⟨rfl,rfl⟩
def qS (a0:D)(c0:Nat)(n1:Int)(c2:Nat)(l3:List D)(n4:Int):av:=hdS fN 75 [(1,(.aG 0 0)),(2,(.aG 1 0)),(10,(.aV 2 c0 true)),(11,(.int .i64 n1)),(12,(.int .i64 n4))] [(0,(.cells [(.int .u8 (a0.ae 0).int),(.int .i64 (a0.ae 1).int),(.bj (a0.ae 2).bj),(.aV 2 c2 true)] aE false)),(1,(.cells [(.int .u8 0),(.int .i64 0),(.bj []),.bJ] aE false)),(2,(.an aE l3 true))]
theorem OJ:lp pG [aE] [a0] Q
 (.aq gA [(.bC aE (D.r (a0.ae 3).aa).aa)] [] 0 fun d0=>(.bE (qS a0 d0.aa.length (d0.aa.length:Int) d0.aa.length d0.aa 0))):=
  oP pG 0x1
theorem B2:lk pG (.kE Q) (qS a0 c0 n1 c2 l3 n4)
 (.ite (decide (n4<n1)) (.gd (dy n4 c0) (.gd (decide (n4.toNat<l3.length)) (.call fN [(ct pg aE (D.at l3 n4.toNat))] fun d0=>(.gd (dy n4 c2) (.bE (qS a0 c0 n1 c2 (List.set l3 n4.toNat (ct pg aE d0)) (wp .i64 (n4+1)))))))) (.gd (decide (c2=l3.length)) (.ret (D.r [(D.z (a0.ae 0).int),(D.z (a0.ae 1).int),(D.s (a0.ae 2).bj),(D.r l3)])))):=
  oE pG 0x221121214210151
def pF:cw:={f:=eY,rs:=[bB],cK:=[(fN,[aE],[aE]),(eY,[bB],[bB])],bD:=[(gB,uN),(eE,qh)],bK:=[⟨eY,0,16455,[0,7,8,9],[]⟩],Tg:=[(aT,16,je)],HZ:=[(gB,[some bB]),(eE,[some je])]}
@[simp] theorem Zb:pF.f=eY/\pF.rs=[bB]:=⟨rfl,rfl⟩
def qR (a0:D)(c0 c1:Nat)(n2:Int)(l3:List D)(n4:Int):av:=hdS eY 75 [(0,(.aV 0 c0 true)),(7,(.aV 0 c1 true)),(8,(.int .i64 n2)),(9,(.int .i64 n4))] [(0,(.an aT l3 true))]
theorem OI:lp pF [bB] [a0] Q
 (.aq gB [(.bC aT (D.r a0.aa).aa)] [] 0 fun d0=>(.bE (qR a0 d0.aa.length d0.aa.length (d0.aa.length:Int) d0.aa 0))):=
  oP pF 0x1
theorem B1:lk pF (.kE Q) (qR a0 c0 c1 n2 l3 n4)
 ((fun (u:D)=>(.ite (decide (n4<n2)) (.gd (dy n4 c1) (.gd (decide (n4.toNat<l3.length)) (.call fN [(ct pg aE (u.ae 5))] fun d0=>(.call fN [(ct pg aE (u.ae 6))] fun d1=>(.call eY [(D.r (u.ae 7).aa)] fun d2=>(.call eY [(D.r (u.ae 8).aa)] fun d3=>(.call eY [(D.r (u.ae 9).aa)] fun d4=>(.aq eE [(.bC bG (D.r (u.ae 10).aa).aa)] [] 0 fun d5=>(.gd (decide (d5.aa.length=d5.aa.length)) (.gd (dy n4 c0) (.bE (qR a0 c0 c1 n2 (List.set l3 n4.toNat (D.r [(D.z (u.ae 0).int),(D.s (u.ae 1).bj),(D.s (u.ae 2).bj),(D.z (u.ae 3).int),(D.z (u.ae 4).int),(ct pg aE d0),(ct pg aE d1),(D.r d2.aa),(D.r d3.aa),(D.r d4.aa),(D.r (D.r d5.aa).aa)])) (wp .i64 (n4+1)))))))))))))) (.gd (decide (c0=l3.length)) (.ret (D.r l3))))) (D.at l3 n4.toNat)):=
  oE pF 0x22112121444421210251
def jW:cw:={f:=di,rs:=[aO],cK:=[(vf,[ao],[ao,aX]),(eY,[bB],[bB])],bD:=[(kW,x6),(nt,zA)],bK:=[⟨di,0,16474,[1,16,2,17,18],[]⟩,⟨di,0,16430,[1,35,2,36,37],[]⟩],HZ:=[(kW,[some eQ]),(nt,[some jT])]}
@[simp] theorem Zd:jW.f=di/\jW.rs=[aO]:=⟨rfl,rfl⟩
def oX (a0:D)(c0:Nat)(n1 n2 n3:Int)(s4:List UInt8)(l5:List D)(n6:Int)(c7:Nat)(l8:List D)(n9:Int):av:=hdS di 151 [(1,(.aG 0 0)),(2,(.aG 1 0)),(16,(.aV 2 c0 true)),(17,(.int .i64 n1)),(18,(.int .i64 n9))] [(0,(.cells [(.int .u8 (a0.ae 0).int),(.int .i64 (a0.ae 1).int),(.int .u8 n2),(.int .i64 n3),(.bj s4),(.bC ao l5),(.int .i64 n6),(.aV 2 c7 true),(.int .i64 (a0.ae 4).int),(.int .i64 (a0.ae 5).int),(.int .i64 (a0.ae 6).int),(.int .i64 (a0.ae 7).int),(.int .u8 (a0.ae 8).int),(.bool (a0.ae 9).bool),(.bC aT (a0.ae 10).aa),(.bC fT (a0.ae 11).aa)] aO false)),(1,(.cells [(.int .u8 0),(.int .i64 0),(.int .u8 0),(.int .i64 0),(.bj []),.bJ,(.int .i64 0),.bJ,(.int .i64 0),(.int .i64 0),(.int .i64 0),(.int .i64 0),(.int .u8 0),(.bool false),.bJ,.bJ] aO false)),(2,(.an ao l8 true))]
def oY (a0:D)(c0:Nat)(n1 n2 n3:Int)(s4:List UInt8)(l5:List D)(n6:Int)(c7 c8:Nat)(l9 l10:List D)(n11:Int):av:=hdS di 607 [(1,(.aG 0 0)),(2,(.aG 1 0)),(35,(.aV 2 c0 true)),(36,(.int .i64 n1)),(37,(.int .i64 n11))] [(0,(.cells [(.int .u8 (a0.ae 0).int),(.int .i64 (a0.ae 1).int),(.int .u8 n2),(.int .i64 n3),(.bj s4),(.bC ao l5),(.int .i64 n6),(.aV 3 c7 true),(.int .i64 (a0.ae 4).int),(.int .i64 (a0.ae 5).int),(.int .i64 (a0.ae 6).int),(.int .i64 (a0.ae 7).int),(.int .u8 (a0.ae 8).int),(.bool (a0.ae 9).bool),(.bC aT (a0.ae 10).aa),(.aV 2 c8 true)] aO false)),(1,(.cells [(.int .u8 0),(.int .i64 0),(.int .u8 0),(.int .i64 0),(.bj []),.bJ,(.int .i64 0),.bJ,(.int .i64 0),(.int .i64 0),(.int .i64 0),(.int .i64 0),(.int .u8 0),(.bool false),.bJ,.bJ] aO false)),(2,(.an fT l9 true)),(3,(.an ao l10 true))]
theorem OK:lp jW [aO] [a0] Q
 (.call vf [(ct pg ao (a0.ae 2))] fun d0=>(.aq kW [(.bC ao (D.r (a0.ae 3).aa).aa)] [] 0 fun d1=>(.bE (oX a0 d1.aa.length (d1.aa.length:Int) ((d0.ae 0).ae 0).int ((d0.ae 0).ae 1).int ((d0.ae 0).ae 2).bj ((d0.ae 0).ae 3).aa ((d0.ae 0).ae 4).int d1.aa.length d1.aa 0)))):=
  oP jW 0x1
theorem AP:lk jW (.kE Q) (oX a0 c0 n1 n2 n3 s4 l5 n6 c7 l8 n9)
 (.ite (decide (n9<n1)) (.gd (dy n9 c0) (.gd (decide (n9.toNat<l8.length)) (.call vf [(ct pg ao (D.at l8 n9.toNat))] fun d0=>(.gd (dy n9 c7) (.bE (oX a0 c0 n1 n2 n3 s4 l5 n6 c7 (List.set l8 n9.toNat (ct pg ao (d0.ae 0))) (wp .i64 (n9+1)))))))) (.aq nt [(.bC fT (D.r (a0.ae 11).aa).aa)] [] 0 fun d1=>(.bE (oY a0 d1.aa.length (d1.aa.length:Int) n2 n3 s4 l5 n6 c7 d1.aa.length d1.aa l8 0)))):=
  oE jW 0x2121214210151
theorem AQ:lk jW (.kE Q) (oY a0 c0 n1 n2 n3 s4 l5 n6 c7 c8 l9 l10 n11)
 ((fun (u:D)=>(.ite (decide (n11<n1)) (.gd (dy n11 c0) (.gd (decide (n11.toNat<l9.length)) (.call vf [(ct pg ao (u.ae 1))] fun d0=>(.gd (dy n11 c8) (.bE (oY a0 c0 n1 n2 n3 s4 l5 n6 c7 c8 (List.set l9 n11.toNat (D.r [(D.s (u.ae 0).bj),(ct pg ao (d0.ae 0))])) l10 (wp .i64 (n11+1)))))))) (.call eY [(D.r (a0.ae 10).aa)] fun d1=>(.gd (decide (c7=l10.length)) (.gd (decide (c8=l9.length)) (.ret (D.r [(D.z (a0.ae 0).int),(D.z (a0.ae 1).int),(D.r [(D.z n2),(D.z n3),(D.s s4),(D.r l5),(D.z n6)]),(D.r l10),(D.z (a0.ae 4).int),(D.z (a0.ae 5).int),(D.z (a0.ae 6).int),(D.z (a0.ae 7).int),(D.z (a0.ae 8).int),(D.b (a0.ae 9).bool),(D.r d1.aa),(D.r l9)]))))))) (D.at l9 n11.toNat)):=
  oE jW 0x22121121214210151
def uU:cw:={f:=gA,rs:=[Ec],bu:=some 0,Ee:=[some aE]}
@[simp] theorem Yg:uU.f=gA/\uU.rs=[Ec]:=⟨rfl,rfl⟩
theorem Ms:lh uU (Ei l) [] 0 uM Q
 ((fun (u:RT)=>(.ite (List.isEmpty l) (.Gc (.aL (.aV 0 0 true) [(0,(.an aE [] true))]) u) u)) (.gd (true&&(bg 56 (0+l.length))) (.aL (.aV 0 (0+l.length) true) [(0,(.an aE ([]++l) true))]))):=
  oH uU 0x200632112321131
def uY:cw:={f:=gB,rs:=[bB],bu:=some 0,Ee:=[some aT]}
@[simp] theorem Yj:uY.f=gB/\uY.rs=[bB]:=⟨rfl,rfl⟩
theorem Mv:lh uY (El l) [] 0 uN Q
 ((fun (u:RT)=>(.ite (List.isEmpty l) (.Gc (.aL (.aV 0 0 true) [(0,(.an aT [] true))]) u) u)) (.gd (true&&(bg 256 (0+l.length))) (.aL (.aV 0 (0+l.length) true) [(0,(.an aT ([]++l) true))]))):=
  oH uY 0x200632112321131
def sq:cw:={f:=kW,rs:=[eQ],bu:=some 0,Ee:=[some ao]}
@[simp] theorem Vx:sq.f=kW/\sq.rs=[eQ]:=⟨rfl,rfl⟩
theorem Kr:lh sq (C6 l) [] 0 x6 Q
 ((fun (u:RT)=>(.ite (List.isEmpty l) (.Gc (.aL (.aV 0 0 true) [(0,(.an ao [] true))]) u) u)) (.gd (true&&(bg 64 (0+l.length))) (.aL (.aV 0 (0+l.length) true) [(0,(.an ao ([]++l) true))]))):=
  oH sq 0x200632112321131
def uW:cw:={f:=nt,rs:=[jT],bu:=some 0,Ee:=[some fT]}
@[simp] theorem Yh:uW.f=nt/\uW.rs=[jT]:=⟨rfl,rfl⟩
theorem Mt:lh uW (Ej l) [] 0 zA Q
 ((fun (u:RT)=>(.ite (List.isEmpty l) (.Gc (.aL (.aV 0 0 true) [(0,(.an fT [] true))]) u) u)) (.gd (true&&(bg 80 (0+l.length))) (.aL (.aV 0 (0+l.length) true) [(0,(.an fT ([]++l) true))]))):=
  oH uW 0x200632112321131
def qo:cw:={f:=eE,rs:=[je],bu:=some 0,Ee:=[some bG]}
@[simp] theorem UW:qo.f=eE/\qo.rs=[je]:=⟨rfl,rfl⟩
theorem JM:lh qo (A3 l) [] 0 qh Q
 ((fun (u:RT)=>(.ite (List.isEmpty l) (.Gc (.aL (.aV 0 0 true) [(0,(.an bG [] true))]) u) u)) (.gd (true&&(bg 16 (0+l.length))) (.aL (.aV 0 (0+l.length) true) [(0,(.an bG ([]++l) true))]))):=
  oH qo 0x200632112321131
def xb:cw:={f:=pK,rs:=[dS],bu:=some 0,Ee:=[some bh]}
@[simp] theorem YR:xb.f=pK/\xb.rs=[dS]:=⟨rfl,rfl⟩
theorem Ol:lh xb (G5 l) [] 0 A9 Q
 ((fun (u:RT)=>(.ite (List.isEmpty l) (.Gc (.aL (.aV 0 0 true) [(0,(.an bh [] true))]) u) u)) (.gd (true&&(bg 8 (0+l.length))) (.aL (.aV 0 (0+l.length) true) [(0,(.an bh ([]++l) true))]))):=
  oH xb 0x200632112321131
def xc:cw:={f:=dC,rs:=[oy],bu:=some 0,Ee:=[some ah]}
@[simp] theorem YS:xc.f=dC/\xc.rs=[oy]:=⟨rfl,rfl⟩
theorem Om:lh xc (G6 l) [] 0 mw Q
 ((fun (u:RT)=>(.ite (List.isEmpty l) (.Gc (.aL (.aV 0 0 true) [(0,(.an ah [] true))]) u) u)) (.gd (true&&(bg 8 (0+l.length))) (.aL (.aV 0 (0+l.length) true) [(0,(.an ah ([]++l) true))]))):=
  oH xc 0x200632112321131
def uX:cw:={f:=dN,rs:=[jU],bu:=some 0,Ee:=[some bY]}
@[simp] theorem Yi:uX.f=dN/\uX.rs=[jU]:=⟨rfl,rfl⟩
theorem Mu:lh uX (Ek l) [] 0 qg Q
 ((fun (u:RT)=>(.ite (List.isEmpty l) (.Gc (.aL (.aV 0 0 true) [(0,(.an bY [] true))]) u) u)) (.gd (true&&(bg 8 (0+l.length))) (.aL (.aV 0 (0+l.length) true) [(0,(.an bY ([]++l) true))]))):=
  oH uX 0x200632112321131
end
section
variable {a0:D} {Q:D->Prop} {c0 c5 c6 c8:Nat} {n1 n0 n4 n6 n9:Int} {l2 l3 l7 l5 l10:List D} {s2:List UInt8}
def rU:cw:={f:=gq,rs:=[ao],cK:=[(gq,[ao],[ao])],bK:=[⟨gq,0,16426,[1,2,4,3],[(3,ao)]⟩]}
@[simp] theorem aaR:rU.f=gq/\rU.rs=[ao]:=⟨rfl,rfl⟩
def sK (a0:D)(c0:Nat)(n1:Int)(l2:List D):av:=hdS gq 75 [(1,(.aG 0 0)),(2,(.aG 1 0)),(3,(.aV 2 c0 true)),(4,(.int .i64 n1))] [(0,(.cells (aK pg ao a0) ao false)),(1,(.cells [(.int .u8 0),(.int .i64 0),(.bj []),.bJ,(.int .i64 0)] ao false)),(2,(.an ao l2 true))]
theorem QS:lp rU [ao] [a0] Q
 (.bE (sK a0 0 0 [])):=
  oP rU 0x1
theorem DA:lk rU (.kE Q) (sK a0 c0 n1 l2)
 ((fun (u:Bool)=>(.ite (decide (n1<((a0.ae 3).aa.length:Int))) (.gd (dy n1 (a0.ae 3).aa.length) (.call gq [(ct pg ao (D.at (a0.ae 3).aa n1.toNat))] fun d0=>(.gd (u&&(bg 64 (c0+1))) (.bE (sK a0 (c0+1) (wp .i64 (n1+1)) (l2++[(ct pg ao d0)])))))) (.gd u (.ret (D.r [(D.z (a0.ae 0).int),(D.z (a0.ae 1).int),(D.s (a0.ae 2).bj),(D.r l2),(D.z (a0.ae 4).int)]))))) (decide (c0=l2.length))):=
  oE rU 0x2211213211
def vV:cw:={f:=jN,rs:=[aE],cK:=[(jN,[aE],[aE])],bK:=[⟨jN,0,16426,[1,2,4,3],[(3,aE)]⟩]}
@[simp] theorem abU:vV.f=jN/\vV.rs=[aE]:=⟨rfl,rfl⟩
def vq (a0:D)(c0:Nat)(n1:Int)(l2:List D):av:=hdS jN 75 [(1,(.aG 0 0)),(2,(.aG 1 0)),(3,(.aV 2 c0 true)),(4,(.int .i64 n1))] [(0,(.cells (aK pg aE a0) aE false)),(1,(.cells [(.int .u8 0),(.int .i64 0),(.bj []),.bJ] aE false)),(2,(.an aE l2 true))]
theorem T6:lp vV [aE] [a0] Q
 (.bE (vq a0 0 0 [])):=
  oP vV 0x1
theorem FR:lk vV (.kE Q) (vq a0 c0 n1 l2)
 ((fun (u:Bool)=>(.ite (decide (n1<((a0.ae 3).aa.length:Int))) (.gd (dy n1 (a0.ae 3).aa.length) (.call jN [(ct pg aE (D.at (a0.ae 3).aa n1.toNat))] fun d0=>(.gd (u&&(bg 56 (c0+1))) (.bE (vq a0 (c0+1) (wp .i64 (n1+1)) (l2++[(ct pg aE d0)])))))) (.gd u (.ret (D.r [(D.z (a0.ae 0).int),(D.z (a0.ae 1).int),(D.s (a0.ae 2).bj),(D.r l2)]))))) (decide (c0=l2.length))):=
  oE vV 0x2211213211
def vU:cw:={f:=iG,rs:=[bB],cK:=[(jN,[aE],[aE]),(iG,[bB],[bB])],bK:=[⟨iG,0,16463,[0,4,3],[(3,aT)]⟩],Tg:=[(aT,16,je)]}
@[simp] theorem abT:vU.f=iG/\vU.rs=[bB]:=⟨rfl,rfl⟩
def vp (a0:D)(c0:Nat)(n1:Int)(l2:List D):av:=hdS iG 75 [(0,(.bC aT a0.aa)),(3,(.aV 0 c0 true)),(4,(.int .i64 n1))] [(0,(.an aT l2 true))]
theorem T5:lp vU [bB] [a0] Q
 (.bE (vp a0 0 0 [])):=
  oP vU 0x1
theorem FQ:lk vU (.kE Q) (vp a0 c0 n1 l2)
 ((fun (v:Bool)=>((fun (u:D)=>(.ite (decide (n1<(a0.aa.length:Int))) (.gd (dy n1 a0.aa.length) (.call jN [(ct pg aE (u.ae 5))] fun d0=>(.call jN [(ct pg aE (u.ae 6))] fun d1=>(.call iG [(D.r (u.ae 7).aa)] fun d2=>(.call iG [(D.r (u.ae 8).aa)] fun d3=>(.call iG [(D.r (u.ae 9).aa)] fun d4=>(.gd (bg 16 (u.ae 10).aa.length) (.gd (decide ((u.ae 10).aa.length=(u.ae 10).aa.length)) (.gd (v&&(bg 256 (c0+1))) (.bE (vp a0 (c0+1) (wp .i64 (n1+1)) (l2++[(D.r [(D.z (u.ae 0).int),(D.s (u.ae 1).bj),(D.s (u.ae 2).bj),(D.z (u.ae 3).int),(D.z (u.ae 4).int),(ct pg aE d0),(ct pg aE d1),(D.r d2.aa),(D.r d3.aa),(D.r d4.aa),(D.r (D.r (u.ae 10).aa).aa)])])))))))))))) (.gd v (.ret (D.r l2))))) (D.at a0.aa n1.toNat))) (decide (c0=l2.length))):=
  oE vU 0x221121444421213211
def s6:cw:={f:=iW,rs:=[aO],cK:=[(gq,[ao],[ao]),(iG,[bB],[bB])],bK:=[⟨iW,0,16483,[1,2,4,3],[(3,ao)]⟩,⟨iW,0,16434,[1,2,6,5],[(5,fT)]⟩]}
@[simp] theorem acU:s6.f=iW/\s6.rs=[aO]:=⟨rfl,rfl⟩
def vo (a0:D)(n0 n1:Int)(s2:List UInt8)(l3:List D)(n4:Int)(c5:Nat)(n6:Int)(l7:List D):av:=hdS iW 151 [(1,(.aG 0 0)),(2,(.aG 1 0)),(3,(.aV 2 c5 true)),(4,(.int .i64 n6))] [(0,(.cells [(.int .u8 (a0.ae 0).int),(.int .i64 (a0.ae 1).int),(.int .u8 n0),(.int .i64 n1),(.bj s2),(.bC ao l3),(.int .i64 n4),(.bC ao (a0.ae 3).aa),(.int .i64 (a0.ae 4).int),(.int .i64 (a0.ae 5).int),(.int .i64 (a0.ae 6).int),(.int .i64 (a0.ae 7).int),(.int .u8 (a0.ae 8).int),(.bool (a0.ae 9).bool),(.bC aT (a0.ae 10).aa),(.bC fT (a0.ae 11).aa)] aO false)),(1,(.cells [(.int .u8 0),(.int .i64 0),(.int .u8 0),(.int .i64 0),(.bj []),.bJ,(.int .i64 0),.bJ,(.int .i64 0),(.int .i64 0),(.int .i64 0),(.int .i64 0),(.int .u8 0),(.bool false),.bJ,.bJ] aO false)),(2,(.an ao l7 true))]
def sH (a0:D)(n0 n1:Int)(s2:List UInt8)(l3:List D)(n4:Int)(l5:List D)(c6:Nat)(l7:List D)(c8:Nat)(n9:Int)(l10:List D):av:=hdS iW 2431 [(1,(.aG 0 0)),(2,(.aG 1 0)),(5,(.aV 2 c8 true)),(6,(.int .i64 n9))] [(0,(.cells [(.int .u8 (a0.ae 0).int),(.int .i64 (a0.ae 1).int),(.int .u8 n0),(.int .i64 n1),(.bj s2),(.bC ao l3),(.int .i64 n4),(.aV 3 c6 true),(.int .i64 (a0.ae 4).int),(.int .i64 (a0.ae 5).int),(.int .i64 (a0.ae 6).int),(.int .i64 (a0.ae 7).int),(.int .u8 (a0.ae 8).int),(.bool (a0.ae 9).bool),(.bC aT l5),(.bC fT (a0.ae 11).aa)] aO false)),(1,(.cells [(.int .u8 0),(.int .i64 0),(.int .u8 0),(.int .i64 0),(.bj []),.bJ,(.int .i64 0),.bJ,(.int .i64 0),(.int .i64 0),(.int .i64 0),(.int .i64 0),(.int .u8 0),(.bool false),.bJ,.bJ] aO false)),(2,(.an fT l10 true)),(3,(.an ao l7 true))]
theorem Xi:lp s6 [aO] [a0] Q
 (.call gq [(ct pg ao (a0.ae 2))] fun d0=>(.bE (vo a0 (d0.ae 0).int (d0.ae 1).int (d0.ae 2).bj (d0.ae 3).aa (d0.ae 4).int 0 0 []))):=
  oP s6 0x1
theorem FO:lk s6 (.kE Q) (vo a0 n0 n1 s2 l3 n4 c5 n6 l7)
 (.ite (decide (n6<((a0.ae 3).aa.length:Int))) (.gd (dy n6 (a0.ae 3).aa.length) (.call gq [(ct pg ao (D.at (a0.ae 3).aa n6.toNat))] fun d0=>(.gd ((decide (c5=l7.length))&&(bg 64 (c5+1))) (.bE (vo a0 n0 n1 s2 l3 n4 (c5+1) (wp .i64 (n6+1)) (l7++[(ct pg ao d0)])))))) (.call iG [(D.r (a0.ae 10).aa)] fun d1=>(.bE (sH a0 n0 n1 s2 l3 n4 d1.aa c5 l7 0 0 [])))):=
  oE s6 0x21213211
theorem Dx:lk s6 (.kE Q) (sH a0 n0 n1 s2 l3 n4 l5 c6 l7 c8 n9 l10)
 ((fun (v:Bool)=>((fun (u:D)=>(.ite (decide (n9<((a0.ae 11).aa.length:Int))) (.gd (dy n9 (a0.ae 11).aa.length) (.call gq [(ct pg ao (u.ae 1))] fun d0=>(.gd (v&&(bg 80 (c8+1))) (.bE (sH a0 n0 n1 s2 l3 n4 l5 c6 l7 (c8+1) (wp .i64 (n9+1)) (l10++[(D.r [(D.s (u.ae 0).bj),(ct pg ao d0)])])))))) (.gd (decide (c6=l7.length)) (.gd v (.ret (D.r [(D.z (a0.ae 0).int),(D.z (a0.ae 1).int),(D.r [(D.z n0),(D.z n1),(D.s s2),(D.r l3),(D.z n4)]),(D.r l7),(D.z (a0.ae 4).int),(D.z (a0.ae 5).int),(D.z (a0.ae 6).int),(D.z (a0.ae 7).int),(D.z (a0.ae 8).int),(D.b (a0.ae 9).bool),(D.r l5),(D.r l10)])))))) (D.at (a0.ae 11).aa n9.toNat))) (decide (c8=l10.length))):=
  oE s6 0x22121121005443211
end
section
variable {l:List D} {m n0 n1:Int} {Q:D->Prop}
def vZ:cw:={f:=iI,rs:=[aj],bu:=some 1,bD:=[(iI,vK),(mM,zF)],bK:=[⟨iI,0,16482,[1,9,10,11],[]⟩]}
@[simp] theorem ab2:vZ.f=iI/\vZ.rs=[aj]:=⟨rfl,rfl⟩
def vy (l:List D)(m n0 n1:Int):av:=hdS iI 37 [(1,(.aG 0 0)),(9,(.bC aT l)),(10,(.int .i64 (l.length:Int))),(11,(.int .i64 n0))] [(0,(.cells [(.int .i64 n1)] ah false))]
theorem Ue:lh vZ (Ca l m) (Cc l m) 1 vK Q
 (.bE (vy l m 0 m)):=
  oH vZ 0x1
theorem FW:lk vZ (.bu 1 (vK (Ca l m) (Cc l m)) Q) (vy l m n0 n1)
 ((fun (t:Int)=>((fun (q:BV)=>((fun (p:ax)=>((fun (z:ax)=>((fun (v:D)=>((fun (u:RT)=>(.ite (decide (n0<(l.length:Int))) (.gd (dy n0 l.length) (.ite (decide (t>(512:Int))) u (.ite (decide (((v.ae 10).aa.length:Int)>(64:Int))) u (.aq mM [(.agg (aK pg aE (v.ae 5))),(.aG 0 0),(.int .i64 16)] [(0,p)] 1 fun d0=>(.ite (! (d0.ae 0).bool) u (.aq mM [(.agg (aK pg aE (v.ae 6))),(.aG 0 0),(.int .i64 16)] [(0,p)] 1 fun d1=>(.ite (! (d1.ae 0).bool) u (.aq iI [(.bC aT (v.ae 7).aa),(.aG 0 0)] [(0,z)] 1 fun d2=>((fun (k:ax)=>(.ite (! (d2.ae 0).bool) (.aL q [(0,k)]) (.aq iI [(.bC aT (v.ae 8).aa),(.aG 0 0)] [(0,k)] 1 fun d3=>((fun (j:ax)=>(.ite (! (d3.ae 0).bool) (.aL q [(0,j)]) (.aq iI [(.bC aT (v.ae 9).aa),(.aG 0 0)] [(0,j)] 1 fun d4=>(.ite (! (d4.ae 0).bool) (.aL q [(0,(.cells [(.int .i64 (d4.ae 1).int)] ah false))]) (.bE (vy l m (wp .i64 (n0+1)) (d4.ae 1).int)))))) (.cells [(.int .i64 (d3.ae 1).int)] ah false))))) (.cells [(.int .i64 (d2.ae 1).int)] ah false)))))))))) (.aL (.bool true) [(0,(.cells [(.int .i64 n1)] ah false))]))) (.aL q [(0,z)]))) (D.at l n0.toNat))) (.cells [(.int .i64 t)] ah false))) (.cells [(.int .i64 0)] ah false))) (.bool false))) (wp .i64 (n1+1))):=
  oE vZ 0x212120400b20400b20400b220500b20500b2110500a310500a079110400a310400a06910400a0b91
end
section
variable {y:D} {m k n0 n1:Int} {Q:D->Prop} {l:List D}
def zQ:cw:={f:=mM,rs:=[aj],bu:=some 1,bD:=[(aW,eS)]}
@[simp] theorem aaU:zQ.f=mM/\zQ.rs=[aj]:=⟨rfl,rfl⟩
theorem QV:lh zQ (IP y m k) (IQ y m k) 1 zF Q
 ((fun (q:Int)=>((fun (p:BV)=>((fun (j:ax)=>((fun (z:ax)=>((fun (u:ax)=>((fun (v:RT)=>(.ite (decide (q>(512:Int))) v (.ite ((y.ae 0).int !=(3:Int)) (.ite (((y.ae 3).aa.length:Int)==(0:Int)) (.aL (.bool true) [(0,u)]) (.ite ((k:Int)==(0:Int)) v (.aq aW [p,(.func (.func nu) [] [(.aG 0 0),(.aG 1 0)])] [(0,j),(1,z),(2,u)] 3 fun d0=>(.aL (.bool (! (d0.ae 0).bool)) [(0,(.cells [(.int .i64 (d0.ae 1).int)] ah false))])))) (.ite ((k:Int)==(0:Int)) v (.aq aW [p,(.func (.func nu) [] [(.aG 0 0),(.aG 1 0)])] [(0,j),(1,z),(2,u)] 3 fun d1=>(.aL (.bool (! (d1.ae 0).bool)) [(0,(.cells [(.int .i64 (d1.ae 1).int)] ah false))])))))) (.aL (.bool false) [(0,u)]))) (.cells [(.int .i64 q)] ah false))) (.cells [(.int .i64 k)] ah false))) (.cells [(.aG 2 0)] AS false))) (.bC aE (y.ae 3).aa))) (wp .i64 (m+1))):=
  oH zQ 0x220400b32110400a221111
def gP:cw:={f:=cW,rs:=[ah],bu:=some 3,bD:=[(mM,zF)],bK:=[⟨cW,0,16423,[0,1,7,8],[]⟩]}
@[simp] theorem RY:gP.f=cW/\gP.rs=[ah]:=⟨rfl,rfl⟩
def jw (l:List D)(m k:Int)(n0 n1:Int):av:=hdS cW 37 [(0,(.bC aE l)),(1,(.func (.func nu) [] [(.aG 0 0),(.aG 1 0)])),(7,(.int .i64 (l.length:Int))),(8,(.int .i64 n0))] [(0,(.cells [(.aG 2 0)] AS false)),(1,(.cells [(.int .i64 k)] ah false)),(2,(.cells [(.int .i64 n1)] ah false))]
theorem GN:lh gP (rE l m k) (rH l m k) 3 gO Q
 (.bE (jw l m k 0 m)):=
  oH gP 0x1
theorem uF:lk gP (.bu 3 (gO (rE l m k) (rH l m k)) Q) (jw l m k n0 n1)
 ((fun (z:ax)=>((fun (v:ax)=>((fun (u:ax)=>(.ite (decide (n0<(l.length:Int))) (.gd (dy n0 l.length) (.aq mM [(.agg (aK pg aE (D.at l n0.toNat))),(.aG 0 0),(.int .i64 (wp .i64 (k-1)))] [(0,u)] 1 fun d0=>(.ite (! (d0.ae 0).bool) (.aL (.int .i64 n0) [(0,z),(1,v),(2,(.cells [(.int .i64 (d0.ae 1).int)] ah false))]) (.bE (jw l m k (wp .i64 (n0+1)) (d0.ae 1).int))))) (.aL (.int .i64 (-1)) [(0,z),(1,v),(2,u)]))) (.cells [(.int .i64 n1)] ah false))) (.cells [(.int .i64 k)] ah false))) (.cells [(.aG 2 0)] AS false)):=
  oE gP 0x2121211
def ju:cw:={f:=aW,rs:=[aj],bu:=some 3,bD:=[(cW,gO)]}
@[simp] theorem Nn:ju.f=aW/\ju.rs=[aj]:=⟨rfl,rfl⟩
theorem CZ:lh ju (um l m k) (uw l m k) 3 eS Q
 ((fun (v:ax)=>((fun (u:ax)=>(.aq cW [(.bC aE l),(.func (.func nu) [] [(.aG 0 0),(.aG 1 0)])] [(0,v),(1,u),(2,(.cells [(.int .i64 m)] ah false))] 3 fun d0=>(.aL (.bool (decide ((d0.ae 0).int≥(0:Int)))) [(0,v),(1,u),(2,(.cells [(.int .i64 (d0.ae 1).int)] ah false))]))) (.cells [(.int .i64 k)] ah false))) (.cells [(.aG 2 0)] AS false)):=
  oH ju 0x1
end
section
variable {W:WS} {r n0 n1 k o:Int} {Q:D->Prop} {l0:List D}
def LO:cw:={f:=dz,rs:=[aj],bu:=some 3}
@[simp] theorem aes:LO.f=dz/\LO.rs=[aj]:=⟨rfl,rfl⟩
theorem acm:lh LO (U3 W r) (Wm W) 3 Bb Q
 (.ite (D.fv W.th (D.z r)) (.aL (.bool true) (Wm W)) (.aL (.bool false) (Wm W))):=
  oH LO 0x0c9202910291
def EO:cw:={f:=jK,rs:=[q8],bu:=some 3,bD:=[(dz,Bb)]}
@[simp] theorem acJ:EO.f=jK/\EO.rs=[q8]:=⟨rfl,rfl⟩
theorem W7:lh EO (M9 W r) (Wm W) 3 IT Q
 (.aq dz [(.aG 0 0),(.int .i64 r)] (Wm W) 3 fun d0=>(.ite (! d0.bool) (.aL (.int .u8 0) (Wm W)) (.gd (D.fv W.th (D.z r)) (.aL (.int .u8 ((D.val W.th (D.z r)).ae 0).int) (Wm W))))):=
  oH EO 0x22100511
def yI:cw:={f:=oe,rs:=[nP],bu:=some 3,cK:=[(Ff,[q8],[nP])],bD:=[(dz,Bb)],bK:=[⟨oe,0,16465,[0,5,1],[]⟩]}
@[simp] theorem acH:yI.f=oe/\yI.rs=[nP]:=⟨rfl,rfl⟩
def tC (W:WS)(r n0 n1:Int):av:=hdS oe 77 [(0,(.aG 0 0)),(1,(.int .i64 n0)),(5,(.int .u8 n1))] [(0,wrC W 3 1 2 4),(1,wrT W 1),(2,wrF W),(3,(.an aj W.cu true)),(4,(.an ah W.ma true))]
theorem W5:lh yI (Em W r) (Wm W) 3 yy Q
 (.bE (tC W r r 63)):=
  oH yI 0x1
theorem OO:lk yI (.bu 3 (yy (Em W r) (Wm W)) Q) (tC W r n0 n1)
 ((fun (k:D)=>((fun (j:RT)=>((fun (v:D)=>((fun (u:Int)=>(.aq dz [(.aG 0 0),(.int .i64 n0)] (Wm W) 3 fun d0=>(.ite (! d0.bool) (.aL (.int .u8 0) (Wm W)) (.gd (D.fv W.th (D.z n0)) (.ite (v.int==(14:Int)) (.bE (tC W r (k.ae 6).int (wp .u8 ((BitVec.toNat ((BitVec.ofInt 8 u) &&& (BitVec.ofInt 8 (D.z (k.ae 8).int).int))):Int)))) (.ite (v.int==(15:Int)) j (.ite (v.int==(16:Int)) j (.call Ff [(D.z v.int)] fun d1=>(.aL (.int .u8 (wp .u8 ((BitVec.toNat ((BitVec.ofInt 8 u) &&& (BitVec.ofInt 8 (D.z d1.int).int))):Int))) (Wm W)))))))))) (wp .u8 ((BitVec.toNat ((BitVec.ofInt 8 63) &&& (BitVec.ofInt 8 (D.z n1).int))):Int)))) (k.ae 0))) (.bE (tC W r (k.ae 6).int n1)))) (D.val W.th (D.z n0))):=
  oE yI 0x22100522203507910351005025101507901511
def vL:cw:={f:=jL,rs:=[aj],bu:=some 3,bK:=[⟨jL,0,16435,[3,2,1,15],[]⟩]}
@[simp] theorem abB:vL.f=jL/\vL.rs=[aj]:=⟨rfl,rfl⟩
def ny (W:WS)(r k o:Int)(l0:List D):av:=hdS jL 37 [(1,(.int .i64 r)),(2,(.int .u8 k)),(3,(.int .i64 o)),(15,(.aG 3 0))] [(0,wrC W 4 1 2 5),(1,wrT W 1),(2,wrF W),(3,(.jS 1 (D.cX W.th) W.st W.ck l0)),(4,(.an aj W.cu true)),(5,(.an ah W.ma true))]
theorem TO:lh vL (vG W r k o) (Wm W) 3 rL Q
 (.bE (ny W r k o [])):=
  oH vL 0x1
theorem ML:lk vL (.bu 3 (rL (vG W r k o) (Wm W)) Q) (ny W r k o l0)
 (.gd (tR W.th W.st W.ck (D.cX W.th) W.st W.ck) (.pick (D.cX W.th) l0 (.aL (.bool false) (Wm W)) fun d0=>((fun (u:RT)=>(.ite (d0.int !=(r:Int)) (.gd (D.fv W.th d0) (.ite (((D.val W.th d0).ae 0).int==(k:Int)) (.ite (((D.val W.th d0).ae 6).int==(o:Int)) (.aL (.bool true) (Wm W)) u) u)) u)) (.bE (ny W r k o (d0::l0)))))):=
  oE vL 0x212300520600b08910300a210301a20600b310300a0150300a21131
end
end Go.Proofs
end
