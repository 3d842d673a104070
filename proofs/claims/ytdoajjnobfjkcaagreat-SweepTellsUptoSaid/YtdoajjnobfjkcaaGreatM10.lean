import Derived.Test.YtdoajjnobfjkcaaGreatM9
set_option linter.all false
noncomputable section
open Go.IntKind renaming wrap→wp
set_option maxHeartbeats 8000000
namespace Go.Proofs
open Go Go.PB
section
variable {a0 a1:D} {Q:D->Prop} {n0 n1:Int} {c0:Nat} {l2 l0:List D}
def wJ:cm:={f:=fB,rs:=[af],cz:=[(fB,[bK],[af])],bJ:=[⟨fB,0,16462,[0,4,3],[]⟩]}
@[simp] theorem adY:wJ.f=fB/\wJ.rs=[af]:=⟨rfl,rfl⟩
def oh (a0:D)(n0 n1:Int):au:=hdS fB 75 [(0,(.bw ba a0.ae)),(3,(.int .i64 n0)),(4,(.int .i64 n1))] []
theorem Wa:lp wJ [bK] [a0] Q
 (.bj (oh a0 0 0)):=
  oP wJ 0x1
theorem Hh:lk wJ (.dQ Q) (oh a0 n0 n1)
 ((fun (p:Int)=>((fun (k:D)=>((fun (j:Int)=>(.ite (decide (n1<(a0.ae.length:Int))) (.ite (decide (n0<=p)) (.gd (cP n1 a0.ae.length) (.call fB [(D.r (k.aa 7).ae)] fun d0=>((fun (v:Int)=>(.ite (decide (v<=p)) (.call fB [(D.r (k.aa 8).ae)] fun d1=>((fun (u:Int)=>(.ite (decide (u<=p)) (.call fB [(D.r (k.aa 9).ae)] fun d2=>(.bj (oh a0 (wp .i64 (u+d2.int)) j))) (.bj (oh a0 u j)))) (wp .i64 (v+d1.int)))) (.bj (oh a0 v j)))) (wp .i64 ((wp .i64 (n0+1))+d0.int))))) (.ret (D.z n0))) (.ret (D.z n0)))) (wp .i64 (n1+1)))) (D.at a0.ae n1.toNat))) (512:Int)):=
  oE wJ 0x20200b310200a212120061015210251
def jR:cm:={f:=dJ,rs:=[af],cz:=[(dJ,[aG,af],[af])],bJ:=[⟨dJ,0,16426,[1,2,6,5],[]⟩]}
@[simp] theorem Xc:jR.f=dJ/\jR.rs=[af]:=⟨rfl,rfl⟩
def kY (a0 a1:D)(n0 n1:Int):au:=hdS dJ 151 [(1,(.int .i64 a1.int)),(2,(.aP 0 0)),(5,(.int .i64 n0)),(6,(.int .i64 n1))] [(0,(.cells (aK pg aG a0) aG false))]
theorem K4:lp jR [aG,af] [a0,a1] Q
 (.ite (decide (a1.int>(16:Int))) (.ret (D.z 513)) (.bj (kY a0 a1 1 0))):=
  oP jR 0x211
theorem xF:lk jR (.dQ Q) (kY a0 a1 n0 n1)
 (.ite (decide (n1<((a0.aa 3).ae.length:Int))) (.ite (decide (n0<=(512:Int))) (.gd (cP n1 (a0.aa 3).ae.length) (.call dJ [(bU pg aG (D.at (a0.aa 3).ae n1.toNat)),(D.z (wp .i64 (a1.int+1)))] fun d0=>(.bj (kY a0 a1 (wp .i64 (n0+d0.int)) (wp .i64 (n1+1)))))) (.ret (D.z n0))) (.ret (D.z n0))):=
  oE jR 0x20200b310200a21211
def me:cm:={f:=ez,rs:=[af],cz:=[(ez,[aG],[af])],bJ:=[⟨ez,0,16421,[1,4,3],[]⟩]}
@[simp] theorem XX:me.f=ez/\me.rs=[af]:=⟨rfl,rfl⟩
def mL (a0:D)(n0 n1:Int):au:=hdS ez 151 [(1,(.aP 0 0)),(3,(.int .i64 n0)),(4,(.int .i64 n1))] [(0,(.cells (aK pg aG a0) aG false))]
theorem LV:lp me [aG] [a0] Q
 ((fun (u:RT)=>(.ite ((wp .i64 (a0.aa 0).int)!=(3:Int)) (.ite (((a0.aa 3).ae.length:Int)==(0:Int)) (.ret (D.z 0)) u) u)) (.bj (mL a0 0 0))):=
  oP me 0x20400b310400a211
theorem yP:lk me (.dQ Q) (mL a0 n0 n1)
 (.ite (decide (n1<((a0.aa 3).ae.length:Int))) (.gd (cP n1 (a0.aa 3).ae.length) (.call ez [(bU pg aG (D.at (a0.aa 3).ae n1.toNat))] fun d0=>(.bj (mL a0 (if (d0.int>n0)then d0.int else n0) (wp .i64 (n1+1)))))) (.ret (D.z (wp .i64 (n0+1))))):=
  oE me 0x21211
def tg:cm:={f:=mu,rs:=[ai],cz:=[(dJ,[aG,af],[af]),(ez,[aG],[af])]}
@[simp] theorem XY:tg.f=mu/\tg.rs=[ai]:=⟨rfl,rfl⟩
theorem LW:lp tg [aG] [a0] Q
 (.call dJ [(bU pg aG a0),(D.z 0)] fun d0=>(.ite (decide (d0.int<=(512:Int))) (.call ez [(bU pg aG a0)] fun d1=>(.ret (D.b (decide (d1.int<=(16:Int)))))) (.ret (D.b false)))):=
  oP tg 0x20300b10300a1
def lZ:cm:={f:=cw,rs:=[ai],cz:=[(mu,[aG],[ai]),(cw,[bK],[ai])],bJ:=[⟨cw,0,16468,[0,3],[]⟩]}
@[simp] theorem XW:lZ.f=cw/\lZ.rs=[ai]:=⟨rfl,rfl⟩
def om (a0:D)(n0:Int):au:=hdS cw 37 [(0,(.bw ba a0.ae)),(3,(.int .i64 n0))] []
theorem LU:lp lZ [bK] [a0] Q
 (.bj (om a0 0)):=
  oP lZ 0x1
theorem Aq:lk lZ (.dQ Q) (om a0 n0)
 ((fun (v:RT)=>((fun (u:D)=>(.ite (decide (n0<(a0.ae.length:Int))) (.gd (cP n0 a0.ae.length) (.ite (decide (((u.aa 10).ae.length:Int)>(64:Int))) v (.call mu [(bU pg aG (u.aa 5))] fun d0=>(.ite (! d0.bool) v (.call mu [(bU pg aG (u.aa 6))] fun d1=>(.ite (! d1.bool) v (.call cw [(D.r (u.aa 7).ae)] fun d2=>(.ite (! d2.bool) v (.call cw [(D.r (u.aa 8).ae)] fun d3=>(.ite (! d3.bool) v (.call cw [(D.r (u.aa 9).ae)] fun d4=>(.ite (! d4.bool) v (.bj (om a0 (wp .i64 (n0+1)))))))))))))))) (.ret (D.b true)))) (D.at a0.ae n0.toNat))) (.ret (D.b false))):=
  oE lZ 0x212120200b0150500b20200b0250500b20200b0350500b20200b0450500b20200b0550500b2110700a310700a09910700a11910700a19910700a2191
def qv:cm:={f:=gS,rs:=[dE],bJ:=[⟨gS,0,16421,[1,4,3],[]⟩]}
@[simp] theorem aa6:qv.f=gS/\qv.rs=[dE]:=⟨rfl,rfl⟩
def pT (a0:D)(c0:Nat)(n1:Int)(l2:List D):au:=hdS gS 151 [(1,(.aP 0 0)),(3,(.aZ 1 c0 true)),(4,(.int .i64 n1))] [(0,(.cells (aK pg aH a0) aH false)),(1,(.ak av l2 true))]
theorem Qr:lp qv [aH] [a0] Q
 (.gd ((decide ((1:Nat)=(1:Nat)))&&(aO 64 (1+(a0.aa 3).ae.length))) (.bj (pT a0 (1+(a0.aa 3).ae.length) 0 ([(bU pg av (a0.aa 2))]++(a0.aa 3).ae)))):=
  oP qv 0x211
theorem BS:lk qv (.dQ Q) (pT a0 c0 n1 l2)
 ((fun (u:Bool)=>(.ite (decide (n1<((a0.aa 11).ae.length:Int))) (.gd (cP n1 (a0.aa 11).ae.length) (.gd (u&&(aO 64 (c0+1))) (.bj (pT a0 (c0+1) (wp .i64 (n1+1)) (l2++[(bU pg av ((D.at (a0.aa 11).ae n1.toNat).aa 1))]))))) (.gd u (.ret (D.r l2))))) (decide (c0=l2.length))):=
  oE qv 0x2211213211
def wM:cm:={f:=mw,rs:=[aW],cz:=[(mw,[av],[aW])],bJ:=[⟨mw,0,16420,[1,4,3],[(3,25)]⟩]}
@[simp] theorem ad3:wM.f=mw/\wM.rs=[aW]:=⟨rfl,rfl⟩
def tF (a0:D)(c0:Nat)(n1:Int)(l2:List D):au:=hdS mw 151 [(1,(.aP 0 0)),(3,(.aZ 1 c0 true)),(4,(.int .i64 n1))] [(0,(.cells (aK pg av a0) av false)),(1,(.ak aA l2 true))]
theorem Wf:lp wM [av] [a0] Q
 (.ite ((a0.aa 0).int==(4:Int)) (.ret (D.r [(D.z (a0.aa 4).int)])) (.bj (tF a0 0 0 []))):=
  oP wM 0x2131
theorem E1:lk wM (.dQ Q) (tF a0 c0 n1 l2)
 ((fun (u:Bool)=>(.ite (decide (n1<((a0.aa 3).ae.length:Int))) (.gd (cP n1 (a0.aa 3).ae.length) (.call mw [(bU pg av (D.at (a0.aa 3).ae n1.toNat))] fun d0=>(.gd (u&&(aO 8 (c0+d0.ae.length))) (.bj (tF a0 (c0+d0.ae.length) (wp .i64 (n1+1)) (l2++d0.ae)))))) (.gd u (.ret (D.r l2))))) (decide (c0=l2.length))):=
  oE wM 0x221121211
def wH:cm:={f:=qD,rs:=[ai],cz:=[(je,[av],[ai]),(fB,[bK],[af]),(cw,[bK],[ai]),(gS,[aH],[dE])],bJ:=[⟨qD,0,16422,[3,4],[]⟩]}
@[simp] theorem adU:wH.f=qD/\wH.rs=[ai]:=⟨rfl,rfl⟩
def tw (a0:D)(l0:List D)(n1:Int):au:=hdS qD 151 [(3,(.bw av l0)),(4,(.int .i64 n1))] []
theorem V6:lp wH [aH] [a0] Q
 ((fun (v:D)=>((fun (u:RT)=>(.ite (decide (((a0.aa 3).ae.length:Int)>(1024:Int))) u (.ite (decide (((a0.aa 11).ae.length:Int)>(128:Int))) u (.call fB [v] fun d0=>(.ite (decide (d0.int>(512:Int))) u (.call cw [v] fun d1=>(.ite (! d1.bool) u (.call gS [(bU pg aH a0)] fun d2=>(.bj (tw a0 d2.ae 0)))))))))) (.ret (D.b false)))) (D.r (a0.aa 10).ae)):=
  oP wH 0x20400b20400b20400b2110400a310400a06910400a0b91
theorem ET:lk wH (.dQ Q) (tw a0 l0 n1)
 (.ite (decide (n1<(l0.length:Int))) (.gd (cP n1 l0.length) (.call je [(bU pg av (D.at l0 n1.toNat))] fun d0=>(.ite (! d0.bool) (.ret (D.b false)) (.bj (tw a0 l0 (wp .i64 (n1+1))))))) (.ret (D.b true))):=
  oE wH 0x2121211
def mZ:cm:={f:=ig,rs:=[ai],cz:=[(qD,[aH],[ai])],bJ:=[⟨ig,0,16471,[2,1,5],[]⟩,⟨ig,0,16432,[1,6],[]⟩]}
@[simp] theorem acQ:mZ.f=ig/\mZ.rs=[ai]:=⟨rfl,rfl⟩
def tu (a0 a1:D)(n0:Int):au:=hdS ig 75 [(1,(.bw br a1.ae)),(2,(.aP 0 0)),(5,(.int .i64 n0))] [(0,(.cells (aK pg bu a0) bu false))]
def rD (a0 a1:D)(n0:Int):au:=hdS ig 151 [(1,(.bw br a1.ae)),(6,(.int .i64 n0))] []
theorem SU:lp mZ [bu,eg] [a0,a1] Q
 ((fun (u:RT)=>(.ite (decide (((a0.aa 2).ae.length:Int)>(60:Int))) u (.ite (decide (((a0.aa 0).ae.length:Int)>(40:Int))) u (.ite (decide (((a0.aa 1).ae.length:Int)>(40:Int))) u (.ite (decide (((a0.aa 4).ae.length:Int)>(40:Int))) u (.ite (decide ((a1.ae.length:Int)>(12:Int))) u (.bj (tu a0 a1 0)))))))) (.ret (D.b false))):=
  oP mZ 0x20400b20400b20400b20300b2110300a310400a05910400a0a910400a0f91
theorem EN:lk mZ (.dQ Q) (tu a0 a1 n0)
 (.ite (decide (n0<((a0.aa 2).ae.length:Int))) (.gd (cP n0 (a0.aa 2).ae.length) (.call qD [(bU pg aH ((D.at (a0.aa 2).ae n0.toNat).aa 1))] fun d0=>(.ite (! d0.bool) (.ret (D.b false)) (.bj (tu a0 a1 (wp .i64 (n0+1))))))) (.bj (rD a0 a1 0))):=
  oE mZ 0x2121211
theorem C7:lk mZ (.dQ Q) (rD a0 a1 n0)
 ((fun (u:D)=>(.ite (decide (n0<(a1.ae.length:Int))) (.gd (cP n0 a1.ae.length) (.ite (decide (((u.aa 2).ae.length:Int)>(80:Int))) (.ret (D.b false)) (.ite (decide (((u.aa 3).ae.length:Int)>(400:Int))) (.ret (D.b false)) (.bj (rD a0 a1 (wp .i64 (n0+1))))))) (.ret (D.b true)))) (D.at a1.ae n0.toNat)):=
  oE mZ 0x212120200b0150500b2110700a31
end
section
variable {a0 a1:D} {Q:D->Prop} {n0 n1:Int}
def sL:cm:={f:=jC,rs:=[af],cz:=[(jC,[av,af],[af])],bJ:=[⟨jC,0,16426,[1,2,6,5],[]⟩]}
@[simp] theorem acY:sL.f=jC/\sL.rs=[af]:=⟨rfl,rfl⟩
def rG (a0 a1:D)(n0 n1:Int):au:=hdS jC 151 [(1,(.int .i64 a1.int)),(2,(.aP 0 0)),(5,(.int .i64 n0)),(6,(.int .i64 n1))] [(0,(.cells (aK pg av a0) av false))]
theorem S4:lp sL [av,af] [a0,a1] Q
 (.ite (decide (a1.int>(16:Int))) (.ite ((wp .i64 (a0.aa 0).int)==(3:Int)) (.ret (D.z 513)) (.ret (D.z 513))) (.bj (rG a0 a1 1 0))):=
  oP sL 0x20400b03900610400a20200b01510200a31
theorem De:lk sL (.dQ Q) (rG a0 a1 n0 n1)
 (.ite (decide (n1<((a0.aa 3).ae.length:Int))) (.ite (decide (n0<=(512:Int))) (.gd (cP n1 (a0.aa 3).ae.length) (.call jC [(bU pg av (D.at (a0.aa 3).ae n1.toNat)),(D.z (wp .i64 (a1.int+1)))] fun d0=>(.bj (rG a0 a1 (wp .i64 (n0+d0.int)) (wp .i64 (n1+1)))))) (.ret (D.z n0))) (.ret (D.z n0))):=
  oE sL 0x20200b310200a21211
def wG:cm:={f:=mq,rs:=[af],cz:=[(mq,[av],[af])],bJ:=[⟨mq,0,16421,[1,4,3],[]⟩]}
@[simp] theorem adT:wG.f=mq/\wG.rs=[af]:=⟨rfl,rfl⟩
def tv (a0:D)(n0 n1:Int):au:=hdS mq 151 [(1,(.aP 0 0)),(3,(.int .i64 n0)),(4,(.int .i64 n1))] [(0,(.cells (aK pg av a0) av false))]
theorem V5:lp wG [av] [a0] Q
 (.ite ((wp .i64 (a0.aa 0).int)!=(3:Int)) (.ret (D.z 0)) (.bj (tv a0 0 0))):=
  oP wG 0x211
theorem ES:lk wG (.dQ Q) (tv a0 n0 n1)
 (.ite (decide (n1<((a0.aa 3).ae.length:Int))) (.gd (cP n1 (a0.aa 3).ae.length) (.call mq [(bU pg av (D.at (a0.aa 3).ae n1.toNat))] fun d0=>(.bj (tv a0 (if (d0.int>n0)then d0.int else n0) (wp .i64 (n1+1)))))) (.ret (D.z (wp .i64 (n0+1))))):=
  oE wG 0x21211
def qu:cm:={f:=gQ,rs:=[ai],cz:=[(gQ,[av],[ai]),(xr,[av],[ai])],bJ:=[⟨gQ,0,16426,[1,3],[]⟩]}
@[simp] theorem aa5:qu.f=gQ/\qu.rs=[ai]:=⟨rfl,rfl⟩
def rF (a0:D)(n0:Int):au:=hdS gQ 37 [(1,(.aP 0 0)),(3,(.int .i64 n0))] [(0,(.cells (aK pg av a0) av false))]
theorem Qq:lp qu [av] [a0] Q
 (.bj (rF a0 0)):=
  oP qu 0x1
theorem Dd:lk qu (.dQ Q) (rF a0 n0)
 (.ite (decide (n0<((a0.aa 3).ae.length:Int))) (.gd (cP n0 (a0.aa 3).ae.length) (.call gQ [(bU pg av (D.at (a0.aa 3).ae n0.toNat))] fun d0=>(.ite (! d0.bool) (.ret (D.b false)) (.bj (rF a0 (wp .i64 (n0+1))))))) (.call xr [(bU pg av a0)] fun d1=>(.ret (D.b d1.bool)))):=
  oE qu 0x2121211
def AZ:cm:={f:=xr,rs:=[ai]}
@[simp] theorem acX:AZ.f=xr/\AZ.rs=[ai]:=⟨rfl,rfl⟩
theorem S2:lp AZ [av] [a0] Q
 ((fun (k:RT)=>((fun (z:Int)=>((fun (v:RT)=>((fun (j:RT)=>((fun (u:RT)=>(.ite (z==(0:Int)) (.ite ((a0.aa 1).int==(0:Int)) u v) (.ite (z==(1:Int)) u (.ite (z==(2:Int)) (.ite ((a0.aa 1).int==(0:Int)) (.ite (decide (((a0.aa 2).b8.length:Int)<=(256:Int))) j v) v) (.ite (z==(3:Int)) (.ite ((a0.aa 1).int==(0:Int)) (.ite ((a0.aa 2).b8==[]) k v) v) (.ite (z==(4:Int)) (.ite ((a0.aa 1).int==(0:Int)) (.ite ((a0.aa 2).b8==[]) (.ite (((a0.aa 3).ae.length:Int)==(0:Int)) (.ret (D.b (decide ((a0.aa 4).int≥(1:Int))))) v) v) v) v)))))) (.ite ((a0.aa 2).b8==[]) j v))) (.ite (((a0.aa 3).ae.length:Int)==(0:Int)) k v))) (.ret (D.b false)))) (wp .i64 (a0.aa 0).int))) (.ret (D.b ((a0.aa 4).int==(0:Int))))):=
  oP AZ 0x22222120300b09910300a20400b04910400a20300b10300a120300b04910300a20300b10300a120400b09910400a20400b04910400a20300b10300a120400b04910400a20300b10300a120300b09910300a20400b04910400a20300b10300a1
def Gk:cm:={f:=je,rs:=[ai],cz:=[(jC,[av,af],[af]),(mq,[av],[af]),(gQ,[av],[ai])]}
@[simp] theorem ae2:Gk.f=je/\Gk.rs=[ai]:=⟨rfl,rfl⟩
theorem Ze:lp Gk [av] [a0] Q
 (.call jC [(bU pg av a0),(D.z 0)] fun d0=>(.ite (decide (d0.int<=(512:Int))) (.call mq [(bU pg av a0)] fun d1=>(.ite (decide (d1.int<=(16:Int))) (.call gQ [(bU pg av a0)] fun d2=>(.ret (D.b d2.bool))) (.ret (D.b false)))) (.ret (D.b false)))):=
  oP Gk 0x20300b03910300a20200b10200a1
def wF:cm:={f:=fy,rs:=[ai],cz:=[(fy,[av,av],[ai])],bJ:=[⟨fy,0,16429,[3,2,5],[]⟩]}
@[simp] theorem adS:wF.f=fy/\wF.rs=[ai]:=⟨rfl,rfl⟩
def vV (a0 a1:D)(n0:Int):au:=hdS fy 75 [(2,(.aP 0 0)),(3,(.aP 1 0)),(5,(.int .i64 n0))] [(0,(.cells (aK pg av a0) av false)),(1,(.cells (aK pg av a1) av false))]
theorem V4:lp wF [av,av] [a0,a1] Q
 ((fun (u:RT)=>(.ite ((a0.aa 0).int !=(a1.aa 0).int) u (.ite ((a0.aa 1).int !=(a1.aa 1).int) u (.ite (! ((a0.aa 2).b8==(a1.aa 2).b8)) u (.ite ((a0.aa 4).int !=(a1.aa 4).int) u (.ite (((a0.aa 3).ae.length:Int)!=((a1.aa 3).ae.length:Int)) u (.bj (vV a0 a1 0)))))))) (.ret (D.b false))):=
  oP wF 0x20500b20500b20500b20700b2110700a310500a09910500a0f910500a1591
theorem Hd:lk wF (.dQ Q) (vV a0 a1 n0)
 (.ite (decide (n0<((a0.aa 3).ae.length:Int))) (.gd (cP n0 (a0.aa 3).ae.length) (.gd (cP n0 (a1.aa 3).ae.length) (.call fy [(bU pg av (D.at (a0.aa 3).ae n0.toNat)),(bU pg av (D.at (a1.aa 3).ae n0.toNat))] fun d0=>(.ite (! d0.bool) (.ret (D.b false)) (.bj (vV a0 a1 (wp .i64 (n0+1)))))))) (.ret (D.b true))):=
  oE wF 0x212121211
end
section
variable {a0:D} {p q n0 n1 n2:Int} {Q:D->Prop} {l1 l pl Ai:List D} {c c0:Nat}
def kN:cm:={f:=fI,rs:=[ai],bx:=some 1,bL:=[(fI,iW)],bJ:=[⟨fI,0,24648,[0,66,5,67,68],[]⟩]}
@[simp] theorem aas:kN.f=fI/\kN.rs=[ai]:=⟨rfl,rfl⟩
def jn (a0:D)(p q:Int)(n0 n1 n2:Int):au:=hdS fI 9895855 [(0,(.aP 0 0)),(5,(.aP 1 0)),(66,(.bw av (a0.aa 3).ae)),(67,(.int .i64 ((a0.aa 3).ae.length:Int))),(68,(.int .i64 n0))] [(0,(.cells [(.int .i64 n1),(.int .i64 n2)] gW false)),(1,(.cells (aK pg av a0) av false))]
theorem Oo:lh kN (vF a0 p q) (vG a0 p q) 1 iW Q
 ((fun (t:Int)=>((fun (k:aI)=>((fun (j:RT)=>((fun (u:RT)=>((fun (z:RT)=>((fun (v:RT)=>(.ite ((p:Int)==(0:Int)) (.aS (.bool false) [(0,(.cells [(.int .i64 p),(.int .i64 q)] gW false))]) (.ite ((a0.aa 0).int==(0:Int)) (.ite ((a0.aa 1).int==(0:Int)) v u) (.ite ((a0.aa 0).int==(1:Int)) v (.ite ((a0.aa 0).int==(2:Int)) (.ite (decide (((a0.aa 2).b8.length:Int)>(256:Int))) u (.ite ((a0.aa 1).int==(0:Int)) z u)) (.ite ((a0.aa 0).int==(4:Int)) (.ite (decide ((a0.aa 4).int<(1:Int))) u (.ite ((a0.aa 1).int==(0:Int)) (.ite ((a0.aa 2).b8==[]) j u) u)) (.ite ((a0.aa 0).int==(3:Int)) (.ite ((q:Int)==(0:Int)) u (.ite (decide (((a0.aa 3).ae.length:Int)>t)) u (.bj (jn a0 p q 0 t (wp .i64 (q-1)))))) u))))))) (.ite ((a0.aa 2).b8==[]) z u))) (.ite ((a0.aa 4).int==(0:Int)) j u))) (.aS (.bool false) [(0,k)]))) (.aS (.bool (((a0.aa 3).ae.length:Int)==(0:Int))) [(0,k)]))) (.cells [(.int .i64 t),(.int .i64 q)] gW false))) (wp .i64 (p-1))):=
  oH kN 0x222222120800b2110800a31220300b09910300a20300b05910300a05911220300b09910300a04920400b10400a1104920300b05910300a20400b10400a120300b09910300a20300b05910300a20400b10400a11
theorem u9:lk kN (.bx 1 (iW (vF a0 p q) (vG a0 p q)) Q) (jn a0 p q n0 n1 n2)
 ((fun (v:aI)=>((fun (u:RT)=>(.ite (decide (n0<((a0.aa 3).ae.length:Int))) (.gd (cP n0 (a0.aa 3).ae.length) (.aC fI [(.aP 0 0),(.agg (aK pg av (D.at (a0.aa 3).ae n0.toNat)))] [(0,(.cells [(.int .i64 n1),(.int .i64 n2)] gW false))] 1 fun d0=>(.ite (! (d0.aa 0).bool) (.aS (.bool false) [(0,(.cells [(.int .i64 (d0.aa 1).int),(.int .i64 (d0.aa 2).int)] gW false))]) (.bj (jn a0 p q (wp .i64 (n0+1)) (d0.aa 1).int (d0.aa 2).int))))) (.ite ((a0.aa 1).int==(0:Int)) (.ite ((a0.aa 2).b8==[]) (.ite ((a0.aa 4).int==(0:Int)) (.aS (.bool true) [(0,v)]) u) u) u))) (.aS (.bool false) [(0,v)]))) (.cells [(.int .i64 n1),(.int .i64 (wp .i64 (n2+1)))] gW false)):=
  oE kN 0x220300b09910300a20300b05910300a20400b10400a121211
def yq:cm:={f:=uQ,rs:=[af],bL:=[(fI,iW)]}
@[simp] theorem aa8:yq.f=uQ/\yq.rs=[af]:=⟨rfl,rfl⟩
theorem Qu:lp yq [av] [a0] Q
 (.aC fI [(.aP 0 0),(.agg (aK pg av a0))] [(0,(.cells [(.int .i64 512),(.int .i64 16)] gW false))] 1 fun d0=>(.ite (! (d0.aa 0).bool) (.ret (D.z 0)) (.ret (D.z (wp .i64 (512-(d0.aa 1).int)))))):=
  oP yq 0x211
def JL:cm:={f:=fH,rs:=[ai],cz:=[(uQ,[av],[af])]}
@[simp] theorem afu:JL.f=fH/\JL.rs=[ai]:=⟨rfl,rfl⟩
theorem abZ:lp JL [av] [a0] Q
 (.call uQ [(bU pg av a0)] fun d0=>(.ret (D.b (decide (d0.int>(0:Int)))))):=
  oP JL 0x1
def DN:cm:={f:=pK,rs:=[av],cz:=[(pK,[av],[av])],bJ:=[⟨pK,0,16425,[3,17,2,1,18,19],[]⟩]}
@[simp] theorem afx:DN.f=pK/\DN.rs=[av]:=⟨rfl,rfl⟩
def yC (a0:D)(n0:Int)(l1:List D):au:=hdS pK 151 [(1,(.aP 0 0)),(2,(.aP 1 0)),(3,(.aZ 2 (a0.aa 3).ae.length true)),(17,(.bw av (a0.aa 3).ae)),(18,(.int .i64 ((a0.aa 3).ae.length:Int))),(19,(.int .i64 n0))] [(0,(.cells (aK pg av a0) av false)),(1,(.cells [(.int .u8 0),(.int .i64 0),(.b8 []),.cX,(.int .i64 0)] av false)),(2,(.ak av l1 true))]
theorem ab2:lp DN [av] [a0] Q
 (.ite (((a0.aa 3).ae.length:Int)==(0:Int)) (.ret (D.r [(D.z (a0.aa 0).int),(D.z (a0.aa 1).int),(D.s (a0.aa 2).b8),(D.r []),(D.z (a0.aa 4).int)])) (.gd (rZ ((a0.aa 3).ae.length:Int) ((a0.aa 3).ae.length:Int) 64) (.bj (yC a0 0 (List.replicate (a0.aa 3).ae.length (D.r [(D.z 0),(D.z 0),(D.s []),(D.r []),(D.z 0)])))))):=
  oP DN 0x22111
theorem I9:lk DN (.dQ Q) (yC a0 n0 l1)
 (.ite (decide (n0<((a0.aa 3).ae.length:Int))) (.gd (cP n0 (a0.aa 3).ae.length) (.call pK [(bU pg av (D.at (a0.aa 3).ae n0.toNat))] fun d0=>(.gd (decide (n0.toNat<l1.length)) (.bj (yC a0 (wp .i64 (n0+1)) (List.set l1 n0.toNat (bU pg av d0))))))) (.gd (decide ((a0.aa 3).ae.length=l1.length)) (.ret (D.r [(D.z (a0.aa 0).int),(D.z (a0.aa 1).int),(D.s (a0.aa 2).b8),(D.r l1),(D.z (a0.aa 4).int)])))):=
  oE DN 0x221121005211
def JM:cm:={f:=A6,rs:=[av,aM],cz:=[(fH,[av],[ai]),(pK,[av],[av])]}
@[simp] theorem afv:JM.f=A6/\JM.rs=[av,aM]:=⟨rfl,rfl⟩
theorem ab0:lp JM [av] [a0] Q
 (.call fH [(bU pg av a0)] fun d0=>(.ite (! d0.bool) (.ret (D.r [(D.r [(D.z 0),(D.z 0),(D.s []),(D.r []),(D.z 0)]),(D.z 2)])) (.call pK [(bU pg av a0)] fun d1=>(.ret (D.r [(bU pg av d1),(D.z 0)]))))):=
  oP JM 0x211
def eE:cm:={f:=dB,rs:=[af],bx:=some 0,cz:=[(fH,[av],[ai])],bJ:=[⟨dB,0,16423,[0,1,7,8],[]⟩]}
@[simp] theorem R0:eE.f=dB/\eE.rs=[af]:=⟨rfl,rfl⟩
def jh (l:List D)(n0:Int):au:=hdS dB 37 [(0,(.bw av l)),(1,(.func (.func z6) [] [])),(7,(.int .i64 (l.length:Int))),(8,(.int .i64 n0))] []
theorem G2:lh eE (mG l) [] 0 eD Q
 (.bj (jh l 0)):=
  oH eE 0x1
theorem u0:lk eE (.bx 0 (eD (mG l) []) Q) (jh l n0)
 (.ite (decide (n0<(l.length:Int))) (.gd (cP n0 l.length) (.call fH [(bU pg av (D.at l n0.toNat))] fun d0=>(.ite (! d0.bool) (.aS (.int .i64 n0) []) (.bj (jh l (wp .i64 (n0+1))))))) (.aS (.int .i64 (-1)) [])):=
  oE eE 0x2121211
def iY:cm:={f:=fR,rs:=[ai],bx:=some 0,bL:=[(dB,eD)]}
@[simp] theorem OV:iY.f=fR/\iY.rs=[ai]:=⟨rfl,rfl⟩
theorem CY:lh iY (tJ l) [] 0 mS Q
 (.aC dB [(.bw av l),(.func (.func z6) [] [])] [] 0 fun d0=>(.aS (.bool (decide (d0.int≥(0:Int)))) [])):=
  oH iY 0x1
def JN:cm:={f:=GF,rs:=[ai],bL:=[(fR,mS)]}
@[simp] theorem afw:JN.f=GF/\JN.rs=[ai]:=⟨rfl,rfl⟩
theorem ab1:lp JN [dE] [a0] Q
 (.aC fR [(.bw av a0.ae),(.func (.func z6) [] [])] [] 0 fun d0=>(.ret (D.b (! d0.bool)))):=
  oP JN 0x1
def NJ:cm:={f:=zi,rs:=[av,aM],cz:=[(fH,[av],[ai]),(pK,[av],[av]),(GF,[dE],[ai])]}
@[simp] theorem agx:NJ.f=zi/\NJ.rs=[av,aM]:=⟨rfl,rfl⟩
theorem aet:lp NJ [dE] [a0] Q
 ((fun (v:D)=>((fun (u:D)=>(.call GF [(D.r a0.ae)] fun d0=>(.ite (! d0.bool) (.ret (D.r [v,(D.z 2)])) (.call fH [u] fun d1=>(.ite (! d1.bool) (.ret (D.r [v,(D.z 4)])) (.call pK [u] fun d2=>(.ret (D.r [(bU pg av d2),(D.z 0)])))))))) (D.r [(D.z 3),(D.z 0),(D.s []),(D.r a0.ae),(D.z 0)]))) (D.r [(D.z 0),(D.z 0),(D.s []),(D.r []),(D.z 0)])):=
  oP NJ 0x22111
def xg:cm:={f:=lB,rs:=[ai],bx:=some 1,bL:=[(lB,tU)],bJ:=[⟨lB,0,16429,[2,1,15,16,17],[]⟩],B8:=[(aW,0,aA)],D0:=[(lB,[none,some Dn,none])]}
@[simp] theorem afa:xg.f=lB/\xg.rs=[ai]:=⟨rfl,rfl⟩
def uX (a0:D)(pl Ai:List D)(c c0:Nat)(l1:List D)(n2:Int):au:=hdS lB 75 [(1,(.bw af pl)),(2,(.func (.func A7) [] [(.aP 0 0)])),(15,(.bw av (a0.aa 3).ae)),(16,(.int .i64 ((a0.aa 3).ae.length:Int))),(17,(.int .i64 n2))] [(0,(.cells [(.aZ 1 c0 true)] aW false)),(1,(.ak aA l1 true))]
theorem Zm:lh xg (FQ a0 pl Ai c) (FV a0 pl Ai c) 1 tU Q
 (.ite ((a0.aa 0).int==(4:Int)) (.gd ((decide (c=Ai.length))&&(aO 8 (c+1))) (.bj (uX a0 pl Ai c (c+1) (Ai++[(D.z (a0.aa 4).int)]) 0))) (.bj (uX a0 pl Ai c c Ai 0))):=
  oH xg 0x23132131
theorem Ja:lk xg (.bx 1 (tU (FQ a0 pl Ai c) (FV a0 pl Ai c)) Q) (uX a0 pl Ai c c0 l1 n2)
 ((fun (u:aI)=>(.ite (decide (n2<((a0.aa 3).ae.length:Int))) (.gd (cP n2 (a0.aa 3).ae.length) (.gd ((((Nat.beq pl.length pl.length)&&true)&&(decide ((0:Nat)<=pl.length)))&&(decide (pl.length<=pl.length))) (.gd (((decide ((0:Nat)<(1:Nat)))||(decide ((kg pl 0 pl.length).length=(0:Nat))))&&(aO 8 ((kg pl 0 pl.length).length+1))) (.gd (decide (((kg pl 0 pl.length).length+1)=((kg pl 0 pl.length)++[(D.z n2)]).length)) (.aC lB [(.agg (aK pg av (D.at (a0.aa 3).ae n2.toNat))),(.bw af (D.r ((kg pl 0 pl.length)++[(D.z n2)])).ae),(.func (.func A7) [] [(.aP 0 0)])] [(0,u),(1,(.ak aA l1 true))] 1 fun d0=>(.bj (uX a0 pl Ai c d0.ae.length d0.ae (wp .i64 (n2+1))))))))) (.aS (.bool true) [(0,u),(1,(.ak aA l1 true))]))) (.cells [(.aZ 1 c0 true)] aW false)):=
  oE xg 0x212102921432142131
def Gq:cm:={f:=jf,rs:=[aW],bx:=some 0,cz:=[(fH,[av],[ai])],bL:=[(lB,tU)],B8:=[(aW,0,aA)],D0:=[(lB,[none,some Dn,none])]}
@[simp] theorem ae9:Gq.f=jf/\Gq.rs=[aW]:=⟨rfl,rfl⟩
theorem Zl:lh Gq (O5 a0) [] 0 zB Q
 (.call fH [(bU pg av a0)] fun d0=>(.ite d0.bool (.aC lB [(.agg (aK pg av a0)),(.bw af (D.r []).ae),(.func (.func A7) [] [(.aP 0 0)])] [(0,(.cells [(.aZ 1 0 true)] aW false)),(1,(.ak aA [] true))] 1 fun d1=>(.aS (.aZ 0 d1.ae.length true) [(0,(.ak aA d1.ae true))])) (.aS (.aZ 0 0 true) [(0,(.ak aA [] true))]))):=
  oH Gq 0x211
end
section
variable {a0:D} {Q:D->Prop} {l0 l3:List D} {c1:Nat} {n2:Int}
def wI:cm:={f:=fA,rs:=[aW],bx:=some 0,cz:=[(gS,[aH],[dE]),(mw,[av],[aW])],bJ:=[⟨fA,0,16418,[4,5,3],[(3,25)]⟩],xM:=[some aA]}
@[simp] theorem adW:wI.f=fA/\wI.rs=[aW]:=⟨rfl,rfl⟩
def tB (a0:D)(l0:List D)(c1:Nat)(n2:Int)(l3:List D):au:=hdS fA 151 [(3,(.aZ 0 c1 true)),(4,(.bw av l0)),(5,(.int .i64 n2))] [(0,(.ak aA l3 true))]
theorem V8:lh wI (Dr a0) [] 0 qm Q
 (.call gS [(bU pg aH a0)] fun d0=>(.bj (tB a0 d0.ae 0 0 []))):=
  oH wI 0x1
theorem EX:lk wI (.bx 0 (qm (Dr a0) []) Q) (tB a0 l0 c1 n2 l3)
 (.ite (decide (n2<(l0.length:Int))) (.gd (cP n2 l0.length) (.call mw [(bU pg av (D.at l0 n2.toNat))] fun d0=>(.gd ((decide (c1=l3.length))&&(aO 8 (c1+d0.ae.length))) (.bj (tB a0 l0 (c1+d0.ae.length) (wp .i64 (n2+1)) (l3++d0.ae)))))) (.aS (.aZ 0 c1 true) [(0,(.ak aA l3 true))])):=
  oE wI 0x2121211
end
section
variable {a0:D} {Q:D->Prop} {c0:Nat} {l1:List D} {n2:Int}
def JO:cm:={f:=GG,rs:=[lM]}
@[simp] theorem afz:JO.f=GG/\JO.rs=[lM]:=⟨rfl,rfl⟩
theorem ab4:lp JO [lO] [a0] Q
 ((fun (u:RT)=>(.ite (a0.int==(1:Int)) (.ret (D.z 3)) (.ite (a0.int==(2:Int)) (.ret (D.z 9)) (.ite (a0.int==(3:Int)) (.ret (D.z 9)) (.ite (a0.int==(4:Int)) (.ret (D.z 12)) (.ite (a0.int==(5:Int)) u (.ite (a0.int==(6:Int)) u (.ite (a0.int==(8:Int)) u (.ite (a0.int==(12:Int)) u (.ite (a0.int==(9:Int)) (.ret (D.z 13)) (.ite (a0.int==(10:Int)) (.ret (D.z 1)) (.ite (a0.int==(11:Int)) (.ret (D.z 8)) (.ite (a0.int==(13:Int)) (.ret (D.z 33)) (.ret (D.z 0))))))))))))))) (.ret (D.z 16))):=
  oP JO 0x22222222222210791110a9110051005100510791079100507910791
def JH:cm:={f:=q0,rs:=[ai]}
@[simp] theorem afo:JH.f=q0/\JH.rs=[ai]:=⟨rfl,rfl⟩
theorem abT:lp JH [lM] [a0] Q
 (.ret (D.b ((wp .u8 ((BitVec.toNat ((BitVec.ofInt 8 a0.int) &&& (~~~ (BitVec.ofInt 8 63)))):Int))==(0:Int)))):=
  oP JH 0x1
def JI:cm:={f:=GA,rs:=[ai],cz:=[(q0,[lM],[ai]),(gI,[tu8],[af])]}
@[simp] theorem afp:JI.f=GA/\JI.rs=[ai]:=⟨rfl,rfl⟩
theorem abU:lp JI [lM] [a0] Q
 (.call q0 [(D.z a0.int)] fun d0=>(.ite d0.bool (.call gI [(D.z a0.int)] fun d1=>(.ret (D.b (d1.int==(1:Int))))) (.ret (D.b false)))):=
  oP JI 0x20300b10300a1
def Gs:cm:={f:=CJ,rs:=[aH]}
@[simp] theorem afc:Gs.f=CJ/\Gs.rs=[aH]:=⟨rfl,rfl⟩
theorem Zo:lp Gs [aH] [a0] Q
 ((fun (uu:D)=>((fun (o:D)=>((fun (i:D)=>((fun (t:D)=>((fun (j:D)=>((fun (v:D)=>((fun (u:D)=>((fun (q:RT)=>((fun (p:RT)=>((fun (k:RT)=>(.ite ((a0.aa 0).int==(1:Int)) (.ret (D.r [v,j,(bU pg av (a0.aa 2)),(D.r []),(D.z 0),(D.z 0),(D.z 0),(D.z 0),(D.z 0),i,(D.r []),(D.r [])])) (.ite ((a0.aa 0).int==(2:Int)) q (.ite ((a0.aa 0).int==(4:Int)) q (.ite ((a0.aa 0).int==(3:Int)) (.ret (D.r [v,j,u,(D.r []),o,(D.z 0),(D.z 0),(D.z 0),(D.z 0),i,(D.r []),(D.r [])])) (.ite ((a0.aa 0).int==(6:Int)) p (.ite ((a0.aa 0).int==(11:Int)) p (.ite ((a0.aa 0).int==(7:Int)) (.ret (D.r [v,j,(bU pg av (a0.aa 2)),(D.r []),(D.z 0),(D.z 0),t,(D.z 0),(D.z 0),i,(D.r []),(D.r [])])) (.ite ((a0.aa 0).int==(8:Int)) (.ret (D.r [v,j,u,(D.r []),o,(D.z (a0.aa 5).int),(D.z 0),(D.z 0),(D.z 0),i,(D.r []),(D.r [])])) (.ite ((a0.aa 0).int==(9:Int)) (.ret (D.r [v,j,u,(D.r []),o,(D.z 0),t,(D.z 0),(D.z 0),i,(D.r []),(D.r [])])) (.ite ((a0.aa 0).int==(10:Int)) (.ret (D.r [v,j,(bU pg av (a0.aa 2)),(D.r []),(D.z 0),(D.z 0),(D.z 0),(D.z 0),(D.z 0),uu,(D.r []),(D.r [])])) (.ite ((a0.aa 0).int==(12:Int)) (.ret (D.r [v,j,u,(D.r []),(D.z 0),(D.z 0),(D.z 0),(D.z 0),(D.z 0),i,(D.r (a0.aa 10).ae),(D.r (a0.aa 11).ae)])) (.ite ((a0.aa 0).int==(13:Int)) (.ret (D.r [v,j,u,(D.r []),(D.z 0),(D.z 0),t,(D.z 0),(D.z 0),uu,(D.r []),(D.r [])])) (.ite ((a0.aa 0).int==(15:Int)) k (.ite ((a0.aa 0).int==(16:Int)) k (.ite ((a0.aa 0).int==(14:Int)) (.ret (D.r [v,(D.z 0),u,(D.r []),(D.z 0),(D.z 0),t,(D.z 0),(D.z (a0.aa 8).int),i,(D.r []),(D.r [])])) (.ret (D.r [v,j,u,(D.r []),(D.z 0),(D.z 0),(D.z 0),(D.z 0),(D.z 0),i,(D.r []),(D.r [])])))))))))))))))))) (.ret (D.r [v,j,u,(D.r []),(D.z 0),(D.z 0),t,(D.z (a0.aa 7).int),(D.z 0),i,(D.r []),(D.r [])])))) (.ret (D.r [v,j,u,(D.r []),(D.z 0),(D.z 0),t,(D.z 0),(D.z 0),i,(D.r []),(D.r [])])))) (.ret (D.r [v,j,u,(D.r (a0.aa 3).ae),(D.z 0),(D.z 0),(D.z 0),(D.z 0),(D.z 0),i,(D.r []),(D.r [])])))) (D.r [(D.z 0),(D.z 0),(D.s []),(D.r []),(D.z 0)]))) (D.z (a0.aa 0).int))) (D.z (a0.aa 1).int))) (D.z (a0.aa 6).int))) (D.b false))) (D.z (a0.aa 4).int))) (D.b (a0.aa 9).bool)):=
  oP Gs 0x222222222222222114100541414141414141100511100511
def ud:cm:={f:=fj,rs:=[aW],bx:=some 0,bL:=[(jf,zB)],bJ:=[⟨fj,0,16451,[12,1,13,14,3],[]⟩,⟨fj,0,16418,[24,25,26,3],[]⟩]}
@[simp] theorem afd:ud.f=fj/\ud.rs=[aW]:=⟨rfl,rfl⟩
def yD (a0:D)(c0:Nat)(l1:List D)(n2:Int):au:=hdS fj 75 [(1,(.aP 0 0)),(3,(.aZ 1 c0 true)),(12,(.bw av (a0.aa 3).ae)),(13,(.int .i64 ((a0.aa 3).ae.length:Int))),(14,(.int .i64 n2))] [(0,(.cells (aK pg aH a0) aH false)),(1,(.ak aA l1 true))]
def v8 (a0:D)(c0:Nat)(l1:List D)(n2:Int):au:=hdS fj 151 [(3,(.aZ 0 c0 true)),(24,(.bw iF (a0.aa 11).ae)),(25,(.int .i64 ((a0.aa 11).ae.length:Int))),(26,(.int .i64 n2))] [(0,(.ak aA l1 true))]
theorem Zp:lh ud (zt a0) [] 0 tV Q
 (.aC jf [(.agg (aK pg av (a0.aa 2)))] [] 0 fun d0=>(.bj (yD a0 d0.ae.length d0.ae 0))):=
  oH ud 0x1
theorem Jb:lk ud (.bx 0 (tV (zt a0) []) Q) (yD a0 c0 l1 n2)
 (.ite (decide (n2<((a0.aa 3).ae.length:Int))) (.gd (cP n2 (a0.aa 3).ae.length) (.aC jf [(.agg (aK pg av (D.at (a0.aa 3).ae n2.toNat)))] [] 0 fun d0=>(.gd (decide (d0.ae.length<=d0.ae.length)) (.gd ((decide (c0=l1.length))&&(aO 8 (c0+(List.take d0.ae.length d0.ae).length))) (.bj (yD a0 (c0+(List.take d0.ae.length d0.ae).length) (l1++(List.take d0.ae.length d0.ae)) (wp .i64 (n2+1)))))))) (.bj (v8 a0 c0 l1 0))):=
  oE ud 0x212121211
theorem Hl:lk ud (.bx 0 (tV (zt a0) []) Q) (v8 a0 c0 l1 n2)
 (.ite (decide (n2<((a0.aa 11).ae.length:Int))) (.gd (cP n2 (a0.aa 11).ae.length) (.aC jf [(.agg (aK pg av ((D.at (a0.aa 11).ae n2.toNat).aa 1)))] [] 0 fun d0=>(.gd (decide (d0.ae.length<=d0.ae.length)) (.gd ((decide (c0=l1.length))&&(aO 8 (c0+(List.take d0.ae.length d0.ae).length))) (.bj (v8 a0 (c0+(List.take d0.ae.length d0.ae).length) (l1++(List.take d0.ae.length d0.ae)) (wp .i64 (n2+1)))))))) (.aS (.aZ 0 c0 true) [(0,(.ak aA l1 true))])):=
  oE ud 0x212121211
def DP:cm:={f:=sT,rs:=[ai]}
@[simp] theorem ad8:DP.f=sT/\DP.rs=[ai]:=⟨rfl,rfl⟩
theorem Wn:lp DP [av] [a0] Q
 ((fun (u:RT)=>(.ite ((a0.aa 0).int==(0:Int)) (.ite ((a0.aa 1).int==(0:Int)) (.ite ((a0.aa 2).b8==[]) (.ite (((a0.aa 3).ae.length:Int)==(0:Int)) (.ret (D.b ((a0.aa 4).int==(0:Int)))) u) u) u) u)) (.ret (D.b false))):=
  oP DP 0x20300b0d910300a20300b09910300a20400b04910400a20300b10300a1
end
section
variable {a0:D} {Q:D->Prop} {c0 c2 c1 c7 c8:Nat} {n1 n4 n2 n3 n6 n9 n11:Int} {l3 l5 l8 l9 l10 l:List D} {s4:List UInt8}
def qx:cm:={f:=fU,rs:=[aG],cz:=[(fU,[aG],[aG])],bL:=[(nN,AI)],bJ:=[⟨fU,0,16421,[1,10,2,11,12],[]⟩],D0:=[(nN,[some IF])]}
@[simp] theorem aba:qx.f=fU/\qx.rs=[aG]:=⟨rfl,rfl⟩
def rI (a0:D)(c0:Nat)(n1:Int)(c2:Nat)(l3:List D)(n4:Int):au:=hdS fU 75 [(1,(.aP 0 0)),(2,(.aP 1 0)),(10,(.aZ 2 c0 true)),(11,(.int .i64 n1)),(12,(.int .i64 n4))] [(0,(.cells [(.int .u8 (a0.aa 0).int),(.int .i64 (a0.aa 1).int),(.b8 (a0.aa 2).b8),(.aZ 2 c2 true)] aG false)),(1,(.cells [(.int .u8 0),(.int .i64 0),(.b8 []),.cX] aG false)),(2,(.ak aG l3 true))]
theorem Qw:lp qx [aG] [a0] Q
 (.aC nN [(.bw aG (D.r (a0.aa 3).ae).ae)] [] 0 fun d0=>(.bj (rI a0 d0.ae.length (d0.ae.length:Int) d0.ae.length d0.ae 0))):=
  oP qx 0x1
theorem Dh:lk qx (.dQ Q) (rI a0 c0 n1 c2 l3 n4)
 (.ite (decide (n4<n1)) (.gd (cP n4 c0) (.gd (decide (n4.toNat<l3.length)) (.call fU [(bU pg aG (D.at l3 n4.toNat))] fun d0=>(.gd (cP n4 c2) (.bj (rI a0 c0 n1 c2 (List.set l3 n4.toNat (bU pg aG d0)) (wp .i64 (n4+1)))))))) (.gd (decide (c2=l3.length)) (.ret (D.r [(D.z (a0.aa 0).int),(D.z (a0.aa 1).int),(D.s (a0.aa 2).b8),(D.r l3)])))):=
  oE qx 0x221121214210151
def qw:cm:={f:=eX,rs:=[bK],cz:=[(fU,[aG],[aG]),(eX,[bK],[bK])],bL:=[(nP,AK),(jT,w9)],bJ:=[⟨eX,0,16455,[0,7,8,9],[]⟩],fzs:=[(ba,16,gD)],D0:=[(nP,[some bK]),(jT,[some gD])]}
@[simp] theorem aa9:qw.f=eX/\qw.rs=[bK]:=⟨rfl,rfl⟩
def rH (a0:D)(c0 c1:Nat)(n2:Int)(l3:List D)(n4:Int):au:=hdS eX 75 [(0,(.aZ 0 c0 true)),(7,(.aZ 0 c1 true)),(8,(.int .i64 n2)),(9,(.int .i64 n4))] [(0,(.ak ba l3 true))]
theorem Qv:lp qw [bK] [a0] Q
 (.aC nP [(.bw ba (D.r a0.ae).ae)] [] 0 fun d0=>(.bj (rH a0 d0.ae.length d0.ae.length (d0.ae.length:Int) d0.ae 0))):=
  oP qw 0x1
theorem Dg:lk qw (.dQ Q) (rH a0 c0 c1 n2 l3 n4)
 ((fun (u:D)=>(.ite (decide (n4<n2)) (.gd (cP n4 c1) (.gd (decide (n4.toNat<l3.length)) (.call fU [(bU pg aG (u.aa 5))] fun d0=>(.call fU [(bU pg aG (u.aa 6))] fun d1=>(.call eX [(D.r (u.aa 7).ae)] fun d2=>(.call eX [(D.r (u.aa 8).ae)] fun d3=>(.call eX [(D.r (u.aa 9).ae)] fun d4=>(.aC jT [(.bw bX (D.r (u.aa 10).ae).ae)] [] 0 fun d5=>(.gd (decide (d5.ae.length=d5.ae.length)) (.gd (cP n4 c0) (.bj (rH a0 c0 c1 n2 (List.set l3 n4.toNat (D.r [(D.z (u.aa 0).int),(D.s (u.aa 1).b8),(D.s (u.aa 2).b8),(D.z (u.aa 3).int),(D.z (u.aa 4).int),(bU pg aG d0),(bU pg aG d1),(D.r d2.ae),(D.r d3.ae),(D.r d4.ae),(D.r (D.r d5.ae).ae)])) (wp .i64 (n4+1)))))))))))))) (.gd (decide (c0=l3.length)) (.ret (D.r l3))))) (D.at l3 n4.toNat)):=
  oE qw 0x22112121444421210251
def kp:cm:={f:=cE,rs:=[aH],cz:=[(A6,[av],[av,aM]),(eX,[bK],[bK])],bL:=[(mj,y8),(nO,AJ)],bJ:=[⟨cE,0,16474,[1,16,2,17,18],[]⟩,⟨cE,0,16430,[1,35,2,36,37],[]⟩],D0:=[(mj,[some dE]),(nO,[some ke])]}
@[simp] theorem abb:kp.f=cE/\kp.rs=[aH]:=⟨rfl,rfl⟩
def pU (a0:D)(c0:Nat)(n1 n2 n3:Int)(s4:List UInt8)(l5:List D)(n6:Int)(c7:Nat)(l8:List D)(n9:Int):au:=hdS cE 151 [(1,(.aP 0 0)),(2,(.aP 1 0)),(16,(.aZ 2 c0 true)),(17,(.int .i64 n1)),(18,(.int .i64 n9))] [(0,(.cells [(.int .u8 (a0.aa 0).int),(.int .i64 (a0.aa 1).int),(.int .u8 n2),(.int .i64 n3),(.b8 s4),(.bw av l5),(.int .i64 n6),(.aZ 2 c7 true),(.int .i64 (a0.aa 4).int),(.int .i64 (a0.aa 5).int),(.int .i64 (a0.aa 6).int),(.int .i64 (a0.aa 7).int),(.int .u8 (a0.aa 8).int),(.bool (a0.aa 9).bool),(.bw ba (a0.aa 10).ae),(.bw iF (a0.aa 11).ae)] aH false)),(1,(.cells [(.int .u8 0),(.int .i64 0),(.int .u8 0),(.int .i64 0),(.b8 []),.cX,(.int .i64 0),.cX,(.int .i64 0),(.int .i64 0),(.int .i64 0),(.int .i64 0),(.int .u8 0),(.bool false),.cX,.cX] aH false)),(2,(.ak av l8 true))]
def pW (a0:D)(c0:Nat)(n1 n2 n3:Int)(s4:List UInt8)(l5:List D)(n6:Int)(c7 c8:Nat)(l9 l10:List D)(n11:Int):au:=hdS cE 607 [(1,(.aP 0 0)),(2,(.aP 1 0)),(35,(.aZ 2 c0 true)),(36,(.int .i64 n1)),(37,(.int .i64 n11))] [(0,(.cells [(.int .u8 (a0.aa 0).int),(.int .i64 (a0.aa 1).int),(.int .u8 n2),(.int .i64 n3),(.b8 s4),(.bw av l5),(.int .i64 n6),(.aZ 3 c7 true),(.int .i64 (a0.aa 4).int),(.int .i64 (a0.aa 5).int),(.int .i64 (a0.aa 6).int),(.int .i64 (a0.aa 7).int),(.int .u8 (a0.aa 8).int),(.bool (a0.aa 9).bool),(.bw ba (a0.aa 10).ae),(.aZ 2 c8 true)] aH false)),(1,(.cells [(.int .u8 0),(.int .i64 0),(.int .u8 0),(.int .i64 0),(.b8 []),.cX,(.int .i64 0),.cX,(.int .i64 0),(.int .i64 0),(.int .i64 0),(.int .i64 0),(.int .u8 0),(.bool false),.cX,.cX] aH false)),(2,(.ak iF l9 true)),(3,(.ak av l10 true))]
theorem Qx:lp kp [aH] [a0] Q
 (.call A6 [(bU pg av (a0.aa 2))] fun d0=>(.aC mj [(.bw av (D.r (a0.aa 3).ae).ae)] [] 0 fun d1=>(.bj (pU a0 d1.ae.length (d1.ae.length:Int) ((d0.aa 0).aa 0).int ((d0.aa 0).aa 1).int ((d0.aa 0).aa 2).b8 ((d0.aa 0).aa 3).ae ((d0.aa 0).aa 4).int d1.ae.length d1.ae 0)))):=
  oP kp 0x1
theorem BT:lk kp (.dQ Q) (pU a0 c0 n1 n2 n3 s4 l5 n6 c7 l8 n9)
 (.ite (decide (n9<n1)) (.gd (cP n9 c0) (.gd (decide (n9.toNat<l8.length)) (.call A6 [(bU pg av (D.at l8 n9.toNat))] fun d0=>(.gd (cP n9 c7) (.bj (pU a0 c0 n1 n2 n3 s4 l5 n6 c7 (List.set l8 n9.toNat (bU pg av (d0.aa 0))) (wp .i64 (n9+1)))))))) (.aC nO [(.bw iF (D.r (a0.aa 11).ae).ae)] [] 0 fun d1=>(.bj (pW a0 d1.ae.length (d1.ae.length:Int) n2 n3 s4 l5 n6 c7 d1.ae.length d1.ae l8 0)))):=
  oE kp 0x2121214210151
theorem BU:lk kp (.dQ Q) (pW a0 c0 n1 n2 n3 s4 l5 n6 c7 c8 l9 l10 n11)
 ((fun (u:D)=>(.ite (decide (n11<n1)) (.gd (cP n11 c0) (.gd (decide (n11.toNat<l9.length)) (.call A6 [(bU pg av (u.aa 1))] fun d0=>(.gd (cP n11 c8) (.bj (pW a0 c0 n1 n2 n3 s4 l5 n6 c7 c8 (List.set l9 n11.toNat (D.r [(D.s (u.aa 0).b8),(bU pg av (d0.aa 0))])) l10 (wp .i64 (n11+1)))))))) (.call eX [(D.r (a0.aa 10).ae)] fun d1=>(.gd (decide (c7=l10.length)) (.gd (decide (c8=l9.length)) (.ret (D.r [(D.z (a0.aa 0).int),(D.z (a0.aa 1).int),(D.r [(D.z n2),(D.z n3),(D.s s4),(D.r l5),(D.z n6)]),(D.r l10),(D.z (a0.aa 4).int),(D.z (a0.aa 5).int),(D.z (a0.aa 6).int),(D.z (a0.aa 7).int),(D.z (a0.aa 8).int),(D.b (a0.aa 9).bool),(D.r d1.ae),(D.r l9)]))))))) (D.at l9 n11.toNat)):=
  oE kp 0x22121121214210151
def vI:cm:={f:=nN,rs:=[IF],bx:=some 0,xM:=[some aG]}
@[simp] theorem aak:vI.f=nN/\vI.rs=[IF]:=⟨rfl,rfl⟩
theorem Of:lh vI (FK l) [] 0 AI Q
 ((fun (u:RT)=>(.ite (List.isEmpty l) (.HN (.aS (.aZ 0 0 true) [(0,(.ak aG [] true))]) u) u)) (.gd (true&&(aO 56 (0+l.length))) (.aS (.aZ 0 (0+l.length) true) [(0,(.ak aG ([]++l) true))]))):=
  oH vI 0x200632112321131
def vL:cm:={f:=nP,rs:=[bK],bx:=some 0,xM:=[some ba]}
@[simp] theorem aan:vL.f=nP/\vL.rs=[bK]:=⟨rfl,rfl⟩
theorem Oi:lh vL (FN l) [] 0 AK Q
 ((fun (u:RT)=>(.ite (List.isEmpty l) (.HN (.aS (.aZ 0 0 true) [(0,(.ak ba [] true))]) u) u)) (.gd (true&&(aO 256 (0+l.length))) (.aS (.aZ 0 (0+l.length) true) [(0,(.ak ba ([]++l) true))]))):=
  oH vL 0x200632112321131
def te:cm:={f:=mj,rs:=[dE],bx:=some 0,xM:=[some av]}
@[simp] theorem XQ:te.f=mj/\te.rs=[dE]:=⟨rfl,rfl⟩
theorem LN:lh te (Es l) [] 0 y8 Q
 ((fun (u:RT)=>(.ite (List.isEmpty l) (.HN (.aS (.aZ 0 0 true) [(0,(.ak av [] true))]) u) u)) (.gd (true&&(aO 64 (0+l.length))) (.aS (.aZ 0 (0+l.length) true) [(0,(.ak av ([]++l) true))]))):=
  oH te 0x200632112321131
def vJ:cm:={f:=nO,rs:=[ke],bx:=some 0,xM:=[some iF]}
@[simp] theorem aal:vJ.f=nO/\vJ.rs=[ke]:=⟨rfl,rfl⟩
theorem Og:lh vJ (FL l) [] 0 AJ Q
 ((fun (u:RT)=>(.ite (List.isEmpty l) (.HN (.aS (.aZ 0 0 true) [(0,(.ak iF [] true))]) u) u)) (.gd (true&&(aO 80 (0+l.length))) (.aS (.aZ 0 (0+l.length) true) [(0,(.ak iF ([]++l) true))]))):=
  oH vJ 0x200632112321131
def qV:cm:={f:=jT,rs:=[gD],bx:=some 0,xM:=[some bX]}
@[simp] theorem W9:qV.f=jT/\qV.rs=[gD]:=⟨rfl,rfl⟩
theorem K0:lh qV (Ca l) [] 0 w9 Q
 ((fun (u:RT)=>(.ite (List.isEmpty l) (.HN (.aS (.aZ 0 0 true) [(0,(.ak bX [] true))]) u) u)) (.gd (true&&(aO 16 (0+l.length))) (.aS (.aZ 0 (0+l.length) true) [(0,(.ak bX ([]++l) true))]))):=
  oH qV 0x200632112321131
def x5:cm:={f:=i9,rs:=[aW],bx:=some 0,xM:=[some aA]}
@[simp] theorem aaJ:x5.f=i9/\x5.rs=[aW]:=⟨rfl,rfl⟩
theorem P4:lh x5 (IH l) [] 0 xU Q
 ((fun (u:RT)=>(.ite (List.isEmpty l) (.HN (.aS (.aZ 0 0 true) [(0,(.ak aA [] true))]) u) u)) (.gd (true&&(aO 8 (0+l.length))) (.aS (.aZ 0 (0+l.length) true) [(0,(.ak aA ([]++l) true))]))):=
  oH x5 0x200632112321131
def x6:cm:={f:=fQ,rs:=[Dn],bx:=some 0,xM:=[some af]}
@[simp] theorem aaK:x6.f=fQ/\x6.rs=[Dn]:=⟨rfl,rfl⟩
theorem P5:lh x6 (II l) [] 0 qk Q
 ((fun (u:RT)=>(.ite (List.isEmpty l) (.HN (.aS (.aZ 0 0 true) [(0,(.ak af [] true))]) u) u)) (.gd (true&&(aO 8 (0+l.length))) (.aS (.aZ 0 (0+l.length) true) [(0,(.ak af ([]++l) true))]))):=
  oH x6 0x200632112321131
def vK:cm:={f:=gH,rs:=[Bz],bx:=some 0,xM:=[some cC]}
@[simp] theorem aam:vK.f=gH/\vK.rs=[Bz]:=⟨rfl,rfl⟩
theorem Oh:lh vK (FM l) [] 0 vH Q
 ((fun (u:RT)=>(.ite (List.isEmpty l) (.HN (.aS (.aZ 0 0 true) [(0,(.ak cC [] true))]) u) u)) (.gd (true&&(aO 8 (0+l.length))) (.aS (.aZ 0 (0+l.length) true) [(0,(.ak cC ([]++l) true))]))):=
  oH vK 0x200632112321131
end
section
variable {a0 a1:D} {Q:D->Prop} {c0 c5 c6 c8:Nat} {n1 n0 n4 n6 n9:Int} {l2 l3 l7 l5 l10:List D} {s2:List UInt8}
def sM:cm:={f:=gv,rs:=[av],cz:=[(gv,[av],[av])],bJ:=[⟨gv,0,16426,[1,2,4,3],[(3,51)]⟩]}
@[simp] theorem acZ:sM.f=gv/\sM.rs=[av]:=⟨rfl,rfl⟩
def tG (a0:D)(c0:Nat)(n1:Int)(l2:List D):au:=hdS gv 75 [(1,(.aP 0 0)),(2,(.aP 1 0)),(3,(.aZ 2 c0 true)),(4,(.int .i64 n1))] [(0,(.cells (aK pg av a0) av false)),(1,(.cells [(.int .u8 0),(.int .i64 0),(.b8 []),.cX,(.int .i64 0)] av false)),(2,(.ak av l2 true))]
theorem S5:lp sM [av] [a0] Q
 (.bj (tG a0 0 0 [])):=
  oP sM 0x1
theorem E2:lk sM (.dQ Q) (tG a0 c0 n1 l2)
 ((fun (u:Bool)=>(.ite (decide (n1<((a0.aa 3).ae.length:Int))) (.gd (cP n1 (a0.aa 3).ae.length) (.call gv [(bU pg av (D.at (a0.aa 3).ae n1.toNat))] fun d0=>(.gd (u&&(aO 64 (c0+1))) (.bj (tG a0 (c0+1) (wp .i64 (n1+1)) (l2++[(bU pg av d0)])))))) (.gd u (.ret (D.r [(D.z (a0.aa 0).int),(D.z (a0.aa 1).int),(D.s (a0.aa 2).b8),(D.r l2),(D.z (a0.aa 4).int)]))))) (decide (c0=l2.length))):=
  oE sM 0x2211213211
def wL:cm:={f:=jV,rs:=[aG],cz:=[(jV,[aG],[aG])],bJ:=[⟨jV,0,16426,[1,2,4,3],[(3,136)]⟩]}
@[simp] theorem ad0:wL.f=jV/\wL.rs=[aG]:=⟨rfl,rfl⟩
def v7 (a0:D)(c0:Nat)(n1:Int)(l2:List D):au:=hdS jV 75 [(1,(.aP 0 0)),(2,(.aP 1 0)),(3,(.aZ 2 c0 true)),(4,(.int .i64 n1))] [(0,(.cells (aK pg aG a0) aG false)),(1,(.cells [(.int .u8 0),(.int .i64 0),(.b8 []),.cX] aG false)),(2,(.ak aG l2 true))]
theorem Wc:lp wL [aG] [a0] Q
 (.bj (v7 a0 0 0 [])):=
  oP wL 0x1
theorem Hj:lk wL (.dQ Q) (v7 a0 c0 n1 l2)
 ((fun (u:Bool)=>(.ite (decide (n1<((a0.aa 3).ae.length:Int))) (.gd (cP n1 (a0.aa 3).ae.length) (.call jV [(bU pg aG (D.at (a0.aa 3).ae n1.toNat))] fun d0=>(.gd (u&&(aO 56 (c0+1))) (.bj (v7 a0 (c0+1) (wp .i64 (n1+1)) (l2++[(bU pg aG d0)])))))) (.gd u (.ret (D.r [(D.z (a0.aa 0).int),(D.z (a0.aa 1).int),(D.s (a0.aa 2).b8),(D.r l2)]))))) (decide (c0=l2.length))):=
  oE wL 0x2211213211
def wK:cm:={f:=iO,rs:=[bK],cz:=[(jV,[aG],[aG]),(iO,[bK],[bK])],bJ:=[⟨iO,0,16463,[0,4,3],[(3,139)]⟩],fzs:=[(ba,16,gD)]}
@[simp] theorem adZ:wK.f=iO/\wK.rs=[bK]:=⟨rfl,rfl⟩
def vZ (a0:D)(c0:Nat)(n1:Int)(l2:List D):au:=hdS iO 75 [(0,(.bw ba a0.ae)),(3,(.aZ 0 c0 true)),(4,(.int .i64 n1))] [(0,(.ak ba l2 true))]
theorem Wb:lp wK [bK] [a0] Q
 (.bj (vZ a0 0 0 [])):=
  oP wK 0x1
theorem Hi:lk wK (.dQ Q) (vZ a0 c0 n1 l2)
 ((fun (v:Bool)=>((fun (u:D)=>(.ite (decide (n1<(a0.ae.length:Int))) (.gd (cP n1 a0.ae.length) (.call jV [(bU pg aG (u.aa 5))] fun d0=>(.call jV [(bU pg aG (u.aa 6))] fun d1=>(.call iO [(D.r (u.aa 7).ae)] fun d2=>(.call iO [(D.r (u.aa 8).ae)] fun d3=>(.call iO [(D.r (u.aa 9).ae)] fun d4=>(.gd (aO 16 (u.aa 10).ae.length) (.gd (decide ((u.aa 10).ae.length=(u.aa 10).ae.length)) (.gd (v&&(aO 256 (c0+1))) (.bj (vZ a0 (c0+1) (wp .i64 (n1+1)) (l2++[(D.r [(D.z (u.aa 0).int),(D.s (u.aa 1).b8),(D.s (u.aa 2).b8),(D.z (u.aa 3).int),(D.z (u.aa 4).int),(bU pg aG d0),(bU pg aG d1),(D.r d2.ae),(D.r d3.ae),(D.r d4.ae),(D.r (D.r (u.aa 10).ae).ae)])])))))))))))) (.gd v (.ret (D.r l2))))) (D.at a0.ae n1.toNat))) (decide (c0=l2.length))):=
  oE wK 0x221121444421213211
def uc:cm:={f:=gA,rs:=[aH],cz:=[(gv,[av],[av]),(iO,[bK],[bK])],bJ:=[⟨gA,0,16483,[1,2,4,3],[(3,51)]⟩,⟨gA,0,16434,[1,2,6,5],[(5,67)]⟩]}
@[simp] theorem ae4:uc.f=gA/\uc.rs=[aH]:=⟨rfl,rfl⟩
def vX (a0:D)(n0 n1:Int)(s2:List UInt8)(l3:List D)(n4:Int)(c5:Nat)(n6:Int)(l7:List D):au:=hdS gA 151 [(1,(.aP 0 0)),(2,(.aP 1 0)),(3,(.aZ 2 c5 true)),(4,(.int .i64 n6))] [(0,(.cells [(.int .u8 (a0.aa 0).int),(.int .i64 (a0.aa 1).int),(.int .u8 n0),(.int .i64 n1),(.b8 s2),(.bw av l3),(.int .i64 n4),(.bw av (a0.aa 3).ae),(.int .i64 (a0.aa 4).int),(.int .i64 (a0.aa 5).int),(.int .i64 (a0.aa 6).int),(.int .i64 (a0.aa 7).int),(.int .u8 (a0.aa 8).int),(.bool (a0.aa 9).bool),(.bw ba (a0.aa 10).ae),(.bw iF (a0.aa 11).ae)] aH false)),(1,(.cells [(.int .u8 0),(.int .i64 0),(.int .u8 0),(.int .i64 0),(.b8 []),.cX,(.int .i64 0),.cX,(.int .i64 0),(.int .i64 0),(.int .i64 0),(.int .i64 0),(.int .u8 0),(.bool false),.cX,.cX] aH false)),(2,(.ak av l7 true))]
def tA (a0:D)(n0 n1:Int)(s2:List UInt8)(l3:List D)(n4:Int)(l5:List D)(c6:Nat)(l7:List D)(c8:Nat)(n9:Int)(l10:List D):au:=hdS gA 2431 [(1,(.aP 0 0)),(2,(.aP 1 0)),(5,(.aZ 2 c8 true)),(6,(.int .i64 n9))] [(0,(.cells [(.int .u8 (a0.aa 0).int),(.int .i64 (a0.aa 1).int),(.int .u8 n0),(.int .i64 n1),(.b8 s2),(.bw av l3),(.int .i64 n4),(.aZ 3 c6 true),(.int .i64 (a0.aa 4).int),(.int .i64 (a0.aa 5).int),(.int .i64 (a0.aa 6).int),(.int .i64 (a0.aa 7).int),(.int .u8 (a0.aa 8).int),(.bool (a0.aa 9).bool),(.bw ba l5),(.bw iF (a0.aa 11).ae)] aH false)),(1,(.cells [(.int .u8 0),(.int .i64 0),(.int .u8 0),(.int .i64 0),(.b8 []),.cX,(.int .i64 0),.cX,(.int .i64 0),(.int .i64 0),(.int .i64 0),(.int .i64 0),(.int .u8 0),(.bool false),.cX,.cX] aH false)),(2,(.ak iF l10 true)),(3,(.ak av l7 true))]
theorem Zg:lp uc [aH] [a0] Q
 (.call gv [(bU pg av (a0.aa 2))] fun d0=>(.bj (vX a0 (d0.aa 0).int (d0.aa 1).int (d0.aa 2).b8 (d0.aa 3).ae (d0.aa 4).int 0 0 []))):=
  oP uc 0x1
theorem Hf:lk uc (.dQ Q) (vX a0 n0 n1 s2 l3 n4 c5 n6 l7)
 (.ite (decide (n6<((a0.aa 3).ae.length:Int))) (.gd (cP n6 (a0.aa 3).ae.length) (.call gv [(bU pg av (D.at (a0.aa 3).ae n6.toNat))] fun d0=>(.gd ((decide (c5=l7.length))&&(aO 64 (c5+1))) (.bj (vX a0 n0 n1 s2 l3 n4 (c5+1) (wp .i64 (n6+1)) (l7++[(bU pg av d0)])))))) (.call iO [(D.r (a0.aa 10).ae)] fun d1=>(.bj (tA a0 n0 n1 s2 l3 n4 d1.ae c5 l7 0 0 [])))):=
  oE uc 0x21213211
theorem EW:lk uc (.dQ Q) (tA a0 n0 n1 s2 l3 n4 l5 c6 l7 c8 n9 l10)
 ((fun (v:Bool)=>((fun (u:D)=>(.ite (decide (n9<((a0.aa 11).ae.length:Int))) (.gd (cP n9 (a0.aa 11).ae.length) (.call gv [(bU pg av (u.aa 1))] fun d0=>(.gd (v&&(aO 80 (c8+1))) (.bj (tA a0 n0 n1 s2 l3 n4 l5 c6 l7 (c8+1) (wp .i64 (n9+1)) (l10++[(D.r [(D.s (u.aa 0).b8),(bU pg av d0)])])))))) (.gd (decide (c6=l7.length)) (.gd v (.ret (D.r [(D.z (a0.aa 0).int),(D.z (a0.aa 1).int),(D.r [(D.z n0),(D.z n1),(D.s s2),(D.r l3),(D.z n4)]),(D.r l7),(D.z (a0.aa 4).int),(D.z (a0.aa 5).int),(D.z (a0.aa 6).int),(D.z (a0.aa 7).int),(D.z (a0.aa 8).int),(D.b (a0.aa 9).bool),(D.r l5),(D.r l10)])))))) (D.at (a0.aa 11).ae n9.toNat))) (decide (c8=l10.length))):=
  oE uc 0x22121121005443211
def DJ:cm:={f:=mJ,rs:=[ai],bJ:=[⟨mJ,0,16422,[1,0,5],[]⟩]}
@[simp] theorem aft:DJ.f=mJ/\DJ.rs=[ai]:=⟨rfl,rfl⟩
def Be (a0 a1:D)(n0:Int):au:=hdS mJ 37 [(0,(.bw aA a0.ae)),(1,(.int .i64 a1.int)),(5,(.int .i64 n0))] []
theorem abY:lp DJ [aW,aA] [a0,a1] Q
 (.bj (Be a0 a1 0)):=
  oP DJ 0x1
theorem Lb:lk DJ (.dQ Q) (Be a0 a1 n0)
 (.ite (decide (n0<(a0.ae.length:Int))) (.gd (cP n0 a0.ae.length) (.ite ((D.at a0.ae n0.toNat).int==a1.int) (.ret (D.b true)) (.bj (Be a0 a1 (wp .i64 (n0+1)))))) (.ret (D.b false))):=
  oE DJ 0x2121211
def zN:cm:={f:=ni,rs:=[ai],bJ:=[⟨ni,0,16422,[1,0,5],[]⟩]}
@[simp] theorem ae0:zN.f=ni/\zN.rs=[ai]:=⟨rfl,rfl⟩
def yA (a0 a1:D)(n0:Int):au:=hdS ni 37 [(0,(.bw aA a0.ae)),(1,(.int .i64 a1.int)),(5,(.int .i64 n0))] []
theorem Zc:lp zN [aW,aA] [a0,a1] Q
 (.bj (yA a0 a1 0)):=
  oP zN 0x1
theorem I7:lk zN (.dQ Q) (yA a0 a1 n0)
 (.ite (decide (n0<(a0.ae.length:Int))) (.gd (cP n0 a0.ae.length) (.ite ((D.at a0.ae n0.toNat).int==a1.int) (.ret (D.b true)) (.bj (yA a0 a1 (wp .i64 (n0+1)))))) (.ret (D.b false))):=
  oE zN 0x2121211
def zO:cm:={f:=gz,rs:=[ai],bJ:=[⟨gz,0,16422,[1,0,5],[]⟩]}
@[simp] theorem ae1:zO.f=gz/\zO.rs=[ai]:=⟨rfl,rfl⟩
def yB (a0 a1:D)(n0:Int):au:=hdS gz 37 [(0,(.bw aA a0.ae)),(1,(.int .i64 a1.int)),(5,(.int .i64 n0))] []
theorem Zd:lp zO [aW,aA] [a0,a1] Q
 (.bj (yB a0 a1 0)):=
  oP zO 0x1
theorem I8:lk zO (.dQ Q) (yB a0 a1 n0)
 (.ite (decide (n0<(a0.ae.length:Int))) (.gd (cP n0 a0.ae.length) (.ite ((D.at a0.ae n0.toNat).int==a1.int) (.ret (D.b true)) (.bj (yB a0 a1 (wp .i64 (n0+1)))))) (.ret (D.b false))):=
  oE zO 0x2121211
end
section
variable {l:List D} {m n0 n1:Int} {Q:D->Prop}
def wN:cm:={f:=iQ,rs:=[ai],bx:=some 1,bL:=[(iQ,wz),(nj,AO)],bJ:=[⟨iQ,0,16482,[1,9,10,11],[]⟩]}
@[simp] theorem ad9:wN.f=iQ/\wN.rs=[ai]:=⟨rfl,rfl⟩
def wa (l:List D)(m n0 n1:Int):au:=hdS iQ 37 [(1,(.aP 0 0)),(9,(.bw ba l)),(10,(.int .i64 (l.length:Int))),(11,(.int .i64 n0))] [(0,(.cells [(.int .i64 n1)] af false))]
theorem Wp:lh wN (Ds l m) (Dt l m) 1 wz Q
 (.bj (wa l m 0 m)):=
  oH wN 0x1
theorem Hm:lk wN (.bx 1 (wz (Ds l m) (Dt l m)) Q) (wa l m n0 n1)
 ((fun (t:Int)=>((fun (q:BV)=>((fun (p:aI)=>((fun (z:aI)=>((fun (v:D)=>((fun (u:RT)=>(.ite (decide (n0<(l.length:Int))) (.gd (cP n0 l.length) (.ite (decide (t>(512:Int))) u (.ite (decide (((v.aa 10).ae.length:Int)>(64:Int))) u (.aC nj [(.agg (aK pg aG (v.aa 5))),(.aP 0 0),(.int .i64 16)] [(0,p)] 1 fun d0=>(.ite (! (d0.aa 0).bool) u (.aC nj [(.agg (aK pg aG (v.aa 6))),(.aP 0 0),(.int .i64 16)] [(0,p)] 1 fun d1=>(.ite (! (d1.aa 0).bool) u (.aC iQ [(.bw ba (v.aa 7).ae),(.aP 0 0)] [(0,z)] 1 fun d2=>((fun (k:aI)=>(.ite (! (d2.aa 0).bool) (.aS q [(0,k)]) (.aC iQ [(.bw ba (v.aa 8).ae),(.aP 0 0)] [(0,k)] 1 fun d3=>((fun (j:aI)=>(.ite (! (d3.aa 0).bool) (.aS q [(0,j)]) (.aC iQ [(.bw ba (v.aa 9).ae),(.aP 0 0)] [(0,j)] 1 fun d4=>(.ite (! (d4.aa 0).bool) (.aS q [(0,(.cells [(.int .i64 (d4.aa 1).int)] af false))]) (.bj (wa l m (wp .i64 (n0+1)) (d4.aa 1).int)))))) (.cells [(.int .i64 (d3.aa 1).int)] af false))))) (.cells [(.int .i64 (d2.aa 1).int)] af false)))))))))) (.aS (.bool true) [(0,(.cells [(.int .i64 n1)] af false))]))) (.aS q [(0,z)]))) (D.at l n0.toNat))) (.cells [(.int .i64 t)] af false))) (.cells [(.int .i64 0)] af false))) (.bool false))) (wp .i64 (n1+1))):=
  oE wN 0x212120400b20400b20400b220500b20500b2110500a310500a079110400a310400a06910400a0b91
end
section
variable {y:D} {m k n0 n1:Int} {Q:D->Prop} {l:List D}
def A2:cm:={f:=nj,rs:=[ai],bx:=some 1,bL:=[(bp,eP)]}
@[simp] theorem ac2:A2.f=nj/\A2.rs=[ai]:=⟨rfl,rfl⟩
theorem S8:lh A2 (J7 y m k) (J8 y m k) 1 AO Q
 ((fun (q:Int)=>((fun (p:BV)=>((fun (j:aI)=>((fun (z:aI)=>((fun (u:aI)=>((fun (v:RT)=>(.ite (decide (q>(512:Int))) v (.ite ((y.aa 0).int !=(3:Int)) (.ite (((y.aa 3).ae.length:Int)==(0:Int)) (.aS (.bool true) [(0,u)]) (.ite ((k:Int)==(0:Int)) v (.aC bp [p,(.func (.func nS) [] [(.aP 0 0),(.aP 1 0)])] [(0,j),(1,z),(2,u)] 3 fun d0=>(.aS (.bool (! (d0.aa 0).bool)) [(0,(.cells [(.int .i64 (d0.aa 1).int)] af false))])))) (.ite ((k:Int)==(0:Int)) v (.aC bp [p,(.func (.func nS) [] [(.aP 0 0),(.aP 1 0)])] [(0,j),(1,z),(2,u)] 3 fun d1=>(.aS (.bool (! (d1.aa 0).bool)) [(0,(.cells [(.int .i64 (d1.aa 1).int)] af false))])))))) (.aS (.bool false) [(0,u)]))) (.cells [(.int .i64 q)] af false))) (.cells [(.int .i64 k)] af false))) (.cells [(.aP 2 0)] BX false))) (.bw aG (y.aa 3).ae))) (wp .i64 (m+1))):=
  oH A2 0x220400b32110400a221111
def hC:cm:={f:=de,rs:=[af],bx:=some 3,bL:=[(nj,AO)],bJ:=[⟨de,0,16423,[0,1,7,8],[]⟩]}
@[simp] theorem Ub:hC.f=de/\hC.rs=[af]:=⟨rfl,rfl⟩
def jG (l:List D)(m k:Int)(n0 n1:Int):au:=hdS de 37 [(0,(.bw aG l)),(1,(.func (.func nS) [] [(.aP 0 0),(.aP 1 0)])),(7,(.int .i64 (l.length:Int))),(8,(.int .i64 n0))] [(0,(.cells [(.aP 2 0)] BX false)),(1,(.cells [(.int .i64 k)] af false)),(2,(.cells [(.int .i64 n1)] af false))]
theorem Ir:lh hC (r9 l m k) (sj l m k) 3 gY Q
 (.bj (jG l m k 0 m)):=
  oH hC 0x1
theorem vD:lk hC (.bx 3 (gY (r9 l m k) (sj l m k)) Q) (jG l m k n0 n1)
 ((fun (z:aI)=>((fun (v:aI)=>((fun (u:aI)=>(.ite (decide (n0<(l.length:Int))) (.gd (cP n0 l.length) (.aC nj [(.agg (aK pg aG (D.at l n0.toNat))),(.aP 0 0),(.int .i64 (wp .i64 (k-1)))] [(0,u)] 1 fun d0=>(.ite (! (d0.aa 0).bool) (.aS (.int .i64 n0) [(0,z),(1,v),(2,(.cells [(.int .i64 (d0.aa 1).int)] af false))]) (.bj (jG l m k (wp .i64 (n0+1)) (d0.aa 1).int))))) (.aS (.int .i64 (-1)) [(0,z),(1,v),(2,u)]))) (.cells [(.int .i64 n1)] af false))) (.cells [(.int .i64 k)] af false))) (.cells [(.aP 2 0)] BX false)):=
  oE hC 0x2121211
def jE:cm:={f:=bp,rs:=[ai],bx:=some 3,bL:=[(de,gY)]}
@[simp] theorem Pg:jE.f=bp/\jE.rs=[ai]:=⟨rfl,rfl⟩
theorem El:lh jE (vp l m k) (vw l m k) 3 eP Q
 ((fun (v:aI)=>((fun (u:aI)=>(.aC de [(.bw aG l),(.func (.func nS) [] [(.aP 0 0),(.aP 1 0)])] [(0,v),(1,u),(2,(.cells [(.int .i64 m)] af false))] 3 fun d0=>(.aS (.bool (decide ((d0.aa 0).int≥(0:Int)))) [(0,v),(1,u),(2,(.cells [(.int .i64 (d0.aa 1).int)] af false))]))) (.cells [(.int .i64 k)] af false))) (.cells [(.aP 2 0)] BX false)):=
  oH jE 0x1
end
end Go.Proofs
end
