import Derived.Test.YtemiekpfokoplaaGreatM9
set_option linter.all false
noncomputable section
open Go.IntKind renaming wrap→wp
set_option maxHeartbeats 8000000
namespace Go.Proofs
open Go Go.PB
section
variable {l l1:List D} {y:D} {Q:D->Prop} {c0:Nat} {n2:Int}
def vY:cw:={f:=lq,rs:=[Rr],bu:=some 0,bD:=[(mJ,Be),(lq,rN)],bK:=[⟨lq,0,20513,[42,43,44,0],[]⟩]}
@[simp] theorem ab0:vY.f=lq/\vY.rs=[Rr]:=⟨rfl,rfl⟩
def oW (l:List D)(y:D)(c0:Nat)(l1:List D)(n2:Int):av:=hdS lq 39915 [(0,(.aV 0 c0 true)),(42,(.bC ao (y.ae 3).aa)),(43,(.int .i64 ((y.ae 3).aa.length:Int))),(44,(.int .i64 n2))] [(0,(.an mn l1 true))]
theorem Uc:lh vY (yr l y) (yw l y) 0 rN Q
 ((fun (v:BV)=>((fun (u:ax)=>(.gd ((decide (l.length=l.length))&&(bg 1 (l.length+1))) (.ite ((y.ae 0).int==(1:Int)) (.aq mJ [v,(.int .u64 (wp .u64 ((wp .u64 (y.ae 1).int)+9223372036854775808))),(.int .i64 8)] [(0,u)] 0 fun d0=>(.aL (.aV 0 d0.aa.length true) [(0,(.an mn d0.aa true))])) (.ite ((y.ae 0).int==(2:Int)) (.aq mJ [v,(.int .u64 (wp .u64 ((y.ae 2).bj.length:Int))),(.int .i64 2)] [(0,u)] 0 fun d1=>(.gd ((decide (d1.aa.length=d1.aa.length))&&(bg 1 (d1.aa.length+(cH (y.ae 2).bj).length))) (.aL (.aV 0 (d1.aa.length+(cH (y.ae 2).bj).length) true) [(0,(.an mn (d1.aa++(cH (y.ae 2).bj)) true))]))) (.ite ((y.ae 0).int==(3:Int)) (.aq mJ [v,(.int .u64 (wp .u64 ((y.ae 3).aa.length:Int))),(.int .i64 2)] [(0,u)] 0 fun d2=>(.bE (oW l y d2.aa.length d2.aa 0))) (.ite ((y.ae 0).int==(4:Int)) (.aq mJ [v,(.int .u64 (wp .u64 (y.ae 4).int)),(.int .i64 4)] [(0,u)] 0 fun d3=>(.aL (.aV 0 d3.aa.length true) [(0,(.an mn d3.aa true))])) (.aL v [(0,u)]))))))) (.an mn (l++[(D.z (y.ae 0).int)]) true))) (.aV 0 (l.length+1) true)):=
  oH vY 0x321222211142111
theorem AO:lk vY (.bu 0 (rN (yr l y) (yw l y)) Q) (oW l y c0 l1 n2)
 (.ite (decide (n2<((y.ae 3).aa.length:Int))) (.gd (dy n2 (y.ae 3).aa.length) (.aq lq [(.aV 0 c0 true),(.agg (aK pg ao (D.at (y.ae 3).aa n2.toNat)))] [(0,(.an mn l1 true))] 0 fun d0=>(.bE (oW l y d0.aa.length d0.aa (wp .i64 (n2+1)))))) (.aL (.aV 0 c0 true) [(0,(.an mn l1 true))])):=
  oE vY 0x21211
end
section
variable {l:List D} {y:D} {Q:D->Prop}
def sw:cw:={f:=cd,rs:=[],bu:=some 1,cK:=[(yW,[ao],[bG,aX])]}
@[simp] theorem VB:sw.f=cd/\sw.rs=[]:=⟨rfl,rfl⟩
theorem Ku:lh sw (sj l y) (xY l y) 1 jh Q
 (.call yW [(ct pg ao y)] fun d0=>(.gd ((decide (l.length=l.length))&&(bg 1 (l.length+(cH (d0.ae 0).bj).length))) (.aL (.tuple []) [(0,(.cells [(.aV 1 (l.length+(cH (d0.ae 0).bj).length) true)] br false)),(1,(.an mn (l++(cH (d0.ae 0).bj)) true))]))):=
  oH sw 0x211
end
section
variable {a0:D} {Q:D->Prop}
def Cs:cw:={f:=yW,rs:=[bG,aX],cK:=[(eN,[ao],[aj])],bD:=[(mI,Bd),(cz,fi),(lq,rN)],HZ:=[(cz,[some dS,none])]}
@[simp] theorem abZ:Cs.f=yW/\Cs.rs=[bG,aX]:=⟨rfl,rfl⟩
theorem Ub:lp Cs [ao] [a0] Q
 ((fun (v:RT)=>((fun (u:BV)=>(.call eN [(ct pg ao a0)] fun d0=>(.ite (! d0.bool) v (.aq mI [u] [] 0 fun d1=>(.gd (decide (d1.aa.length=d1.aa.length)) (.aq cz [(.bC bh (D.r d1.aa).aa),(.func (.func tz) [] [])] [] 0 fun d2=>(.ite d2.bool v (.aq lq [.bJ,u] [] 0 fun d3=>(.gd (decide (d3.aa.length<=d3.aa.length)) (.ret (D.r [(D.s (bA (List.take d3.aa.length d3.aa))),(D.z 0)]))))))))))) (.agg (aK pg ao a0)))) (.ret (D.r [(D.s []),(D.z 2)]))):=
  oP Cs 0x20200b21016221110300a31
end
section
variable {l ys l1:List D} {y:D} {Q:D->Prop} {c0:Nat} {n2:Int}
def u0:cw:={f:=dO,rs:=[],bu:=some 1,bD:=[(ca,fC),(cA,gx),(dE,iM)]}
@[simp] theorem Yo:u0.f=dO/\u0.rs=[]:=⟨rfl,rfl⟩
theorem Mz:lh u0 (zp l y) (Ey l y) 1 qk Q
 (.gd ((decide (l.length=l.length))&&(bg 1 (l.length+1))) (.aq ca [(.aG 0 0),(.int .u64 (wp .u64 ((BitVec.toNat ((BitVec.ofInt 64 (wp .u64 (y.ae 1).int)) ^^^ (BitVec.ofInt 64 9223372036854775808))):Int)))] [(0,(.cells [(.aV 1 (l.length+1) true)] br false)),(1,(.an mn (l++[(D.z (y.ae 0).int)]) true))] 1 fun d0=>(.aq cA [(.aG 0 0),(.bj (y.ae 2).bj)] (Lm d0.aa) 1 fun d1=>(.aq dE [(.aG 0 0),(.bC aE (y.ae 3).aa),(.func (.func dO) [(.aG 0 0)] [])] (Lm d1.aa) 1 fun d2=>(.aL (.tuple []) (Lm d2.aa)))))):=
  oH u0 0x3211
def u6:cw:={f:=fD,rs:=[],bu:=some 1,bD:=[(cA,gx),(cd,jh)]}
@[simp] theorem Yp:u6.f=fD/\u6.rs=[]:=⟨rfl,rfl⟩
theorem MA:lh u6 (zq l y) (Ez l y) 1 uP Q
 (.aq cA [(.aG 0 0),(.bj (y.ae 0).bj)] (Lm l) 1 fun d0=>(.aq cd [(.aG 0 0),(.agg (aK pg ao (y.ae 1)))] (Lm d0.aa) 1 fun d1=>(.aL (.tuple []) (Lm d1.aa)))):=
  oH u6 0x1
def fX:cw:={f:=dE,rs:=[],bu:=some 1,bD:=[(aw,bV),(dO,qk)],bK:=[⟨dE,0,12313,[2,12,13,14],[]⟩]}
@[simp] theorem P0:fX.f=dE/\fX.rs=[]:=⟨rfl,rfl⟩
def iY (l ys:List D)(c0:Nat)(l1:List D)(n2:Int):av:=hdS dE 19 [(2,(.func (.func dO) [(.aG 0 0)] [])),(12,(.bC aE ys)),(13,(.int .i64 (ys.length:Int))),(14,(.int .i64 n2))] [(0,(.cells [(.aV 1 c0 true)] br false)),(1,(.an mn l1 true))]
theorem FD:lh fX (lK l ys) (lP l ys) 1 iM Q
 (.aq aw [(.aG 0 0),(.int .i64 (ys.length:Int))] (Lm l) 1 fun d0=>(.bE (iY l ys d0.aa.length d0.aa 0))):=
  oH fX 0x1
theorem tK:lk fX (.bu 1 (iM (lK l ys) (lP l ys)) Q) (iY l ys c0 l1 n2)
 ((fun (u:ax)=>(.ite (decide (n2<(ys.length:Int))) (.gd (dy n2 ys.length) (.aq dO [(.aG 0 0),(.agg (aK pg aE (D.at ys n2.toNat)))] [(0,u),(1,(.an mn l1 true))] 1 fun d0=>(.bE (iY l ys d0.aa.length d0.aa (wp .i64 (n2+1)))))) (.aL (.tuple []) [(0,u),(1,(.an mn l1 true))]))) (.cells [(.aV 1 c0 true)] br false)):=
  oE fX 0x21211
def eU:cw:={f:=cY,rs:=[],bu:=some 1,bD:=[(aw,bV),(cA,gx)],bK:=[⟨cY,0,12312,[2,12,13,14],[]⟩]}
@[simp] theorem Np:eU.f=cY/\eU.rs=[]:=⟨rfl,rfl⟩
def gG (l ys:List D)(c0:Nat)(l1:List D)(n2:Int):av:=hdS cY 19 [(2,(.func (.func cA) [(.aG 0 0)] [])),(12,(.bC bG ys)),(13,(.int .i64 (ys.length:Int))),(14,(.int .i64 n2))] [(0,(.cells [(.aV 1 c0 true)] br false)),(1,(.an mn l1 true))]
theorem C1:lh eU (js l ys) (jt l ys) 1 gr Q
 (.aq aw [(.aG 0 0),(.int .i64 (ys.length:Int))] (Lm l) 1 fun d0=>(.bE (gG l ys d0.aa.length d0.aa 0))):=
  oH eU 0x1
theorem qX:lk eU (.bu 1 (gr (js l ys) (jt l ys)) Q) (gG l ys c0 l1 n2)
 ((fun (u:ax)=>(.ite (decide (n2<(ys.length:Int))) (.gd (dy n2 ys.length) (.aq cA [(.aG 0 0),(.bj (D.at ys n2.toNat).bj)] [(0,u),(1,(.an mn l1 true))] 1 fun d0=>(.bE (gG l ys d0.aa.length d0.aa (wp .i64 (n2+1)))))) (.aL (.tuple []) [(0,u),(1,(.an mn l1 true))]))) (.cells [(.aV 1 c0 true)] br false)):=
  oE eU 0x21211
def fY:cw:={f:=cN,rs:=[],bu:=some 1,bD:=[(aw,bV),(fD,uP)],bK:=[⟨cN,0,12313,[2,12,13,14],[]⟩]}
@[simp] theorem P1:fY.f=cN/\fY.rs=[]:=⟨rfl,rfl⟩
def iZ (l ys:List D)(c0:Nat)(l1:List D)(n2:Int):av:=hdS cN 19 [(2,(.func (.func fD) [(.aG 0 0)] [])),(12,(.bC fT ys)),(13,(.int .i64 (ys.length:Int))),(14,(.int .i64 n2))] [(0,(.cells [(.aV 1 c0 true)] br false)),(1,(.an mn l1 true))]
theorem FE:lh fY (lL l ys) (lQ l ys) 1 fV Q
 (.aq aw [(.aG 0 0),(.int .i64 (ys.length:Int))] (Lm l) 1 fun d0=>(.bE (iZ l ys d0.aa.length d0.aa 0))):=
  oH fY 0x1
theorem tL:lk fY (.bu 1 (fV (lL l ys) (lQ l ys)) Q) (iZ l ys c0 l1 n2)
 ((fun (u:ax)=>(.ite (decide (n2<(ys.length:Int))) (.gd (dy n2 ys.length) (.aq fD [(.aG 0 0),(.agg (aK pg fT (D.at ys n2.toNat)))] [(0,u),(1,(.an mn l1 true))] 1 fun d0=>(.bE (iZ l ys d0.aa.length d0.aa (wp .i64 (n2+1)))))) (.aL (.tuple []) [(0,u),(1,(.an mn l1 true))]))) (.cells [(.aV 1 c0 true)] br false)):=
  oE fY 0x21211
def fo:cw:={f:=cT,rs:=[],bu:=some 1,bD:=[(aw,bV),(cd,jh)],bK:=[⟨cT,0,12313,[2,12,13,14],[]⟩]}
@[simp] theorem Py:fo.f=cT/\fo.rs=[]:=⟨rfl,rfl⟩
def il (l ys:List D)(c0:Nat)(l1:List D)(n2:Int):av:=hdS cT 19 [(2,(.func (.func cd) [(.aG 0 0)] [])),(12,(.bC ao ys)),(13,(.int .i64 (ys.length:Int))),(14,(.int .i64 n2))] [(0,(.cells [(.aV 1 c0 true)] br false)),(1,(.an mn l1 true))]
theorem D3:lh fo (ka l ys) (kf l ys) 1 gX Q
 (.aq aw [(.aG 0 0),(.int .i64 (ys.length:Int))] (Lm l) 1 fun d0=>(.bE (il l ys d0.aa.length d0.aa 0))):=
  oH fo 0x1
theorem rB:lk fo (.bu 1 (gX (ka l ys) (kf l ys)) Q) (il l ys c0 l1 n2)
 ((fun (u:ax)=>(.ite (decide (n2<(ys.length:Int))) (.gd (dy n2 ys.length) (.aq cd [(.aG 0 0),(.agg (aK pg ao (D.at ys n2.toNat)))] [(0,u),(1,(.an mn l1 true))] 1 fun d0=>(.bE (il l ys d0.aa.length d0.aa (wp .i64 (n2+1)))))) (.aL (.tuple []) [(0,u),(1,(.an mn l1 true))]))) (.cells [(.aV 1 c0 true)] br false)):=
  oE fo 0x21211
end
section
variable {l ys l1:List D} {y:D} {Q:D->Prop} {c0:Nat} {n2:Int}
def u7:cw:={f:=de,rs:=[],bu:=some 1,bD:=[(cA,gx),(dO,qk),(bM,dA),(cY,gr)]}
@[simp] theorem Yq:u7.f=de/\u7.rs=[]:=⟨rfl,rfl⟩
theorem MB:lh u7 (zr l y) (EA l y) 1 uQ Q
 ((fun (v:D)=>(.gd ((decide (l.length=l.length))&&(bg 1 (l.length+1))) (.aq cA [(.aG 0 0),(.bj (y.ae 1).bj)] [(0,(.cells [(.aV 1 (l.length+1) true)] br false)),(1,(.an mn (l++[(D.z (y.ae 0).int)]) true))] 1 fun d0=>(.aq cA [(.aG 0 0),(.bj (y.ae 2).bj)] (Lm d0.aa) 1 fun d1=>((fun (u:Nat)=>(.gd ((decide (d1.aa.length=d1.aa.length))&&(bg 1 u)) (.gd ((decide (u=(d1.aa++[v]).length))&&(bg 1 (u+1))) (.aq dO [(.aG 0 0),(.agg (aK pg aE (y.ae 5)))] [(0,(.cells [(.aV 1 (u+1) true)] br false)),(1,(.an mn ((d1.aa++[v])++[(D.z (y.ae 4).int)]) true))] 1 fun d2=>(.aq dO [(.aG 0 0),(.agg (aK pg aE (y.ae 6)))] (Lm d2.aa) 1 fun d3=>(.aq bM [(.aG 0 0),(.bC aT (y.ae 7).aa),(.func (.func de) [(.aG 0 0)] [])] (Lm d3.aa) 1 fun d4=>(.aq bM [(.aG 0 0),(.bC aT (y.ae 8).aa),(.func (.func de) [(.aG 0 0)] [])] (Lm d4.aa) 1 fun d5=>(.aq bM [(.aG 0 0),(.bC aT (y.ae 9).aa),(.func (.func de) [(.aG 0 0)] [])] (Lm d5.aa) 1 fun d6=>(.aq cY [(.aG 0 0),(.bC bG (y.ae 10).aa),(.func (.func cA) [(.aG 0 0)] [])] (Lm d6.aa) 1 fun d7=>(.aL (.tuple []) (Lm d7.aa))))))))))) (d1.aa.length+1)))))) (D.z (y.ae 3).int)):=
  oH u7 0x3213213211
def ga:cw:={f:=bM,rs:=[],bu:=some 1,bD:=[(aw,bV),(de,uQ)],bK:=[⟨bM,0,12313,[2,12,13,14],[]⟩]}
@[simp] theorem P3:ga.f=bM/\ga.rs=[]:=⟨rfl,rfl⟩
def i6 (l ys:List D)(c0:Nat)(l1:List D)(n2:Int):av:=hdS bM 19 [(2,(.func (.func de) [(.aG 0 0)] [])),(12,(.bC aT ys)),(13,(.int .i64 (ys.length:Int))),(14,(.int .i64 n2))] [(0,(.cells [(.aV 1 c0 true)] br false)),(1,(.an mn l1 true))]
theorem FG:lh ga (lO l ys) (lX l ys) 1 dA Q
 (.aq aw [(.aG 0 0),(.int .i64 (ys.length:Int))] (Lm l) 1 fun d0=>(.bE (i6 l ys d0.aa.length d0.aa 0))):=
  oH ga 0x1
theorem tN:lk ga (.bu 1 (dA (lO l ys) (lX l ys)) Q) (i6 l ys c0 l1 n2)
 ((fun (u:ax)=>(.ite (decide (n2<(ys.length:Int))) (.gd (dy n2 ys.length) (.aq de [(.aG 0 0),(.agg (aK pg aT (D.at ys n2.toNat)))] [(0,u),(1,(.an mn l1 true))] 1 fun d0=>(.bE (i6 l ys d0.aa.length d0.aa (wp .i64 (n2+1)))))) (.aL (.tuple []) [(0,u),(1,(.an mn l1 true))]))) (.cells [(.aV 1 c0 true)] br false)):=
  oE ga 0x21211
end
section
variable {l:List D} {y:D} {Q:D->Prop}
def su:cw:={f:=fE,rs:=[],bu:=some 1,bD:=[(aw,bV),(ca,fC),(cd,jh),(bM,dA),(cN,fV),(cT,gX)]}
@[simp] theorem VA:su.f=fE/\su.rs=[]:=⟨rfl,rfl⟩
theorem Kt:lh su (sh l y) (xX l y) 1 od Q
 ((fun (uj:BV)=>((fun (uz:BV)=>((fun (t:BV)=>((fun (q:BV)=>((fun (p:D)=>((fun (k:BV)=>((fun (j:BV)=>(.aq aw [(.aG 0 0),(.int .i64 (y.ae 0).int)] (Lm l) 1 fun d0=>((fun (vv:Nat)=>((fun (v:ax)=>((fun (u:ax)=>(.gd ((decide (d0.aa.length=d0.aa.length))&&(bg 1 vv)) (.ite (p.int==(0:Int)) (.aL (.tuple []) [(0,u),(1,v)]) (.ite (p.int==(1:Int)) (.aq aw [(.aG 0 0),j] [(0,u),(1,v)] 1 fun d1=>(.aq cd [(.aG 0 0),t] (Lm d1.aa) 1 fun d2=>(.aL (.tuple []) (Lm d2.aa)))) (.ite (p.int==(2:Int)) (.aq aw [(.aG 0 0),j] [(0,u),(1,v)] 1 fun d3=>(.aq cT [(.aG 0 0),uz,(.func (.func cd) [(.aG 0 0)] [])] (Lm d3.aa) 1 fun d4=>(.aL (.tuple []) (Lm d4.aa)))) (.ite (p.int==(3:Int)) (.aq aw [(.aG 0 0),j] [(0,u),(1,v)] 1 fun d5=>(.aq ca [(.aG 0 0),k] (Lm d5.aa) 1 fun d6=>(.aL (.tuple []) (Lm d6.aa)))) (.ite (p.int==(4:Int)) (.aq aw [(.aG 0 0),j] [(0,u),(1,v)] 1 fun d7=>(.aq cT [(.aG 0 0),uz,(.func (.func cd) [(.aG 0 0)] [])] (Lm d7.aa) 1 fun d8=>(.aL (.tuple []) (Lm d8.aa)))) (.ite (p.int==(5:Int)) (.aq aw [(.aG 0 0),j] [(0,u),(1,v)] 1 fun d9=>(.aL (.tuple []) (Lm d9.aa))) (.ite (p.int==(6:Int)) (.aq aw [(.aG 0 0),j] [(0,u),(1,v)] 1 fun d10=>(.aq aw [(.aG 0 0),q] (Lm d10.aa) 1 fun d11=>(.aL (.tuple []) (Lm d11.aa)))) (.ite (p.int==(7:Int)) (.aq aw [(.aG 0 0),j] [(0,u),(1,v)] 1 fun d12=>(.aq aw [(.aG 0 0),q] (Lm d12.aa) 1 fun d13=>(.aq cd [(.aG 0 0),t] (Lm d13.aa) 1 fun d14=>(.aL (.tuple []) (Lm d14.aa))))) (.ite (p.int==(8:Int)) (.aq aw [(.aG 0 0),j] [(0,u),(1,v)] 1 fun d15=>(.aq ca [(.aG 0 0),k] (Lm d15.aa) 1 fun d16=>(.aq ca [(.aG 0 0),(.int .u64 (wp .u64 ((BitVec.toNat ((BitVec.ofInt 64 (wp .u64 ((y.ae 1).ae 5).int)) ^^^ (BitVec.ofInt 64 9223372036854775808))):Int)))] (Lm d16.aa) 1 fun d17=>(.aL (.tuple []) (Lm d17.aa))))) (.ite (p.int==(9:Int)) (.aq aw [(.aG 0 0),j] [(0,u),(1,v)] 1 fun d18=>(.aq aw [(.aG 0 0),q] (Lm d18.aa) 1 fun d19=>(.aq ca [(.aG 0 0),k] (Lm d19.aa) 1 fun d20=>(.aL (.tuple []) (Lm d20.aa))))) (.ite (p.int==(10:Int)) (.aq aw [(.aG 0 0),j] [(0,u),(1,v)] 1 fun d21=>((fun (vu:Nat)=>((fun (up:Bool)=>((fun (uv:Bool)=>((fun (o:ax)=>(.ite ((y.ae 1).ae 9).bool (.gd (uv&&up) (.aq cd [(.aG 0 0),t] [(0,o),(1,(.an mn (d21.aa++[(D.z 1)]) true))] 1 fun d22=>(.aL (.tuple []) (Lm d22.aa)))) (.gd (uv&&up) (.aq cd [(.aG 0 0),t] [(0,o),(1,(.an mn (d21.aa++[(D.z 0)]) true))] 1 fun d23=>(.aL (.tuple []) (Lm d23.aa)))))) (.cells [(.aV 1 vu true)] br false))) (decide (d21.aa.length=d21.aa.length)))) (bg 1 vu))) (d21.aa.length+1))) (.ite (p.int==(11:Int)) (.aq aw [(.aG 0 0),j] [(0,u),(1,v)] 1 fun d24=>(.aq aw [(.aG 0 0),q] (Lm d24.aa) 1 fun d25=>(.aL (.tuple []) (Lm d25.aa)))) (.ite (p.int==(12:Int)) (.aq aw [(.aG 0 0),j] [(0,u),(1,v)] 1 fun d26=>(.aq bM [(.aG 0 0),(.bC aT ((y.ae 1).ae 10).aa),(.func (.func de) [(.aG 0 0)] [])] (Lm d26.aa) 1 fun d27=>(.aq cN [(.aG 0 0),(.bC fT ((y.ae 1).ae 11).aa),(.func (.func fD) [(.aG 0 0)] [])] (Lm d27.aa) 1 fun d28=>(.aL (.tuple []) (Lm d28.aa))))) (.ite (p.int==(13:Int)) (.aq aw [(.aG 0 0),j] [(0,u),(1,v)] 1 fun d29=>((fun (ut:Nat)=>((fun (uk:Bool)=>((fun (uu:Bool)=>((fun (i:ax)=>(.ite ((y.ae 1).ae 9).bool (.gd (uu&&uk) (.aq aw [(.aG 0 0),q] [(0,i),(1,(.an mn (d29.aa++[(D.z 1)]) true))] 1 fun d30=>(.aL (.tuple []) (Lm d30.aa)))) (.gd (uu&&uk) (.aq aw [(.aG 0 0),q] [(0,i),(1,(.an mn (d29.aa++[(D.z 0)]) true))] 1 fun d31=>(.aL (.tuple []) (Lm d31.aa)))))) (.cells [(.aV 1 ut true)] br false))) (decide (d29.aa.length=d29.aa.length)))) (bg 1 ut))) (d29.aa.length+1))) (.ite (p.int==(14:Int)) (.aq aw [(.aG 0 0),q] [(0,u),(1,v)] 1 fun d32=>((fun (uq:Nat)=>(.gd ((decide (d32.aa.length=d32.aa.length))&&(bg 1 uq)) (.aL (.tuple []) [(0,(.cells [(.aV 1 uq true)] br false)),(1,(.an mn (d32.aa++[(D.z ((y.ae 1).ae 8).int)]) true))]))) (d32.aa.length+1))) (.ite (p.int==(15:Int)) (.aq aw [(.aG 0 0),j] [(0,u),(1,v)] 1 fun d33=>(.aq aw [(.aG 0 0),q] (Lm d33.aa) 1 fun d34=>(.aq aw [(.aG 0 0),uj] (Lm d34.aa) 1 fun d35=>(.aL (.tuple []) (Lm d35.aa))))) (.gd (p.int==(16:Int)) (.aq aw [(.aG 0 0),j] [(0,u),(1,v)] 1 fun d36=>(.aq aw [(.aG 0 0),q] (Lm d36.aa) 1 fun d37=>(.aq aw [(.aG 0 0),uj] (Lm d37.aa) 1 fun d38=>(.aL (.tuple []) (Lm d38.aa)))))))))))))))))))))))) (.cells [(.aV 1 vv true)] br false))) (.an mn (d0.aa++[(D.z p.int)]) true))) (d0.aa.length+1)))) (.int .i64 ((y.ae 1).ae 1).int))) (.int .u64 (wp .u64 ((BitVec.toNat ((BitVec.ofInt 64 (wp .u64 ((y.ae 1).ae 4).int)) ^^^ (BitVec.ofInt 64 9223372036854775808))):Int))))) ((y.ae 1).ae 0))) (.int .i64 ((y.ae 1).ae 6).int))) (.agg (aK pg ao ((y.ae 1).ae 2))))) (.bC ao ((y.ae 1).ae 3).aa))) (.int .i64 ((y.ae 1).ae 7).int)):=
  oH su 0x3212222222222222222210a910a9106921310592321059132105910a9106910592321059132105910a910a910a9106910391069106910691069131
end
section
variable {l ys l1:List D} {Q:D->Prop} {c0:Nat} {n2:Int}
def fZ:cw:={f:=dF,rs:=[],bu:=some 1,bD:=[(aw,bV)],bK:=[⟨dF,0,12312,[2,12,13,14],[]⟩]}
@[simp] theorem P2:fZ.f=dF/\fZ.rs=[]:=⟨rfl,rfl⟩
def i5 (l ys:List D)(c0:Nat)(l1:List D)(n2:Int):av:=hdS dF 19 [(2,(.func (.func zW) [(.aG 0 0)] [])),(12,(.bC bY ys)),(13,(.int .i64 (ys.length:Int))),(14,(.int .i64 n2))] [(0,(.cells [(.aV 1 c0 true)] br false)),(1,(.an mn l1 true))]
theorem FF:lh fZ (lM l ys) (lW l ys) 1 iN Q
 (.aq aw [(.aG 0 0),(.int .i64 (ys.length:Int))] (Lm l) 1 fun d0=>(.bE (i5 l ys d0.aa.length d0.aa 0))):=
  oH fZ 0x1
theorem tM:lk fZ (.bu 1 (iN (lM l ys) (lW l ys)) Q) (i5 l ys c0 l1 n2)
 ((fun (u:ax)=>(.ite (decide (n2<(ys.length:Int))) (.gd (dy n2 ys.length) (.aq aw [(.aG 0 0),(.int .i64 (D.at ys n2.toNat).int)] [(0,u),(1,(.an mn l1 true))] 1 fun d0=>(.bE (i5 l ys d0.aa.length d0.aa (wp .i64 (n2+1)))))) (.aL (.tuple []) [(0,u),(1,(.an mn l1 true))]))) (.cells [(.aV 1 c0 true)] br false)):=
  oE fZ 0x21211
def gR:cw:={f:=dq,rs:=[],bu:=some 1,bD:=[(aw,bV)],bK:=[⟨dq,0,12312,[2,12,13,14],[]⟩]}
@[simp] theorem R0:gR.f=dq/\gR.rs=[]:=⟨rfl,rfl⟩
def jy (l ys:List D)(c0:Nat)(l1:List D)(n2:Int):av:=hdS dq 19 [(2,(.func (.func aw) [(.aG 0 0)] [])),(12,(.bC ah ys)),(13,(.int .i64 (ys.length:Int))),(14,(.int .i64 n2))] [(0,(.cells [(.aV 1 c0 true)] br false)),(1,(.an mn l1 true))]
theorem GP:lh gR (mY l ys) (nb l ys) 1 jE Q
 (.aq aw [(.aG 0 0),(.int .i64 (ys.length:Int))] (Lm l) 1 fun d0=>(.bE (jy l ys d0.aa.length d0.aa 0))):=
  oH gR 0x1
theorem uH:lk gR (.bu 1 (jE (mY l ys) (nb l ys)) Q) (jy l ys c0 l1 n2)
 ((fun (u:ax)=>(.ite (decide (n2<(ys.length:Int))) (.gd (dy n2 ys.length) (.aq aw [(.aG 0 0),(.int .i64 (D.at ys n2.toNat).int)] [(0,u),(1,(.an mn l1 true))] 1 fun d0=>(.bE (jy l ys d0.aa.length d0.aa (wp .i64 (n2+1)))))) (.aL (.tuple []) [(0,u),(1,(.an mn l1 true))]))) (.cells [(.aV 1 c0 true)] br false)):=
  oE gR 0x21211
def fl:cw:={f:=dh,rs:=[],bu:=some 1,bD:=[(aw,bV),(fE,od)],bK:=[⟨dh,0,12313,[2,12,13,14],[]⟩]}
@[simp] theorem Px:fl.f=dh/\fl.rs=[]:=⟨rfl,rfl⟩
def ik (l ys:List D)(c0:Nat)(l1:List D)(n2:Int):av:=hdS dh 19 [(2,(.func (.func fE) [(.aG 0 0)] [])),(12,(.bC bQ ys)),(13,(.int .i64 (ys.length:Int))),(14,(.int .i64 n2))] [(0,(.cells [(.aV 1 c0 true)] br false)),(1,(.an mn l1 true))]
theorem D2:lh fl (j9 l ys) (ke l ys) 1 gW Q
 (.aq aw [(.aG 0 0),(.int .i64 (ys.length:Int))] (Lm l) 1 fun d0=>(.bE (ik l ys d0.aa.length d0.aa 0))):=
  oH fl 0x1
theorem rA:lk fl (.bu 1 (gW (j9 l ys) (ke l ys)) Q) (ik l ys c0 l1 n2)
 ((fun (u:ax)=>(.ite (decide (n2<(ys.length:Int))) (.gd (dy n2 ys.length) (.aq fE [(.aG 0 0),(.agg (aK pg bQ (D.at ys n2.toNat)))] [(0,u),(1,(.an mn l1 true))] 1 fun d0=>(.bE (ik l ys d0.aa.length d0.aa (wp .i64 (n2+1)))))) (.aL (.tuple []) [(0,u),(1,(.an mn l1 true))]))) (.cells [(.aV 1 c0 true)] br false)):=
  oE fl 0x21211
def gQ:cw:={f:=dZ,rs:=[],bu:=some 1,bD:=[(aw,bV)],bK:=[⟨dZ,0,12312,[2,12,13,14],[]⟩]}
@[simp] theorem RZ:gQ.f=dZ/\gQ.rs=[]:=⟨rfl,rfl⟩
def jx (l ys:List D)(c0:Nat)(l1:List D)(n2:Int):av:=hdS dZ 19 [(2,(.func (.func Bx) [(.aG 0 0)] [])),(12,(.bC bh ys)),(13,(.int .i64 (ys.length:Int))),(14,(.int .i64 n2))] [(0,(.cells [(.aV 1 c0 true)] br false)),(1,(.an mn l1 true))]
theorem GO:lh gQ (mX l ys) (na l ys) 1 jD Q
 (.aq aw [(.aG 0 0),(.int .i64 (ys.length:Int))] (Lm l) 1 fun d0=>(.bE (jx l ys d0.aa.length d0.aa 0))):=
  oH gQ 0x1
theorem uG:lk gQ (.bu 1 (jD (mX l ys) (na l ys)) Q) (jx l ys c0 l1 n2)
 ((fun (u:ax)=>(.ite (decide (n2<(ys.length:Int))) (.gd (dy n2 ys.length) (.aq aw [(.aG 0 0),(.int .i64 (D.at ys n2.toNat).int)] [(0,u),(1,(.an mn l1 true))] 1 fun d0=>(.bE (jx l ys d0.aa.length d0.aa (wp .i64 (n2+1)))))) (.aL (.tuple []) [(0,u),(1,(.an mn l1 true))]))) (.cells [(.aV 1 c0 true)] br false)):=
  oE gQ 0x21211
def dY:cw:={f:=cO,rs:=[],bu:=some 1,bD:=[(aw,bV),(dP,oF)],bK:=[⟨cO,0,12313,[2,12,13,14],[]⟩]}
@[simp] theorem M8:dY.f=cO/\dY.rs=[]:=⟨rfl,rfl⟩
def gh (l ys:List D)(c0:Nat)(l1:List D)(n2:Int):av:=hdS cO 19 [(2,(.func (.func dP) [(.aG 0 0)] [])),(12,(.bC bZ ys)),(13,(.int .i64 (ys.length:Int))),(14,(.int .i64 n2))] [(0,(.cells [(.aV 1 c0 true)] br false)),(1,(.an mn l1 true))]
theorem BP:lh dY (iK l ys) (iL l ys) 1 fH Q
 (.aq aw [(.aG 0 0),(.int .i64 (ys.length:Int))] (Lm l) 1 fun d0=>(.bE (gh l ys d0.aa.length d0.aa 0))):=
  oH dY 0x1
theorem pW:lk dY (.bu 1 (fH (iK l ys) (iL l ys)) Q) (gh l ys c0 l1 n2)
 ((fun (u:ax)=>(.ite (decide (n2<(ys.length:Int))) (.gd (dy n2 ys.length) (.aq dP [(.aG 0 0),(.agg (aK pg bZ (D.at ys n2.toNat)))] [(0,u),(1,(.an mn l1 true))] 1 fun d0=>(.bE (gh l ys d0.aa.length d0.aa (wp .i64 (n2+1)))))) (.aL (.tuple []) [(0,u),(1,(.an mn l1 true))]))) (.cells [(.aV 1 c0 true)] br false)):=
  oE dY 0x21211
end
section
variable {l:List D} {y:D} {Q:D->Prop}
def sx:cw:={f:=jl,rs:=[],bu:=some 1,bD:=[(aw,bV),(dF,iN),(dq,jE),(dh,gW)]}
@[simp] theorem VC:sx.f=jl/\sx.rs=[]:=⟨rfl,rfl⟩
theorem Kv:lh sx (C7 l y) (C8 l y) 1 so Q
 (.aq dF [(.aG 0 0),(.bC bY (y.ae 0).aa),(.func (.func zW) [(.aG 0 0)] [])] (Lm l) 1 fun d0=>(.aq dq [(.aG 0 0),(.bC ah (y.ae 1).aa),(.func (.func aw) [(.aG 0 0)] [])] (Lm d0.aa) 1 fun d1=>(.aq aw [(.aG 0 0),(.int .i64 (y.ae 3).int)] (Lm d1.aa) 1 fun d2=>(.aq dq [(.aG 0 0),(.bC ah (y.ae 4).aa),(.func (.func aw) [(.aG 0 0)] [])] (Lm d2.aa) 1 fun d3=>(.aq dh [(.aG 0 0),(.bC bQ (y.ae 2).aa),(.func (.func fE) [(.aG 0 0)] [])] (Lm d3.aa) 1 fun d4=>(.aL (.tuple []) (Lm d4.aa))))))):=
  oH sx 0x1
def oJ:cw:={f:=dP,rs:=[],bu:=some 1,bD:=[(aw,bV),(bM,dA),(cN,fV),(dZ,jD)]}
@[simp] theorem SX:oJ.f=dP/\oJ.rs=[]:=⟨rfl,rfl⟩
theorem Ic:lh oJ (tY l y) (Av l y) 1 oF Q
 (.aq aw [(.aG 0 0),(.int .i64 (y.ae 0).int)] (Lm l) 1 fun d0=>(.aq bM [(.aG 0 0),(.bC aT (y.ae 1).aa),(.func (.func de) [(.aG 0 0)] [])] (Lm d0.aa) 1 fun d1=>(.aq cN [(.aG 0 0),(.bC fT (y.ae 2).aa),(.func (.func fD) [(.aG 0 0)] [])] (Lm d1.aa) 1 fun d2=>(.aq dZ [(.aG 0 0),(.bC bh (y.ae 3).aa),(.func (.func Bx) [(.aG 0 0)] [])] (Lm d2.aa) 1 fun d3=>(.aL (.tuple []) (Lm d3.aa)))))):=
  oH oJ 0x1
end
section
variable {l:List D} {Q:D->Prop}
def oI:cw:={f:=AB,rs:=[X0],bu:=some 1,Ee:=[some aj]}
@[simp] theorem SV:oI.f=AB/\oI.rs=[X0]:=⟨rfl,rfl⟩
theorem Ia:lh oI (tX l) (ua l) 1 Ay Q
 ((fun (u:RT)=>(.ite (decide (l.length=(0:Nat))) (.Gc (.aL (.aV 1 0 true) [(0,(.an aj l true)),(1,(.an aj [] true))]) u) u)) (.gd (decide (l.length<=l.length)) (.gd (true&&(bg 1 (0+(List.take l.length l).length))) (.aL (.aV 1 (0+(List.take l.length l).length) true) [(0,(.an aj l true)),(1,(.an aj ([]++(List.take l.length l)) true))])))):=
  oH oI 0x2006321211232121131
end
section
variable {a0:D} {Q:D->Prop} {c0 c2 c1:Nat} {n1 n4 n2:Int} {l3:List D}
def pC:cw:={f:=fM,rs:=[aE],cK:=[(fM,[aE],[aE])],bD:=[(gA,uM)],bK:=[⟨fM,0,16421,[1,10,2,11,12],[]⟩],HZ:=[(gA,[some Ec])]}
@[simp] theorem Y5:pC.f=fM/\pC.rs=[aE]:=⟨rfl,rfl⟩
def qL (a0:D)(c0:Nat)(n1:Int)(c2:Nat)(l3:List D)(n4:Int):av:=hdS fM 75 [(1,(.aG 0 0)),(2,(.aG 1 0)),(10,(.aV 2 c0 true)),(11,(.int .i64 n1)),(12,(.int .i64 n4))] [(0,(.cells [(.int .u8 (a0.ae 0).int),(.int .i64 (a0.ae 1).int),(.bj (a0.ae 2).bj),(.aV 2 c2 true)] aE false)),(1,(.cells [(.int .u8 0),(.int .i64 0),(.bj []),.bJ] aE false)),(2,(.an aE l3 true))]
theorem OC:lp pC [aE] [a0] Q
 (.aq gA [(.bC aE (D.r (a0.ae 3).aa).aa)] [] 0 fun d0=>(.bE (qL a0 d0.aa.length (d0.aa.length:Int) d0.aa.length d0.aa 0))):=
  oP pC 0x1
theorem BS:lk pC (.kE Q) (qL a0 c0 n1 c2 l3 n4)
 (.ite (decide (n4<n1)) (.gd (dy n4 c0) (.gd (decide (n4.toNat<l3.length)) (.call fM [(ct pg aE (D.at l3 n4.toNat))] fun d0=>(.gd (dy n4 c2) (.bE (qL a0 c0 n1 c2 (List.set l3 n4.toNat (ct pg aE d0)) (wp .i64 (n4+1)))))))) (.gd (decide (c2=l3.length)) (.ret (D.r [(D.z (a0.ae 0).int),(D.z (a0.ae 1).int),(D.s (a0.ae 2).bj),(D.r l3)])))):=
  oE pC 0x221121214210151
def xn:cw:={f:=tv,rs:=[aT],cK:=[(fM,[aE],[aE]),(oQ,[bB],[bB])],bD:=[(eE,qh)],Tg:=[(aT,16,je)],HZ:=[(eE,[some je])]}
@[simp] theorem Y6:xn.f=tv/\xn.rs=[aT]:=⟨rfl,rfl⟩
theorem OD:lp xn [aT] [a0] Q
 (.call fM [(ct pg aE (a0.ae 5))] fun d0=>(.call fM [(ct pg aE (a0.ae 6))] fun d1=>(.call oQ [(D.r (a0.ae 7).aa)] fun d2=>(.call oQ [(D.r (a0.ae 8).aa)] fun d3=>(.call oQ [(D.r (a0.ae 9).aa)] fun d4=>(.aq eE [(.bC bG (D.r (a0.ae 10).aa).aa)] [] 0 fun d5=>(.gd (decide (d5.aa.length=d5.aa.length)) (.ret (D.r [(D.z (a0.ae 0).int),(D.s (a0.ae 1).bj),(D.s (a0.ae 2).bj),(D.z (a0.ae 3).int),(D.z (a0.ae 4).int),(ct pg aE d0),(ct pg aE d1),(D.r d2.aa),(D.r d3.aa),(D.r d4.aa),(D.r (D.r d5.aa).aa)]))))))))):=
  oP xn 0x4444211
def Co:cw:={f:=oQ,rs:=[bB],cK:=[(tv,[aT],[aT])],bD:=[(gB,uN)],bK:=[⟨oQ,0,16420,[0,7,8,9],[]⟩],HZ:=[(gB,[some bB])]}
@[simp] theorem adk:Co.f=oQ/\Co.rs=[bB]:=⟨rfl,rfl⟩
def Aa (a0:D)(c0 c1:Nat)(n2:Int)(l3:List D)(n4:Int):av:=hdS oQ 75 [(0,(.aV 0 c0 true)),(7,(.aV 0 c1 true)),(8,(.int .i64 n2)),(9,(.int .i64 n4))] [(0,(.an aT l3 true))]
theorem Z4:lp Co [bB] [a0] Q
 (.aq gB [(.bC aT (D.r a0.aa).aa)] [] 0 fun d0=>(.bE (Aa a0 d0.aa.length d0.aa.length (d0.aa.length:Int) d0.aa 0))):=
  oP Co 0x1
theorem JT:lk Co (.kE Q) (Aa a0 c0 c1 n2 l3 n4)
 (.ite (decide (n4<n2)) (.gd (dy n4 c1) (.gd (decide (n4.toNat<l3.length)) (.call tv [(ct pg aT (D.at l3 n4.toNat))] fun d0=>(.gd (dy n4 c0) (.bE (Aa a0 c0 c1 n2 (List.set l3 n4.toNat (ct pg aT d0)) (wp .i64 (n4+1)))))))) (.gd (decide (c0=l3.length)) (.ret (D.r l3)))):=
  oE Co 0x22112121210151
def Iw:cw:={f:=E9,rs:=[bB,aX],cK:=[(rZ,[bB],[aX]),(oQ,[bB],[bB])]}
@[simp] theorem adi:Iw.f=E9/\Iw.rs=[bB,aX]:=⟨rfl,rfl⟩
theorem Z2:lp Iw [bB] [a0] Q
 (.call rZ [(D.r a0.aa)] fun d0=>(.ite (d0.int !=(0:Int)) (.ret (D.r [(D.r []),(D.z d0.int)])) (.call oQ [(D.r a0.aa)] fun d1=>(.ret (D.r [(D.r d1.aa),(D.z 0)]))))):=
  oP Iw 0x211
end
section
variable {a0:D} {Q:D->Prop} {c0:Nat} {n1:Int} {l2:List D}
def Iy:cw:={f:=Fc,rs:=[ao],cK:=[(vf,[ao],[ao,aX])]}
@[simp] theorem adn:Iy.f=Fc/\Iy.rs=[ao]:=⟨rfl,rfl⟩
theorem Z8:lp Iy [ao] [a0] Q
 (.call vf [(ct pg ao a0)] fun d0=>(.ite ((d0.ae 1).int==(0:Int)) (.ret (ct pg ao (d0.ae 0))) (.ret (ct pg ao a0)))):=
  oP Iy 0x211
def vO:cw:={f:=pP,rs:=[jT],cK:=[(Fc,[ao],[ao])],bK:=[⟨pP,0,16422,[6,7,8,3],[(3,fT)]⟩]}
@[simp] theorem abL:vO.f=pP/\vO.rs=[jT]:=⟨rfl,rfl⟩
def vl (a0:D)(c0:Nat)(n1:Int)(l2:List D):av:=hdS pP 75 [(3,(.aV 0 c0 true)),(6,(.bC fT a0.aa)),(7,(.int .i64 (a0.aa.length:Int))),(8,(.int .i64 n1))] [(0,(.an fT l2 true))]
theorem TY:lp vO [jT] [a0] Q
 (.bE (vl a0 0 0 [])):=
  oP vO 0x1
theorem FL:lk vO (.kE Q) (vl a0 c0 n1 l2)
 ((fun (v:Bool)=>((fun (u:D)=>(.ite (decide (n1<(a0.aa.length:Int))) (.gd (dy n1 a0.aa.length) (.call Fc [(ct pg ao (u.ae 1))] fun d0=>(.gd (v&&(bg 80 (c0+1))) (.bE (vl a0 (c0+1) (wp .i64 (n1+1)) (l2++[(D.r [(D.s (u.ae 0).bj),(ct pg ao d0)])])))))) (.gd v (.ret (D.r l2))))) (D.at a0.aa n1.toNat))) (decide (c0=l2.length))):=
  oE vO 0x22112143211
def nq:cw:={f:=eL,rs:=[cB],cK:=[(E9,[bB],[bB,aX]),(pP,[jT],[jT])],bD:=[(pK,A9)],bK:=[⟨eL,0,16441,[6,7,8,3],[(3,bZ)]⟩],Tg:=[(bZ,3,dS)],HZ:=[(pK,[some dS])]}
@[simp] theorem Yt:nq.f=eL/\nq.rs=[cB]:=⟨rfl,rfl⟩
def oS (a0:D)(c0:Nat)(n1:Int)(l2:List D):av:=hdS eL 75 [(3,(.aV 0 c0 true)),(6,(.bC bZ a0.aa)),(7,(.int .i64 (a0.aa.length:Int))),(8,(.int .i64 n1))] [(0,(.an bZ l2 true))]
theorem ME:lp nq [cB] [a0] Q
 (.bE (oS a0 0 0 [])):=
  oP nq 0x1
theorem AJ:lk nq (.kE Q) (oS a0 c0 n1 l2)
 ((fun (v:Bool)=>((fun (u:D)=>(.ite (decide (n1<(a0.aa.length:Int))) (.gd (dy n1 a0.aa.length) (.call E9 [(D.r (u.ae 1).aa)] fun d0=>(.call pP [(D.r (u.ae 2).aa)] fun d1=>(.aq pK [(.bC bh (D.r (u.ae 3).aa).aa)] [] 0 fun d2=>(.gd (decide (d2.aa.length=d2.aa.length)) (.gd (v&&(bg 80 (c0+1))) (.bE (oS a0 (c0+1) (wp .i64 (n1+1)) (l2++[(D.r [(D.z (u.ae 0).int),(D.r (d0.ae 0).aa),(D.r d1.aa),(D.r (D.r d2.aa).aa)])]))))))))) (.gd v (.ret (D.r l2))))) (D.at a0.aa n1.toNat))) (decide (c0=l2.length))):=
  oE nq 0x221121213211
end
section
variable {W:WS} {Q:D->Prop} {l0 l3 l4 l5:List D} {c1 c2 c8 c11:Nat} {m6 m9:List (D×D)} {st7 st10:List Nat}
def yJ:cw:={f:=iT,rs:=[cq],bu:=some 3,cK:=[(di,[aO],[aO])],bD:=[(dC,mw),(dN,qg),(rY,yz),(qz,zB)],bK:=[⟨iT,0,16429,[3,36],[]⟩],Tg:=[(aU,0,jU)],HZ:=[(dN,[some jU])],pns:=[(dC,1),(qz,1)]}
@[simp] theorem acI:yJ.f=iT/\yJ.rs=[cq]:=⟨rfl,rfl⟩
def qJ (W:WS)(l0:List D)(c1 c2:Nat)(l3 l4 l5:List D)(m6:List (D×D))(st7:List Nat)(c8:Nat)(m9:List (D×D))(st10:List Nat)(c11:Nat):av:=hdS iT 151 [(3,(.aG 3 0)),(36,(.aG 4 0))] [(0,wrC W 5 1 2 6),(1,wrT W 1),(2,wrF W),(3,(.cells [(.bC bY l0),(.aV 9 c1 true),(.map 7),(.map 8),(.int .i64 W.la),(.aV 10 c2 true)] aU false)),(4,(.jS 1 (D.cX W.th) W.st W.ck l5)),(5,(.an aj W.cu true)),(6,(.an ah W.ma true)),(7,(.bo bh (.cp 18 aO) m6 st7 c8)),(8,(.bo aM (.data bh) m9 st10 c11)),(9,(.an aj l3 true)),(10,(.an ah l4 true))]
theorem W6:lh yJ (A5 W) (Wm W) 3 qi Q
 (.aq dN [(.bC bY (D.r W.pa).aa)] [] 0 fun d0=>(.aq qz [(.aV 0 W.cu.length true)] [(0,(.an aj W.cu true))] 1 fun d1=>(.aq dC [(.aV 0 W.ma.length true)] [(0,(.an ah W.ma true))] 1 fun d2=>(.gd (decide (d0.aa.length=d0.aa.length)) (.bE (qJ W (D.r d0.aa).aa d1.aa.length d2.aa.length d1.aa d2.aa [] [] [] 0 [] [] 0)))))):=
  oH yJ 0x079444444211
theorem MK:lk yJ (.bu 3 (qi (A5 W) (Wm W)) Q) (qJ W l0 c1 c2 l3 l4 l5 m6 st7 c8 m9 st10 c11)
 ((fun (p:ax)=>((fun (k:ax)=>((fun (v:BV)=>((fun (u:ax)=>(.gd (tR W.th W.st W.ck (D.cX W.th) W.st W.ck) (.pick (D.cX W.th) l5 (.aL (.aG 3 0) [(0,(.cells [(.bC bY W.pa),(.aV 4 W.cu.length true),(.map 1),(.map 2),v,(.aV 5 W.ma.length true)] aU false)),(1,(.bo bh (.cp 1 aO) W.th W.st W.ck)),(2,(.bo aM (.data bh) W.fa W.sf W.cf)),(3,(.cells [(.bC bY l0),(.aV 8 c1 true),(.map 6),(.map 7),v,(.aV 9 c2 true)] aU false)),(4,(.an aj W.cu true)),(5,(.an ah W.ma true)),(6,(.bo bh (.cp 16 aO) m6 st7 c8)),(7,u),(8,p),(9,k)]) fun d0=>((fun (j:D)=>(.gd (D.fv W.th d0) (.call di [(ct pg aO (D.val W.th d0))] fun d1=>(.ite (D.fv m6 j) .bq (.aq rY [(.aG 0 0),(.int .i64 d0.int)] [(0,(.cells [(.bC bY l0),(.aV 3 c1 true),(.map 1),(.map 2),v,(.aV 4 c2 true)] aU false)),(1,(.bo bh (.cp 1 aO) (m6++[(j,(ct pg aO d1))]) (st7++[c8]) (c8+1))),(2,u),(3,p),(4,k)] 3 fun d2=>(.bE (qJ W l0 c1 c2 l3 l4 (d0::l5) (m6++[(j,(ct pg aO d1))]) (st7++[c8]) (c8+1) (gu (d2.ae 0)) (hG (d2.ae 1)) (hC (d2.ae 2))))))))) (D.z d0.int))))) (.bo aM (.data bh) m9 st10 c11))) (.int .i64 W.la))) (.an ah l4 true))) (.an aj l3 true)):=
  oE yJ 0x21230052121131
end



section
variable {W:WS} {Q:D->Prop} {s:Int}
def EU:cw:={f:=By,rs:=[aj],bu:=some 3,bD:=[(dH,nc)]}
@[simp] theorem acV:EU.f=By/\EU.rs=[aj]:=⟨rfl,rfl⟩
theorem Xj:lh EU (Nc W) (Wm W) 3 IW Q
 (.aq dH [(.aG 0 0)] (Wm W) 3 fun d0=>(.aL (.bool (d0.int==(0:Int))) (Wm W))):=
  oH EU 0x0491
def EV:cw:={f:=Bz,rs:=[aj],bu:=some 3,bD:=[(dH,nc)]}
@[simp] theorem acW:EV.f=Bz/\EV.rs=[aj]:=⟨rfl,rfl⟩
theorem Xk:lh EV (Nd W s) (Wm W) 3 IX Q
 (.ite (decide ((s:Int)≥(0:Int))) (.aq dH [(.aG 0 0)] (Wm W) 3 fun d0=>(.aL (.bool (decide ((s:Int)<d0.int))) (Wm W))) (.aL (.bool false) (Wm W))):=
  oH EV 0x20400b10400a1
end

section
variable {W:WS} {y:D} {Q:D->Prop} {n0 n3 n1 n6 n7:Int} {m1 m0 m3:List (D×D)} {st2 st1 st4:List Nat} {c3 c2 c0 c5:Nat} {l2:List D}
def jJ:cw:={f:=eW,rs:=[aX],bu:=some 3,cK:=[(iU,[jT],[aj]),(E8,[bB],[aj])],bD:=[(mI,Bd),(dz,Bb),(By,IW),(Bz,IX),(eI,nY)],bK:=[⟨eW,0,16516,[5,0,33,3,34,35],[]⟩,⟨eW,0,16454,[5,0,66,67,68],[]⟩,⟨eW,0,32818,[5,0,74,66,67,68,75,76],[]⟩]}
@[simp] theorem abY:jJ.f=eW/\jJ.rs=[aX]:=⟨rfl,rfl⟩
def lv (W:WS)(y:D)(n0:Int)(m1:List (D×D))(st2:List Nat)(c3:Nat):av:=hdS eW 303 [(0,(.aG 0 0)),(3,(.aG 3 0)),(5,(.map 4)),(33,(.bC bh (y.ae 3).aa)),(34,(.int .i64 ((y.ae 3).aa.length:Int))),(35,(.int .i64 n0))] [(0,wrC W 5 1 2 6),(1,wrT W 1),(2,wrF W),(3,(.cells (aK pg bZ y) bZ false)),(4,(.bo bh (.data ah) m1 st2 c3)),(5,(.an aj W.cu true)),(6,(.an ah W.ma true))]
def ou (W:WS)(y:D)(m0:List (D×D))(st1:List Nat)(c2:Nat)(n3:Int):av:=hdS eW 607 [(0,(.aG 0 0)),(5,(.map 3)),(66,(.bC fT (y.ae 2).aa)),(67,(.int .i64 ((y.ae 2).aa.length:Int))),(68,(.int .i64 n3))] [(0,wrC W 4 1 2 5),(1,wrT W 1),(2,wrF W),(3,(.bo bh (.data ah) m0 st1 c2)),(4,(.an aj W.cu true)),(5,(.an ah W.ma true))]
def nG (W:WS)(y:D)(c0:Nat)(n1:Int)(l2:List D)(m3:List (D×D))(st4:List Nat)(c5:Nat)(n6 n7:Int):av:=hdS eW 157279 [(0,(.aG 0 0)),(5,(.map 3)),(66,(.bC fT (y.ae 2).aa)),(67,(.int .i64 ((y.ae 2).aa.length:Int))),(68,(.int .i64 n7)),(74,(.aV 4 c0 true)),(75,(.int .i64 n1)),(76,(.int .i64 n6))] [(0,wrC W 5 1 2 6),(1,wrT W 1),(2,wrF W),(3,(.bo bh (.data ah) m3 st4 c5)),(4,(.an bh l2 true)),(5,(.an aj W.cu true)),(6,(.an ah W.ma true))]
theorem Ua:lh jJ (jz W y) (Wm W) 3 iC Q
 ((fun (u:RT)=>(.aq By [(.aG 0 0)] (Wm W) 3 fun d0=>(.ite d0.bool (.aL (.int .i64 1) (Wm W)) (.aq Bz [(.aG 0 0),(.int .i64 (y.ae 0).int)] (Wm W) 3 fun d1=>(.ite (! d1.bool) u (.call E8 [(D.r (y.ae 1).aa)] fun d2=>(.ite (! d2.bool) u (.call iU [(D.r (y.ae 2).aa)] fun d3=>(.ite (! d3.bool) u (.bE (lv W y 0 [] [] 0))))))))))) (.aL (.int .i64 190) (Wm W))):=
  oH jJ 0x220400b20400b2110400a310400a06911
theorem DB:lk jJ (.bu 3 (iC (jz W y) (Wm W)) Q) (lv W y n0 m1 st2 c3)
 ((fun (o:Int)=>((fun (q:D)=>((fun (uu:Bool)=>((fun (k:RT)=>((fun (j:D)=>((fun (i:RT)=>((fun (t:List (D×D))=>((fun (p:RT)=>((fun (v:RT)=>((fun (u:RT)=>(.ite (decide (n0<((y.ae 3).aa.length:Int))) (.gd (dy n0 (y.ae 3).aa.length) (.ite (D.fv m1 j) (.ite uu k (.aq dz [(.aG 0 0),(.int .i64 q.int)] (Wm W) 3 fun d0=>(.ite (! d0.bool) (.aq eI [(.aG 0 0)] (Wm W) 3 fun d1=>(.ite (decide (q.int>(d1.ae 3).int)) k u)) u))) (.ite uu k (.aq dz [(.aG 0 0),(.int .i64 q.int)] (Wm W) 3 fun d2=>(.ite (! d2.bool) (.aq eI [(.aG 0 0)] (Wm W) 3 fun d3=>(.ite (decide (q.int>(d3.ae 3).int)) k v)) v))))) (.bE (ou W y m1 st2 c3 0)))) (.ite (D.fv t j) (.ite (decide ((D.val t j).int>(1:Int))) k p) p))) (.ite (D.fv (m1++[(j,(D.z 1))]) j) (.ite (decide ((D.val (m1++[(j,(D.z 1))]) j).int>(1:Int))) k i) i))) (.bE (lv W y o t st2 c3)))) (D.jP m1 j (D.z (wp .i64 ((D.val m1 j).int+1)))))) (.bE (lv W y o (m1++[(j,(D.z 1))]) (st2++[c3]) (c3+1))))) (D.z q.int))) (.aL (.int .i64 190) (Wm W)))) (decide (q.int<(1:Int))))) (D.at (y.ae 3).aa n0.toNat))) (wp .i64 (n0+1))):=
  oE jJ 0x2121200620400b20400b016006016039203910292110400a01600501620200b20201b310201b2110400a310600a069100520400b20400b016006016039203910292110400a01600501620200b20201b310201b2110400a310600a0691
theorem DC:lk jJ (.bu 3 (iC (jz W y) (Wm W)) Q) (ou W y m0 st1 c2 n3)
 (.ite (decide (n3<((y.ae 2).aa.length:Int))) (.gd (dy n3 (y.ae 2).aa.length) (.aq mI [(.agg (aK pg ao ((D.at (y.ae 2).aa n3.toNat).ae 1)))] [] 0 fun d0=>(.bE (nG W y d0.aa.length (d0.aa.length:Int) d0.aa m0 st1 c2 0 n3)))) (.aL (.int .i64 0) (Wm W))):=
  oE jJ 0x21211
theorem zm:lk jJ (.bu 3 (iC (jz W y) (Wm W)) Q) (nG W y c0 n1 l2 m3 st4 c5 n6 n7)
 ((fun (j:D)=>((fun (v:D)=>((fun (u:RT)=>(.ite (decide (n6<n1)) (.gd (dy n6 c0) (.gd (decide (n6.toNat<l2.length)) (.aq dz [(.aG 0 0),(.int .i64 j.int)] (Wm W) 3 fun d0=>(.ite (! d0.bool) u (.ite (D.fv m3 v) (.ite ((D.val m3 v).int==(0:Int)) u (.bE (nG W y c0 n1 l2 m3 st4 c5 (wp .i64 (n6+1)) n7))) u))))) (.bE (ou W y m3 st4 c5 (wp .i64 (n7+1)))))) (.aL (.int .i64 190) (Wm W)))) (D.z j.int))) (D.at l2 n6.toNat)):=
  oE jJ 0x21212120200b20201b310201b2110400a31
end
section
variable {W:WS} {ls:List D} {Q:D->Prop} {n0:Int}
def zM:cw:={f:=xv,rs:=[tV,aX],bu:=some 3,cK:=[(eL,[cB],[cB])],bD:=[(dH,nc),(eW,iC),(iT,qi)],bK:=[⟨xv,0,16439,[0,19,1,20,21],[]⟩]}
@[simp] theorem adm:zM.f=xv/\zM.rs=[tV,aX]:=⟨rfl,rfl⟩
def xA (W:WS)(ls:List D)(n0:Int):av:=hdS xv 151 [(0,(.aG 0 0)),(1,(.bC bZ ls)),(19,(.bC bZ ls)),(20,(.int .i64 (ls.length:Int))),(21,(.int .i64 n0))] [(0,wrC W 3 1 2 4),(1,wrT W 1),(2,wrF W),(3,(.an aj W.cu true)),(4,(.an ah W.ma true))]
theorem Z7:lh zM (Ep W ls) (Wm W) 3 Cf Q
 (.aq dH [(.aG 0 0)] (Wm W) 3 fun d0=>(.ite (d0.int==(0:Int)) (.aL (.tuple [.gT,(.int .i64 1)]) (Wm W)) (.ite (decide ((ls.length:Int)>(32:Int))) (.aL (.tuple [.gT,(.int .i64 4)]) (Wm W)) (.bE (xA W ls 0))))):=
  oH zM 0x04922111
theorem Hy:lk zM (.bu 3 (Cf (Ep W ls) (Wm W)) Q) (xA W ls n0)
 (.ite (decide (n0<(ls.length:Int))) (.gd (dy n0 ls.length) (.aq eW [(.aG 0 0),(.agg (aK pg bZ (D.at ls n0.toNat)))] (Wm W) 3 fun d0=>(.ite (d0.int !=(0:Int)) (.aL (.tuple [.gT,(.int .i64 d0.int)]) (Wm W)) (.bE (xA W ls (wp .i64 (n0+1))))))) (.aq iT [(.aG 0 0)] (Wm W) 3 fun d1=>(.aq iT [(.aG 0 0)] (Wm W) 3 fun d2=>(.call eL [(D.r ls)] fun d3=>(.call eL [(D.r ls)] fun d4=>(.aL (.tuple [(.aG 3 0),(.int .i64 0)]) [(0,(.cells [(.bC bY W.pa),(.aV 4 W.cu.length true),(.map 1),(.map 2),(.int .i64 W.la),(.aV 5 W.ma.length true)] aU false)),(1,(.bo bh (.cp 1 aO) W.th W.st W.ck)),(2,(.bo aM (.data bh) W.fa W.sf W.cf)),(3,(.cells [(.aG 6 0),(.aG 7 0),(.bC bZ d3.aa),(.bC bZ d4.aa),.bJ] wT false)),(4,(.an aj W.cu true)),(5,(.an ah W.ma true)),(6,(.cells [(.bC bY (d1.ae 0).aa),(.aV 10 (d1.ae 1).aa.length true),(.map 8),(.map 9),(.int .i64 (d1.ae 8).int),(.aV 11 (d1.ae 9).aa.length true)] aU false)),(7,(.cells [(.bC bY (d2.ae 0).aa),(.aV 14 (d2.ae 1).aa.length true),(.map 12),(.map 13),(.int .i64 (d2.ae 8).int),(.aV 15 (d2.ae 9).aa.length true)] aU false)),(8,(.bo bh (.cp 24 aO) (gu (d1.ae 2)) (hG (d1.ae 3)) (hC (d1.ae 4)))),(9,(.bo aM (.data bh) (gu (d1.ae 5)) (hG (d1.ae 6)) (hC (d1.ae 7)))),(10,(.an aj (d1.ae 1).aa true)),(11,(.an ah (d1.ae 9).aa true)),(12,(.bo bh (.cp 28 aO) (gu (d2.ae 2)) (hG (d2.ae 3)) (hC (d2.ae 4)))),(13,(.bo aM (.data bh) (gu (d2.ae 5)) (hG (d2.ae 6)) (hC (d2.ae 7)))),(14,(.an aj (d2.ae 1).aa true)),(15,(.an ah (d2.ae 9).aa true))])))))):=
  oE zM 0x2121211
end
section
variable {W:WS} {Q:D->Prop}
def Cq:cw:={f:=pO,rs:=[bG,aX],bu:=some 3,cK:=[(ie,[bG],[q9])],bD:=[(dH,nc),(eI,nY),(ca,fC),(jl,so)]}
@[simp] theorem abI:Cq.f=pO/\Cq.rs=[bG,aX]:=⟨rfl,rfl⟩
theorem TV:lh Cq (KQ W) (Wm W) 3 Ce Q
 (.aq dH [(.aG 0 0)] (Wm W) 3 fun d0=>(.ite (d0.int==(0:Int)) (.aL (.tuple [(.bj []),(.int .i64 1)]) (Wm W)) (.aq eI [(.aG 0 0)] (Wm W) 3 fun d1=>(.aq jl [(.aG 0 0),(.agg (aK pg bF d1))] [(0,(.cells [(.aV 1 9 true)] br false)),(1,(.an mn ([(D.z 112),(D.z 111),(D.z 115),(D.z 116),(D.z 101),(D.z 114),(D.z 110),(D.z 10)]++[(D.z 119)]) true))] 1 fun d2=>(.gd (decide (d2.aa.length<=d2.aa.length)) (.call ie [(D.s (bA (List.take d2.aa.length d2.aa)))] fun d3=>(.aq ca [(.aG 0 0),(.int .u64 d3.int)] (Lm d2.aa) 1 fun d4=>(.ite (decide ((d4.aa.length:Int)>(67108864:Int))) (.aL (.tuple [(.bj []),(.int .i64 4)]) (Wm W)) (.gd (decide (d4.aa.length<=d4.aa.length)) (.aL (.tuple [(.bj (bA (List.take d4.aa.length d4.aa))),(.int .i64 0)]) (Wm W))))))))))):=
  oH Cq 0x049203921221111
end
section
variable {V U:WS} {l k:List D} {Q:D->Prop}
def Cr:cw:={f:=ld,rs:=[bG,aX],bu:=some 5,cK:=[(ie,[bG],[q9]),(eL,[cB],[cB])],bD:=[(eI,nY),(ca,fC),(jl,so),(cO,fH),(iT,qi)]}
@[simp] theorem abJ:Cr.f=ld/\Cr.rs=[bG,aX]:=⟨rfl,rfl⟩
theorem TW:lh Cr (KR V U l k) (KS V U l k) 5 vJ Q
 ((fun (uz:ax)=>((fun (uv:ax)=>((fun (uu:ax)=>((fun (o:ax)=>((fun (i:ax)=>((fun (t:ax)=>((fun (q:ax)=>((fun (p:ax)=>((fun (j:ax)=>((fun (v:ax)=>((fun (u:ax)=>(.aq iT [(.aG 0 0)] (Wm (WS.mk U.pa U.cu U.th U.st U.ck U.fa U.sf U.cf U.la U.ma)) 3 fun d0=>(.aq eI [(.aG 0 0)] (Wm (WS.mk (d0.ae 0).aa (d0.ae 1).aa (gu (d0.ae 2)) (hG (d0.ae 3)) (hC (d0.ae 4)) (gu (d0.ae 5)) (hG (d0.ae 6)) (hC (d0.ae 7)) (d0.ae 8).int (d0.ae 9).aa)) 3 fun d1=>(.aq jl [(.aG 0 0),(.agg (aK pg bF d1))] [(0,(.cells [(.aV 1 9 true)] br false)),(1,(.an mn ([(D.z 112),(D.z 111),(D.z 115),(D.z 116),(D.z 101),(D.z 114),(D.z 110),(D.z 10)]++[(D.z 112)]) true))] 1 fun d2=>(.call eL [(D.r k)] fun d3=>(.aq cO [(.aG 0 0),(.bC bZ d3.aa),(.func (.func dP) [(.aG 0 0)] [])] (Lm d2.aa) 1 fun d4=>(.gd (decide (d4.aa.length<=d4.aa.length)) (.call ie [(D.s (bA (List.take d4.aa.length d4.aa)))] fun d5=>(.aq ca [(.aG 0 0),(.int .u64 d5.int)] (Lm d4.aa) 1 fun d6=>(.ite (decide ((d6.aa.length:Int)>(67108864:Int))) (.aL (.tuple [(.bj []),(.int .i64 4)]) [(0,j),(1,v),(2,u),(3,i),(4,p),(5,uv),(6,o),(7,t),(8,q),(9,uz),(10,uu)]) (.gd (decide (d6.aa.length<=d6.aa.length)) (.aL (.tuple [(.bj (bA (List.take d6.aa.length d6.aa))),(.int .i64 0)]) [(0,j),(1,v),(2,u),(3,i),(4,p),(5,uv),(6,o),(7,t),(8,q),(9,uz),(10,uu)])))))))))))) (.cells [(.bC bY U.pa),(.aV 9 U.cu.length true),(.map 7),(.map 8),(.int .i64 U.la),(.aV 10 U.ma.length true)] aU false))) (.cells [(.bC bY V.pa),(.aV 5 V.cu.length true),(.map 3),(.map 4),(.int .i64 V.la),(.aV 6 V.ma.length true)] aU false))) (.cells [(.aG 1 0),(.aG 2 0),(.bC bZ l),(.bC bZ k),.bJ] wT false))) (.bo aM (.data bh) V.fa V.sf V.cf))) (.bo aM (.data bh) U.fa U.sf U.cf))) (.bo bh (.cp 18 aO) U.th U.st U.ck))) (.bo bh (.cp 3 aO) V.th V.st V.ck))) (.an ah V.ma true))) (.an ah U.ma true))) (.an aj V.cu true))) (.an aj U.cu true)):=
  oH Cr 0x1292122111
end
section
variable {s:List UInt8} {Q:D->Prop} {n0 n1:Int}
def jH:cw:={f:=dJ,rs:=[q9],bu:=some 1,bK:=[⟨dJ,0,16417,[8,9,10,3],[]⟩]}
@[simp] theorem UY:jH.f=dJ/\jH.rs=[q9]:=⟨rfl,rfl⟩
def mh (s:List UInt8)(n0 n1:Int):av:=hdS dJ 75 [(3,(.int .u64 n0)),(8,(.aV 1 (List.drop 0 (List.take 8 s)).length true)),(9,(.int .i64 ((List.drop 0 (List.take 8 s)).length:Int))),(10,(.int .i64 n1))] [(0,(.cells [(.bj (List.drop 8 (List.take s.length s)))] bd false)),(1,(.an mn (cH (List.drop 0 (List.take 8 s))) true))]
theorem JO:lh jH (qa s) (qe s) 1 jC Q
 ((fun (u:Bool)=>(.ite (decide ((8:Int)>(s.length:Int))) .bq (.gd ((decide ((0:Nat)<=(8:Nat)))&&u) (.gd (u&&(decide (s.length<=s.length))) (.bE (mh s 0 0)))))) (decide ((8:Nat)<=s.length))):=
  oH jH 0x089232132111
theorem xJ:lk jH (.bu 1 (jC (qa s) (qe s)) Q) (mh s n0 n1)
 (.ite (decide (n1<((List.drop 0 (List.take 8 s)).length:Int))) (.gd (dy n1 (List.drop 0 (List.take 8 s)).length) (.gd (decide (n1.toNat<(cH (List.drop 0 (List.take 8 s))).length)) (.bE (mh s (wp .u64 ((BitVec.toNat ((BitVec.ofInt 64 (wp .u64 (n0*256))) ||| (BitVec.ofInt 64 (wp .u64 (D.at (cH (List.drop 0 (List.take 8 s))) n1.toNat).int)))):Int)) (wp .i64 (n1+1)))))) (.aL (.int .u64 n0) [(0,(.cells [(.bj (List.drop 8 (List.take s.length s)))] bd false))])):=
  oE jH 0x21212131
end
section
variable {s:List UInt8} {c:Int} {Q:D->Prop}
def yM:cw:={f:=iF,rs:=[aX],bu:=some 2,cK:=[(ie,[bG],[q9])],bD:=[(dJ,jC)],S5:=[⟨iF,0,4130,[6,2,7,0],[]⟩]}
@[simp] theorem abK:yM.f=iF/\yM.rs=[aX]:=⟨rfl,rfl⟩
def Kl (s:List UInt8)(c:Int):av:=hdS iF 127 [(0,(.bj s)),(2,(.func (.func DQ) [] [(.aG 0 0),(.aG 1 0)])),(6,(.aG 2 0)),(7,(.int .i64 (wp .i64 ((s.length:Int)-8))))] [(0,(.cells [.bJ,.bJ,.bJ,(.int .i64 0),.bJ] bF false)),(1,(.cells [.bJ] cB false)),(2,(.cells [(.int .i64 0)] aX false))]
theorem TX:lh yM (Gf s c) (Cb s c) 2 nf Q
 ((fun (k:Int)=>((fun (j:ax)=>((fun (z:ax)=>((fun (v:Int)=>((fun (p:Bool)=>((fun (u:RT)=>(.ite (decide (k>(67108864:Int))) (.aL (.int .i64 4) [(0,z),(1,j)]) (.ite (decide (k<(17:Int))) u (.gd ((decide ((0:Nat)<=(8:Nat)))&&(decide ((8:Nat)<=s.length))) (.ite (! ((List.drop 0 (List.take 8 s))==[({toBitVec:=112#8}),({toBitVec:=111#8}),({toBitVec:=115#8}),({toBitVec:=116#8}),({toBitVec:=101#8}),({toBitVec:=114#8}),({toBitVec:=110#8}),({toBitVec:=10#8})])) u (.gd (dy 8 s.length) (.ite (((UInt8.toNat (List.getD s 8 0)):Int)!=(c:Int)) u (.gd (decide ((0:Int)<=v)) (.gd (p&&(decide (s.length<=s.length))) (.gd ((decide ((0:Nat)<=v.toNat))&&p) (.aq dJ [(.aG 0 0)] [(0,(.cells [(.bj (List.drop v.toNat (List.take s.length s)))] bd false))] 1 fun d0=>(.call ie [(D.s (List.drop 0 (List.take v.toNat s)))] fun d1=>(.ite ((d0.ae 0).int !=d1.int) (.aL (.int .i64 271) [(0,z),(1,j)]) (.bE (Kl s c))))))))))))))) (.aL (.int .i64 270) [(0,z),(1,j)]))) (decide (v.toNat<=s.length)))) (wp .i64 (k-8)))) (.cells [.bJ,.bJ,.bJ,(.int .i64 0),.bJ] bF false))) (.cells [.bJ] cB false))) (s.length:Int)):=
  oH yM 0x220063210201b2006210301b2212101521025005421110400a310300a06911
def km:cw:={f:=ve,rs:=[aX],bu:=some 1,cK:=[(ie,[bG],[q9])],bD:=[(kL,oG),(dJ,jC)],S5:=[⟨ve,0,4130,[6,2,7,0],[]⟩]}
@[simp] theorem Yn:km.f=ve/\km.rs=[aX]:=⟨rfl,rfl⟩
def y5 (s:List UInt8)(c:Int):av:=hdS ve 127 [(0,(.bj s)),(2,(.func (.func ud) [] [(.aG 0 0)])),(6,(.aG 1 0)),(7,(.int .i64 (wp .i64 ((s.length:Int)-8))))] [(0,(.cells [.bJ,.bJ,.bJ,(.int .i64 0),.bJ] bF false)),(1,(.cells [(.int .i64 0)] aX false))]
theorem FC:lh km (p8 s c) (mZ s c) 1 EG Q
 ((fun (j:Int)=>((fun (z:ax)=>((fun (v:Int)=>((fun (k:Bool)=>((fun (u:RT)=>(.ite (decide (j>(67108864:Int))) (.aL (.int .i64 4) [(0,z)]) (.ite (decide (j<(17:Int))) u (.gd ((decide ((0:Nat)<=(8:Nat)))&&(decide ((8:Nat)<=s.length))) (.ite (! ((List.drop 0 (List.take 8 s))==[({toBitVec:=112#8}),({toBitVec:=111#8}),({toBitVec:=115#8}),({toBitVec:=116#8}),({toBitVec:=101#8}),({toBitVec:=114#8}),({toBitVec:=110#8}),({toBitVec:=10#8})])) u (.gd (dy 8 s.length) (.ite (((UInt8.toNat (List.getD s 8 0)):Int)!=(c:Int)) u (.gd (decide ((0:Int)<=v)) (.gd (k&&(decide (s.length<=s.length))) (.gd ((decide ((0:Nat)<=v.toNat))&&k) (.aq dJ [(.aG 0 0)] [(0,(.cells [(.bj (List.drop v.toNat (List.take s.length s)))] bd false))] 1 fun d0=>(.call ie [(D.s (List.drop 0 (List.take v.toNat s)))] fun d1=>(.ite ((d0.ae 0).int !=d1.int) (.aL (.int .i64 271) [(0,z)]) (.bE (y5 s c))))))))))))))) (.aL (.int .i64 270) [(0,z)]))) (decide (v.toNat<=s.length)))) (wp .i64 (j-8)))) (.cells [.bJ,.bJ,.bJ,(.int .i64 0),.bJ] bF false))) (s.length:Int)):=
  oH km 0x220063210201b2006210301b2212101521025005421110400a310300a06911
theorem GV:lk km (.bu 1 (EG (p8 s c) (mZ s c)) Q) (y5 s c)
 ((fun (u:Int)=>(.gd (decide ((0:Int)<=u)) (.gd ((decide ((9:Nat)<=u.toNat))&&(decide (u.toNat<=s.length))) (.aq kL [(.aG 0 0)] [(0,(.cells [(.bj (List.drop 9 (List.take u.toNat s)))] bd false))] 1 fun d0=>(.ite (! ((d0.ae 1).bj==[])) .bq (.aL (.int .i64 0) [(0,(.cells (aK pg bF (d0.ae 0)) bF false))])))))) (wp .i64 ((s.length:Int)-8))):=
  oE km 0x321212311
end
section
variable {s:List UInt8} {Q:D->Prop}
def ES:cw:={f:=tw,rs:=[tV,aX],bu:=some 0,bD:=[(iF,nf)],S5:=[⟨tw,0,4129,[5,4],[]⟩]}
@[simp] theorem acR:ES.f=tw/\ES.rs=[tV,aX]:=⟨rfl,rfl⟩
def NM (s:List UInt8):av:=hdS tw 31 [(4,(.aG 0 0)),(5,(.aG 1 0))] [(0,(.cells [.bJ,.bJ,.bJ,(.int .i64 0),.bJ] bF false)),(1,(.cells [.bJ] cB false))]
theorem Xf:lh ES (Nb s) [] 0 IV Q
 (.aq iF [(.bj s),(.int .u8 112),(.func (.func DQ) [] [(.aG 0 0),(.aG 1 0)])] [(0,(.cells [.bJ,.bJ,.bJ,(.int .i64 0),.bJ] bF false)),(1,(.cells [.bJ] cB false))] 2 fun d0=>(.ite (d0.int !=(0:Int)) (.aL (.tuple [.gT,(.int .i64 d0.int)]) []) (.bE (NM s)))):=
  oH ES 0x211
end
section
variable {s:List UInt8} {Q:D->Prop}
def sr:cw:={f:=ey,rs:=[cq,aX],bu:=some 0,bD:=[(eO,iP),(iF,nf)]}
@[simp] theorem Vy:sr.f=ey/\sr.rs=[cq,aX]:=⟨rfl,rfl⟩
theorem Dl:lh sr (xS s) [] 0 oc Q
 ((fun (v:BV)=>((fun (u:RT)=>(.aq iF [(.bj s),(.int .u8 119),(.func (.func ud) [] [(.aG 0 0)])] [(0,(.cells [.bJ,.bJ,.bJ,v,.bJ] bF false))] 1 fun d0=>(.ite (d0.ae 0).bool (.ite ((d0.ae 1).int !=(0:Int)) (.aL (.tuple [.gT,(.int .i64 (d0.ae 1).int)]) []) (.aq eO [(.agg [.bJ,.bJ,.bJ,v,.bJ])] [] 0 fun d1=>(.ite (d1.ae 0).bool (.aL (.tuple [(.aG 0 0),v]) [(0,(.cells [(.bC bY (d1.ae 1).aa),(.aV 3 (d1.ae 2).aa.length true),(.map 1),(.map 2),(.int .i64 (d1.ae 3).int),(.aV 4 (d1.ae 4).aa.length true)] aU false)),(1,(.bo bh (.cp 6 aO) (gu (d1.ae 5)) (hG (d1.ae 6)) (hC (d1.ae 7)))),(2,(.bo aM (.data bh) (gu (d1.ae 8)) (hG (d1.ae 9)) (hC (d1.ae 10)))),(3,(.an aj (d1.ae 2).aa true)),(4,(.an ah (d1.ae 4).aa true))]) u))) (.aq eO [(.agg [(.bC bY (d0.ae 2).aa),(.bC ah (d0.ae 3).aa),(.bC bQ (d0.ae 4).aa),(.int .i64 (d0.ae 5).int),(.bC ah (d0.ae 6).aa)])] [] 0 fun d2=>(.ite (d2.ae 0).bool (.aL (.tuple [(.aG 0 0),v]) [(0,(.cells [(.bC bY (d2.ae 1).aa),(.aV 3 (d2.ae 2).aa.length true),(.map 1),(.map 2),(.int .i64 (d2.ae 3).int),(.aV 4 (d2.ae 4).aa.length true)] aU false)),(1,(.bo bh (.cp 6 aO) (gu (d2.ae 5)) (hG (d2.ae 6)) (hC (d2.ae 7)))),(2,(.bo aM (.data bh) (gu (d2.ae 8)) (hG (d2.ae 9)) (hC (d2.ae 10)))),(3,(.an aj (d2.ae 2).aa true)),(4,(.an ah (d2.ae 4).aa true))]) u))))) (.aL (.tuple [.gT,(.int .i64 71)]) []))) (.int .i64 0)):=
  oH sr 0x2321122111
end
end Go.Proofs
end
