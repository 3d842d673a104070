import Derived.Test.YtpanfgalkajgdaaGreatM8
set_option linter.all false
noncomputable section
open Go.IntKind renaming wrap→wp
set_option maxHeartbeats 8000000
namespace Go.Proofs
open Go Go.PB
section
variable {a0 a1:D} {Q:D->Prop} {n0 n1:Int} {c0:Nat} {l2 l0:List D}
def Sc:cK:={cj:=[(fQ,[aQ],[ah])],bB:=[⟨fQ,0,16462,[0,4,3],[]⟩]}
def qO (a0:D)(n0 n1:Int):av:=hdL fQ 75 [(0,.bx aJ a0.ae),(3,iO n0),(4,iO n1)] []
theorem ac1:lp fQ [ah] Sc [aQ] [a0] Q
 (.bz (qO a0 0 0)):=oP _ 0x1
theorem KL:lk fQ [ah] Sc (.cY Q) (qO a0 n0 n1)
 ((fun (p:Int)=>(fun (k:D)=>(fun (j:Int)=>.ite (n1<(a0.ae.length:Int)) (.ite (n0<=p) (.gd (di n1 a0.ae.length) (.call fQ [D.r (k.af 7).ae] fun A=>(fun (v:Int)=>.ite (v<=p) (.call fQ [D.r (k.af 8).ae] fun J=>(fun (u:Int)=>.ite (u<=p) (.call fQ [D.r (k.af 9).ae] fun I=>.bz (qO a0 (wp .i64 (u+I.int)) j)) (.bz (qO a0 u j))) (wp .i64 (v+J.int))) (.bz (qO a0 v j))) (wp .i64 ((wp .i64 (n0+1))+A.int)))) (.ret (D.z n0))) (.ret (D.z n0))) (wp .i64 (n1+1))) (D.at a0.ae n1.toNat)) 512):=oE _ 0x22d312c212120061015210251
def Fh:cK:={cj:=[(fT,[aI,ah],[ah])],bB:=[⟨fT,0,16426,[1,2,6,5],[]⟩]}
def nM (a0 a1:D)(n0 n1:Int):av:=hdL fT 151 [(1,iO a1.int),(2,pO 0),(5,iO n0),(6,iO n1)] [cO aI (aH pg aI a0)]
theorem Qm:lp fT [ah] Fh [aI,ah] [a0,a1] Q
 (.ite (a1.int>16) (.ret (D.z 513)) (.bz (nM a0 a1 1 0))):=oP _ 0x211
theorem Am:lk fT [ah] Fh (.cY Q) (nM a0 a1 n0 n1)
 (.ite (n1<((a0.af 3).ae.length:Int)) (.ite (n0<=512) (.gd (di n1 (a0.af 3).ae.length) (.call fT [dE pg aI (D.at (a0.af 3).ae n1.toNat),D.z (wp .i64 (a1.int+1))] fun A=>.bz (nM a0 a1 (wp .i64 (n0+A.int)) (wp .i64 (n1+1))))) (.ret (D.z n0))) (.ret (D.z n0))):=oE _ 0x22d312c21211
def Hq:cK:={cj:=[(gH,[aI],[ah])],bB:=[⟨gH,0,16421,[1,4,3],[]⟩]}
def lW (a0:D)(n0 n1:Int):av:=hdL gH 151 [(1,pO 0),(3,iO n0),(4,iO n1)] [cO aI (aH pg aI a0)]
theorem Rv:lp gH [ah] Hq [aI] [a0] Q
 (.ite ((wp .i64 (a0.af 0).int)!=3) (.ite (((a0.af 3).ae.length:Int)==0) (.ret (D.z 0)) (.bz (lW a0 0 0))) (.bz (lW a0 0 0))):=oP _ 0x24d314c211
theorem Bw:lk gH [ah] Hq (.cY Q) (lW a0 n0 n1)
 (.ite (n1<((a0.af 3).ae.length:Int)) (.gd (di n1 (a0.af 3).ae.length) (.call gH [dE pg aI (D.at (a0.af 3).ae n1.toNat)] fun A=>.bz (lW a0 (if (A.int>n0)then A.int else n0) (wp .i64 (n1+1))))) (.ret (D.z (wp .i64 (n0+1))))):=oE _ 0x21211
theorem Rw:lp rK [aj] {cj:=[(fT,[aI,ah],[ah]),(gH,[aI],[ah])]} [aI] [a0] Q
 (.call fT [dE pg aI a0,D.z 0] fun I=>.ite (I.int<=512) (.call gH [dE pg aI a0] fun A=>.ret (D.b (decide (A.int<=16)))) (.ret (D.b false))):=oP _ 0x23d13c1
def Hp:cK:={cj:=[(rK,[aI],[aj]),(dk,[aQ],[aj])],bB:=[⟨dk,0,16468,[0,3],[]⟩]}
def qP (a0:D)(n0:Int):av:=hdL dk 37 [(0,.bx aJ a0.ae),(3,iO n0)] []
theorem Ru:lp dk [aj] Hp [aQ] [a0] Q
 (.bz (qP a0 0)):=oP _ 0x1
theorem C3:lk dk [aj] Hp (.cY Q) (qP a0 n0)
 ((fun (v:RT)=>(fun (z:D->RT->RT)=>(fun (u:D)=>.ite (n0<(a0.ae.length:Int)) (.gd (di n0 a0.ae.length) (.ite (((u.af 10).ae.length:Int)>64) v (.call rK [dE pg aI (u.af 5)] fun A=>z A (.call rK [dE pg aI (u.af 6)] fun U=>z U (.call dk [D.r (u.af 7).ae] fun I=>z I (.call dk [D.r (u.af 8).ae] fun J=>z J (.call dk [D.r (u.af 9).ae] fun O=>z O (.bz (qP a0 (wp .i64 (n0+1))))))))))) (.ret (D.b true))) (D.at a0.ae n0.toNat)) fun i o=>.ite (! i.bool) v o) (.ret (D.b false))):=oE _ 0x212122d0155d22d0255d22d0355d22d0455d22d0555d2117c317c9e17c11917c19917c2191
def MU:cK:={bB:=[⟨jU,0,16421,[1,4,3],[]⟩]}
def sE (a0:D)(c0:Nat)(n1:Int)(l2:List D):av:=hdL jU 151 [(1,pO 0),(3,vO 1 c0),(4,iO n1)] [cO aU (aH pg aU a0),rO ak l2]
theorem WY:lp jU [dn] MU [aU] [a0] Q
 (.gd (((1:Nat)=(1:Nat))&&(bh 64 (1+(a0.af 3).ae.length))) (.bz (sE a0 (1+(a0.af 3).ae.length) 0 ([dE pg ak (a0.af 2)]++(a0.af 3).ae)))):=oP _ 0x211
theorem EB:lk jU [dn] MU (.cY Q) (sE a0 c0 n1 l2)
 ((fun (u:Bool)=>.ite (n1<((a0.af 11).ae.length:Int)) (.gd (di n1 (a0.af 11).ae.length) (.gd (u&&(bh 64 (c0+1))) (.bz (sE a0 (c0+1) (wp .i64 (n1+1)) (l2++[dE pg ak ((D.at (a0.af 11).ae n1.toNat).af 1)]))))) (.gd u (.ret (D.r l2)))) (c0=l2.length)):=oE _ 0x2211213211
def Sf:cK:={cj:=[(oK,[ak],[dH])],bB:=[⟨oK,0,16420,[1,4,3],[(3,bW)]⟩]}
def xg (a0:D)(c0:Nat)(n1:Int)(l2:List D):av:=hdL oK 151 [(1,pO 0),(3,vO 1 c0),(4,iO n1)] [cO ak (aH pg ak a0),rO bW l2]
theorem ac6:lp oK [dH] Sf [ak] [a0] Q
 (.ite ((a0.af 0).int==4) (.ret (D.r [D.z (a0.af 4).int])) (.bz (xg a0 0 0 []))):=oP _ 0x2131
theorem Ic:lk oK [dH] Sf (.cY Q) (xg a0 c0 n1 l2)
 ((fun (u:Bool)=>.ite (n1<((a0.af 3).ae.length:Int)) (.gd (di n1 (a0.af 3).ae.length) (.call oK [dE pg ak (D.at (a0.af 3).ae n1.toNat)] fun A=>.gd (u&&(bh 8 (c0+A.ae.length))) (.bz (xg a0 (c0+A.ae.length) (wp .i64 (n1+1)) (l2++A.ae))))) (.gd u (.ret (D.r l2)))) (c0=l2.length)):=oE _ 0x221121211
def Sa:cK:={cj:=[(rJ,[ak],[aj]),(fQ,[aQ],[ah]),(dk,[aQ],[aj]),(jU,[aU],[dn])],bB:=[⟨j6,0,16422,[3,4],[]⟩]}
def wZ (a0:D)(l0:List D)(n1:Int):av:=hdL j6 151 [(3,.bx ak l0),(4,iO n1)] []
theorem acX:lp j6 [aj] Sa [aU] [a0] Q
 ((fun (v:D)=>(fun (u:RT)=>.ite (((a0.af 3).ae.length:Int)>1024) u (.ite (((a0.af 11).ae.length:Int)>128) u (.call fQ [v] fun I=>.ite (I.int>512) u (.call dk [v] fun A=>.ite (! A.bool) u (.call jU [dE pg aU a0] fun J=>.bz (wZ a0 J.ae 0)))))) (.ret (D.b false))) (D.r (a0.af 10).ae)):=oP _ 0x24d24d24d2114c314c6e14cbe1
theorem HU:lk j6 [aj] Sa (.cY Q) (wZ a0 l0 n1)
 (.ite (n1<(l0.length:Int)) (.gd (di n1 l0.length) (.call rJ [dE pg ak (D.at l0 n1.toNat)] fun A=>.ite (! A.bool) (.ret (D.b false)) (.bz (wZ a0 l0 (wp .i64 (n1+1)))))) (.ret (D.b true))):=oE _ 0x2121211
end
section
variable {a0 a1:D} {Q:D->Prop} {n0 n1:Int}
def Pm:cK:={cj:=[(mz,[ak,ah],[ah])],bB:=[⟨mz,0,16426,[1,2,6,5],[]⟩]}
def u7 (a0 a1:D)(n0 n1:Int):av:=hdL mz 151 [(1,iO a1.int),(2,pO 0),(5,iO n0),(6,iO n1)] [cO ak (aH pg ak a0)]
theorem Zv:lp mz [ah] Pm [ak,ah] [a0,a1] Q
 (.ite (a1.int>16) (.ite ((wp .i64 (a0.af 0).int)==3) (.ret (D.z 513)) (.ret (D.z 513))) (.bz (u7 a0 a1 1 0))):=oP _ 0x24d3e00614c22d01512c31
theorem F9:lk mz [ah] Pm (.cY Q) (u7 a0 a1 n0 n1)
 (.ite (n1<((a0.af 3).ae.length:Int)) (.ite (n0<=512) (.gd (di n1 (a0.af 3).ae.length) (.call mz [dE pg ak (D.at (a0.af 3).ae n1.toNat),D.z (wp .i64 (a1.int+1))] fun A=>.bz (u7 a0 a1 (wp .i64 (n0+A.int)) (wp .i64 (n1+1))))) (.ret (D.z n0))) (.ret (D.z n0))):=oE _ 0x22d312c21211
def R9:cK:={cj:=[(oJ,[ak],[ah])],bB:=[⟨oJ,0,16421,[1,4,3],[]⟩]}
def wY (a0:D)(n0 n1:Int):av:=hdL oJ 151 [(1,pO 0),(3,iO n0),(4,iO n1)] [cO ak (aH pg ak a0)]
theorem acW:lp oJ [ah] R9 [ak] [a0] Q
 (.ite ((wp .i64 (a0.af 0).int)!=3) (.ret (D.z 0)) (.bz (wY a0 0 0))):=oP _ 0x211
theorem HT:lk oJ [ah] R9 (.cY Q) (wY a0 n0 n1)
 (.ite (n1<((a0.af 3).ae.length:Int)) (.gd (di n1 (a0.af 3).ae.length) (.call oJ [dE pg ak (D.at (a0.af 3).ae n1.toNat)] fun A=>.bz (wY a0 (if (A.int>n0)then A.int else n0) (wp .i64 (n1+1))))) (.ret (D.z (wp .i64 (n0+1))))):=oE _ 0x21211
def MT:cK:={cj:=[(jT,[ak],[aj]),(DE,[ak],[aj])],bB:=[⟨jT,0,16426,[1,3],[]⟩]}
def u6 (a0:D)(n0:Int):av:=hdL jT 37 [(1,pO 0),(3,iO n0)] [cO ak (aH pg ak a0)]
theorem WX:lp jT [aj] MT [ak] [a0] Q
 (.bz (u6 a0 0)):=oP _ 0x1
theorem F8:lk jT [aj] MT (.cY Q) (u6 a0 n0)
 (.ite (n0<((a0.af 3).ae.length:Int)) (.gd (di n0 (a0.af 3).ae.length) (.call jT [dE pg ak (D.at (a0.af 3).ae n0.toNat)] fun I=>.ite (! I.bool) (.ret (D.b false)) (.bz (u6 a0 (wp .i64 (n0+1)))))) (.call DE [dE pg ak a0] fun A=>.ret (D.b A.bool))):=oE _ 0x2121211
theorem Zu:lp DE [aj] {} [ak] [a0] Q
 ((fun (t:Bool)=>(fun (k:RT)=>(fun (z:Int)=>(fun (v:RT)=>(fun (q:RT->RT)=>(fun (p:Bool->RT->RT->RT)=>(fun (j:RT)=>(fun (u:RT)=>p (z==(0:Int)) u (.ite (z==(1:Int)) u (p (z==(2:Int)) (.ite (((a0.af 2).ax.length:Int)<=256) j v) (p (z==(3:Int)) (q k) (p (z==(4:Int)) (q (.ite t (.ret (D.b (decide ((a0.af 4).int≥1)))) v)) v))))) (q j)) (.ite t k v)) fun i o m=>.ite i (.ite ((a0.af 1).int==0) o v) m) fun i=>.ite ((a0.af 2).ax==[]) i v) (.ret (D.b false))) (wp .i64 (a0.af 0).int)) (.ret (D.b ((a0.af 4).int==0)))) (((a0.af 3).ae.length:Int)==0)):=oP _ 0x22222123d9e13c24d4e14c23d13c123d4e13c23d13c124d9e14c24d4e14c23d13c124d4e14c23d13c123d9e13c24d4e14c23d13c1
theorem afQ:lp rJ [aj] {cj:=[(mz,[ak,ah],[ah]),(oJ,[ak],[ah]),(jT,[ak],[aj])]} [ak] [a0] Q
 ((fun (u:D)=>.call mz [u,D.z 0] fun I=>.ite (I.int<=512) (.call oJ [u] fun A=>.ite (A.int<=16) (.call jT [u] fun J=>.ret (D.b J.bool)) (.ret (D.b false))) (.ret (D.b false))) (dE pg ak a0)):=oP _ 0x23d3e13c22d12c1
def R8:cK:={cj:=[(iC,[ak,ak],[aj])],bB:=[⟨iC,0,16429,[3,2,5],[]⟩]}
def yR (a0 a1:D)(n0:Int):av:=hdL iC 75 [(2,pO 0),(3,pO 1),(5,iO n0)] [cO ak (aH pg ak a0),cO ak (aH pg ak a1)]
theorem acV:lp iC [aj] R8 [ak,ak] [a0,a1] Q
 ((fun (u:RT)=>.ite ((a0.af 0).int !=(a1.af 0).int) u (.ite ((a0.af 1).int !=(a1.af 1).int) u (.ite (! ((a0.af 2).ax==(a1.af 2).ax)) u (.ite ((a0.af 4).int !=(a1.af 4).int) u (.ite (((a0.af 3).ae.length:Int)!=((a1.af 3).ae.length:Int)) u (.bz (yR a0 a1 0))))))) (.ret (D.b false))):=oP _ 0x25d25d25d27d2117c315c9e15cfe15c1591
theorem KH:lk iC [aj] R8 (.cY Q) (yR a0 a1 n0)
 ((fun (u:D->D)=>.ite (n0<((a0.af 3).ae.length:Int)) (.gd (di n0 (a0.af 3).ae.length) (.gd (di n0 (a1.af 3).ae.length) (.call iC [u a0,u a1] fun A=>.ite (! A.bool) (.ret (D.b false)) (.bz (yR a0 a1 (wp .i64 (n0+1))))))) (.ret (D.b true))) fun i=>dE pg ak (D.at (i.af 3).ae n0.toNat)):=oE _ 0x212121211
end
section
variable {a0:D} {p q n0 n1 n2:Int} {Q:D->Prop} {l1 l pl CT:List D} {c c0:Nat}
def tU:cK:={f:=gg,rs:=[aj],bK:=some 1,bJ:=[(gg,lg)],bB:=[⟨gg,0,24648,[0,66,5,67,68],[]⟩]}
@[simp] theorem agV:tU.f=gg/\tU.rs=[aj]:=⟨rfl,rfl⟩
def lX (a0:D)(p q:Int)(n0 n1 n2:Int):av:=hdL gg 9895855 [(0,pO 0),(5,pO 1),(66,.bx ak (a0.af 3).ae),(67,iO ((a0.af 3).ae.length:Int)),(68,iO n0)] [cO qj [iO n1,iO n2],cO ak (aH pg ak a0)]
theorem Um:lh gg [aj] tU (yz a0 p q) (yB a0 p q) 1 lg Q
 ((fun (I:Int)=>(fun (J:Int->aE)=>(fun (A:Nat->Int->RT->RT->RT)=>(fun (t:Int)=>(fun (k:aE)=>(fun (j:RT)=>(fun (u:RT)=>(fun (z:RT)=>(fun (v:RT)=>.ite ((p:Int)==0) (.aT (.bool false) [(0,J p)]) (A 0 0 (A 1 0 v u) (A 0 1 v (A 0 2 (.ite (((a0.af 2).ax.length:Int)>256) u (A 1 0 z u)) (A 0 4 (.ite ((a0.af 4).int<1) u (A 1 0 (.ite ((a0.af 2).ax==[]) j u) u)) (A 0 3 (.ite ((q:Int)==0) u (.ite (I>t) u (.bz (lX a0 p q 0 t (wp .i64 (q-1)))))) u)))))) (.ite ((a0.af 2).ax==[]) z u)) (A 4 0 j u)) (.aT (.bool false) [(0,k)])) (.aT (.bool (I==(0:Int))) [(0,k)])) (J t)) (wp .i64 (p-1))) fun i o m x=>.ite ((a0.af i).int==o) m x) fun i=>cO qj [iO i,iO q]) ((a0.af 3).ae.length:Int)):=oH _ 0x222222128d2118c31223d9e13c23d5e13c5e11223d9e13c4e24d14c114e23d5e13c24d14c123d9e13c23d5e13c24d14c11
theorem xN:lk gg [aj] tU (.bK 1 (lg (yz a0 p q) (yB a0 p q)) Q) (lX a0 p q n0 n1 n2)
 ((fun (v:Int->Int->List (Nat×aE))=>(fun (u:Bool->RT)=>.ite (n0<((a0.af 3).ae.length:Int)) (.gd (di n0 (a0.af 3).ae.length) (.au gg [pO 0,.agg (aH pg ak (D.at (a0.af 3).ae n0.toNat))] (v n1 n2) 1 fun A=>.ite (! (A.af 0).bool) (.aT (.bool false) (v (A.af 1).int (A.af 2).int)) (.bz (lX a0 p q (wp .i64 (n0+1)) (A.af 1).int (A.af 2).int)))) (.ite ((a0.af 1).int==0) (.ite ((a0.af 2).ax==[]) (.ite ((a0.af 4).int==0) (u true) (u false)) (u false)) (u false))) fun i=>.aT (.bool i) (v n1 (wp .i64 (n2+1)))) fun i o=>[(0,cO qj [iO i,iO o])]):=oE _ 0x223d9e13c23d5e13c24d14c121211
theorem WZ:lp Bb [ah] {bJ:=[(gg,lg)]} [ak] [a0] Q
 (.au gg [pO 0,.agg (aH pg ak a0)] [(0,cO qj [iO 512,iO 16])] 1 fun A=>.ite (! (A.af 0).bool) (.ret (D.z 0)) (.ret (D.z (wp .i64 (512-(A.af 1).int))))):=oP _ 0x211
theorem ah5:lp lF [aj] {cj:=[(Bb,[ak],[ah])]} [ak] [a0] Q
 (.call Bb [dE pg ak a0] fun A=>.ret (D.b (decide (A.int>0)))):=oP _ 0x1
def aaI:cK:={cj:=[(sj,[ak],[ak])],bB:=[⟨sj,0,16425,[3,17,2,1,18,19],[]⟩]}
def Bh (a0:D)(n0:Int)(l1:List D):av:=hdL sj 151 [(1,pO 0),(2,pO 1),(3,vO 2 (a0.af 3).ae.length),(17,.bx ak (a0.af 3).ae),(18,iO ((a0.af 3).ae.length:Int)),(19,iO n0)] [cO ak (aH pg ak a0),cO ak [iU 0,iO 0,.ax [],.cS,iO 0],rO ak l1]
theorem ah8:lp sj [ak] aaI [ak] [a0] Q
 ((fun (u:Int)=>.ite (u==(0:Int)) (.ret (D.r [D.z (a0.af 0).int,D.z (a0.af 1).int,D.s (a0.af 2).ax,D.r [],D.z (a0.af 4).int])) (.gd (vQ u u 64) (.bz (Bh a0 0 (List.replicate (a0.af 3).ae.length (D.r [D.z 0,D.z 0,D.s [],D.r [],D.z 0])))))) ((a0.af 3).ae.length:Int)):=oP _ 0x22111
theorem Nk:lk sj [ak] aaI (.cY Q) (Bh a0 n0 l1)
 (.ite (n0<((a0.af 3).ae.length:Int)) (.gd (di n0 (a0.af 3).ae.length) (.call sj [dE pg ak (D.at (a0.af 3).ae n0.toNat)] fun A=>.gd (n0.toNat<l1.length) (.bz (Bh a0 (wp .i64 (n0+1)) (List.set l1 n0.toNat (dE pg ak A)))))) (.gd ((a0.af 3).ae.length=l1.length) (.ret (D.r [D.z (a0.af 0).int,D.z (a0.af 1).int,D.s (a0.af 2).ax,D.r l1,D.z (a0.af 4).int])))):=oE _ 0x221121005211
theorem ah6:lp Ba [ak,bn] {cj:=[(lF,[ak],[aj]),(sj,[ak],[ak])]} [ak] [a0] Q
 (.call lF [dE pg ak a0] fun I=>.ite (! I.bool) (.ret (D.r [D.r [D.z 0,D.z 0,D.s [],D.r [],D.z 0],D.z 2])) (.call sj [dE pg ak a0] fun A=>.ret (D.r [dE pg ak A,D.z 0]))):=oP _ 0x211
def ln:cK:={f:=dN,rs:=[ah],bK:=some 0,cj:=[(lF,[ak],[aj])],bB:=[⟨dN,0,16423,[0,1,7,8],[]⟩]}
@[simp] theorem Yi:ln.f=dN/\ln.rs=[ah]:=⟨rfl,rfl⟩
def lJ (l:List D)(n0:Int):av:=hdL dN 37 [(0,.bx ak l),(1,.func (.func GK) [] []),(7,iO (l.length:Int)),(8,iO n0)] []
theorem Kn:lh dN [ah] ln (jb l) [] 0 dy Q
 (.bz (lJ l 0)):=oH _ 0x1
theorem xI:lk dN [ah] ln (.bK 0 (dy (jb l) []) Q) (lJ l n0)
 (.ite (n0<(l.length:Int)) (.gd (di n0 l.length) (.call lF [dE pg ak (D.at l n0.toNat)] fun A=>.ite (! A.bool) (.aT (iO n0) []) (.bz (lJ l (wp .i64 (n0+1)))))) (.aT (iO (-1)) [])):=oE _ 0x2121211
def Fb:cK:={bK:=some 0,bJ:=[(dN,dy)]}
theorem FM:lh lv [aj] Fb (jb l) [] 0 bg Q
 (.au dN [.bx ak l,.func (.func GK) [] []] [] 0 fun A=>.aT (.bool (A.int≥0)) []):=oH _ 0x1
theorem ah7:lp Om [aj] {bJ:=[(lv,bg)]} [dn] [a0] Q
 (.au lv [.bx ak a0.ae,.func (.func GK) [] []] [] 0 fun A=>.ret (D.b (! A.bool))):=oP _ 0x1
theorem ajX:lp LS [ak,bn] {cj:=[(lF,[ak],[aj]),(sj,[ak],[ak]),(Om,[dn],[aj])]} [dn] [a0] Q
 ((fun (v:D)=>(fun (u:D)=>.call Om [D.r a0.ae] fun I=>.ite (! I.bool) (.ret (D.r [v,D.z 2])) (.call lF [u] fun A=>.ite (! A.bool) (.ret (D.r [v,D.z 4])) (.call sj [u] fun J=>.ret (D.r [dE pg ak J,D.z 0])))) (D.r [D.z 3,D.z 0,D.s [],D.r a0.ae,D.z 0])) (D.r [D.z 0,D.z 0,D.s [],D.r [],D.z 0])):=oP _ 0x22111
def Fi:cK:={f:=lG,rs:=[aj],bK:=some 1,bJ:=[(lG,xo)],bB:=[⟨lG,0,16429,[2,1,15,16,17],[]⟩],yd:=[(dH,0,bW)],PU:=[(lG,[none,some jW,none])]}
@[simp] theorem akp:Fi.f=lG/\Fi.rs=[aj]:=⟨rfl,rfl⟩
def xE (a0:D)(pl CT:List D)(c c0:Nat)(l1:List D)(n2:Int):av:=hdL lG 75 [(1,.bx ah pl),(2,.func (.func DG) [] [pO 0]),(15,.bx ak (a0.af 3).ae),(16,iO ((a0.af 3).ae.length:Int)),(17,iO n2)] [cO dH [vO 1 c0],rO bW l1]
theorem afW:lh lG [aj] Fi (Jm a0 pl CT c) (Jq a0 pl CT c) 1 xo Q
 (.ite ((a0.af 0).int==4) (.gd ((c=CT.length)&&(bh 8 (c+1))) (.bz (xE a0 pl CT c (c+1) (CT++[D.z (a0.af 4).int]) 0))) (.bz (xE a0 pl CT c c CT 0))):=oH _ 0x23132131
theorem Nl:lk lG [aj] Fi (.bK 1 (xo (Jm a0 pl CT c) (Jq a0 pl CT c)) Q) (xE a0 pl CT c c0 l1 n2)
 ((fun (v:List (Nat×aE))=>(fun (u:List D)=>.ite (n2<((a0.af 3).ae.length:Int)) (.gd (di n2 (a0.af 3).ae.length) (.gd ((((Nat.beq pl.length pl.length)&&true)&&((0:Nat)<=pl.length))&&(pl.length<=pl.length)) (.gd ((((0:Nat)<(1:Nat))||(u.length=(0:Nat)))&&(bh 8 (u.length+1))) (.gd ((u.length+1)=(u++[D.z n2]).length) (.au lG [.agg (aH pg ak (D.at (a0.af 3).ae n2.toNat)),.bx ah (D.r (u++[D.z n2])).ae,.func (.func DG) [] [pO 0]] v 1 fun A=>.bz (xE a0 pl CT c A.ae.length A.ae (wp .i64 (n2+1)))))))) (.aT (.bool true) v)) (pK pl 0 pl.length)) [(0,cO dH [vO 1 c0]),(1,rO bW l1)]):=oE _ 0x21212e21432142131
def aen:cK:={bK:=some 0,cj:=[(lF,[ak],[aj])],bJ:=[(lG,xo)],yd:=[(dH,0,bW)],PU:=[(lG,[none,some jW,none])]}
theorem afV:lh xA [dH] aen (U5 a0) [] 0 dx Q
 (.call lF [dE pg ak a0] fun I=>.ite I.bool (.au lG [.agg (aH pg ak a0),.bx ah (D.r []).ae,.func (.func DG) [] [pO 0]] [(0,cO dH [vO 1 0]),(1,rO bW [])] 1 fun A=>.aT (vO 0 A.ae.length) [(0,rO bW A.ae)]) (.aT (vO 0 0) [(0,rO bW [])])):=oH _ 0x211
end
section
variable {a0:D} {Q:D->Prop} {l0 l3:List D} {c1:Nat} {n2:Int}
def Sb:cK:={bK:=some 0,cj:=[(jU,[aU],[dn]),(oK,[ak],[dH])],bB:=[⟨tu,0,16418,[4,5,3],[(3,bW)]⟩],Eb:=[some bW]}
def xc (a0:D)(l0:List D)(c1:Nat)(n2:Int)(l3:List D):av:=hdL tu 151 [(3,vO 0 c1),(4,.bx ak l0),(5,iO n2)] [rO bW l3]
theorem acZ:lh tu [dH] Sb (rq a0) [] 0 dx Q
 (.call jU [dE pg aU a0] fun A=>.bz (xc a0 A.ae 0 0 [])):=oH _ 0x1
theorem HY:lk tu [dH] Sb (.bK 0 (dx (rq a0) []) Q) (xc a0 l0 c1 n2 l3)
 (.ite (n2<(l0.length:Int)) (.gd (di n2 l0.length) (.call oK [dE pg ak (D.at l0 n2.toNat)] fun A=>.gd ((c1=l3.length)&&(bh 8 (c1+A.ae.length))) (.bz (xc a0 l0 (c1+A.ae.length) (wp .i64 (n2+1)) (l3++A.ae))))) (.aT (vO 0 c1) [(0,rO bW l3)])):=oE _ 0x2121211
end
section
variable {a0:D} {Q:D->Prop} {c0:Nat} {l1:List D} {n2:Int}
theorem aia:lp On [ot] {} [vT] [a0] Q
 ((fun (u:Int->D->Int->D->Int->D->RT->RT)=>u 1 (D.z 3) 2 (D.z 9) 3 (D.z 9) (u 4 (D.z 12) 5 (D.z 16) 6 (D.z 16) (u 8 (D.z 16) 12 (D.z 16) 9 (D.z 13) (u 10 (D.z 1) 11 (D.z 8) 13 (D.z 33) (.ret (D.z 0)))))) fun i o m x g h e=>.ite (a0.int==i) (.ret o) (.ite (a0.int==m) (.ret x) (.ite (a0.int==g) (.ret h) e))):=oP _ 0x22222222222217e111ae110051005100517e17e10057e17e1
theorem ahV:lp wG [aj] {} [ot] [a0] Q
 (.ret (D.b ((wp .u8 ((BitVec.toNat ((BitVec.ofInt 8 a0.int) &&& (~~~ (BitVec.ofInt 8 63)))):Int))==0))):=oP _ 0x1
theorem ahW:lp Og [aj] {cj:=[(wG,[ot],[aj]),(jI,[Lp],[ah])]} [ot] [a0] Q
 (.call wG [D.z a0.int] fun I=>.ite I.bool (.call jI [D.z a0.int] fun A=>.ret (D.b (A.int==1))) (.ret (D.b false))):=oP _ 0x23d13c1
theorem afY:lp J1 [aU] {} [aU] [a0] Q
 ((fun (A:D->RT)=>(fun (up:Nat->D)=>(fun (O:D)=>(fun (J:Int->RT->Int->RT->Int->RT->RT->RT)=>(fun (V:D)=>(fun (U:D)=>(fun (I:D)=>(fun (t:D)=>(fun (j:D)=>(fun (v:D)=>(fun (u:D)=>(fun (q:RT)=>(fun (p:RT)=>(fun (k:RT)=>J 1 (A (D.r [v,j,O,D.r [],D.z 0,D.z 0,D.z 0,D.z 0,D.z 0,I,D.r [],D.r []])) 2 q 4 q (J 3 (A (D.r [v,j,u,D.r [],U,D.z 0,D.z 0,D.z 0,D.z 0,I,D.r [],D.r []])) 6 p 11 p (J 7 (A (D.r [v,j,O,D.r [],D.z 0,D.z 0,t,D.z 0,D.z 0,I,D.r [],D.r []])) 8 (A (D.r [v,j,u,D.r [],U,D.z (a0.af 5).int,D.z 0,D.z 0,D.z 0,I,D.r [],D.r []])) 9 (A (D.r [v,j,u,D.r [],U,D.z 0,t,D.z 0,D.z 0,I,D.r [],D.r []])) (J 10 (A (D.r [v,j,O,D.r [],D.z 0,D.z 0,D.z 0,D.z 0,D.z 0,V,D.r [],D.r []])) 12 (A (D.r [v,j,u,D.r [],D.z 0,D.z 0,D.z 0,D.z 0,D.z 0,I,D.r (a0.af 10).ae,D.r (a0.af 11).ae])) 13 (A (D.r [v,j,u,D.r [],D.z 0,D.z 0,t,D.z 0,D.z 0,V,D.r [],D.r []])) (J 15 k 16 k 14 (A (D.r [v,D.z 0,u,D.r [],D.z 0,D.z 0,t,D.z 0,D.z (a0.af 8).int,I,D.r [],D.r []])) (A (D.r [v,j,u,D.r [],D.z 0,D.z 0,D.z 0,D.z 0,D.z 0,I,D.r [],D.r []]))))))) (A (D.r [v,j,u,D.r [],D.z 0,D.z 0,t,D.z (a0.af 7).int,D.z 0,I,D.r [],D.r []]))) (A (D.r [v,j,u,D.r [],D.z 0,D.z 0,t,D.z 0,D.z 0,I,D.r [],D.r []]))) (A (D.r [v,j,u,D.r (a0.af 3).ae,D.z 0,D.z 0,D.z 0,D.z 0,D.z 0,I,D.r [],D.r []]))) (D.r [D.z 0,D.z 0,D.s [],D.r [],D.z 0])) (up 0)) (up 1)) (up 6)) (D.b false)) (up 4)) (D.b (a0.af 9).bool)) fun i o m x g h e=>.ite ((a0.af 0).int==i) o (.ite ((a0.af 0).int==m) x (.ite ((a0.af 0).int==g) h e))) (dE pg ak (a0.af 2))) fun i=>D.z (a0.af i).int) fun i=>.ret i):=oP _ 0x222222222222222114100541414141414141100511100511
def Pq:cK:={bK:=some 0,bJ:=[(xA,dx)],bB:=[⟨od,0,16451,[12,1,13,14,3],[]⟩,⟨od,0,16418,[24,25,26,3],[]⟩]}
def Bi (a0:D)(c0:Nat)(l1:List D)(n2:Int):av:=hdL od 75 [(1,pO 0),(3,vO 1 c0),(12,.bx ak (a0.af 3).ae),(13,iO ((a0.af 3).ae.length:Int)),(14,iO n2)] [cO aU (aH pg aU a0),rO bW l1]
def yY (a0:D)(c0:Nat)(l1:List D)(n2:Int):av:=hdL od 151 [(3,vO 0 c0),(24,.bx dG (a0.af 11).ae),(25,iO ((a0.af 11).ae.length:Int)),(26,iO n2)] [rO bW l1]
theorem afZ:lh od [dH] Pq (rq a0) [] 0 dx Q
 (.au xA [.agg (aH pg ak (a0.af 2))] [] 0 fun A=>.bz (Bi a0 A.ae.length A.ae 0)):=oH _ 0x1
theorem Nm:lk od [dH] Pq (.bK 0 (dx (rq a0) []) Q) (Bi a0 c0 l1 n2)
 (.ite (n2<((a0.af 3).ae.length:Int)) (.gd (di n2 (a0.af 3).ae.length) (.au xA [.agg (aH pg ak (D.at (a0.af 3).ae n2.toNat))] [] 0 fun A=>(fun (u:Nat)=>.gd (A.ae.length<=A.ae.length) (.gd ((c0=l1.length)&&(bh 8 u)) (.bz (Bi a0 u (l1++(List.take A.ae.length A.ae)) (wp .i64 (n2+1)))))) (c0+(List.take A.ae.length A.ae).length))) (.bz (yY a0 c0 l1 0))):=oE _ 0x212121211
theorem KQ:lk od [dH] Pq (.bK 0 (dx (rq a0) []) Q) (yY a0 c0 l1 n2)
 (.ite (n2<((a0.af 11).ae.length:Int)) (.gd (di n2 (a0.af 11).ae.length) (.au xA [.agg (aH pg ak ((D.at (a0.af 11).ae n2.toNat).af 1))] [] 0 fun A=>(fun (u:Nat)=>.gd (A.ae.length<=A.ae.length) (.gd ((c0=l1.length)&&(bh 8 u)) (.bz (yY a0 u (l1++(List.take A.ae.length A.ae)) (wp .i64 (n2+1)))))) (c0+(List.take A.ae.length A.ae).length))) (.aT (vO 0 c0) [(0,rO bW l1)])):=oE _ 0x212121211
theorem adb:lp zC [aj] {} [ak] [a0] Q
 ((fun (u:RT)=>.ite ((a0.af 0).int==0) (.ite ((a0.af 1).int==0) (.ite ((a0.af 2).ax==[]) (.ite (((a0.af 3).ae.length:Int)==0) (.ret (D.b ((a0.af 4).int==0))) u) u) u) u) (.ret (D.b false))):=oP _ 0x23dde13c23d9e13c24d4e14c23d13c1
end
section
variable {a0:D} {Q:D->Prop} {c0 c2 c1 c7 c8:Nat} {n1 n4 n2 n3 n6 n9 n11:Int} {l3 l5 l8 l9 l10 l:List D} {s4:List UInt8}
def MW:cK:={cj:=[(i5,[aI],[aI])],bJ:=[(lq,yC)],bB:=[⟨i5,0,16421,[1,10,2,11,12],[]⟩],PU:=[(lq,[some D7])]}
def vc (a0:D)(c0:Nat)(n1:Int)(c2:Nat)(l3:List D)(n4:Int):av:=hdL i5 75 [(1,pO 0),(2,pO 1),(10,vO 2 c0),(11,iO n1),(12,iO n4)] [cO aI [iU (a0.af 0).int,iO (a0.af 1).int,.ax (a0.af 2).ax,vO 2 c2],cO aI [iU 0,iO 0,.ax [],.cS],rO aI l3]
theorem W2:lp i5 [aI] MW [aI] [a0] Q
 (.au lq [.bx aI (D.r (a0.af 3).ae).ae] [] 0 fun A=>.bz (vc a0 A.ae.length (A.ae.length:Int) A.ae.length A.ae 0)):=oP _ 0x1
theorem Gj:lk i5 [aI] MW (.cY Q) (vc a0 c0 n1 c2 l3 n4)
 (.ite (n4<n1) (.gd (di n4 c0) (.gd (n4.toNat<l3.length) (.call i5 [dE pg aI (D.at l3 n4.toNat)] fun A=>.gd (di n4 c2) (.bz (vc a0 c0 n1 c2 (List.set l3 n4.toNat (dE pg aI A)) (wp .i64 (n4+1))))))) (.gd (c2=l3.length) (.ret (D.r [D.z (a0.af 0).int,D.z (a0.af 1).int,D.s (a0.af 2).ax,D.r l3])))):=oE _ 0x221121214210151
def MV:cK:={cj:=[(i5,[aI],[aI]),(hU,[aQ],[aQ])],bJ:=[(lu,yD),(iX,tK)],bB:=[⟨hU,0,16455,[0,7,8,9],[]⟩],Ot:=[(aJ,16,fY)],PU:=[(lu,[some aQ]),(iX,[some fY])]}
def va (a0:D)(c0 c1:Nat)(n2:Int)(l3:List D)(n4:Int):av:=hdL hU 75 [(0,vO 0 c0),(7,vO 0 c1),(8,iO n2),(9,iO n4)] [rO aJ l3]
theorem W1:lp hU [aQ] MV [aQ] [a0] Q
 (.au lu [.bx aJ (D.r a0.ae).ae] [] 0 fun A=>.bz (va a0 A.ae.length A.ae.length (A.ae.length:Int) A.ae 0)):=oP _ 0x1
theorem Gi:lk hU [aQ] MV (.cY Q) (va a0 c0 c1 n2 l3 n4)
 ((fun (u:Nat->D)=>.ite (n4<n2) (.gd (di n4 c1) (.gd (n4.toNat<l3.length) (.call i5 [dE pg aI (u 5)] fun I=>.call i5 [dE pg aI (u 6)] fun V=>.call hU [D.r (u 7).ae] fun J=>.call hU [D.r (u 8).ae] fun O=>.call hU [D.r (u 9).ae] fun U=>.au iX [.bx aq (D.r (u 10).ae).ae] [] 0 fun A=>.gd (A.ae.length=A.ae.length) (.gd (di n4 c0) (.bz (va a0 c0 c1 n2 (List.set l3 n4.toNat (D.r [D.z (u 0).int,D.s (u 1).ax,D.s (u 2).ax,D.z (u 3).int,D.z (u 4).int,dE pg aI I,dE pg aI V,D.r J.ae,D.r O.ae,D.r U.ae,D.r (D.r A.ae).ae])) (wp .i64 (n4+1)))))))) (.gd (c0=l3.length) (.ret (D.r l3)))) fun i=>(D.at l3 n4.toNat).af i):=oE _ 0x22112121444421210251
def Fj:cK:={cj:=[(Ba,[ak],[ak,bn]),(hU,[aQ],[aQ])],bJ:=[(rC,BG),(ua,Df)],bB:=[⟨eM,0,16474,[1,16,2,17,18],[]⟩,⟨eM,0,16430,[1,35,2,36,37],[]⟩],PU:=[(rC,[some dn]),(ua,[some fw])]}
def sF (a0:D)(c0:Nat)(n1 n2 n3:Int)(s4:List UInt8)(l5:List D)(n6:Int)(c7:Nat)(l8:List D)(n9:Int):av:=hdL eM 151 [(1,pO 0),(2,pO 1),(16,vO 2 c0),(17,iO n1),(18,iO n9)] [cO aU [iU (a0.af 0).int,iO (a0.af 1).int,iU n2,iO n3,.ax s4,.bx ak l5,iO n6,vO 2 c7,iO (a0.af 4).int,iO (a0.af 5).int,iO (a0.af 6).int,iO (a0.af 7).int,iU (a0.af 8).int,.bool (a0.af 9).bool,.bx aJ (a0.af 10).ae,.bx dG (a0.af 11).ae],cO aU [iU 0,iO 0,iU 0,iO 0,.ax [],.cS,iO 0,.cS,iO 0,iO 0,iO 0,iO 0,iU 0,.bool false,.cS,.cS],rO ak l8]
def sG (a0:D)(c0:Nat)(n1 n2 n3:Int)(s4:List UInt8)(l5:List D)(n6:Int)(c7 c8:Nat)(l9 l10:List D)(n11:Int):av:=hdL eM 607 [(1,pO 0),(2,pO 1),(35,vO 2 c0),(36,iO n1),(37,iO n11)] [cO aU [iU (a0.af 0).int,iO (a0.af 1).int,iU n2,iO n3,.ax s4,.bx ak l5,iO n6,vO 3 c7,iO (a0.af 4).int,iO (a0.af 5).int,iO (a0.af 6).int,iO (a0.af 7).int,iU (a0.af 8).int,.bool (a0.af 9).bool,.bx aJ (a0.af 10).ae,vO 2 c8],cO aU [iU 0,iO 0,iU 0,iO 0,.ax [],.cS,iO 0,.cS,iO 0,iO 0,iO 0,iO 0,iU 0,.bool false,.cS,.cS],rO dG l9,rO ak l10]
theorem W3:lp eM [aU] Fj [aU] [a0] Q
 (.call Ba [dE pg ak (a0.af 2)] fun I=>(fun (u:Nat->D)=>.au rC [.bx ak (D.r (a0.af 3).ae).ae] [] 0 fun A=>.bz (sF a0 A.ae.length (A.ae.length:Int) (u 0).int (u 1).int (u 2).ax (u 3).ae (u 4).int A.ae.length A.ae 0)) fun i=>(I.af 0).af i):=oP _ 0x1
theorem EC:lk eM [aU] Fj (.cY Q) (sF a0 c0 n1 n2 n3 s4 l5 n6 c7 l8 n9)
 (.ite (n9<n1) (.gd (di n9 c0) (.gd (n9.toNat<l8.length) (.call Ba [dE pg ak (D.at l8 n9.toNat)] fun I=>.gd (di n9 c7) (.bz (sF a0 c0 n1 n2 n3 s4 l5 n6 c7 (List.set l8 n9.toNat (dE pg ak (I.af 0))) (wp .i64 (n9+1))))))) (.au ua [.bx dG (D.r (a0.af 11).ae).ae] [] 0 fun A=>.bz (sG a0 A.ae.length (A.ae.length:Int) n2 n3 s4 l5 n6 c7 A.ae.length A.ae l8 0))):=oE _ 0x2121214210151
theorem ED:lk eM [aU] Fj (.cY Q) (sG a0 c0 n1 n2 n3 s4 l5 n6 c7 c8 l9 l10 n11)
 ((fun (u:D)=>.ite (n11<n1) (.gd (di n11 c0) (.gd (n11.toNat<l9.length) (.call Ba [dE pg ak (u.af 1)] fun I=>.gd (di n11 c8) (.bz (sG a0 c0 n1 n2 n3 s4 l5 n6 c7 c8 (List.set l9 n11.toNat (D.r [D.s (u.af 0).ax,dE pg ak (I.af 0)])) l10 (wp .i64 (n11+1))))))) (.call hU [D.r (a0.af 10).ae] fun A=>.gd (c7=l10.length) (.gd (c8=l9.length) (.ret (D.r [D.z (a0.af 0).int,D.z (a0.af 1).int,D.r [D.z n2,D.z n3,D.s s4,D.r l5,D.z n6],D.r l10,D.z (a0.af 4).int,D.z (a0.af 5).int,D.z (a0.af 6).int,D.z (a0.af 7).int,D.z (a0.af 8).int,D.b (a0.af 9).bool,D.r A.ae,D.r l9]))))) (D.at l9 n11.toNat)):=oE _ 0x22121121214210151
def Ts:cK:={bK:=some 0,Eb:=[some aI]}
theorem T5:lh lq [D7] Ts (Jh l) [] 0 yC Q
 ((fun (u:RT)=>.ite (List.isEmpty l) (.Lk (.aT (vO 0 0) [(0,rO aI [])]) u) u) (.gd (true&&(bh 56 (0+l.length))) (.aT (vO 0 (0+l.length)) [(0,rO aI ([]++l))]))):=oH _ 0x200632112321131
def Tv:cK:={bK:=some 0,Eb:=[some aJ]}
theorem T8:lh lu [aQ] Tv (Jj l) [] 0 yD Q
 ((fun (u:RT)=>.ite (List.isEmpty l) (.Lk (.aT (vO 0 0) [(0,rO aJ [])]) u) u) (.gd (true&&(bh 256 (0+l.length))) (.aT (vO 0 (0+l.length)) [(0,rO aJ ([]++l))]))):=oH _ 0x200632112321131
def Q5:cK:={bK:=some 0,Eb:=[some ak]}
theorem Rj:lh rC [dn] Q5 (Hh l) [] 0 BG Q
 ((fun (u:RT)=>.ite (List.isEmpty l) (.Lk (.aT (vO 0 0) [(0,rO ak [])]) u) u) (.gd (true&&(bh 64 (0+l.length))) (.aT (vO 0 (0+l.length)) [(0,rO ak ([]++l))]))):=oH _ 0x200632112321131
def Tt:cK:={bK:=some 0,Eb:=[some dG]}
theorem T6:lh ua [fw] Tt (Ji l) [] 0 Df Q
 ((fun (u:RT)=>.ite (List.isEmpty l) (.Lk (.aT (vO 0 0) [(0,rO dG [])]) u) u) (.gd (true&&(bh 80 (0+l.length))) (.aT (vO 0 (0+l.length)) [(0,rO dG ([]++l))]))):=oH _ 0x200632112321131
def OY:cK:={bK:=some 0,Eb:=[some aq]}
theorem Qd:lh iX [fY] OY (EX l) [] 0 tK Q
 ((fun (u:RT)=>.ite (List.isEmpty l) (.Lk (.aT (vO 0 0) [(0,rO aq [])]) u) u) (.gd (true&&(bh 16 (0+l.length))) (.aT (vO 0 (0+l.length)) [(0,rO aq ([]++l))]))):=oH _ 0x200632112321131
def Vh:cK:={bK:=some 0,Eb:=[some bW]}
theorem Wr:lh xw [dH] Vh (MF l) [] 0 dx Q
 ((fun (u:RT)=>.ite (List.isEmpty l) (.Lk (.aT (vO 0 0) [(0,rO bW [])]) u) u) (.gd (true&&(bh 8 (0+l.length))) (.aT (vO 0 (0+l.length)) [(0,rO bW ([]++l))]))):=oH _ 0x200632112321131
def Vi:cK:={bK:=some 0,Eb:=[some ah]}
theorem Ws:lh gu [jW] Vi (MG l) [] 0 pD Q
 ((fun (u:RT)=>.ite (List.isEmpty l) (.Lk (.aT (vO 0 0) [(0,rO ah [])]) u) u) (.gd (true&&(bh 8 (0+l.length))) (.aT (vO 0 (0+l.length)) [(0,rO ah ([]++l))]))):=oH _ 0x200632112321131
def Tu:cK:={bK:=some 0,Eb:=[some cq]}
theorem T7:lh gM [kG] Tu (ga l) [] 0 tJ Q
 ((fun (u:RT)=>.ite (List.isEmpty l) (.Lk (.aT (vO 0 0) [(0,rO cq [])]) u) u) (.gd (true&&(bh 8 (0+l.length))) (.aT (vO 0 (0+l.length)) [(0,rO cq ([]++l))]))):=oH _ 0x200632112321131
end
section
variable {a0:D} {Q:D->Prop} {c0 c5 c6 c8:Nat} {n1 n0 n4 n6 n9:Int} {l2 l3 l7 l5 l10:List D} {s2:List UInt8}
def Pp:cK:={cj:=[(jn,[ak],[ak])],bB:=[⟨jn,0,16426,[1,2,4,3],[(3,ak)]⟩]}
def xh (a0:D)(c0:Nat)(n1:Int)(l2:List D):av:=hdL jn 75 [(1,pO 0),(2,pO 1),(3,vO 2 c0),(4,iO n1)] [cO ak (aH pg ak a0),cO ak [iU 0,iO 0,.ax [],.cS,iO 0],rO ak l2]
theorem Zw:lp jn [ak] Pp [ak] [a0] Q
 (.bz (xh a0 0 0 [])):=oP _ 0x1
theorem Ie:lk jn [ak] Pp (.cY Q) (xh a0 c0 n1 l2)
 ((fun (u:Bool)=>.ite (n1<((a0.af 3).ae.length:Int)) (.gd (di n1 (a0.af 3).ae.length) (.call jn [dE pg ak (D.at (a0.af 3).ae n1.toNat)] fun A=>.gd (u&&(bh 64 (c0+1))) (.bz (xh a0 (c0+1) (wp .i64 (n1+1)) (l2++[dE pg ak A]))))) (.gd u (.ret (D.r [D.z (a0.af 0).int,D.z (a0.af 1).int,D.s (a0.af 2).ax,D.r l2,D.z (a0.af 4).int])))) (c0=l2.length)):=oE _ 0x2211213211
def Se:cK:={cj:=[(mU,[aI],[aI])],bB:=[⟨mU,0,16426,[1,2,4,3],[(3,aI)]⟩]}
def yW (a0:D)(c0:Nat)(n1:Int)(l2:List D):av:=hdL mU 75 [(1,pO 0),(2,pO 1),(3,vO 2 c0),(4,iO n1)] [cO aI (aH pg aI a0),cO aI [iU 0,iO 0,.ax [],.cS],rO aI l2]
theorem ac3:lp mU [aI] Se [aI] [a0] Q
 (.bz (yW a0 0 0 [])):=oP _ 0x1
theorem KN:lk mU [aI] Se (.cY Q) (yW a0 c0 n1 l2)
 ((fun (u:Bool)=>.ite (n1<((a0.af 3).ae.length:Int)) (.gd (di n1 (a0.af 3).ae.length) (.call mU [dE pg aI (D.at (a0.af 3).ae n1.toNat)] fun A=>.gd (u&&(bh 56 (c0+1))) (.bz (yW a0 (c0+1) (wp .i64 (n1+1)) (l2++[dE pg aI A]))))) (.gd u (.ret (D.r [D.z (a0.af 0).int,D.z (a0.af 1).int,D.s (a0.af 2).ax,D.r l2])))) (c0=l2.length)):=oE _ 0x2211213211
def Sd:cK:={cj:=[(mU,[aI],[aI]),(kV,[aQ],[aQ])],bB:=[⟨kV,0,16463,[0,4,3],[(3,aJ)]⟩],Ot:=[(aJ,16,fY)]}
def yV (a0:D)(c0:Nat)(n1:Int)(l2:List D):av:=hdL kV 75 [(0,.bx aJ a0.ae),(3,vO 0 c0),(4,iO n1)] [rO aJ l2]
theorem ac2:lp kV [aQ] Sd [aQ] [a0] Q
 (.bz (yV a0 0 0 [])):=oP _ 0x1
theorem KM:lk kV [aQ] Sd (.cY Q) (yV a0 c0 n1 l2)
 ((fun (u:Nat->D)=>.ite (n1<(a0.ae.length:Int)) (.gd (di n1 a0.ae.length) (.call mU [dE pg aI (u 5)] fun I=>.call mU [dE pg aI (u 6)] fun A=>.call kV [D.r (u 7).ae] fun J=>.call kV [D.r (u 8).ae] fun O=>.call kV [D.r (u 9).ae] fun U=>.gd (bh 16 (u 10).ae.length) (.gd ((u 10).ae.length=(u 10).ae.length) (.gd ((c0=l2.length)&&(bh 256 (c0+1))) (.bz (yV a0 (c0+1) (wp .i64 (n1+1)) (l2++[D.r [D.z (u 0).int,D.s (u 1).ax,D.s (u 2).ax,D.z (u 3).int,D.z (u 4).int,dE pg aI I,dE pg aI A,D.r J.ae,D.r O.ae,D.r U.ae,D.r (D.r (u 10).ae).ae]]))))))) (.gd (c0=l2.length) (.ret (D.r l2)))) fun i=>(D.at a0.ae n1.toNat).af i):=oE _ 0x221121444421213211
def Po:cK:={cj:=[(jn,[ak],[ak]),(kV,[aQ],[aQ])],bB:=[⟨ky,0,16483,[1,2,4,3],[(3,ak)]⟩,⟨ky,0,16434,[1,2,6,5],[(5,dG)]⟩]}
def yT (a0:D)(n0 n1:Int)(s2:List UInt8)(l3:List D)(n4:Int)(c5:Nat)(n6:Int)(l7:List D):av:=hdL ky 151 [(1,pO 0),(2,pO 1),(3,vO 2 c5),(4,iO n6)] [cO aU [iU (a0.af 0).int,iO (a0.af 1).int,iU n0,iO n1,.ax s2,.bx ak l3,iO n4,.bx ak (a0.af 3).ae,iO (a0.af 4).int,iO (a0.af 5).int,iO (a0.af 6).int,iO (a0.af 7).int,iU (a0.af 8).int,.bool (a0.af 9).bool,.bx aJ (a0.af 10).ae,.bx dG (a0.af 11).ae],cO aU [iU 0,iO 0,iU 0,iO 0,.ax [],.cS,iO 0,.cS,iO 0,iO 0,iO 0,iO 0,iU 0,.bool false,.cS,.cS],rO ak l7]
def w9 (a0:D)(n0 n1:Int)(s2:List UInt8)(l3:List D)(n4:Int)(l5:List D)(c6:Nat)(l7:List D)(c8:Nat)(n9:Int)(l10:List D):av:=hdL ky 2431 [(1,pO 0),(2,pO 1),(5,vO 2 c8),(6,iO n9)] [cO aU [iU (a0.af 0).int,iO (a0.af 1).int,iU n0,iO n1,.ax s2,.bx ak l3,iO n4,vO 3 c6,iO (a0.af 4).int,iO (a0.af 5).int,iO (a0.af 6).int,iO (a0.af 7).int,iU (a0.af 8).int,.bool (a0.af 9).bool,.bx aJ l5,.bx dG (a0.af 11).ae],cO aU [iU 0,iO 0,iU 0,iO 0,.ax [],.cS,iO 0,.cS,iO 0,iO 0,iO 0,iO 0,iU 0,.bool false,.cS,.cS],rO dG l10,rO ak l7]
theorem afS:lp ky [aU] Po [aU] [a0] Q
 (.call jn [dE pg ak (a0.af 2)] fun A=>.bz (yT a0 (A.af 0).int (A.af 1).int (A.af 2).ax (A.af 3).ae (A.af 4).int 0 0 [])):=oP _ 0x1
theorem KJ:lk ky [aU] Po (.cY Q) (yT a0 n0 n1 s2 l3 n4 c5 n6 l7)
 (.ite (n6<((a0.af 3).ae.length:Int)) (.gd (di n6 (a0.af 3).ae.length) (.call jn [dE pg ak (D.at (a0.af 3).ae n6.toNat)] fun I=>.gd ((c5=l7.length)&&(bh 64 (c5+1))) (.bz (yT a0 n0 n1 s2 l3 n4 (c5+1) (wp .i64 (n6+1)) (l7++[dE pg ak I]))))) (.call kV [D.r (a0.af 10).ae] fun A=>.bz (w9 a0 n0 n1 s2 l3 n4 A.ae c5 l7 0 0 []))):=oE _ 0x21213211
theorem HX:lk ky [aU] Po (.cY Q) (w9 a0 n0 n1 s2 l3 n4 l5 c6 l7 c8 n9 l10)
 ((fun (v:Bool)=>(fun (u:D)=>.ite (n9<((a0.af 11).ae.length:Int)) (.gd (di n9 (a0.af 11).ae.length) (.call jn [dE pg ak (u.af 1)] fun A=>.gd (v&&(bh 80 (c8+1))) (.bz (w9 a0 n0 n1 s2 l3 n4 l5 c6 l7 (c8+1) (wp .i64 (n9+1)) (l10++[D.r [D.s (u.af 0).ax,dE pg ak A]]))))) (.gd (c6=l7.length) (.gd v (.ret (D.r [D.z (a0.af 0).int,D.z (a0.af 1).int,D.r [D.z n0,D.z n1,D.s s2,D.r l3,D.z n4],D.r l7,D.z (a0.af 4).int,D.z (a0.af 5).int,D.z (a0.af 6).int,D.z (a0.af 7).int,D.z (a0.af 8).int,D.b (a0.af 9).bool,D.r l5,D.r l10]))))) (D.at (a0.af 11).ae n9.toNat)) (c8=l10.length)):=oE _ 0x22121121005443211
end
section
variable {l:List D} {m n0 n1:Int} {Q:D->Prop}
def Si:cK:={bK:=some 1,bJ:=[(kW,gr),(sV,gr)],bB:=[⟨kW,0,16482,[1,9,10,11],[]⟩]}
def yZ (l:List D)(m n0 n1:Int):av:=hdL kW 37 [(1,pO 0),(9,.bx aJ l),(10,iO (l.length:Int)),(11,iO n0)] [cO ah [iO n1]]
theorem ade:lh kW [aj] Si (Gs l m) (Gt l m) 1 gr Q
 (.bz (yZ l m 0 m)):=oH _ 0x1
theorem KR:lk kW [aj] Si (.bK 1 (gr (Gs l m) (Gt l m)) Q) (yZ l m n0 n1)
 ((fun (j:Int)=>(fun (z:Nat->D)=>(fun (p:Nat->List BV)=>(fun (k:Nat->List BV)=>(fun (u:Int->List (Nat×aE))=>(fun (q:Int->RT)=>(fun (v:D->Int->RT->RT)=>.ite (n0<(l.length:Int)) (.gd (di n0 l.length) (.ite (j>(512:Int)) (q j) (.ite (((z 10).ae.length:Int)>64) (q j) (.au sV (k 5) (u 0) 1 fun O=>v O j (.au sV (k 6) (u 0) 1 fun U=>v U j (.au kW (p 7) (u j) 1 fun A=>v A (A.af 1).int (.au kW (p 8) (u (A.af 1).int) 1 fun I=>v I (I.af 1).int (.au kW (p 9) (u (I.af 1).int) 1 fun J=>v J (J.af 1).int (.bz (yZ l m (wp .i64 (n0+1)) (J.af 1).int)))))))))) (.aT (.bool true) (u n1))) fun i o x=>.ite (! (i.af 0).bool) (q o) x) fun i=>.aT (.bool false) (u i)) fun i=>[(0,cO ah [iO i])]) fun i=>[.agg (aH pg aI (z i)),pO 0,iO 16]) fun i=>[.bx aJ (z i).ae,pO 0]) fun i=>(D.at l n0.toNat).af i) (wp .i64 (n1+1))):=oE _ 0x212124d24d24d225d25d2115c315c7e114c314c6e14cbe1
end
section
variable {y:D} {m k n0 n1:Int} {Q:D->Prop} {l:List D}
def Yf:cK:={bK:=some 1,bJ:=[(eK,hC)]}
theorem ZA:lh sV [aj] Yf (sM y m k) (sQ y m k) 1 gr Q
 ((fun (z:Int->aE)=>(fun (v:aE)=>(fun (j:RT)=>(fun (u:RT)=>.ite ((wp .i64 (m+1))>512) j (.ite ((y.af 0).int !=3) (.ite (((y.af 3).ae.length:Int)==0) (.aT (.bool true) [(0,v)]) u) u)) (.ite ((k:Int)==0) j (.au eK [.bx aI (y.af 3).ae,.func (.func yL) [] [pO 0,pO 1]] [(0,cO Ld [pO 2]),(1,z k),(2,v)] 3 fun A=>.aT (.bool (! (A.af 0).bool)) [(0,z (A.af 1).int)]))) (.aT (.bool false) [(0,v)])) (z (wp .i64 (m+1)))) fun i=>cO ah [iO i]):=oH _ 0x224d32114c221111
def Ck:cK:={bK:=some 3,bJ:=[(sV,gr)],bB:=[⟨eG,0,16423,[0,1,7,8],[]⟩]}
def mF (l:List D)(m k:Int)(n0 n1:Int):av:=hdL eG 37 [(0,.bx aI l),(1,.func (.func yL) [] [pO 0,pO 1]),(7,iO (l.length:Int)),(8,iO n0)] [cO Ld [pO 2],cO ah [iO k],cO ah [iO n1]]
theorem L7:lh eG [ah] Ck (mJ l m k) (eC l m k) 3 jY Q
 (.bz (mF l m k 0 m)):=oH _ 0x1
theorem yp:lk eG [ah] Ck (.bK 3 (jY (mJ l m k) (eC l m k)) Q) (mF l m k n0 n1)
 ((fun (v:Int->aE)=>(fun (u:Int->Int->RT)=>.ite (n0<(l.length:Int)) (.gd (di n0 l.length) (.au sV [.agg (aH pg aI (D.at l n0.toNat)),pO 0,iO (wp .i64 (k-1))] [(0,v n1)] 1 fun A=>.ite (! (A.af 0).bool) (u n0 (A.af 1).int) (.bz (mF l m k (wp .i64 (n0+1)) (A.af 1).int)))) (u (-1) n1)) fun i o=>.aT (iO i) [(0,cO Ld [pO 2]),(1,v k),(2,v o)]) fun i=>cO ah [iO i]):=oE _ 0x2121211
def G3:cK:={bK:=some 3,bJ:=[(eG,jY)]}
theorem G8:lh eK [aj] G3 (mJ l m k) (eC l m k) 3 hC Q
 ((fun (u:Int->List (Nat×aE))=>.au eG [.bx aI l,.func (.func yL) [] [pO 0,pO 1]] (u m) 3 fun A=>.aT (.bool ((A.af 0).int≥0)) (u (A.af 1).int)) fun i=>[(0,cO Ld [pO 2]),(1,cO ah [iO k]),(2,cO ah [iO i])]):=oH _ 0x1
end
section
variable {W:WS} {r n0 n1 k o:Int} {Q:D->Prop} {l0:List D}
def ajv:cK:={bK:=some 3}
theorem ajW:lh ki [aj] ajv (oQ W r) (Wm W) 3 cA Q
 (.ite (D.i7 W.th (D.z r)) (.aT (.bool true) (Wm W)) (.aT (.bool false) (Wm W))):=oH _ 0xce22e12e1
def aei:cK:={bK:=some 3,bJ:=[(ki,cA)]}
theorem afE:lh Fu [vT] aei (oQ W r) (Wm W) 3 ka Q
 (.au ki [pO 0,iO r] (Wm W) 3 fun A=>.ite (! A.bool) (.aT (iU 0) (Wm W)) (.gd (D.i7 W.th (D.z r)) (.aT (iU ((D.val W.th (D.z r)).af 0).int) (Wm W)))):=oH _ 0x22100511
def Vj:cK:={bK:=some 3,cj:=[(On,[vT],[ot])],bJ:=[(ki,cA)],bB:=[⟨rE,0,16465,[0,5,1],[]⟩]}
def xC (W:WS)(r n0 n1:Int):av:=hdL rE 77 [(0,pO 0),(1,iO n0),(5,iU n1)] [wrC W 3 1 2 4,wrT W 1,wrF W,rO aj W.cu,rO ah W.ma]
theorem afC:lh rE [ot] Vj (oQ W r) (Wm W) 3 ka Q
 (.bz (xC W r r 63)):=oH _ 0x1
theorem W8:lk rE [ot] Vj (.bK 3 (ka (oQ W r) (Wm W)) Q) (xC W r n0 n1)
 ((fun (k:D)=>(fun (j:RT)=>(fun (v:D)=>(fun (u:Int)=>(fun (p:D->Int)=>.au ki [pO 0,iO n0] (Wm W) 3 fun A=>.ite (! A.bool) (.aT (iU 0) (Wm W)) (.gd (D.i7 W.th (D.z n0)) (.ite (v.int==14) (.bz (xC W r (k.af 6).int (p (k.af 8)))) (.ite (v.int==15) j (.ite (v.int==16) j (.call On [D.z v.int] fun I=>.aT (iU (p I)) (Wm W))))))) fun i=>wp .u8 ((BitVec.toNat ((BitVec.ofInt 8 u) &&& (BitVec.ofInt 8 (D.z i.int).int))):Int)) (wp .u8 ((BitVec.toNat ((BitVec.ofInt 8 63) &&& (BitVec.ofInt 8 (D.z n1).int))):Int))) (k.af 0)) (.bz (xC W r (k.af 6).int n1))) (D.val W.th (D.z n0))):=oE _ 0x2210052220357e1035100502510157e01511
def R1:cK:={bK:=some 3,bB:=[⟨oB,0,16435,[3,2,1,15],[]⟩]}
def qD (W:WS)(r k o:Int)(l0:List D):av:=hdL oB 37 [(1,iO r),(2,iU k),(3,iO o),(15,pO 3)] [wrC W 4 1 2 5,wrT W 1,wrF W,.nb 1 (D.fh W.th) W.st W.ck l0,rO aj W.cu,rO ah W.ma]
theorem acG:lh oB [aj] R1 (zo W r k o) (Wm W) 3 cA Q
 (.bz (qD W r k o [])):=oH _ 0x1
theorem Ur:lk oB [aj] R1 (.bK 3 (cA (zo W r k o) (Wm W)) Q) (qD W r k o l0)
 (.gd (xR W.th W.st W.ck (D.fh W.th) W.st W.ck) (.pick (D.fh W.th) l0 (.aT (.bool false) (Wm W)) fun A=>(fun (u:RT)=>.ite (A.int !=(r:Int)) (.gd (D.i7 W.th A) (.ite (((D.val W.th A).af 0).int==(k:Int)) (.ite (((D.val W.th A).af 6).int==(o:Int)) (.aT (.bool true) (Wm W)) u) u)) u) (.bz (qD W r k o (A::l0))))):=oE _ 0x212300526d8e13c210301a26d313c0153c21131
end
section
variable {W:WS} {l l1:List D} {Q:D->Prop} {n0 s:Int} {y:D}
def Eg:cK:={bK:=some 4,bJ:=[(ki,cA)],bB:=[⟨gf,0,16423,[0,1,7,8],[]⟩]}
def nJ (W:WS)(l:List D)(n0:Int):av:=hdL gf 37 [(0,.bx bW l),(1,.func (.func AY) [] [pO 0]),(7,iO (l.length:Int)),(8,iO n0)] [cO cy [pO 1],wrC W 4 2 3 5,wrT W 2,wrF W,rO aj W.cu,rO ah W.ma]
theorem NV:lh gf [ah] Eg (kQ W l) (Wm1 W) 4 aG Q
 (.bz (nJ W l 0)):=oH _ 0x1
theorem Ak:lk gf [ah] Eg (.bK 4 (aG (kQ W l) (Wm1 W)) Q) (nJ W l n0)
 (.ite (n0<(l.length:Int)) (.gd (di n0 l.length) (.au ki [pO 0,iO (D.at l n0.toNat).int] (Wm W) 3 fun A=>.ite (! A.bool) (.aT (iO n0) (Wm1 W)) (.bz (nJ W l (wp .i64 (n0+1)))))) (.aT (iO (-1)) (Wm1 W))):=oE _ 0x2121211
def IB:cK:={bK:=some 4,bJ:=[(gf,aG)],PU:=[(gf,[some dH,none])]}
theorem I1:lh kh [aj] IB (kQ W l) (Wm1 W) 4 cA Q
 (.au gf [.bx bW (D.r l).ae,.func (.func AY) [] [pO 0]] (Wm1 W) 4 fun A=>.aT (.bool (A.int≥0)) (Wm1 W)):=oH _ 0x1
def abM:cK:={bK:=some 3,bJ:=[(od,dx),(kh,cA)],PU:=[(kh,[some dH,none])]}
theorem acF:lh GC [aj] abM (ov W y) (Wm W) 3 cA Q
 (.au od [.agg (aH pg aU y)] [] 0 fun A=>.gd (A.ae.length=A.ae.length) (.au kh [.bx bW (D.r A.ae).ae,.func (.func AY) [] [pO 0]] (Wm1 W) 4 fun I=>.aT (.bool (! I.bool)) (Wm W))):=oH _ 0x211
def R2:cK:={bK:=some 3,cj:=[(jd,[dA],[ah])],bJ:=[(rE,ka)],bB:=[⟨oC,0,16432,[0,10,3],[]⟩]}
def qG (W:WS)(n0:Int)(l1:List D):av:=hdL oC 75 [(0,pO 0),(3,iO n0),(10,pO 3)] [wrC W 4 1 2 5,wrT W 1,wrF W,.nb 1 (D.fh W.th) W.st W.ck l1,rO aj W.cu,rO ah W.ma]
theorem acI:lh oC [ah] R2 (bG W) (Wm W) 3 aG Q
 (.bz (qG W 0 [])):=oH _ 0x1
theorem Uu:lk oC [ah] R2 (.bK 3 (aG (bG W) (Wm W)) Q) (qG W n0 l1)
 (.gd (xR W.th W.st W.ck (D.fh W.th) W.st W.ck) (.pick (D.fh W.th) l1 (.aT (iO n0) (Wm W)) fun A=>.gd (D.i7 W.th A) (.ite (((D.val W.th A).af 0).int==14) (.bz (qG W (wp .i64 (n0-1)) (A::l1))) (.au rE [pO 0,iO A.int] (Wm W) 3 fun J=>.call jd [D.z (wp .u64 J.int)] fun I=>.gd (0<=I.int) (.bz (qG W (wp .i64 (n0+(wp .i64 ((wp .i64 (1*(2^(min I.int.toNat 64))))-1)))) (A::l1))))))):=oE _ 0x2123005212211131
def abL:cK:={bK:=some 3}
theorem acD:lh gv [ah] abL (bG W) (Wm W) 3 aG Q
 (.aT (iO (W.ma.length:Int)) (Wm W)):=oH _ 0x7e1
def aej:cK:={bK:=some 3,bJ:=[(gv,aG)]}
theorem afJ:lh JX [aj] aej (oQ W s) (Wm W) 3 cA Q
 (.ite ((s:Int)≥0) (.au gv [pO 0] (Wm W) 3 fun A=>.aT (.bool ((s:Int)<A.int)) (Wm W)) (.aT (.bool false) (Wm W))):=oH _ 0x24d14c1
end
section
variable {l:List D} {Q:D->Prop} {n0 n:Int} {W:WS}
def aaJ:cK:={bK:=some 0,bJ:=[(gM,tJ)],bB:=[⟨ui,0,16444,[10,0,11,12],[]⟩],Ot:=[(bU,0,kG)],PU:=[(gM,[some kG])]}
def DQ (l:List D)(n0:Int):av:=hdL ui 75 [(0,.bx cq l),(10,.bx cq l),(11,iO (l.length:Int)),(12,iO n0)] []
theorem ah9:lh ui [cy,bn] aaJ (ga l) [] 0 Dj Q
 (.ite ((l.length:Int)≥16) (.aT (.tuple [.gF,iO 71]) []) (.bz (DQ l 0))):=oH _ 0x211
theorem Qu:lk ui [cy,bn] aaJ (.bK 0 (Dj (ga l) []) Q) (DQ l n0)
 ((fun (v:RT)=>(fun (u:Int)=>.ite (n0<(l.length:Int)) (.gd (di n0 l.length) (.ite ((D.at l n0.toNat).int<0) v (.ite ((D.at l n0.toNat).int>n0) v (.bz (DQ l (wp .i64 (n0+1))))))) (.gd (vQ u u 1) (.gd (vQ u u 8) (.au gM [.bx cq (D.r l).ae] [] 0 fun A=>.gd (A.ae.length=A.ae.length) (.aT (.tuple [pO 0,iO 0]) [(0,cO bU [.bx cq (D.r A.ae).ae,vO 1 u.toNat,.map 2,.map 3,iO 0,vO 4 u.toNat]),(1,rO aj (List.replicate u.toNat (D.b false))),(2,.cd bW (.dD 7 aU) [] [] 0),(3,.cd bp (.data bW) [] [] 0),(4,rO ah (List.replicate u.toNat (D.z 0)))]))))) (wp .i64 ((l.length:Int)+1))) (.aT (.tuple [.gF,iO 71]) [])):=oE _ 0x221212112123d2113c31
def Vl:cK:={bK:=some 3,bJ:=[(gv,aG)]}
theorem Wu:lh AX [bn] Vl (oQ W n) (Wm W) 3 AG Q
 ((fun (u:RT)=>.ite ((n:Int)>0) (.au gv [pO 0] (Wm W) 3 fun A=>.ite (! ((n:Int)<A.int)) u (.gd (di n W.cu.length) (.gd (n.toNat<W.cu.length) (.aT (iO 0) [(0,cO bU [.bx cq W.pa,vO 3 W.cu.length,.map 1,.map 2,iO W.la,vO 4 W.ma.length]),(1,.cd bW (.dD 1 aU) W.th W.st W.ck),(2,.cd bp (.data bW) W.fa W.sf W.cf),(3,rO aj (List.set W.cu n.toNat (D.b true))),(4,rO ah W.ma)])))) u) (.aT (iO 2) (Wm W))):=oH _ 0x7e24d314c2212111
end
section
variable {W:WS} {y:D} {Q:D->Prop} {n0:Int}
def pI:cK:={f:=rF,rs:=[aj],bK:=some 3,cj:=[(lF,[ak],[aj]),(LS,[dn],[ak,bn]),(wG,[ot],[aj]),(J1,[aU],[aU]),(zC,[ak],[aj])],bJ:=[(JX,cA),(kW,gr)],bB:=[⟨rF,0,16514,[137,3,138,139],[]⟩]}
@[simp] theorem akn:pI.f=rF/\pI.rs=[aj]:=⟨rfl,rfl⟩
def rQ (W:WS)(y:D)(n0:Int):av:=hdL rF 1215 [(3,pO 3),(137,.bx dG (y.af 11).ae),(138,iO ((y.af 11).ae.length:Int)),(139,iO n0)] [wrC W 4 1 2 5,wrT W 1,wrF W,cO aU (aH pg aU y),rO aj W.cu,rO ah W.ma]
theorem afH:lh rF [aj] pI (ov W y) (Wm W) 3 cA Q
 ((fun (k:RT)=>(fun (q:Nat->RT->RT)=>(fun (u:Bool->Bool->RT->RT)=>(fun (v:RT)=>(fun (z:RT)=>.call J1 [dE pg aU y] fun A=>(fun (p:Nat->Bool)=>(fun (j:Nat->Bool)=>u ((y.af 0).int==0) ((y.af 0).int>16) (u (j 4) (j 5) (u (j 6) (j 7) (u (j 8) (! ((y.af 9).bool==(A.af 9).bool)) (u (j 1) (p 3) (u (p 10) (p 11) (.call zC [dE pg ak (A.af 2)] fun O=>.ite O.bool (q zC z) z))))))) fun i=>(y.af i).int !=(A.af i).int) fun i=>((y.af i).ae.length:Int)!=((A.af i).ae.length:Int)) (.ite ((y.af 0).int !=14) (.au JX [pO 0,iO (y.af 1).int] (Wm W) 3 fun I=>.ite (! I.bool) k v) v)) (q lF (.call LS [D.r (y.af 3).ae] fun U=>u ((U.af 1).int !=0) (((y.af 11).ae.length:Int)>64) (.bz (rQ W y 0))))) fun i o m=>.ite i k (.ite o k m)) fun i o=>.call i [dE pg ak (y.af 2)] fun J=>.ite (! J.bool) k o) (.aT (.bool false) (Wm W))):=oH _ 0x23d25d25d25d25d25d25d25d227d27d23d23d016006016325d5e224d2114c3115c24d224d2114c3114c313c016005016225d5e224d2114c3115c24d224d2114c3114c3115c317c7e17cfe115c315c7e15cde15c13915c19915c1f915c25913c2b91
theorem HH:lk rF [aj] pI (.bK 3 (cA (ov W y) (Wm W)) Q) (rQ W y n0)
 ((fun (j:Int->RT->Int->RT->Int->RT->RT->RT)=>(fun (v:Bool->RT)=>(fun (k:Nat->RT->RT)=>(fun (u:RT)=>.ite (n0<((y.af 11).ae.length:Int)) (.gd (di n0 (y.af 11).ae.length) (.call lF [dE pg ak ((D.at (y.af 11).ae n0.toNat).af 1)] fun A=>.ite (! A.bool) (v false) (.bz (rQ W y (wp .i64 (n0+1)))))) (j 3 u 8 u 9 u (j 10 (.ite (y.af 9).bool (v true) (.call zC [dE pg ak (y.af 2)] fun O=>v O.bool)) 12 (.au kW [.bx aJ (y.af 10).ae,pO 0] [(0,cO ah [iO 0])] 1 fun I=>v (I.af 0).bool) 14 (.call wG [D.z (y.af 8).int] fun J=>v J.bool) (v true)))) (k 4 (.ite ((y.af 4).int<=9007199254740992) (k 5 (v ((y.af 5).int<=(y.af 4).int))) (v false)))) fun i o=>.ite ((y.af i).int≥0) o (v false)) fun i=>.aT (.bool i) (Wm W)) fun i o m x g h e=>.ite ((y.af 0).int==i) o (.ite ((y.af 0).int==m) x (.ite ((y.af 0).int==g) h e))):=oE _ 0x222222211123d13c123dae13c23d6e13c25d15c100523dae13c23d6e13c25d15c100523dae13c23d6e13c25d15c121211
end
end Go.Proofs
end
