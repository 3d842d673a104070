import Derived.Test.YtpanfgalkajgdaaGreatM8
set_option linter.all false
noncomputable section
open Go.IntKind renaming wrap→wp
set_option maxHeartbeats 8000000
namespace Go.Proofs
open Go Go.PB
section
variable {a0 a1:D} {Q:D->Prop} {n0 n1:Int} {c0:Nat} {l2:List D}
def MQ:cK:={cj:=[(jQ,[aI,ah],[ah])],bB:=[⟨jQ,0,16426,[1,2,6,5],[]⟩]}
def su (a0 a1:D)(n0 n1:Int):av:=hdL jQ 151 [(1,iO a1.int),(2,pO 0),(5,iO n0),(6,iO n1)] [cO aI (aH pg aI a0)]
theorem WN:lp jQ [ah] MQ [aI,ah] [a0,a1] Q
 (.ite (a1.int>16) (.ret (D.z 513)) (.bz (su a0 a1 1 0))):=oP _ 0x211
theorem Es:lk jQ [ah] MQ (.cY Q) (su a0 a1 n0 n1)
 (.ite (n1<((a0.af 3).ae.length:Int)) (.ite (n0<=512) (.gd (di n1 (a0.af 3).ae.length) (.call jQ [dE pg aI (D.at (a0.af 3).ae n1.toNat),D.z (wp .i64 (a1.int+1))] fun A=>.bz (su a0 a1 (wp .i64 (n0+A.int)) (wp .i64 (n1+1))))) (.ret (D.z n0))) (.ret (D.z n0))):=oE _ 0x22d312c21211
def Pb:cK:={cj:=[(mo,[aI],[ah])],bB:=[⟨mo,0,16421,[1,4,3],[]⟩]}
def uQ (a0:D)(n0 n1:Int):av:=hdL mo 151 [(1,pO 0),(3,iO n0),(4,iO n1)] [cO aI (aH pg aI a0)]
theorem Y7:lp mo [ah] Pb [aI] [a0] Q
 (.ite ((a0.af 0).int !=3) (.ret (D.z 0)) (.bz (uQ a0 0 0))):=oP _ 0x211
theorem FZ:lk mo [ah] Pb (.cY Q) (uQ a0 n0 n1)
 (.ite (n1<((a0.af 3).ae.length:Int)) (.gd (di n1 (a0.af 3).ae.length) (.call mo [dE pg aI (D.at (a0.af 3).ae n1.toNat)] fun A=>.bz (uQ a0 (if (A.int>n0)then A.int else n0) (wp .i64 (n1+1))))) (.ret (D.z (wp .i64 (n0+1))))):=oE _ 0x21211
def JJ:cK:={cj:=[(iQ,[aI],[aj]),(dz,[aq],[aj])],bB:=[⟨iQ,0,16513,[1,3],[]⟩]}
def ss (a0:D)(n0:Int):av:=hdL iQ 37 [(1,pO 0),(3,iO n0)] [cO aI (aH pg aI a0)]
theorem Ui:lp iQ [aj] JJ [aI] [a0] Q
 (.bz (ss a0 0)):=oP _ 0x1
theorem Er:lk iQ [aj] JJ (.cY Q) (ss a0 n0)
 ((fun (j:Int)=>(fun (v:RT)=>(fun (u:RT)=>(fun (z:Int->RT->RT->RT)=>.ite (n0<j) (.gd (di n0 (a0.af 3).ae.length) (.call iQ [dE pg aI (D.at (a0.af 3).ae n0.toNat)] fun A=>.ite (! A.bool) u (.bz (ss a0 (wp .i64 (n0+1)))))) (.ite ((a0.af 0).int==1) (.ite ((a0.af 2).ax==[]) v u) (z 2 (.ite (((a0.af 2).ax.length:Int)<=256) v u) (z 3 (.ret (D.b ((a0.af 2).ax==[]))) (z 4 (.call dz [D.s (a0.af 2).ax] fun I=>.ite I.bool v u) u))))) fun i o m=>.ite ((a0.af 0).int==i) (.ite ((a0.af 1).int==0) o u) m) (.ret (D.b false))) (.ret (D.b (j==(0:Int))))) ((a0.af 3).ae.length:Int)):=oE _ 0x22222123d5e13c24d14c123d13c124d5e14c24d14c124d14c121211
theorem Ro:lp oG [aj] {cj:=[(jQ,[aI,ah],[ah]),(mo,[aI],[ah]),(iQ,[aI],[aj])]} [aI] [a0] Q
 ((fun (u:D)=>.call jQ [u,D.z 0] fun I=>.ite (I.int<=512) (.call mo [u] fun A=>.ite (A.int<=16) (.call iQ [u] fun J=>.ret (D.b J.bool)) (.ret (D.b false))) (.ret (D.b false))) (dE pg aI a0)):=oP _ 0x23d3e13c22d12c1
def Hm:cK:={bB:=[⟨dz,0,16460,[0,3],[]⟩]}
def mV (a0:D)(n0:Int):av:=hdL dz 37 [(0,.ax a0.ax),(3,iO n0)] []
theorem Rp:lp dz [aj] Hm [aq] [a0] Q
 (.bz (mV a0 0)):=oP _ 0x1
theorem CW:lk dz [aj] Hm (.cY Q) (mV a0 n0)
 ((fun (k:Int)=>(fun (j:RT)=>(fun (z:RT)=>(fun (v:Int)=>(fun (q:Bool)=>(fun (p:Bool)=>(fun (u:RT)=>.ite (n0<k) (.gd (di n0 a0.ax.length) (.ite (v≥(97:Int)) (.ite q (.ite p u z) (.ite p j z)) (.ite q u j))) (.ite (k≥(1:Int)) (.ret (D.b (decide (k<=(32:Int))))) j)) (.ite (! (v<=(57:Int))) j (.ite (n0==0) j z))) (! (v<=(122:Int)))) (v≥(48:Int))) ((UInt8.toNat (a0.ax.getD n0.toNat 0)):Int)) (.bz (mV a0 (wp .i64 (n0+1))))) (.ret (D.b false))) (a0.ax.length:Int)):=oE _ 0x223d13c12124d01524d9e12c0252c3e20063006321100530052e12c0152c01524d24d312c2e0053005312c0252c24d312c200601500601521100501500501531
def Fg:cK:={bB:=[⟨fJ,0,16445,[0,3],[]⟩,⟨fJ,0,32816,[0,3,4],[]⟩]}
def uP (a0:D)(n0:Int):av:=hdL fJ 37 [(0,.bx aq a0.ae),(3,iO n0)] []
def qJ (a0:D)(n0 n1:Int):av:=hdL fJ 2341 [(0,.bx aq a0.ae),(3,iO n0),(4,iO n1)] []
theorem WM:lp fJ [aj] Fg [fY] [a0] Q
 (.bz (uP a0 0)):=oP _ 0x1
theorem FY:lk fJ [aj] Fg (.cY Q) (uP a0 n0)
 (.ite (n0<(a0.ae.length:Int)) (.bz (qJ a0 n0 0)) (.ret (D.b false))):=oE _ 0x211
theorem CX:lk fJ [aj] Fg (.cY Q) (qJ a0 n0 n1)
 (.ite (n1<n0) (.gd (di n0 a0.ae.length) (.gd (di n1 a0.ae.length) (.ite ((D.at a0.ae n0.toNat).ax==(D.at a0.ae n1.toNat).ax) (.ret (D.b true)) (.bz (qJ a0 n0 (wp .i64 (n1+1))))))) (.bz (uP a0 (wp .i64 (n0+1))))):=oE _ 0x212121211
theorem Za:lp Ab [aj] {cj:=[(dz,[aq],[aj])]} [aq,ah] [a0,a1] Q
 (.ite (a1.int==0) (.ret (D.b (a0.ax==[]))) (.call dz [D.s a0.ax] fun A=>.ret (D.b A.bool))):=oP _ 0x211
def Dr:cK:={f:=mq,rs:=[aj],cj:=[(oG,[aI],[aj])]}
@[simp] theorem aiS:Dr.f=mq/\Dr.rs=[aj]:=⟨rfl,rfl⟩
theorem Y8:lp mq [aj] Dr [aI,ah] [a0,a1] Q
 ((fun (u:RT)=>.ite ((a0.af 0).int==0) (.ite ((a0.af 1).int==0) (.ite ((a0.af 2).ax==[]) (.ite (((a0.af 3).ae.length:Int)==0) (.ret (D.b (decide (a1.int<2)))) u) u) u) u) (.ite (a1.int>0) (.call oG [dE pg aI a0] fun A=>.ret (D.b A.bool)) (.ret (D.b false)))):=oP _ 0x23dae22d12c13c23d6e22d12c13c24d322d12c14c222d12c11
def Ff:cK:={cj:=[(rJ,[ak],[aj]),(dz,[aq],[aj]),(fJ,[fY],[aj])],bB:=[⟨iZ,0,16446,[0,4,3],[(3,9)]⟩]}
def nK (a0:D)(c0:Nat)(n1:Int)(l2:List D):av:=hdL iZ 151 [(0,.bx dG a0.ae),(3,vO 0 c0),(4,iO n1)] [rO aq l2]
theorem Qj:lp iZ [aj] Ff [fw] [a0] Q
 (.ite ((a0.ae.length:Int)>64) (.ret (D.b false)) (.bz (nK a0 0 0 []))):=oP _ 0x211
theorem Al:lk iZ [aj] Ff (.cY Q) (nK a0 c0 n1 l2)
 ((fun (z:Bool)=>(fun (v:D)=>(fun (u:D)=>.ite (n1<(a0.ae.length:Int)) (.gd (di n1 a0.ae.length) (.call dz [u] fun I=>.ite (! I.bool) (.ret (D.b false)) (.call rJ [dE pg ak (v.af 1)] fun A=>.ite (! A.bool) (.ret (D.b false)) (.gd (z&&(bh 16 (c0+1))) (.bz (nK a0 (c0+1) (wp .i64 (n1+1)) (l2++[u]))))))) (.gd z (.call fJ [D.r l2] fun J=>.ret (D.b (! J.bool))))) (D.s (v.af 0).ax)) (D.at a0.ae n1.toNat)) (c0=l2.length)):=oE _ 0x22112122d0155d2025321117c31
theorem acQ:lp GI [aj] {cj:=[(nj,[aQ],[ah,bn])]} [aQ] [a0] Q
 (.call nj [D.r a0.ae] fun A=>.ret (D.b ((A.af 1).int==0))):=oP _ 0x1
def Pd:cK:={cj:=[(mu,[ak],[dH])],bB:=[⟨mu,0,16420,[1,4,3],[(3,25)]⟩]}
def uU (a0:D)(c0:Nat)(n1:Int)(l2:List D):av:=hdL mu 151 [(1,pO 0),(3,vO 1 c0),(4,iO n1)] [cO ak (aH pg ak a0),rO bW l2]
theorem Zc:lp mu [dH] Pd [ak] [a0] Q
 (.ite ((a0.af 0).int==4) (.ret (D.r [D.z (a0.af 4).int])) (.bz (uU a0 0 0 []))):=oP _ 0x2131
theorem F0:lk mu [dH] Pd (.cY Q) (uU a0 c0 n1 l2)
 ((fun (u:Bool)=>.ite (n1<((a0.af 3).ae.length:Int)) (.gd (di n1 (a0.af 3).ae.length) (.call mu [dE pg ak (D.at (a0.af 3).ae n1.toNat)] fun A=>.gd (u&&(bh 8 (c0+A.ae.length))) (.bz (uU a0 (c0+A.ae.length) (wp .i64 (n1+1)) (l2++A.ae))))) (.gd u (.ret (D.r l2)))) (c0=l2.length)):=oE _ 0x221121211
end
section
variable {a0:D} {Q:D->Prop} {n0 n1:Int} {m1:List (D×D)} {st2:List Nat} {c3 c0:Nat} {l2:List D}
def R3:cK:={bB:=[⟨oF,0,16428,[3,7,8,9],[]⟩]}
def uH (a0:D)(n0:Int)(m1:List (D×D))(st2:List Nat)(c3:Nat):av:=hdL oF 75 [(3,.map 0),(7,.bx aq a0.ae),(8,iO (a0.ae.length:Int)),(9,iO n0)] [.cd aq (.data ah) m1 st2 c3]
theorem acM:lp oF [aj] R3 [fY] [a0] Q
 (.bz (uH a0 0 [] [] 0)):=oP _ 0x1
theorem KB:lk oF [aj] R3 (.cY Q) (uH a0 n0 m1 st2 c3)
 ((fun (q:D->RT->RT)=>(fun (p:Int)=>(fun (u:D)=>(fun (k:RT)=>(fun (j:List (D×D))=>(fun (v:RT)=>.ite (n0<(a0.ae.length:Int)) (.gd (di n0 a0.ae.length) (.ite (D.i7 m1 u) (.ite (D.i7 j u) (q (D.val j u) v) v) (.ite (D.i7 (m1++[(u,D.z 1)]) u) (q (D.val (m1++[(u,D.z 1)]) u) k) k))) (.ret (D.b false))) (.bz (uH a0 p j st2 c3))) (D.mC m1 u (D.z (wp .i64 ((D.val m1 u).int+1))))) (.bz (uH a0 p (m1++[(u,D.z 1)]) (st2++[c3]) (c3+1)))) (D.s (D.at a0.ae n0.toNat).ax)) (wp .i64 (n0+1))) fun i o=>.ite (i.int>1) (.ret (D.b true)) o):=oE _ 0x21212006231211005231211
def JD:cK:={cj:=[(lF,[ak],[aj]),(dj,[aq],[aj]),(oF,[fY],[aj])],bB:=[⟨lA,0,16439,[9,10,11,3],[(3,aq)]⟩]}
def qH (a0:D)(c0:Nat)(n1:Int)(l2:List D):av:=hdL lA 151 [(3,vO 0 c0),(9,.bx dG a0.ae),(10,iO (a0.ae.length:Int)),(11,iO n1)] [rO aq l2]
theorem Ua:lp lA [aj] JD [fw] [a0] Q
 (.ite ((a0.ae.length:Int)>64) (.ret (D.b false)) (.bz (qH a0 0 0 []))):=oP _ 0x211
theorem CU:lk lA [aj] JD (.cY Q) (qH a0 c0 n1 l2)
 ((fun (z:Bool)=>(fun (v:D)=>(fun (u:D)=>.ite (n1<(a0.ae.length:Int)) (.gd (di n1 a0.ae.length) (.call dj [u] fun I=>.ite (! I.bool) (.ret (D.b false)) (.call lF [dE pg ak (v.af 1)] fun A=>.ite (! A.bool) (.ret (D.b false)) (.gd (z&&(bh 16 (c0+1))) (.bz (qH a0 (c0+1) (wp .i64 (n1+1)) (l2++[u]))))))) (.gd z (.call oF [D.r l2] fun J=>.ret (D.b (! J.bool))))) (D.s (v.af 0).ax)) (D.at a0.ae n1.toNat)) (c0=l2.length)):=oE _ 0x22112124d2321114c31
end
section
variable {y a0:D} {m k n0 n1:Int} {Q:D->Prop} {l:List D}
def tj:cK:={f:=nh,rs:=[aj],bK:=some 1,cj:=[(dj,[aq],[aj])],bJ:=[(eK,hC)]}
@[simp] theorem ahb:tj.f=nh/\tj.rs=[aj]:=⟨rfl,rfl⟩
theorem WE:lh nh [aj] tj (sM y m k) (sQ y m k) 1 gr Q
 ((fun (t:Int)=>(fun (q:Int->RT->Int->RT->RT->RT)=>(fun (p:Int->aE)=>(fun (j:Bool->RT)=>(fun (z:Int->Bool->RT->RT)=>(fun (v:Bool->RT->RT)=>(fun (u:Int->Bool->RT->RT)=>.ite (t<(0:Int)) (j false) (z 1 ((y.af 1).int !=0) (z 3 (((y.af 3).ae.length:Int)>0) (u 2 ((y.af 0).int !=4) (v (! ((y.af 2).ax==[])) (j false)))))) fun i o x=>v ((y.af 0).int !=i) (v o x)) fun i o=>.ite i o (q 1 (j true) 2 (j (((y.af 2).ax.length:Int)<=256)) (q 4 (.call dj [D.s (y.af 2).ax] fun I=>j I.bool) 3 (.ite ((k:Int)>0) (.au eK [.bx aI (y.af 3).ae,.func (.func wH) [] [pO 0,pO 1]] [(0,cO Ld [pO 2]),(1,p k),(2,p t)] 3 fun A=>.aT (.bool (! (A.af 0).bool)) [(0,p (A.af 1).int)]) (j false)) (j false)))) fun i o x=>.ite ((y.af 0).int !=i) (.ite o (j false) x) x) fun i=>.aT (.bool i) [(0,p t)]) fun i=>cO ah [iO i]) fun i o x g h=>.ite ((y.af 0).int==i) o (.ite ((y.af 0).int==x) g h)) (wp .i64 (m-1))):=oH _ 0x23d22d0160060164e23d30065e22d30068e2222125d15c11112c3005322d30062e2222125d15c11112c3005322222125d15c111113c3005323d22d0160060163e016301632222125d15c11112c01600501622d02600602632222125d15c11112c02600502622222125d15c111117c312c01600501623d23d0160060164e22d30068e2222125d15c11112c3005322d30062e2222125d15c11112c3005322222125d15c111113c01600501623d22d0160060163e016301632222125d15c11112c01600501622d02600602632222125d15c11112c02600502622222125d15c111117c315c9e15cfe1
def yi:cK:={bK:=some 3,bJ:=[(nh,gr)],bB:=[⟨jD,0,16423,[0,1,7,8],[]⟩]}
def jL (l:List D)(m k:Int)(n0 n1:Int):av:=hdL jD 37 [(0,.bx aI l),(1,.func (.func wH) [] [pO 0,pO 1]),(7,iO (l.length:Int)),(8,iO n0)] [cO Ld [pO 2],cO ah [iO k],cO ah [iO n1]]
theorem G9:lh jD [ah] yi (jC l m k) (eC l m k) 3 q8 Q
 (.bz (jL l m k 0 m)):=oH _ 0x1
theorem vn:lk jD [ah] yi (.bK 3 (q8 (jC l m k) (eC l m k)) Q) (jL l m k n0 n1)
 ((fun (v:Int->aE)=>(fun (u:Int->Int->RT)=>.ite (n0<(l.length:Int)) (.gd (di n0 l.length) (.au nh [.agg (aH pg aI (D.at l n0.toNat)),pO 0,iO (wp .i64 (k-1))] [(0,v n1)] 1 fun A=>.ite (! (A.af 0).bool) (u n0 (A.af 1).int) (.bz (jL l m k (wp .i64 (n0+1)) (A.af 1).int)))) (u (-1) n1)) fun i o=>.aT (iO i) [(0,cO Ld [pO 2]),(1,v k),(2,v o)]) fun i=>cO ah [iO i]):=oE _ 0x2121211
def Dq:cK:={bK:=some 3,bJ:=[(eG,jY)]}
theorem DY:lh Dv [aj] Dq (jC l m k) (eC l m k) 3 Dh Q
 ((fun (u:Int->List (Nat×aE))=>.au eG [.bx aI l,.func (.func wH) [] [pO 0,pO 1]] (u m) 3 fun A=>.aT (.bool ((A.af 0).int≥0)) (u (A.af 1).int)) fun i=>[(0,cO Ld [pO 2]),(1,cO ah [iO k]),(2,cO ah [iO i])]):=oH _ 0x1
theorem Wv:lp eL [aj] {bJ:=[(nh,gr)]} [aI] [a0] Q
 (.au nh [.agg (aH pg aI a0),pO 0,iO 16] [(0,cO ah [iO 512])] 1 fun A=>.ret (D.b (A.af 0).bool)):=oP _ 0x1
end
section
variable {a0:D} {Q:D->Prop} {l:List D} {n0:Int}
theorem afK:lp pT [aj] {} [aI] [a0] Q
 ((fun (u:RT)=>.ite ((a0.af 0).int==0) (.ite ((a0.af 1).int==0) (.ite ((a0.af 2).ax==[]) (.ret (D.b (((a0.af 3).ae.length:Int)==0))) u) u) u) (.ret (D.b false))):=oP _ 0x23d9e13c23d5e13c24d14c1
theorem Y2:lp iB [aj] {cj:=[(pT,[aI],[aj]),(eL,[aI],[aj])]} [aI] [a0] Q
 (.call pT [dE pg aI a0] fun I=>.ite I.bool (.ret (D.b true)) (.call eL [dE pg aI a0] fun A=>.ret (D.b A.bool))):=oP _ 0x22d12c1
def zS:cK:={bK:=some 0,cj:=[(dj,[aq],[aj])],bB:=[⟨gh,0,16423,[0,1,7,8],[]⟩]}
def kJ (l:List D)(n0:Int):av:=hdL gh 37 [(0,.bx aq l),(1,.func (.func A6) [] []),(7,iO (l.length:Int)),(8,iO n0)] []
theorem I2:lh gh [ah] zS (j9 l) [] 0 dy Q
 (.bz (kJ l 0)):=oH _ 0x1
theorem vR:lk gh [ah] zS (.bK 0 (dy (j9 l) []) Q) (kJ l n0)
 (.ite (n0<(l.length:Int)) (.gd (di n0 l.length) (.call dj [D.s (D.at l n0.toNat).ax] fun A=>.ite (! A.bool) (.aT (iO n0) []) (.bz (kJ l (wp .i64 (n0+1)))))) (.aT (iO (-1)) [])):=oE _ 0x2121211
def EH:cK:={bK:=some 0,bJ:=[(gh,dy)]}
theorem EN:lh kH [aj] EH (j9 l) [] 0 bg Q
 (.au gh [.bx aq l,.func (.func A6) [] []] [] 0 fun A=>.aT (.bool (A.int≥0)) []):=oH _ 0x1
theorem Ww:lp AZ [aJ,aj] {cj:=[(dj,[aq],[aj]),(iB,[aI],[aj])]} [aJ] [a0] Q
 ((fun (j:D)=>(fun (v:D)=>(fun (u:D)=>.call dj [v] fun I=>.ite I.bool (.call iB [j] fun A=>.ret (D.r [u,D.b A.bool])) (.ret (D.r [u,D.b false]))) (D.r [D.z 0,v,D.s [],D.z 0,D.z 0,j,D.r [D.z 0,D.z 0,D.s [],D.r []],D.r [],D.r [],D.r [],D.r []])) (D.s (a0.af 1).ax)) (dE pg aI (a0.af 5))):=oP _ 0x4422d4400612c440051
theorem Wx:lp A0 [aJ,aj] {cj:=[(Og,[ot],[aj]),(dj,[aq],[aj]),(pT,[aI],[aj]),(iB,[aI],[aj]),(eL,[aI],[aj])]} [aJ] [a0] Q
 ((fun (p:Nat->D)=>(fun (k:D)=>(fun (j:D)=>(fun (v:D)=>(fun (u:RT)=>.call dj [k] fun A=>.ite A.bool (.call Og [j] fun U=>.ite U.bool (.call eL [p 5] fun I=>.ite I.bool (.call iB [p 6] fun J=>.ite J.bool (.call pT [p 6] fun O=>.ite O.bool (.ret (D.r [v,D.b true])) (.ite ((a0.af 3).int !=1) (.ret (D.r [v,D.b ((a0.af 3).int !=32)])) u)) u) u) u) u) (.ret (D.r [v,D.b false]))) (D.r [D.z 0,k,D.s [],j,D.z 0,p 5,p 6,D.r [],D.r [],D.r [],D.r []])) (D.z (a0.af 3).int)) (D.s (a0.af 1).ax)) fun i=>dE pg aI (a0.af i)):=oP _ 0x23dbe44443e13c23d7e44443e13c23d3e44443e13c22d44443d12c444400523d22d0160060250160252d12c0160050250160250054005414c0150050151
theorem Wy:lp A1 [aJ,aj] {cj:=[(dj,[aq],[aj]),(eL,[aI],[aj])]} [aJ] [a0] Q
 ((fun (k:Nat->D)=>(fun (j:D)=>(fun (v:D)=>(fun (u:RT)=>.call dj [j] fun A=>.ite A.bool (.call eL [k 5] fun J=>.ite J.bool (.call eL [k 6] fun I=>.ret (D.r [v,D.b I.bool])) u) u) (.ret (D.r [v,D.b false]))) (D.r [D.z 0,j,D.s [],D.z 0,D.z 0,k 5,k 6,D.r [],D.r [],D.r [],D.r []])) (D.s (a0.af 1).ax)) fun i=>dE pg aI (a0.af i)):=oP _ 0x44422d4440063e444312c44400522d44400612c4440051
theorem Wz:lp A2 [aJ,aj] {cj:=[(iB,[aI],[aj])]} [aJ] [a0] Q
 ((fun (v:Nat->D)=>(fun (u:D)=>.call iB [v 5] fun I=>.ite I.bool (.call iB [v 6] fun A=>.ret (D.r [u,D.b A.bool])) (.ret (D.r [u,D.b false]))) (D.r [D.z 0,D.s [],D.s [],D.z 0,D.z 0,v 5,v 6,D.r (a0.af 7).ae,D.r (a0.af 8).ae,D.r [],D.r []])) fun i=>dE pg aI (a0.af i)):=oP _ 0x444422d444400612c44440051
theorem WA:lp A3 [aJ,aj] {cj:=[(wG,[ot],[aj]),(eL,[aI],[aj])]} [aJ] [a0] Q
 ((fun (j:D)=>(fun (v:D)=>(fun (u:D)=>.call eL [j] fun I=>.ite I.bool (.call wG [v] fun A=>.ret (D.r [u,D.b A.bool])) (.ret (D.r [u,D.b false]))) (D.r [D.z 0,D.s [],D.s [],v,D.z 0,j,D.r [D.z 0,D.z 0,D.s [],D.r []],D.r (a0.af 7).ae,D.r (a0.af 8).ae,D.r [],D.r []])) (D.z (a0.af 3).int)) (dE pg aI (a0.af 5))):=oP _ 0x444422d444400612c44440051
theorem WB:lp A4 [aJ,aj] {cj:=[(iB,[aI],[aj])]} [aJ] [a0] Q
 ((fun (u:D)=>.call iB [u] fun A=>.ret (D.r [D.r [D.z 0,D.s [],D.s [],D.z 0,D.z 0,u,D.r [D.z 0,D.z 0,D.s [],D.r []],D.r [],D.r [],D.r [],D.r []],D.b A.bool])) (dE pg aI (a0.af 5))):=oP _ 0x41
theorem WC:lp xy [aJ,aj] {} [aJ] [a0] Q
 ((fun (u:D)=>.ret (D.r [D.r [D.z 0,D.s [],D.s [],D.z 0,D.z 0,u,u,D.r [],D.r [],D.r [],D.r []],D.b true])) (D.r [D.z 0,D.z 0,D.s [],D.r []])):=oP _ 0x1
theorem WD:lp A5 [aJ,aj] {cj:=[(dj,[aq],[aj]),(eL,[aI],[aj])]} [aJ] [a0] Q
 ((fun (j:D)=>(fun (v:D)=>(fun (u:D)=>.call dj [v] fun I=>.ite I.bool (.call eL [j] fun A=>.ret (D.r [u,D.b A.bool])) (.ret (D.r [u,D.b false]))) (D.r [D.z 0,v,D.s [],D.z 0,D.z 0,j,D.r [D.z 0,D.z 0,D.s [],D.r []],D.r [],D.r [],D.r [],D.r []])) (D.s (a0.af 1).ax)) (dE pg aI (a0.af 5))):=oP _ 0x4422d4400612c440051
end
section
variable {a0:D} {Q:D->Prop}
theorem acL:lp GF [aJ,aj] {cj:=[(wG,[ot],[aj]),(dj,[aq],[aj]),(oF,[fY],[aj]),(iB,[aI],[aj]),(eL,[aI],[aj])],bJ:=[(kH,bg)]} [aJ] [a0] Q
 ((fun (vt:D->RT)=>(fun (V:Int->RT->RT->RT)=>(fun (O:D)=>(fun (Z:D->Nat->D->RT->RT->RT)=>(fun (ux:Int->RT->Int->RT->Int->RT->RT->RT)=>(fun (vp:D)=>(fun (vk:D)=>(fun (vj:D)=>(fun (U:D)=>(fun (Y:D)=>(fun (J:D)=>(fun (I:D)=>(fun (p:D)=>(fun (uq:D)=>(fun (up:D)=>(fun (uk:D)=>(fun (uj:D)=>(fun (uz:D)=>(fun (uv:D)=>(fun (uu:RT)=>(fun (t:RT)=>(fun (q:RT)=>(fun (k:RT)=>(fun (v:RT)=>(fun (u:RT)=>.call dj [I] fun A=>(fun (uh:RT)=>(fun (j:RT)=>ux 1 (.ite A.bool (.call iB [O] fun d1=>vt (D.r [uj,D.b d1.bool])) (vt (D.r [uj,U]))) 2 j 3 j (ux 4 j 8 j 14 (Z A eL O (.call wG [vp] fun d3=>vt (D.r [uv,D.b d3.bool])) uu) (ux 15 uh 16 uh 5 (Z A dj Y t v) (V 10 (Z A dj Y t v) (V 12 (.ite A.bool (.ite (((a0.af 10).ae.length:Int)<=64) (.au kH [.bx aq (a0.af 10).ae,.func (.func A6) [] []] [] 0 fun a7=>.ite (! a7.bool) (.call oF [vk] fun a6=>vt (D.r [uk,D.b (! a6.bool)])) k) k) k) (vt (D.r [uq,U]))))))) (vt (D.r [uq,D.b A.bool]))) (Z A eL O (.call dj [Y] fun d5=>.ite d5.bool q u) u)) (vt (D.r [uz,U]))) (vt (D.r [up,U]))) (vt (D.r [uk,U]))) (vt (D.r [uz,vj]))) (vt (D.r [up,vj]))) (vt (D.r [uv,U]))) (D.r [D.z 0,I,D.s [],vp,J,O,p,D.r [],D.r [],D.r [],D.r []])) (D.r [D.z 0,I,Y,D.z 0,J,O,p,D.r [],D.r [],D.r [],D.r []])) (D.r [D.z 0,I,D.s [],D.z 0,J,O,p,D.r [],D.r [],D.r [],D.r []])) (D.r [D.z 0,I,D.s [],D.z 0,J,p,p,D.r [],D.r [],D.r (a0.af 9).ae,vk])) (D.r [D.z 0,I,Y,D.z 0,J,p,p,D.r [],D.r [],D.r [],D.r []])) (D.r [D.z 0,I,D.s [],D.z 0,J,p,p,D.r [],D.r [],D.r [],D.r []])) (D.r [D.z 0,D.z 0,D.s [],D.r []])) (D.s (a0.af 1).ax)) (D.z (a0.af 4).int)) (D.s (a0.af 2).ax)) (D.b false)) (D.b (! ((a0.af 2).ax==(a0.af 1).ax)))) (D.r (a0.af 10).ae)) (D.z (a0.af 3).int)) fun i o m x g h e=>V i o (V m x (V g h e))) fun i o m x g=>.ite i.bool (.call o [m] fun d5=>.ite d5.bool x g) g) (dE pg aI (a0.af 5))) fun i o m=>.ite ((a0.af 4).int==i) o m) fun i=>.ret i):=oP _ 0x222222222221424d3e45e42e14c22d42d3e42e12c42c22d42d12c42c122d40069e12c400528d16c400540054100522d40069e12c400528d16c4005400541422d40063e4ae12c400522d40069e12c400528d16c4005400541005422d40063e4ae12c400522d40069e12c400528d16c4005400541422d40063e4312c400522d400612c40051100510051005122d400612c40051
end
section
variable {a0:D} {Q:D->Prop}
set_option maxHeartbeats 8000000 in
theorem ahZ:lp Oj [aj] {cj:=[(pT,[aI],[aj]),(GF,[aJ],[aJ,aj]),(AZ,[aJ],[aJ,aj]),(A0,[aJ],[aJ,aj]),(A1,[aJ],[aJ,aj]),(A2,[aJ],[aJ,aj]),(A3,[aJ],[aJ,aj]),(A4,[aJ],[aJ,aj]),(xy,[aJ],[aJ,aj]),(A5,[aJ],[aJ,aj])]} [aJ] [a0] Q
 ((fun (t:D->List D)=>(fun (q:D->Int)=>(fun (z:RT)=>(fun (v:Int->Nat->RT->RT)=>(fun (u:Int->Nat->Int->Nat->Int->Nat->RT->RT)=>u 1 AZ 2 A0 3 GF (u 4 A1 5 A2 6 A3 (u 7 A4 8 xy 9 A5 z))) fun i o m x g h e=>v i o (v m x (v g h e))) fun i o m=>.ite ((a0.af 0).int==i) (.call o [dE pg aJ a0] fun A=>(fun (k:Nat->D)=>(fun (p:Bool->Nat->Bool->Nat->RT->RT)=>(fun (j:Nat->RT->RT)=>p (A.af 1).bool 1 (! ((a0.af 2).ax==(k 2).ax)) 3 (.ite ((a0.af 4).int !=(k 4).int) z (.call pT (t (k 5)) fun I=>.call pT (t (a0.af 5)) fun O=>.ite (! (I.bool==O.bool)) z (.call pT (t (k 6)) fun U=>.call pT (t (a0.af 6)) fun J=>.ite (! (U.bool==J.bool)) z (j 7 (j 8 (j 9 (.ret (D.b ((q (k 10))==(q (a0.af 10)))))))))))) fun i o=>.ite ((q (k i))==(q (a0.af i))) o z) fun i o m x g=>.ite (! i) z (.ite (! ((a0.af o).ax==(k o).ax)) z (.ite m z (.ite ((a0.af x).int !=(k x).int) z g)))) fun i=>(A.af 0).af i) m) (.ret (D.b false))) fun i=>(i.ae.length:Int)) fun i=>[dE pg aI i]):=oP _ 0x422222222231325d25d25d25d2425d43d227d10917c27d8e17c27d17c118c3115c315c7e15cde15c1391325d25d25d25d2425d43d227d10917c27d8e17c27d17c118c3115c315c7e15cde15c1391325d25d25d25d2425d43d227d10917c27d8e17c27d17c118c3115c315c7e15cde15c1391325d25d25d25d2425d43d227d10917c27d8e17c27d17c118c3115c315c7e15cde15c1391325d25d25d25d2425d43d227d10917c27d8e17c27d17c118c3115c315c7e15cde15c1391325d25d25d25d2425d43d227d10917c27d8e17c27d17c118c3115c315c7e15cde15c1391325d25d25d25d2425d43d227d10917c27d8e17c27d17c118c3115c315c7e15cde15c1391325d25d25d25d2425d43d227d10917c27d8e17c27d17c118c3115c315c7e15cde15c1391325d25d25d25d2425d43d227d10917c27d8e17c27d17c118c3115c315c7e15cde15c1391
end
section
variable {a0:D} {Q:D->Prop}
theorem Y9:lp Dy [gn,aj] {} [aJ] [a0] Q
 ((fun (J:Bool->RT->Bool->D->Bool->D->RT->RT)=>(fun (A:Nat->Int->RT->RT->RT)=>(fun (I:Int->RT->Int->RT->Int->RT->RT->RT)=>(fun (j:Int)=>(fun (v:D)=>(fun (O:D)=>(fun (t:D)=>(fun (q:RT)=>(fun (p:RT)=>(fun (k:RT)=>(fun (u:RT)=>.ite (j==(1:Int)) (.ret (D.r [D.r [D.z 2,D.z 0,D.z 1,D.z 0,D.z 0,v,v,v],D.b true])) (.ite (j==(2:Int)) (A 3 1 q (A 3 32 q (.ret (D.r [D.r [D.z 2,D.z 0,D.z 2,D.z 1,D.z 1,v,v,v],D.b true])))) (J (j==(3:Int)) (I 1 (.ret (D.r [D.r [D.z 2,D.z 0,D.z 1,D.z 0,D.z 0,D.b true,v,v],D.b true])) 2 u 3 u (I 4 u 8 u 14 (.ret (D.r [D.r [D.z 2,D.z 0,D.z 2,D.z 0,D.z 2,D.b true,v,v],D.b true])) (I 15 k 16 k 5 p (A 4 10 p (A 4 12 (.ret (D.r [D.r [D.z 2,D.z 0,D.z 0,D.z 0,D.z 0,D.b true,v,D.b true],D.b true])) (.ret (D.r [t,v]))))))) (j==(4:Int)) (D.r [D.r [D.z 2,D.z 0,D.z 2,D.z 2,D.z 0,v,v,v],D.b true]) (j==(5:Int)) (D.r [D.r [D.z 0,D.z 0,D.z 1,D.z 1,D.z 0,v,D.b true,v],D.b true]) (J (j==(6:Int)) (.ret (D.r [D.r [D.z 0,D.z 0,D.z 2,D.z 0,D.z 2,v,D.b true,v],D.b true])) (j==(7:Int)) (D.r [D.r [D.z 0,D.z 0,D.z 1,D.z 0,D.z 0,v,v,v],D.b true]) (j==(8:Int)) (D.r [O,D.b true]) (.ite (j==(9:Int)) (.ret (D.r [D.r [D.z 2,D.z 0,D.z 2,D.z 0,D.z 0,v,v,v],D.b true])) (.ret (D.r [O,v]))))))) (.ret (D.r [t,D.b true]))) (.ret (D.r [D.r [D.z 2,D.z 2,D.z 2,D.z 0,D.z 0,D.b true,v,v],D.b true]))) (.ret (D.r [D.r [D.z 2,D.z 2,D.z 0,D.z 0,D.z 0,D.b true,v,v],D.b true]))) (.ret (D.r [D.r [D.z 2,D.z 0,D.z 2,D.z 0,D.z 1,v,v,v],D.b true]))) (D.r [D.z 2,D.z 0,D.z 0,D.z 0,D.z 0,D.b true,v,v])) (D.r [D.z 0,D.z 0,D.z 0,D.z 0,D.z 0,v,v,v])) (D.b false)) (wp .i64 (a0.af 0).int)) fun i o m x g h e=>A 4 i o (A 4 m x (A 4 g h e))) fun i o m x=>.ite ((a0.af i).int==o) m x) fun i o m x g h e=>.ite i o (.ite m (.ret x) (.ite g (.ret h) e))):=oP _ 0x22222222211111112222222222211100511005111005100510051123d2113c311
end
section
variable {a0:D} {Q:D->Prop} {n0:Int}
def R5:cK:={bB:=[⟨tq,0,16418,[0,3],[]⟩]}
def yP (a0:D)(n0:Int):av:=hdL tq 37 [(0,iU a0.int),(3,iO n0)] []
theorem acR:lp tq [aj] R5 [ot] [a0] Q
 (.bz (yP a0 0)):=oP _ 0x1
theorem KF:lk tq [aj] R5 (.cY Q) (yP a0 n0)
 (.ite (n0<6) (.gd (0<=n0) (.ite (a0.int==(wp .u8 (1*(2^(min n0.toNat 8))))) (.ret (D.b true)) (.bz (yP a0 (wp .i64 (n0+1)))))) (.ret (D.b false))):=oE _ 0x2121211
end
section
variable {a0 y0:D} {Q:D->Prop} {n0:Int}
def nB:cK:={f:=cB,rs:=[aj],cj:=[(dz,[aq],[aj]),(fJ,[fY],[aj]),(Ab,[aq,ah],[aj]),(mq,[aI,ah],[aj]),(Dy,[aJ],[gn,aj]),(tq,[ot],[aj])],bB:=[⟨cB,0,16424,[1,5],[]⟩],abU:=[⟨cB,0,4240,[1,3],[]⟩,⟨cB,0,4177,[1,3],[]⟩,⟨cB,0,4157,[1],[]⟩]}
@[simp] theorem aiR:nB.f=cB/\nB.rs=[aj]:=⟨rfl,rfl⟩
def wQ (a0 y0:D):av:=hdL cB 15 [(1,pO 0),(3,pO 1)] [cO aJ (aH pg aJ a0),cO gn (aH pg gn y0)]
def gI (a0 y0:D):av:=hdL cB 31 [(1,pO 0),(3,pO 1)] [cO aJ (aH pg aJ a0),cO gn (aH pg gn y0)]
def BU (a0:D):av:=hdL cB 63 [(1,pO 0)] [cO aJ (aH pg aJ a0)]
def sr (a0:D)(n0:Int):av:=hdL cB 1215 [(1,pO 0),(5,iO n0)] [cO aJ (aH pg aJ a0)]
theorem Y5:lp cB [aj] nB [aJ] [a0] Q
 ((fun (k:RT)=>.call Dy [dE pg aJ a0] fun A=>(fun (j:Nat->D->Nat->RT->RT)=>(fun (v:Nat->Nat->RT->RT)=>(fun (p:RT)=>(fun (u:Bool->RT->Nat->Nat->RT->RT)=>.ite (! (A.af 1).bool) k (j Ab (D.s (a0.af 1).ax) 0 (j Ab (D.s (a0.af 2).ax) 1 (u (((A.af 0).af 1).int>0) (u ((a0.af 2).ax==(a0.af 1).ax) k 5 2 p) 5 2 p)))) fun i o m x g=>.ite i o (v m x g)) (v 6 3 (.bz (wQ a0 (A.af 0))))) fun i o m=>j mq (dE pg aI (a0.af i)) o m) fun i o m x=>.call i [o,D.z ((A.af 0).af m).int] fun I=>.ite (! I.bool) k x) (.ret (D.b false))):=oP _ 0x26d26d23d24d0160060167e26d2116c314c01600501626d26d2116c316c8e15cfe16c15916c1c91
theorem RA:lk cB [aj] nB (.cY Q) (wQ a0 y0)
 ((fun (q:D)=>(fun (p:RT)=>(fun (k:RT)=>(fun (j:RT)=>(fun (v:RT)=>(fun (u:RT)=>(fun (t:RT)=>.ite ((y0.af 4).int==0) (.ite ((a0.af 3).int !=0) k t) t) (.ite ((y0.af 4).int==1) (.call tq [q] fun A=>.ite (! A.bool) k u) u)) (.ite ((y0.af 4).int==2) (.ite ((a0.af 3).int>63) k v) v)) (.ite (! (y0.af 5).bool) (.ite ((a0.af 4).int !=0) k j) j)) (.ite (! (y0.af 6).bool) (.ite ((wp .i64 (((a0.af 7).ae.length:Int)+((a0.af 8).ae.length:Int)))>0) k p) p)) (.ret (D.b false))) (.bz (gI a0 y0))) (D.z (a0.af 3).int)):=oE _ 0x23d4e23d30065e22d30065e22d30065e27d30062e17c300532112c3005323d27d016006016317c0160050162115c312c3005323d22d0160060164e27d30062e17c300532112c01600501623d27d016006016317c0160050162115c315c7e13c3005323d22d0160060164e22d30065e27d30062e17c300532112c3005323d27d016006016317c0160050162115c312c01600501623d22d0160060164e27d30062e17c300532112c01600501623d27d016006016317c0160050162115c315c7e15cde13c23d23d0160060164e22d30065e22d30065e27d30062e17c300532112c3005323d27d016006016317c0160050162115c312c3005323d22d0160060164e27d30062e17c300532112c01600501623d27d016006016317c0160050162115c315c7e13c01600501623d22d0160060164e22d30065e27d30062e17c300532112c3005323d27d016006016317c0160050162115c312c01600501623d22d0160060164e27d30062e17c300532112c01600501623d27d016006016317c0160050162115c315c7e15cde15c1391
theorem RB:lk cB [aj] nB (.cY Q) (gI a0 y0)
 (.ite (! (y0.af 7).bool) (.ret (D.b ((wp .i64 (((a0.af 9).ae.length:Int)+((a0.af 10).ae.length:Int)))==0))) (.bz (BU a0))):=oE _ 0x211
theorem RC:lk cB [aj] nB (.cY Q) (BU a0)
 (.ite (((a0.af 10).ae.length:Int)>64) (.ret (D.b false)) (.call fJ [D.r (a0.af 10).ae] fun A=>.ite A.bool (.ret (D.b false)) (.bz (sr a0 0)))):=oE _ 0x23d2113c31
theorem Ep:lk cB [aj] nB (.cY Q) (sr a0 n0)
 (.ite (n0<((a0.af 10).ae.length:Int)) (.gd (di n0 (a0.af 10).ae.length) (.call dz [D.s (D.at (a0.af 10).ae n0.toNat).ax] fun A=>.ite (! A.bool) (.ret (D.b false)) (.bz (sr a0 (wp .i64 (n0+1)))))) (.ret (D.b true))):=oE _ 0x2121211
end
section
variable {l l5:List D} {dp n Lz er n0 n1 n2 n3 n4:Int} {Q:D->Prop} {a0:D}
def O1:cK:={bK:=some 3,cj:=[(Oj,[aJ],[aj])],bJ:=[(km,rv)],bB:=[⟨km,0,16488,[3,2,1,14,15,16],[]⟩,⟨km,0,32815,[3,2,1,44,14,15,16,45,46],[]⟩]}
def Be (l:List D)(dp n:Int)(Lz er:Int)(n0 n1:Int)(n2 n3:Int):av:=hdL km 37 [(1,iO dp),(2,pO 0),(3,.func (.func xx) [] [pO 1,pO 2]),(14,.bx aJ l),(15,iO (l.length:Int)),(16,iO n0)] [cO ah [iO n1],cO ah [iO n2],cO bn [iO n3]]
def uJ (l:List D)(dp n:Int)(Lz er:Int)(n0 n1:Int)(n2 n3 n4:Int)(l5:List D):av:=hdL km 81509 [(1,iO dp),(2,pO 0),(3,.func (.func xx) [] [pO 1,pO 2]),(14,.bx aJ l),(15,iO (l.length:Int)),(16,iO n4),(44,vO 3 3),(45,iO 3),(46,iO n0)] [cO ah [iO n1],cO ah [iO n2],cO bn [iO n3],rO aQ l5]
theorem afL:lh km [aj] O1 (xk l dp n Lz er) (xl l dp n Lz er) 3 rv Q
 (.bz (Be l dp n Lz er 0 n Lz er)):=oH _ 0x1
theorem Ng:lk km [aj] O1 (.bK 3 (rv (xk l dp n Lz er) (xl l dp n Lz er)) Q) (Be l dp n Lz er n0 n1 n2 n3)
 ((fun (j:Int->Nat->aE)=>(fun (z:D)=>(fun (v:Int)=>(fun (u:Bool->Int->Int->Int->RT)=>.ite (n0<(l.length:Int)) (.gd (di n0 l.length) (.ite (n1>512) (u false v n2 n3) (.ite (n1==512) (u false v n1 4) (.call Oj [dE pg aJ z] fun A=>.ite (! A.bool) (u false v n1 160) (.ite (! (n3==0)) (u false v n2 n3) (.bz (uJ l dp n Lz er 0 v n2 n3 n0 [D.r (z.af 7).ae,D.r (z.af 8).ae,D.r (z.af 9).ae]))))))) (u true n1 n2 n3)) fun i o m x=>.aT (.bool i) [(0,j o ah),(1,j m ah),(2,j x bn)]) (wp .i64 (n1+1))) (D.at l n0.toNat)) fun i o=>cO o [iO i]):=oE _ 0x212124d220202b2110202b310201b316c31
theorem FU:lk km [aj] O1 (.bK 3 (rv (xk l dp n Lz er) (xl l dp n Lz er)) Q) (uJ l dp n Lz er n0 n1 n2 n3 n4 l5)
 ((fun (u:Int->Nat->aE)=>.ite (n0<3) (.gd (di n0 3) (.gd (n0.toNat<l5.length) (.au km [.bx aJ (D.at l5 n0.toNat).ae,iO (wp .i64 (dp+1)),pO 0,.func (.func xx) [] [pO 1,pO 2]] [(0,u n1 ah),(1,u n2 ah),(2,u n3 bn)] 3 fun A=>.ite (! (A.af 0).bool) (.aT (.bool false) [(0,u (A.af 1).int ah),(1,u (A.af 2).int ah),(2,u (A.af 3).int bn)]) (.bz (uJ l dp n Lz er (wp .i64 (n0+1)) (A.af 1).int (A.af 2).int (A.af 3).int n4 l5))))) (.bz (Be l dp n Lz er (wp .i64 (n4+1)) n1 n2 n3))) fun i o=>cO o [iO i]):=oE _ 0x212121211
theorem acJ:lp GD [ah,bn] {bJ:=[(km,rv)]} [aQ] [a0] Q
 ((fun (v:BV)=>(fun (u:aE)=>.au km [.bx aJ a0.ae,v,pO 0,.func (.func xx) [] [pO 1,pO 2]] [(0,u),(1,u),(2,cO bn [v])] 3 fun A=>.ret (D.r [D.z (A.af 2).int,D.z (A.af 3).int])) (cO ah [v])) (iO 0)):=oP _ 0x41
theorem acK:lp zB [bn] {cj:=[(GD,[aQ],[ah,bn])]} [aQ] [a0] Q
 (.call GD [D.r a0.ae] fun A=>.ret (D.z (A.af 1).int)):=oP _ 0x1
theorem ahX:lp Oh [aj] {cj:=[(zB,[aQ],[bn])]} [aQ] [a0] Q
 (.call zB [D.r a0.ae] fun A=>.ret (D.b (A.int==0))):=oP _ 0x1
end
section
variable {l w l2:List D} {dp n1:Int} {vI:Bool} {Q:D->Prop} {c0:Nat}
def Pc:cK:={bK:=some 0,bJ:=[(eP,nt)],bB:=[⟨eP,0,16460,[1,2,0,9,3],[]⟩]}
def wR (l:List D)(dp:Int)(vI:Bool)(w:List D)(c0:Nat)(n1:Int)(l2:List D):av:=hdL eP 37 [(0,.bx aJ l),(1,iO dp),(2,.bool vI),(3,vO 0 c0),(9,iO n1)] [rO cF l2]
theorem Zb:lh eP [dY] Pc (vW l dp vI w) (Dd l dp vI w) 0 nt Q
 (.bz (wR l dp vI w w.length 0 w)):=oH _ 0x1
theorem HK:lk eP [dY] Pc (.bK 0 (nt (vW l dp vI w) (Dd l dp vI w)) Q) (wR l dp vI w c0 n1 l2)
 ((fun (v:RT)=>(fun (u:Nat->Bool->Nat->List BV)=>.ite (n1<(l.length:Int)) (.ite ((c0:Int)<=512) (.gd (di n1 l.length) (.gd ((c0=l2.length)&&(bh 272 (c0+1))) (.au eP (u 7 vI (c0+1)) [(0,rO cF (l2++[D.r [D.z dp,D.b vI,dE pg aJ (D.at l n1.toNat)]]))] 0 fun A=>.au eP (u 8 vI A.ae.length) [(0,rO cF A.ae)] 0 fun J=>.au eP (u 9 true J.ae.length) [(0,rO cF J.ae)] 0 fun I=>.bz (wR l dp vI w I.ae.length (wp .i64 (n1+1)) I.ae)))) v) v) fun i o m=>[.bx aJ ((D.at l n1.toNat).af i).ae,iO (wp .i64 (dp+1)),.bool o,vO 0 m]) (.aT (vO 0 c0) [(0,rO cF l2)])):=oE _ 0x23d313c21213211
end
section
variable {l l2:List D} {dp n1:Int} {vI:Bool} {Q:D->Prop} {c0:Nat}
def Hn:cK:={bK:=some 0,bJ:=[(eP,nt)],bB:=[⟨rH,0,16460,[1,2,0,9,3],[(3,cF)]⟩]}
def qK (l:List D)(dp:Int)(vI:Bool)(c0:Nat)(n1:Int)(l2:List D):av:=hdL rH 37 [(0,.bx aJ l),(1,iO dp),(2,.bool vI),(3,vO 0 c0),(9,iO n1)] [rO cF l2]
theorem Rr:lh rH [dY] Hn (wD l dp vI) [] 0 BH Q
 (.bz (qK l dp vI 0 0 [])):=oH _ 0x1
theorem CY:lk rH [dY] Hn (.bK 0 (BH (wD l dp vI) []) Q) (qK l dp vI c0 n1 l2)
 ((fun (v:RT)=>(fun (u:Nat->Bool->Nat->List BV)=>.ite (n1<(l.length:Int)) (.ite ((c0:Int)<=512) (.gd (di n1 l.length) (.gd ((c0=l2.length)&&(bh 272 (c0+1))) (.au eP (u 7 vI (c0+1)) [(0,rO cF (l2++[D.r [D.z dp,D.b vI,dE pg aJ (D.at l n1.toNat)]]))] 0 fun A=>.au eP (u 8 vI A.ae.length) [(0,rO cF A.ae)] 0 fun J=>.au eP (u 9 true J.ae.length) [(0,rO cF J.ae)] 0 fun I=>.bz (qK l dp vI I.ae.length (wp .i64 (n1+1)) I.ae)))) v) v) fun i o m=>[.bx aJ ((D.at l n1.toNat).af i).ae,iO (wp .i64 (dp+1)),.bool o,vO 0 m]) (.aT (vO 0 c0) [(0,rO cF l2)])):=oE _ 0x23d313c21213211
end
section
variable {a0:D} {Q:D->Prop} {l0:List D} {n1:Int}
theorem Y6:lp Dx [dY] {bJ:=[(eP,nt)]} [aQ] [a0] Q
 (.au eP [.bx aJ a0.ae,iO 0,.bool false,.cS] [] 0 fun A=>.ite (A.af 0).bool (.ret (D.r [])) (.gd ((A.af 1).ae.length=(A.af 1).ae.length) (.ret (D.r (A.af 1).ae)))):=oP _ 0x22111
def MP:cK:={cj:=[(cB,[aJ],[aj]),(Dx,[aQ],[dY])],bB:=[⟨nj,0,16443,[5,4],[]⟩]}
def uN (a0:D)(l0:List D)(n1:Int):av:=hdL nj 75 [(4,.bx cF l0),(5,iO n1)] []
theorem WL:lp nj [ah,bn] MP [aQ] [a0] Q
 (.call Dx [D.r a0.ae] fun A=>.bz (uN a0 A.ae 0)):=oP _ 0x1
theorem FX:lk nj [ah,bn] MP (.cY Q) (uN a0 l0 n1)
 ((fun (u:RT)=>.ite (n1<(l0.length:Int)) (.ite (n1<512) (.gd (di n1 l0.length) (.call cB [dE pg aJ ((D.at l0 n1.toNat).af 2)] fun A=>.ite (! A.bool) (.ret (D.r [D.z n1,D.z 160])) (.bz (uN a0 l0 (wp .i64 (n1+1)))))) u) u) (.ite ((l0.length:Int)>512) (.ret (D.r [D.z 512,D.z 4])) (.ret (D.r [D.z 0,D.z 0])))):=oE _ 0x22d32112c221121211
end
section
variable {W:WS} {Q:D->Prop} {s:Int}
def ael:cK:={bK:=some 3,bJ:=[(gv,aG)]}
theorem afT:lh JZ [aj] ael (bG W) (Wm W) 3 cA Q
 (.au gv [pO 0] (Wm W) 3 fun A=>.aT (.bool (A.int==0)) (Wm W)):=oH _ 0x4e1
def aem:cK:={bK:=some 3,bJ:=[(gv,aG)]}
theorem afU:lh J0 [aj] aem (oQ W s) (Wm W) 3 cA Q
 (.ite ((s:Int)≥0) (.au gv [pO 0] (Wm W) 3 fun A=>.aT (.bool ((s:Int)<A.int)) (Wm W)) (.aT (.bool false) (Wm W))):=oH _ 0x24d14c1
end
section
variable {R:RS} {s n0 n3 n4 n5:Int} {Q:D->Prop} {y:D} {m1 m0:List (D×D)} {st2 st1:List Nat} {c3 c2:Nat} {l0:List D}
def Ye:cK:={bK:=some 1}
theorem Zd:lh Dz [aj] Ye (mD R s) (Rm R) 1 cA Q
 (.ite ((s:Int)≥0) (.aT (.bool ((s:Int)<=(R.pa.length:Int))) (Rm R)) (.aT (.bool false) (Rm R))):=oH _ 0x27d17c1
def wg:cK:={f:=eR,rs:=[aj],bK:=some 1,cj:=[(iZ,[fw],[aj]),(GI,[aQ],[aj]),(mu,[ak],[dH])],bJ:=[(ly,yE),(Dz,cA)],bB:=[⟨eR,0,16540,[3,5,0,6],[]⟩,⟨eR,0,16473,[5,0,3,7],[]⟩,⟨eR,0,32833,[8,5,0,3,7,9],[]⟩]}
@[simp] theorem ajB:wg.f=eR/\wg.rs=[aj]:=⟨rfl,rfl⟩
def rS (R:RS)(y:D)(n0:Int)(m1:List (D×D))(st2:List Nat)(c3:Nat):av:=hdL eR 151 [(0,pO 0),(3,pO 1),(5,.map 2),(6,iO n0)] [rrC R 3 4 5 6,cO aV (aH pg aV y),.cd bW (.data aj) m1 st2 c3,rO ah R.pa,rO aj R.cu,rO bF R.th,rO ah R.ma]
def rT (R:RS)(y:D)(m0:List (D×D))(st1:List Nat)(c2:Nat)(n3:Int):av:=hdL eR 303 [(0,pO 0),(3,pO 1),(5,.map 2),(7,iO n3)] [rrC R 3 4 5 6,cO aV (aH pg aV y),.cd bW (.data aj) m0 st1 c2,rO ah R.pa,rO aj R.cu,rO bF R.th,rO ah R.ma]
def sw (R:RS)(y:D)(l0:List D)(m1:List (D×D))(st2:List Nat)(c3:Nat)(n4 n5:Int):av:=hdL eR 39215 [(0,pO 0),(3,pO 1),(5,.map 2),(7,iO n5),(8,.bx bW l0),(9,iO n4)] [rrC R 3 4 5 6,cO aV (aH pg aV y),.cd bW (.data aj) m1 st2 c3,rO ah R.pa,rO aj R.cu,rO bF R.th,rO ah R.ma]
theorem acS:lh eR [aj] wg (te R y) (Rm R) 1 cA Q
 ((fun (u:RT)=>.au Dz [pO 0,iO (y.af 0).int] (Rm R) 1 fun I=>.ite (! I.bool) u (.call GI [D.r (y.af 1).ae] fun A=>.ite (! A.bool) u (.call iZ [D.r (y.af 2).ae] fun J=>.ite (! J.bool) u (.ite (((y.af 3).ae.length:Int)>524288) u (.bz (rS R y 0 [] [] 0)))))) (.aT (.bool false) (Rm R))):=oH _ 0x24d24d24d2114c314c6e14cbe1
theorem HL:lk eR [aj] wg (.bK 1 (cA (te R y) (Rm R)) Q) (rS R y n0 m1 st2 c3)
 ((fun (k:Int)=>(fun (j:RT)=>(fun (v:D)=>(fun (u:D)=>.ite (n0<((y.af 3).ae.length:Int)) (.gd (di n0 (y.af 3).ae.length) (.ite (v.int<1) j (.ite (v.int>R.la) j (.ite (D.i7 m1 u) (.ite (D.val m1 u).bool j (.bz (rS R y k (D.mC m1 u (D.b true)) st2 c3))) (.bz (rS R y k (m1++[(u,D.b true)]) (st2++[c3]) (c3+1))))))) (.bz (rT R y m1 st2 c3 0))) (D.z v.int)) (D.at (y.af 3).ae n0.toNat)) (.aT (.bool false) (Rm R))) (wp .i64 (n0+1))):=oE _ 0x212123d0157d24d0252d2016303500610162045015117c31ac9e1
theorem HM:lk eR [aj] wg (.bK 1 (cA (te R y) (Rm R)) Q) (rT R y m0 st1 c2 n3)
 (.ite (n3<((y.af 2).ae.length:Int)) (.gd (di n3 (y.af 2).ae.length) (.call mu [dE pg ak ((D.at (y.af 2).ae n3.toNat).af 1)] fun A=>.bz (sw R y A.ae m0 st1 c2 0 n3))) (.aT (.bool true) (Rm R))):=oE _ 0x21211
theorem Et:lk eR [aj] wg (.bK 1 (cA (te R y) (Rm R)) Q) (sw R y l0 m1 st2 c3 n4 n5)
 ((fun (v:D)=>(fun (u:RT)=>.ite (n4<(l0.length:Int)) (.gd (di n4 l0.length) (.au ly [pO 0,iO v.int] (Rm R) 1 fun A=>.ite (! (A.af 1).bool) u (.ite (D.i7 m1 (D.z v.int)) (.ite (! (D.val m1 (D.z v.int)).bool) u (.bz (sw R y l0 m1 st2 c3 (wp .i64 (n4+1)) n5))) u))) (.bz (rT R y m1 st2 c3 (wp .i64 (n5+1))))) (.aT (.bool false) (Rm R))) (D.at l0 n4.toNat)):=oE _ 0x212123d0152d20201b310201b2117c31
end
section
variable {W:WS} {y:D} {Q:D->Prop} {n0 n3 n1 n6 n7:Int} {m1 m0 m3:List (D×D)} {st2 st1 st4:List Nat} {c3 c2 c0 c5:Nat} {l2:List D}
def wm:cK:={f:=eT,rs:=[bn],bK:=some 3,cj:=[(lA,[fw],[aj]),(Oh,[aQ],[aj])],bJ:=[(xA,dx),(ki,cA),(JZ,cA),(J0,cA),(gO,iT)],bB:=[⟨eT,0,16516,[5,0,33,3,34,35],[]⟩,⟨eT,0,16454,[5,0,66,67,68],[]⟩,⟨eT,0,32818,[5,0,74,66,67,68,75,76],[]⟩]}
@[simp] theorem ajF:wm.f=eT/\wm.rs=[bn]:=⟨rfl,rfl⟩
def oM (W:WS)(y:D)(n0:Int)(m1:List (D×D))(st2:List Nat)(c3:Nat):av:=hdL eT 303 [(0,pO 0),(3,pO 3),(5,.map 4),(33,.bx bW (y.af 3).ae),(34,iO ((y.af 3).ae.length:Int)),(35,iO n0)] [wrC W 5 1 2 6,wrT W 1,wrF W,cO aV (aH pg aV y),.cd bW (.data ah) m1 st2 c3,rO aj W.cu,rO ah W.ma]
def rU (W:WS)(y:D)(m0:List (D×D))(st1:List Nat)(c2:Nat)(n3:Int):av:=hdL eT 607 [(0,pO 0),(5,.map 3),(66,.bx dG (y.af 2).ae),(67,iO ((y.af 2).ae.length:Int)),(68,iO n3)] [wrC W 4 1 2 5,wrT W 1,wrF W,.cd bW (.data ah) m0 st1 c2,rO aj W.cu,rO ah W.ma]
def qR (W:WS)(y:D)(c0:Nat)(n1:Int)(l2:List D)(m3:List (D×D))(st4:List Nat)(c5:Nat)(n6 n7:Int):av:=hdL eT 157279 [(0,pO 0),(5,.map 3),(66,.bx dG (y.af 2).ae),(67,iO ((y.af 2).ae.length:Int)),(68,iO n7),(74,vO 4 c0),(75,iO n1),(76,iO n6)] [wrC W 5 1 2 6,wrT W 1,wrF W,.cd bW (.data ah) m3 st4 c5,rO bW l2,rO aj W.cu,rO ah W.ma]
theorem ac9:lh eT [bn] wm (mK W y) (Wm W) 3 aG Q
 ((fun (u:D->RT->RT)=>.au JZ [pO 0] (Wm W) 3 fun I=>.ite I.bool (.aT (iO 1) (Wm W)) (.au J0 [pO 0,iO (y.af 0).int] (Wm W) 3 fun A=>u A (.call Oh [D.r (y.af 1).ae] fun J=>u J (.call lA [D.r (y.af 2).ae] fun O=>u O (.bz (oM W y 0 [] [] 0)))))) fun i o=>.ite (! i.bool) (.aT (iO 190) (Wm W)) o):=oH _ 0x224d24d2114c314c6e11
theorem Ih:lk eT [bn] wm (.bK 3 (aG (mK W y) (Wm W)) Q) (oM W y n0 m1 st2 c3)
 ((fun (J:Int)=>(fun (q:D)=>(fun (U:Bool)=>(fun (k:RT)=>(fun (A:RT->RT)=>(fun (j:D)=>(fun (I:RT)=>(fun (t:List (D×D))=>(fun (p:RT)=>(fun (v:RT)=>(fun (u:RT)=>.ite (n0<((y.af 3).ae.length:Int)) (.gd (di n0 (y.af 3).ae.length) (.ite (D.i7 m1 j) (A u) (A v))) (.bz (rU W y m1 st2 c3 0))) (.ite (D.i7 t j) (.ite ((D.val t j).int>1) k p) p)) (.ite (D.i7 (m1++[(j,D.z 1)]) j) (.ite ((D.val (m1++[(j,D.z 1)]) j).int>1) k I) I)) (.bz (oM W y J t st2 c3))) (D.mC m1 j (D.z (wp .i64 ((D.val m1 j).int+1))))) (.bz (oM W y J (m1++[(j,D.z 1)]) (st2++[c3]) (c3+1)))) (D.z q.int)) fun i=>.ite U k (.au ki [pO 0,iO q.int] (Wm W) 3 fun O=>.ite (! O.bool) (.au gO [pO 0] (Wm W) 3 fun V=>.ite (q.int>(V.af 3).int) k i) i)) (.aT (iO 190) (Wm W))) (q.int<1)) (D.at (y.af 3).ae n0.toNat)) (wp .i64 (n0+1))):=oE _ 0x2121200624d24d0160060163e23e12e2114c01600501622d20201b310201b2114c316c6e100524d24d0160060163e23e12e2114c01600501622d20201b310201b2114c316c6e1
theorem Ii:lk eT [bn] wm (.bK 3 (aG (mK W y) (Wm W)) Q) (rU W y m0 st1 c2 n3)
 (.ite (n3<((y.af 2).ae.length:Int)) (.gd (di n3 (y.af 2).ae.length) (.au xA [.agg (aH pg ak ((D.at (y.af 2).ae n3.toNat).af 1))] [] 0 fun A=>.bz (qR W y A.ae.length (A.ae.length:Int) A.ae m0 st1 c2 0 n3))) (.aT (iO 0) (Wm W))):=oE _ 0x21211
theorem C6:lk eT [bn] wm (.bK 3 (aG (mK W y) (Wm W)) Q) (qR W y c0 n1 l2 m3 st4 c5 n6 n7)
 ((fun (v:D)=>(fun (u:RT)=>.ite (n6<n1) (.gd (di n6 c0) (.gd (n6.toNat<l2.length) (.au ki [pO 0,iO v.int] (Wm W) 3 fun A=>.ite (! A.bool) u (.ite (D.i7 m3 (D.z v.int)) (.ite ((D.val m3 (D.z v.int)).int==0) u (.bz (qR W y c0 n1 l2 m3 st4 c5 (wp .i64 (n6+1)) n7))) u)))) (.bz (rU W y m3 st4 c5 (wp .i64 (n7+1))))) (.aT (iO 190) (Wm W))) (D.at l2 n6.toNat)):=oE _ 0x21212122d20201b310201b2114c31
end
section
variable {l l2:List D} {n n0:Int} {Q:D->Prop} {c1:Nat} {s:List UInt8}
def Q6:cK:={bK:=some 1}
theorem Rl:lh da [] Q6 (Hi l n) (oy l n) 1 bI Q
 (.gd ((l.length=l.length)&&(bh 1 (l.length+4))) (.aT (.tuple []) [(0,cO fG [vO 1 (l.length+4)]),(1,rO Lp (l++[D.z (wp .u8 (Int.fdiv n 16777216)),D.z (wp .u8 (Int.fdiv n 65536)),D.z (wp .u8 (Int.fdiv n 256)),D.z (wp .u8 n)]))])):=oH _ 0x4e211
def JF:cK:={bK:=some 1,bB:=[⟨iP,0,12320,[1,0,4],[]⟩]}
def uM (l:List D)(n n0:Int)(c1:Nat)(l2:List D):av:=hdL iP 9 [(0,pO 0),(1,.int .u64 n),(4,iO n0)] [cO fG [vO 1 c1],rO Lp l2]
theorem Ug:lh iP [] JF (yy l n) (oy l n) 1 bI Q
 (.bz (uM l n 56 l.length l)):=oH _ 0x1
theorem FW:lk iP [] JF (.bK 1 (bI (yy l n) (oy l n)) Q) (uM l n n0 c1 l2)
 (.ite (n0≥0) (.gd (0<=n0) (.gd ((c1=l2.length)&&(bh 1 (c1+1))) (.bz (uM l n (wp .i64 (n0-8)) (c1+1) (l2++[D.z (wp .u8 (Int.fdiv n (2^(min n0.toNat 64))))]))))) (.aT (.tuple []) [(0,cO fG [vO 1 c1]),(1,rO Lp l2)])):=oE _ 0x21213211
end
section
variable {l l2:List D} {n wd n1 n0:Int} {Q:D->Prop} {c0:Nat} {a0:D}
def aaG:cK:={bB:=[⟨je,0,16418,[0,6,7,3],[]⟩]}
def DO (a0:D)(n0 n1:Int):av:=hdL je 75 [(0,.ax a0.ax),(3,.int .u64 n0),(6,iO (a0.ax.length:Int)),(7,iO n1)] []
theorem ah1:lp je [dA] aaG [aq] [a0] Q
 (.bz (DO a0 14695981039346656037 0)):=oP _ 0x1
theorem Qs:lk je [dA] aaG (.cY Q) (DO a0 n0 n1)
 (.ite (n1<(a0.ax.length:Int)) (.gd (di n1 a0.ax.length) (.bz (DO a0 (wp .u64 ((wp .u64 ((BitVec.toNat ((BitVec.ofInt 64 n0) ^^^ (BitVec.ofInt 64 (wp .u64 ((UInt8.toNat (List.getD a0.ax n1.toNat 0)):Int))))):Int))*1099511628211)) (wp .i64 (n1+1))))) (.ret (D.z n0))):=oE _ 0x21211
end
section
variable {l ys l1:List D} {y:D} {Q:D->Prop} {c0:Nat} {n2:Int}
def AQ:cK:={bK:=some 1,bJ:=[(da,bI),(ue,bI)],bB:=[⟨gV,0,12313,[2,12,13,14],[]⟩]}
def p8 (l ys:List D)(c0:Nat)(l1:List D)(n2:Int):av:=hdL gV 19 [(2,.func (.func ue) [pO 0] []),(12,.bx aJ ys),(13,iO (ys.length:Int)),(14,iO n2)] [cO fG [vO 1 c0],rO Lp l1]
theorem Kv:lh gV [] AQ (tH l ys) (cU l ys) 1 bI Q
 (.au da [pO 0,iO (ys.length:Int)] (Lm l) 1 fun A=>.bz (p8 l ys A.ae.length A.ae 0)):=oH _ 0x1
theorem Gc:lk gV [] AQ (.bK 1 (bI (tH l ys) (cU l ys)) Q) (p8 l ys c0 l1 n2)
 ((fun (u:List (Nat×aE))=>.ite (n2<(ys.length:Int)) (.gd (di n2 ys.length) (.au ue [pO 0,.agg (aH pg aJ (D.at ys n2.toNat))] u 1 fun A=>.bz (p8 l ys A.ae.length A.ae (wp .i64 (n2+1))))) (.aT (.tuple []) u)) [(0,cO fG [vO 1 c0]),(1,rO Lp l1)]):=oE _ 0x21211
end
section
variable {l ys l1:List D} {Q:D->Prop} {c0:Nat} {n2:Int}
def AP:cK:={bK:=some 1,bJ:=[(da,bI)],bB:=[⟨gT,0,12312,[2,12,13,14],[]⟩]}
def p7 (l ys:List D)(c0:Nat)(l1:List D)(n2:Int):av:=hdL gT 19 [(2,.func (.func Dw) [pO 0] []),(12,.bx cq ys),(13,iO (ys.length:Int)),(14,iO n2)] [cO fG [vO 1 c0],rO Lp l1]
theorem Ku:lh gT [] AP (tG l ys) (cU l ys) 1 bI Q
 (.au da [pO 0,iO (ys.length:Int)] (Lm l) 1 fun A=>.bz (p7 l ys A.ae.length A.ae 0)):=oH _ 0x1
theorem Gb:lk gT [] AP (.bK 1 (bI (tG l ys) (cU l ys)) Q) (p7 l ys c0 l1 n2)
 ((fun (u:List (Nat×aE))=>.ite (n2<(ys.length:Int)) (.gd (di n2 ys.length) (.au da [pO 0,iO (D.at ys n2.toNat).int] u 1 fun A=>.bz (p7 l ys A.ae.length A.ae (wp .i64 (n2+1))))) (.aT (.tuple []) u)) [(0,cO fG [vO 1 c0]),(1,rO Lp l1)]):=oE _ 0x21211
def Cp:cK:={bK:=some 1,bJ:=[(da,bI)],bB:=[⟨fk,0,12312,[2,12,13,14],[]⟩]}
def mI (l ys:List D)(c0:Nat)(l1:List D)(n2:Int):av:=hdL fk 19 [(2,.func (.func da) [pO 0] []),(12,.bx ah ys),(13,iO (ys.length:Int)),(14,iO n2)] [cO fG [vO 1 c0],rO Lp l1]
theorem Mj:lh fk [] Cp (qm l ys) (cU l ys) 1 bI Q
 (.au da [pO 0,iO (ys.length:Int)] (Lm l) 1 fun A=>.bz (mI l ys A.ae.length A.ae 0)):=oH _ 0x1
theorem yw:lk fk [] Cp (.bK 1 (bI (qm l ys) (cU l ys)) Q) (mI l ys c0 l1 n2)
 ((fun (u:List (Nat×aE))=>.ite (n2<(ys.length:Int)) (.gd (di n2 ys.length) (.au da [pO 0,iO (D.at ys n2.toNat).int] u 1 fun A=>.bz (mI l ys A.ae.length A.ae (wp .i64 (n2+1))))) (.aT (.tuple []) u)) [(0,cO fG [vO 1 c0]),(1,rO Lp l1)]):=oE _ 0x21211
def zW:cK:={bK:=some 1,bJ:=[(da,bI),(rG,bI)],bB:=[⟨gk,0,12313,[2,12,13,14],[]⟩]}
def oW (l ys:List D)(c0:Nat)(l1:List D)(n2:Int):av:=hdL gk 19 [(2,.func (.func rG) [pO 0] []),(12,.bx bF ys),(13,iO (ys.length:Int)),(14,iO n2)] [cO fG [vO 1 c0],rO Lp l1]
theorem I5:lh gk [] zW (sL l ys) (cU l ys) 1 bI Q
 (.au da [pO 0,iO (ys.length:Int)] (Lm l) 1 fun A=>.bz (oW l ys A.ae.length A.ae 0)):=oH _ 0x1
theorem ES:lk gk [] zW (.bK 1 (bI (sL l ys) (cU l ys)) Q) (oW l ys c0 l1 n2)
 ((fun (u:List (Nat×aE))=>.ite (n2<(ys.length:Int)) (.gd (di n2 ys.length) (.au rG [pO 0,.agg (aH pg bF (D.at ys n2.toNat))] u 1 fun A=>.bz (oW l ys A.ae.length A.ae (wp .i64 (n2+1))))) (.aT (.tuple []) u)) [(0,cO fG [vO 1 c0]),(1,rO Lp l1)]):=oE _ 0x21211
end
section
variable {l:List D} {y:D} {Q:D->Prop}
def Q7:cK:={bK:=some 1,bJ:=[(da,bI),(gT,bI),(fk,bI),(gk,bI)]}
theorem Rn:lh wI [] Q7 (Hj l y) (Hk l y) 1 bI Q
 ((fun (u:Nat->List BV)=>.au gT [pO 0,.bx cq (y.af 0).ae,.func (.func Dw) [pO 0] []] (Lm l) 1 fun I=>.au fk (u 1) (Lm I.ae) 1 fun A=>.au da [pO 0,iO (y.af 3).int] (Lm A.ae) 1 fun J=>.au fk (u 4) (Lm J.ae) 1 fun O=>.au gk [pO 0,.bx bF (y.af 2).ae,.func (.func rG) [pO 0] []] (Lm O.ae) 1 fun U=>.aT (.tuple []) (Lm U.ae)) fun i=>[pO 0,.bx ah (y.af i).ae,.func (.func da) [pO 0] []]):=oH _ 0x1
end
section
variable {s:List UInt8} {n:Int} {Q:D->Prop}
def O8:cK:={bK:=some 1,bJ:=[(cx,fP)]}
theorem Qg:lh fS [aq] O8 (EY s n) (E2 s n) 1 eg Q
 ((fun (v:Bool)=>(fun (u:RT)=>.ite ((n:Int)<0) u (.ite ((n:Int)>(s.length:Int)) u (.gd (0<=(n:Int)) (.gd (((0:Nat)<=n.toNat)&&v) (.gd (v&&(s.length<=s.length)) (.aT (.ax (List.drop 0 (List.take n.toNat s))) [(0,cO ao [.ax (List.drop n.toNat (List.take s.length s))])])))))) (.au cx [] [] 0 fun A=>.aT (.nX aX 270) [(0,cO ao [.ax s])])) (n.toNat<=s.length)):=oH _ 0x27d2212101521117c31
end
section
variable {s s2:List UInt8} {Q:D->Prop} {c0:Nat} {n1 n4 n5:Int} {l3:List D}
def NL:cK:={bK:=some 1,bJ:=[(fS,eg)]}
theorem NX:lh aB [ah] NL (cG s) (bd s) 1 cH Q
 ((fun (v:Int->Int->Int)=>.au fS [pO 0,iO 4] [(0,cO ao [.ax s])] 1 fun A=>(fun (z:Nat->Nat->RT->RT)=>(fun (u:aE)=>.ite (A.af 0).bool (.aT (.nX aX 270) [(0,u)]) (z 0 1 (z 2 3 (.aT (iO (v ((BitVec.toNat ((BitVec.ofInt 64 (v ((wp .i64 ((UInt8.toNat (List.getD (A.af 1).ax 0 0)):Int))*16777216) ((wp .i64 ((UInt8.toNat (List.getD (A.af 1).ax 1 0)):Int))*65536))) ||| (BitVec.ofInt 64 (wp .i64 ((wp .i64 ((UInt8.toNat (List.getD (A.af 1).ax 2 0)):Int))*256))))):Int) ((UInt8.toNat (List.getD (A.af 1).ax 3 0)):Int))) [(0,u)])))) (cO ao [.ax (A.af 2).ax])) fun i o m=>.gd (di i (A.af 1).ax.length) (.gd (di o (A.af 1).ax.length) m)) fun i o=>wp .i64 ((BitVec.toNat ((BitVec.ofInt 64 (wp .i64 i)) ||| (BitVec.ofInt 64 (wp .i64 o)))):Int)):=oH _ 0x22132132132111
def O4:cK:={bK:=some 1,bJ:=[(fS,eg)]}
theorem Qe:lh dJ [Lp] O4 (cG s) (bd s) 1 pE Q
 (.au fS [pO 0,iO 1] [(0,cO ao [.ax s])] 1 fun A=>(fun (u:aE)=>.ite (A.af 0).bool (.aT (.nX aX 270) [(0,u)]) (.gd (di 0 (A.af 1).ax.length) (.aT (iU ((UInt8.toNat (List.getD (A.af 1).ax 0 0)):Int)) [(0,u)]))) (cO ao [.ax (A.af 2).ax])):=oH _ 0x22111
def Fe:cK:={bK:=some 1,bJ:=[(fS,eg)],bB:=[⟨cv,0,16417,[8,9,10,3],[]⟩]}
def po (s:List UInt8)(c0:Nat)(n1:Int)(s2:List UInt8)(l3:List D)(n4 n5:Int):av:=hdL cv 75 [(3,.int .u64 n4),(8,vO 1 c0),(9,iO n1),(10,iO n5)] [cO ao [.ax s2],rO Lp l3]
theorem Qi:lh cv [dA] Fe (cG s) (bd s) 1 fR Q
 (.au fS [pO 0,iO 8] [(0,cO ao [.ax s])] 1 fun A=>.ite (A.af 0).bool (.aT (.nX aX 270) [(0,cO ao [.ax (A.af 2).ax])]) (.bz (po s (A.af 1).ax.length ((A.af 1).ax.length:Int) (A.af 2).ax (kf (A.af 1).ax) 0 0))):=oH _ 0x211
theorem Bu:lk cv [dA] Fe (.bK 1 (fR (cG s) (bd s)) Q) (po s c0 n1 s2 l3 n4 n5)
 (.ite (n5<n1) (.gd (di n5 c0) (.gd (n5.toNat<l3.length) (.bz (po s c0 n1 s2 l3 (wp .u64 ((BitVec.toNat ((BitVec.ofInt 64 (wp .u64 (n4*256))) ||| (BitVec.ofInt 64 (wp .u64 (D.at l3 n5.toNat).int)))):Int)) (wp .i64 (n5+1)))))) (.aT (.int .u64 n4) [(0,cO ao [.ax s2])])):=oE _ 0x21212131
def O9:cK:={bK:=some 1,bJ:=[(fS,eg),(aB,cH)]}
theorem Qh:lh dh [aq] O9 (cG s) (bd s) 1 eg Q
 ((fun (u:D->List (Nat×aE))=>(fun (v:D->RT->RT)=>.au aB [pO 0] [(0,cO ao [.ax s])] 1 fun I=>v I (.au fS [pO 0,iO (I.af 1).int] (u I) 1 fun A=>v A (.aT (.ax (A.af 1).ax) (u A)))) fun i o=>.ite (i.af 0).bool (.aT (.nX aX 270) (u i)) o) fun i=>[(0,cO ao [.ax (i.af 2).ax])]):=oH _ 0x22111
end
end Go.Proofs
end
