import Derived.Test.YtpanfgalkajgdaaGreatM4
set_option linter.all false
noncomputable section
namespace Go.PB
open Go
section
noncomputable section
inductive T (α:Type) where
 |ret (a:α)
 |bT
 |ite (c:Bool) (t e:T α)
 |same (u v:BV) (t:T α)
def T.bind {α β:Type}:T α->(α->T β)->T β
 | .ret a,k=>k a
 | .bT,_=> .bT
 | .ite c t e,k=> .ite c (T.bind t k) (T.bind e k)
 | .same u v t,k=> .same u v (T.bind t k)
def T.of {α:Type}:Option α->T α
 |some a=> .ret a
 |none=> .bT
inductive T.dV {α:Type}(a:α):T α->Prop where
 |ret:T.dV a (.ret a)
 |tt {c:Bool} {t e:T α} (h:c=true) (k:T.dV a t):T.dV a (.ite c t e)
 |ff {c:Bool} {t e:T α} (h:c=false) (k:T.dV a e):T.dV a (.ite c t e)
 |same {u v:BV} {t:T α} (h:u=v) (k:T.dV a t):T.dV a (.same u v t)
section
variable {α β:Type}
def T.bD {a b:α}(h:T.dV a (.ret b)):b=a:=by cases h;rfl
def T.aP {a:α}(h:T.dV a .bT):False:=by cases h
def T.iH {a:α}{o:Option α}(h:T.dV a (T.of o)):o=some a:=by
 cases o with
 |none=>cases h
 |some b=>cases h;rfl
def T.ca {b:β}{k:α->T β}:∀{t:T α},T.dV b (T.bind t k)->∃a,T.dV a t/\T.dV b (k a):=by
 intro t
 induction t with
 |ret a=>intro h;exact⟨a,.ret,h⟩
 |bT=>intro h;cases h
 |ite c t e I A=>
  intro h
  cases h with
  |tt hc h=>obtain⟨a,h1,h2⟩:=I h;exact⟨a,.tt hc h1,h2⟩
  |ff hc h=>obtain⟨a,h1,h2⟩:=A h;exact⟨a,.ff hc h1,h2⟩
 |same u v t J=>
  intro h
  cases h with
  |same he h=>obtain⟨a,h1,h2⟩:=J h;exact⟨a,.same he h1,h2⟩
def T.iG {a:α}{c:Bool}{t:T α}(h:T.dV a (.ite c t .bT)):c=true/\T.dV a t:=by
 cases h with
 |tt hc h=>exact⟨hc,h⟩
 |ff hc h=>cases h
end
def di (i:Int)(n:Nat):Bool:=decide (0<=i)&&decide (i.toNat<n)
def vM (v:BV)(h:ai):T (bP×ai):= .ret (.value v,h)
def ag7 (h:ai)(b off size:Nat)(i:Int):Nat->Nat->T (bP×ai)
 |0,_=> .bT
 |n+1,k=> .ite (i==Int.ofNat k) (vM (.ie b (off+k*size)) h) (ag7 h b off size i n (k+1))
def IV (P:Program)(h:ai)(t:TypeId)(x A:BV):T (bP×ai):=
 match P.underlying t,A with
 |some (.slice e),.int _ i=>
  (match x with
  | .bx I l=>if Nat.beq e I&&cZ P e then .ite (di i l.length) (vM (.ze (aH P e (D.at l i.toNat))) h) .bT else .bT
  | .IL I l=>if Nat.beq e I&&cZ P e then .ite (di i l.length) (vM (.ze (aH P e (D.at l i.toNat))) h) .bT else .bT
  | .hY b n _=>if cZ P e then .ite (di i n) (vM (.yJ b e i.toNat 0) h) .bT else .bT
  | .Z0 b n=>(match kF P e with|some size=>ag7 h b 0 size i n 0|none=> .bT)
  |x=>T.of ((kC P t x A).map fun v=>(.value v,h)))
 |some (.array len e),.int _ i=>(match kF P e,x with|some size,.ie b off=>ag7 h b off size i len 0|_,_=> .bT)
 |_,_=>T.of ((kC P t x A).map fun v=>(.value v,h))
def abe (P:Program)(t:TypeId)(cs:List BV)(off:Nat):Option BV:=
 match jw P t,kF P t with
 |some A,some n=>if A then (iK cs off n).map .agg else cs[off]?
 |_,_=>none
def ahj {α:Type}(P:Program)(h:ai)(b f:Nat)(k:D)(K:TypeId->List (D×D)->TypeId->List Nat->Nat->T α):T α:=
 match h.get b with
 |some (.cd kt (.dD f' e) l st c)=>if Nat.beq f f'&&cZ P e then .ite (D.i7 l k) (K e l kt st c) .bT else .bT
 |_=> .bT
def TU (P:Program)(h:ai)(t:TypeId)(b f:Nat)(k:D)(off:Nat):T (bP×ai):=
 ahj P h b f k fun e l _ _ _=>T.of ((abe P t (aH P e (D.val l k)) off).map fun v=>(.value v,h))
def ae5 (P:Program)(h:ai)(t:TypeId)(a:BV):T (bP×ai):=
 match a with
 | .yJ b e i off=>
   (match h.get b with
   |some (.bY A l _)=>if Nat.beq e A&&cZ P e then .ite (decide (i<l.length)) (T.of ((abe P t (aH P e (D.at l i)) off).map fun v=>(.value v,h))) .bT else .bT
   |_=> .bT)
 | .sW b f k off=>TU P h t b f k off
 | .ie b off=>
   (match h.get b with
   |some (.tQ b' f k)=>TU P h t b' f k off
   |_=>T.of ((Ag P h t (.ie b off)).map fun v=>(.value v,h)))
 |a=>T.of ((Ag P h t a).map fun v=>(.value v,h))
def OE (P:Program)(h:ai)(n:Nat)(b f:Nat)(k:D)(off:Nat)(v:BV):T (bP×ai):=
 if decide (v.cells.length=n)&&v.cells.all BV.one then
  ahj P h b f k fun e l kt st c=>(match putCells (aH P e (D.val l k)) off v.cells with
   |some cs=>(match XE P e cs with
    |some d=> .ret (.skip,h.put b (some (.cd kt (.dD f e) (D.mC l k d) st c)))
    |none=> .bT)
   |none=> .bT)
 else .bT
def Z5 (P:Program)(h:ai)(t:TypeId)(a v:BV):T (bP×ai):=
 match a,kF P t with
 | .yJ b e i off,some n=>
   (match h.get b with
   |some (.bY A l vt)=>
    if decide (v.cells.length=n)&&v.cells.all BV.one&&(Nat.beq e A&&cZ P e)then
     (match putCells (aH P e (D.at l i)) off v.cells with
     |some cs=>(match XE P e cs with
      |some d=> .ite (decide (i<l.length)) (.ret (.skip,h.put b (some (.bY e (l.set i d) vt)))) .bT
      |none=> .bT)
     |none=> .bT)
    else .bT
   |_=> .bT)
 | .sW b f k off,some n=>OE P h n b f k off v
 | .ie b off,some n=>
   (match h.get b with
   |some (.tQ b' f k)=>OE P h n b' f k off v
   |_=>T.of ((B2 P h t (.ie b off) v).map fun h=>(.skip,h)))
 |a,_=>T.of ((B2 P h t a v).map fun h=>(.skip,h))
def eqK (a b:D):Bool:=match a,b with| .z x,.z y=>x==y|a,b=>D.Ht b a
def ahs:List (D×D)->D->Bool
 | [],_=>false
 |p::q,k=>match eqK k p.1 with|true=>true|false=>ahs q k
def ahk (d:D)(K:BV->T (bP×ai))(N:T (bP×ai)):List (D×D)->T (bP×ai)
 | []=>N
 |p::q=> .ite (eqK d p.1) (K (.func (.func p.2.int.toNat) [] [])) (ahk d K N q)
def TV (P:Program)(h:ai)(t:TypeId)(x k:BV)(ok:Bool):T (bP×ai):=
 match P.underlying t,(match x with| .map r=>(match h.get r with|some (.cd A vk l _ _)=>some (r,A,vk,l)|_=>none)|_=>none:Option (Nat×TypeId×VK×List (D×D)))with
 |some (.map kt I),some (r,A,vk,l)=>
  if !FC P 4 kt k then .bT else
  (match YK P kt k with
  |some d=>
   if Nat.beq kt A then
    (match vk with
    | .data J=>if cZ P I&&Nat.beq I J then
       .ite (D.i7 l d) (vM (if ok then .tuple [de P I (D.val l d),.bool true]else de P I (D.val l d)) h)
        (T.of ((q7 P I).map fun z=>(.value (if ok then .tuple [z,.bool false]else z),h)))
       else .bT
    | .dD f _=>
       .ite (D.i7 l d) (vM (if ok then .tuple [.sW r f d 0,.bool true]else .sW r f d 0) h)
        (T.of ((q7 P I).map fun z=>(.value (if ok then .tuple [z,.bool false]else z),h)))
    | .Oq=>ahk d (fun v=>vM (if ok then .tuple [v,.bool true]else v) h) (T.of ((q7 P I).map fun z=>(.value (if ok then .tuple [z,.bool false]else z),h))) l)
   else .bT
  |none=> .bT)
 |_,_=> .bT
def abr (P:Program)(h:ai)(r:Nat)(kt:TypeId)(f:Nat)(e:TypeId)(l:List (D×D))(st:List Nat)(clock:Nat)(k:D)(v:BV):Option ai:=
 match cZ P e,v with
 |true,.ie c off=>
  (match h.get c with
  |some (.cells cs A false)=>
   (match Nat.beq e A&&Nat.beq off 0,XE P e cs with
   |true,some d=>some ((h.put c (some (.tQ r f k))).put r (some (.cd kt (.dD f e) (l++[(k,d)]) (st++[clock]) (clock+1))))
   |_,_=>none)
  |_=>none)
 |_,_=>none
def agD {P:Program}{h h':ai}{r:Nat}{kt:TypeId}{f:Nat}{e:TypeId}{l:List (D×D)}{st:List Nat}{clock:Nat}{k:D}{v:BV}(I:D.i7 l k=false)(x:abr P h r kt f e l st clock k v=some h'):Nz P h r kt (.dD f e) l st clock k v=some h':=by
 unfold abr at x
 split at x
 ·rename_i c off A
  split at x
  ·rename_i cs J hc
   split at x
   ·rename_i d hb hd
    simp only[Nz,A,am5,hc,hb,hd,I,amp,ann];exact x
   cases x
  cases x
 cases x
def DT (P:Program)(h:ai)(t:TypeId)(m k v:BV):T (bP×ai):=
 match P.underlying t,m with
 |some (.map kt _),.map r=>
  (match h.get r with
  |some (.cd A vk l st clock)=>
   if !FC P 4 kt k then .bT else
   (match YK P kt k with
   |some d=>if Nat.beq kt A then
     (match vk with
     | .data J=>if cZ P J then
        (match unV P J v with
        |some I=> .ite (D.i7 l d) (.ret (.skip,h.put r (some (.cd kt vk (D.mC l d I) st clock)))) (.ret (.skip,h.put r (some (.cd kt vk (l++[(d,I)]) (st++[clock]) (clock+1)))))
        |none=> .bT)else .bT
     | .dD f e=> .ite (D.i7 l d) .bT (T.of ((abr P h r kt f e l st clock d v).map fun h=>(.skip,h)))
     | .Oq=>(match ahs l d,v with|false,.func (.func f) [] []=> .ret (.skip,h.put r (some (.cd kt .Oq (l++[(d,.z (Int.ofNat f))]) (st++[clock]) (clock+1))))|_,_=> .bT))
     else .bT
   |none=> .bT)
  |_=>T.of ((mA P h t m k v).map fun h=>(.skip,h)))
 |_,_=>T.of ((mA P h t m k v).map fun h=>(.skip,h))
def Yv (P:Program)(h:ai)(it:BV):T (bP×ai):=
 match it with
 | .ie r 0=>
   (match h.get r with
   |some (.nb m ks st clock seen)=>
    (match seen.head?,h.get m with
    |some k,some (.cd kt vk l st' A)=> .ite (xR l st' A ks st clock) (T.of ((Bz P m kt vk l k).map fun p=>(.value (.tuple [p.1,p.2]),h))) .bT
    |_,_=> .bT)
   |_=>T.of ((BR P h (.ie r 0)).map fun v=>(.value v,h)))
 |it=>T.of ((BR P h it).map fun v=>(.value v,h))
def YG (P:Program)(h:ai)(t:TypeId)(x A:BV):T (bP×ai):=
 match P.underlying t,x,A with
 |some .string,.ax s,.int _ i=> .ite (di i s.length) (vM (.int .u8 (s.getD i.toNat 0).toNat) h) .bT
 |_,_,_=>T.of ((LY P t x A).map fun v=>(.value v,h))
def wc:Option BV->T (Option Nat)
 |none=> .ret none
 |some (.int _ i)=> .ite (decide (0<=i)) (.ret (some i.toNat)) .bT
 |_=> .bT
def Z1 (P:Program)(h:ai)(t:TypeId)(x:BV)(lo hi mx:Option BV):T (bP×ai):=
 match P.underlying t,x with
 |some .string,.ax s=>(wc lo).bind fun lo=>(wc hi).bind fun hi=>
   match mx with
   |none=> .ite (decide (lo.getD 0<=hi.getD s.length)&&decide (hi.getD s.length<=s.length)) (vM (.ax ((s.take (hi.getD s.length)).drop (lo.getD 0))) h) .bT
   |some _=> .bT
 |some (.slice e),.bx A l=>
  if Nat.beq e A&&cZ P e then (wc lo).bind fun lo=>(wc hi).bind fun hi=>(wc mx).bind fun mx=>
   match mx with
   |none=> .ite (decide (lo.getD 0<=hi.getD l.length)&&decide (hi.getD l.length<=l.length)) (vM (.bx e (pK l (lo.getD 0) (hi.getD l.length))) h) .bT
   |some m=> .ite (Nat.beq m (hi.getD l.length)&&hi.isSome&&decide (lo.getD 0<=hi.getD l.length)&&decide (hi.getD l.length<=l.length)) (vM (.IL e (pK l (lo.getD 0) (hi.getD l.length))) h) .bT
  else .bT
 |some (.slice e),.IL A l=>
  if Nat.beq e A&&cZ P e then (wc lo).bind fun lo=>(wc hi).bind fun hi=>(wc mx).bind fun mx=>
   match mx with
   |none=> .ite (decide (lo.getD 0<=hi.getD l.length)&&decide (hi.getD l.length<=l.length)) (vM (.bx e (pK l (lo.getD 0) (hi.getD l.length))) h) .bT
   |some m=> .ite (Nat.beq m (hi.getD l.length)&&hi.isSome&&decide (lo.getD 0<=hi.getD l.length)&&decide (hi.getD l.length<=l.length)) (vM (.IL e (pK l (lo.getD 0) (hi.getD l.length))) h) .bT
  else .bT
 |some (.slice e),.hY b n vt=>
  if cZ P e then (wc lo).bind fun lo=>(wc hi).bind fun hi=>(wc mx).bind fun mx=>.ite (Nat.beq (lo.getD 0) 0&&Nat.beq (hi.getD 1) 0&&Nat.beq (mx.getD 1) 0) (vM (.IL e []) h) (.ite (Nat.beq (lo.getD 0) 0&&(hi.isSome&&mx.isSome)&&Nat.beq (hi.getD 0) n&&Nat.beq (mx.getD 0) n) (vM (.hY b n vt) h) .bT)
  else .bT
 |_,_=>T.of ((sliceB P t x lo hi mx).map fun v=>(.value v,h))
def vQ (l c A:Int):Bool:=decide (0<=l)&&decide (l<=c)&&decide (c<2^40)&&decide (A*c<=2^47)
def ae7 (P:Program)(h:ai)(t:TypeId)(len cap:BV):T (bP×ai):=
 match P.underlying t,len,cap with
 |some (.slice e),.int _ l,.int _ c=>
  (match P.info? e,q7 P e with
  |some i,some z=>
   if cZ P e&&z.cells.all BV.one then
    (match XE P e z.cells with
    |some d=> .ite (vQ l c i.bytes) (.ret (.value (.hY h.next l.toNat false),h.new (.bY e (List.replicate l.toNat d) false))) .bT
    |none=> .bT)
   else .bT
  |_,_=> .bT)
 |_,_,_=> .bT
def aju (P:Program)(h:ai)(op:BinOp)(t:TypeId)(x y:BV):T (bP×ai):=
 match op,x,y with
 | .add,.ax a,.ax b=> .ite (decide (a.length+b.length<2^62)) (vM (.ax (a++b)) h) .bT
 | .shl,.int k a,.int _ b=> .ite (decide (0<=b)) (vM (.int k (k.wrap (a*2^(min b.toNat k.bits)))) h) .bT
 | .shr,.int k a,.int _ b=> .ite (decide (0<=b)) (vM (.int k (a.fdiv (2^(min b.toNat k.bits)))) h) .bT
 | .quo,.int k a,.int k' b=>if k≠k' then .bT else .ite (decide (b≠0)) (vM (.int k (k.wrap (a.tdiv b))) h) .bT
 | .rem,.int k a,.int k' b=>if k≠k' then .bT else .ite (decide (b≠0)) (vM (.int k (a.tmod b)) h) .bT
 | .eql,.bx _ l,.cS=>(match P.underlying t with|some (.slice _)=> .ite l.isEmpty .bT (vM (.bool false) h)|_=> .bT)
 | .neq,.bx _ l,.cS=>(match P.underlying t with|some (.slice _)=> .ite l.isEmpty .bT (vM (.bool true) h)|_=> .bT)
 | .eql,.hY _ n _,.cS=>(match P.underlying t with|some (.slice _)=> .ite (decide (n=0)) .bT (vM (.bool false) h)|_=> .bT)
 | .neq,.hY _ n _,.cS=>(match P.underlying t with|some (.slice _)=> .ite (decide (n=0)) .bT (vM (.bool true) h)|_=> .bT)
 |op,x,y=>T.of ((Dp P op t x y).map fun v=>(.value v,h))
def aiG (h:ai)(e:TypeId)(x:BV):T (List D):=
 match x with
 | .hY b n _=>(match h.get b with|some (.bY A l _)=>if Nat.beq e A then .ite (decide (n<=l.length)) (.ret (l.take n)) .bT else .bT|_=> .bT)
 |x=>T.of (N9 h e x)
def agE (P:Program)(h:ai)(e:TypeId)(x:BV):T (List D):=
 match x with
 | .ax s=>T.of (adC P h e (.ax s))
 |x=>aiG h e x
def Py (P:Program)(h:ai)(A dst:TypeId)(x:BV):T (bP×ai):=
 match P.underlying A,P.underlying dst,x with
 |some (.slice e),some .string,.hY b n vt=>if ML P e&&cZ P e then (aiG h e (.hY b n vt)).bind fun l=>vM (.ax (bO l)) h else .bT
 |_,_,x=>T.of ((tV P h A dst x).map fun v=>(.value v,h))
def OR (h:ai)(e:TypeId)(A:Nat)(s:BV)(xs:List D):T (bP×ai):=
 match s with
 | .hY b n vt=>
   (match h.get b with
   |some (.bY I l J)=>if Nat.beq e I&&(vt==J)then .ite (decide (n=l.length)&&bh A (n+xs.length)) (.ret (.value (.hY h.next (n+xs.length) vt),(h.put b none).new (.bY e (l++xs) vt))) .bT else .bT
   |_=> .bT)
 | .cS=> .ite (bh A xs.length) (.ret (.value (.hY h.next xs.length true),h.new (.bY e xs true))) .bT
 | .IL I l=>if Nat.beq e I then .ite ((decide (0<xs.length)||decide (l.length=0))&&bh A (l.length+xs.length)) (.ret (.value (.hY h.next (l.length+xs.length) true),h.new (.bY e (l++xs) true))) .bT else .bT
 |_=> .bT
def Tl (P:Program)(h:ai)(argTypes:Array TypeId)(args:List BV):T (bP×ai):=
 match argTypes[0]?,argTypes[1]?,args with
 |some st,some A,[s,x]=>
  (match P.underlying st,P.underlying A with
  |some (.slice e),some I=>
   (match P.info? e with
   |some i=>if cZ P e&&!(ahv I)&&!(i.bytes==0||!U3 P e i.size)then (agE P h e x).bind fun xs=>OR h e i.bytes s xs else .bT
   |none=> .bT)
  |_,_=> .bT)
 |_,_,_=> .bT
def opT (P:Program)(h:ai)(ρ:Operand->BV)(o:Oper):T (bP×ai):=
 match o.op with
 | .pick c a b=>(match ρ c with| .bool x=> .ite x (vM (ρ a) h) (vM (ρ b) h)|_=> .bT)
 | .indexAddr t x A=>IV P h t (ρ x) (ρ A)
 | .load t a=>ae5 P h t (ρ a)
 | .store t a x=>Z5 P h t (ρ a) (ρ x)
 | .index t x A=>YG P h t (ρ x) (ρ A)
 | .slice t x lo hi mx=>Z1 P h t (ρ x) (lo.map ρ) (hi.map ρ) (mx.map ρ)
 | .makeSlice t l c=>ae7 P h t (ρ l) (ρ c)
 | .lookup t x A ok=>TV P h t (ρ x) (ρ A) ok
 | .mapUpdate t m k x=>DT P h t (ρ m) (ρ k) (ρ x)
 | .insert t m k x=>DT P h t (ρ m) (ρ k) (ρ x)
 | .entry it=>Yv P h (ρ it)
 | .binOp op t x y _=>if Ft P op t x y (ρ x) (ρ y)then aju P h op t (ρ x) (ρ y)else .bT
 | .convert s d x=>Py P h s d (ρ x)
 | .call c=>(match c.callee with| .builtin .append=>Tl P h c.argTypes (c.args.toList.map ρ)|_=>T.of (HB P h ρ o))
 |_=>T.of (HB P h ρ o)
def ajV (P:Program)(h:ai)(ρ:Operand->BV)(o:Oper):T (bP×ai):=
 match o.op with
 | .convert A dst x=>(match Yc P h A dst (ρ x)with|some r=> .ret (.value r.1,r.2)|none=>opT P h ρ o)
 |_=>opT P h ρ o
section
variable {P:Program} {h:ai}
def J7 {i:Int}{n:Nat}(e:di i n=true):¬i<0/\i.toNat<n:=by
 unfold di at e;simp only[amo,aml]at e;omega
def fp {v:BV}{r:bP×ai}(e:T.dV r (vM v h)):r=(.value v,h):=(T.bD e).symm
def Va {b off size:Nat}{i:Int}{r:bP×ai}:∀{n k:Nat},T.dV r (ag7 h b off size i n k)->∃j,j<k+n/\i=Int.ofNat j/\r=(.value (.ie b (off+j*size)),h):=by
 intro n
 induction n with
 |zero=>intro k e;exact(T.aP e).elim
 |succ n A=>
  intro k e
  cases e with
  |tt hc e=>exact⟨k,by omega,by simpa using hc,fp e⟩
  |ff hc e=>obtain⟨j,h1,h2,I⟩:=A e;exact⟨j,by omega,h2,I⟩
def PY {t:TypeId}{x U:BV}{r:bP×ai}(e:T.dV r (IV P h t x U)):(kC P t x U).map (fun v=>((bP.value v,h):bP×ai))=some r:=by
 unfold IV at e
 split at e
 ·rename_i el k i A
  have hs:cZ P el=true->∃n,kF P el=some n:=fun hd=>⟨_,(gL hd).2.1⟩
  split at e
  ·rename_i V l
   split at e
   ·rename_i hc
    obtain⟨h1,h2⟩:=T.iG e;obtain⟨I,O⟩:=J7 h1;rw[fp h2];obtain⟨n,J⟩:=hs (by simp only[amo]at hc;exact hc.2);simp only[kC,A,J,amt I,hc,am5,amu O,amH]
   exact(T.aP e).elim
  ·rename_i V l
   split at e
   ·rename_i hc
    obtain⟨h1,h2⟩:=T.iG e;obtain⟨I,O⟩:=J7 h1;rw[fp h2];obtain⟨n,J⟩:=hs (by simp only[amo]at hc;exact hc.2);simp only[kC,A,J,amt I,hc,am5,amu O,amH]
   exact(T.aP e).elim
  ·rename_i b n vt
   split at e
   ·rename_i hc
    obtain⟨h1,h2⟩:=T.iG e;obtain⟨I,O⟩:=J7 h1;rw[fp h2];obtain⟨m,J⟩:=hs hc;simp only[kC,A,J,amt I,hc,am5,amu O,amH]
   exact(T.aP e).elim
  ·rename_i b n
   split at e
   ·rename_i size hs
    obtain⟨j,h1,rfl,rfl⟩:=Va e;have h2:¬(Int.ofNat j<0):=(by simp);simp only[kC,A,amt h2,hs];rw[amu (by simp only[apT,amq];omega)];simp
   exact(T.aP e).elim
  exact T.iH e
 ·rename_i len el k i A
  split at e
  ·rename_i size b off hs
   obtain⟨j,h1,rfl,rfl⟩:=Va e;have h2:¬(Int.ofNat j<0):=(by simp);simp only[kC,A,amt h2,hs];rw[amu (by simp only[apT,amq];omega)];rfl
  exact(T.aP e).elim
 exact T.iH e
def VF {α:Type}{b f:Nat}{k:D}{K:TypeId->List (D×D)->TypeId->List Nat->Nat->T α}{r:α}(e:T.dV r (ahj P h b f k K)):∃el l kt st c,LU P h b f k=some (el,l,kt,st,c)/\T.dV r (K el l kt st c):=by
 unfold ahj at e
 split at e
 ·rename_i kt f' el l st c hb
  split at e
  ·rename_i hc
   obtain⟨h1,h2⟩:=T.iG e;refine⟨el,l,kt,st,c,?_,h2⟩;simp only[LU,hb,hc,h1,anJ,am5]
  exact(T.aP e).elim
 exact(T.aP e).elim
def P0 {t:TypeId}{b f:Nat}{k:D}{off:Nat}{r:bP×ai}(e:T.dV r (TU P h t b f k off)):∃I n,jw P t=some I/\kF P t=some n/\(J9 P h I n b f k off).map (fun v=>((bP.value v,h):bP×ai))=some r:=by
 unfold TU at e;obtain⟨el,l,kt,st,c,hf,e⟩:=VF e;have A:=T.iH e;unfold abe at A
 split at A
 ·rename_i I n J O
  refine⟨I,n,J,O,?_⟩;rw[<-A];simp only[J9,hf]
 cases A
def acq {t:TypeId}{a:BV}{r:bP×ai}(e:T.dV r (ae5 P h t a)):(Ag P h t a).map (fun v=>((bP.value v,h):bP×ai))=some r:=by
 unfold ae5 at e
 split at e
 ·rename_i b el i off
  split at e
  ·rename_i U l vt hb
   split at e
   ·rename_i hc
    obtain⟨h1,h2⟩:=T.iG e;have h1:i<l.length:=(by simpa using h1);have J:=T.iH h2;unfold abe at J
    split at J
    ·rename_i O n A I
     rw[<-J];simp only[Ag,A,I,hb,hc,am5,amu h1]
    cases J
   exact(T.aP e).elim
  exact(T.aP e).elim
 ·rename_i b f k off
  obtain⟨O,n,A,I,e⟩:=P0 e;rw[<-e];simp only[Ag,A,I]
 ·rename_i b off
  split at e
  ·rename_i b' f k hb
   obtain⟨O,n,A,I,e⟩:=P0 e;rw[<-e];simp only[Ag,A,I,hb]
  exact T.iH e
 exact T.iH e
def NA {n:Nat}{b f:Nat}{k:D}{off:Nat}{v:BV}{r:bP×ai}(e:T.dV r (OE P h n b f k off v)):(My P h n b f k off v).map (fun h=>((bP.skip,h):bP×ai))=some r:=by
 unfold OE at e
 split at e
 ·rename_i hc
  obtain⟨el,l,kt,st,c,hf,e⟩:=VF e
  split at e
  ·rename_i cs hp
   split at e
   ·rename_i d A
    rw[<-T.bD e];simp only[My,hc,hf,hp,A,am5,amH]
   exact(T.aP e).elim
  exact(T.aP e).elim
 exact(T.aP e).elim
def Z6 {t:TypeId}{a v:BV}{r:bP×ai}(e:T.dV r (Z5 P h t a v)):(B2 P h t a v).map (fun h=>((bP.skip,h):bP×ai))=some r:=by
 unfold Z5 at e
 split at e
 ·rename_i b el i off n A
  split at e
  ·rename_i J l vt hb
   split at e
   ·rename_i hc
    split at e
    ·rename_i cs hp
     split at e
     ·rename_i d I
      obtain⟨h1,h2⟩:=T.iG e;have h1:i<l.length:=(by simpa using h1);rw[<-T.bD h2];simp only[B2,A,hb,hc,am5,hp,I,amu h1,amH]
     exact(T.aP e).elim
    exact(T.aP e).elim
   exact(T.aP e).elim
  exact(T.aP e).elim
 ·rename_i b f k off n A
  have:=NA e;simp only[B2,A];exact this
 ·rename_i b off n A
  split at e
  ·rename_i b' f k hb
   have:=NA e;simp only[B2,A,hb];exact this
  exact T.iH e
 exact T.iH e
def aeG (a b:D):eqK a b=D.Ht b a:=by
 have A:D.Ht b a=true↔b=a:=by unfold D.Ht;simp
 rw[amW,A];unfold eqK
 split
 ·simp;exact eq_comm
 exact A
def aa0 (d:D):∀(l:List (D×D)),ahs l d=D.i7 l d
 | []=>rfl
 |p::q=>by simp only[ahs,aeG,aa0 d q,D.i7,D.ia];cases D.Ht p.1 d<;>rfl
def aeN {d:D}{K:BV->T (bP×ai)}{N:T (bP×ai)}{r:bP×ai}:∀{l:List (D×D)},T.dV r (ahk d K N l)->(D.i7 l d=true/\T.dV r (K (.func (.func (D.val l d).int.toNat) [] [])))\/(D.i7 l d=false/\T.dV r N):=by
 intro l
 induction l with
 |nil=>intro e;exact .inr ⟨rfl,e⟩
 |cons p q A=>
  intro e;unfold ahk at e;rw[aeG]at e
  cases e with
  |tt h1 e=>left;simp only[D.i7,D.val,D.ia,h1];exact⟨rfl,e⟩
  |ff h1 e=>simp only[D.i7,D.val,D.ia,h1];exact A e
def VY {t:TypeId}{x k:BV}{ok:Bool}{r:bP×ai}(e:T.dV r (TV P h t x k ok)):(y6 P h t x k ok).map (fun v=>((bP.value v,h):bP×ai))=some r:=by
 unfold TV at e
 split at e
 ·rename_i kt J O U vk l Z I
  split at e
  ·exact(T.aP e).elim
  rename_i hk
  split at e
  ·rename_i d hd
   split at e
   ·rename_i Y
    have key:∀u,Ap P O J vk l d=some u->(y6 P h t x k ok)=some (if ok then .tuple [u,.bool (D.i7 l d)]else u):=fun u hs=>by
     have ⟨V,st,ck,hb⟩:x= .map O/\∃st ck,h.get O=some (.cd U vk l st ck):=by
      split at I
      ·rename_i r1
       split at I
       ·rename_i hb;cases I;exact⟨rfl,_,_,hb⟩
       cases I
      cases I
     subst V;simp only[y6,Z,amt hk,hb,hd,Y,am5,hs]
    split at e
    ·rename_i a6
     split at e
     ·rename_i hc
      cases e with
      |tt h1 e=>rw[fp e,key (de P J (D.val l d)) (by simp only[Ap,hc,am5,h1])];rw[h1];rfl
      |ff h1 e=>
       have e:=T.iH e
       cases A:q7 P J with
       |none=>rw[A]at e;cases e
       |some z=>rw[A]at e;cases e;rw[key z (by simp only[Ap,hc,am5,h1,amp,ann];exact A)];rw[h1];rfl
     exact(T.aP e).elim
    ·rename_i f el
     cases e with
     |tt h1 e=>rw[fp e,key (.sW O f d 0) (by simp only[Ap,h1,am5])];rw[h1];rfl
     |ff h1 e=>
      have e:=T.iH e
      cases A:q7 P J with
      |none=>rw[A]at e;cases e
      |some z=>rw[A]at e;cases e;rw[key z (by simp only[Ap,h1,amp,ann];exact A)];rw[h1];rfl
    rcases aeN e with ⟨h1,e⟩| ⟨h1,e⟩
    ·rw[fp e,key (.func (.func (D.val l d).int.toNat) [] []) (by simp only[Ap,h1,am5])];rw[h1];rfl
    have e:=T.iH e
    cases A:q7 P J with
    |none=>rw[A]at e;cases e
    |some z=>rw[A]at e;cases e;rw[key z (by simp only[Ap,h1,amp,ann];exact A)];rw[h1];rfl
   exact(T.aP e).elim
  exact(T.aP e).elim
 exact(T.aP e).elim
def FE {t:TypeId}{m k v:BV}{r:bP×ai}(e:T.dV r (DT P h t m k v)):(mA P h t m k v).map (fun h=>((bP.skip,h):bP×ai))=some r:=by
 unfold DT at e
 split at e
 ·rename_i kt et r0 O
  split at e
  ·rename_i Y vk l st clock hb
   split at e
   ·exact(T.aP e).elim
   rename_i U
   split at e
   ·rename_i d hd
    split at e
    ·rename_i A
     have V:=amC A
     split at e
     ·rename_i Z
      split at e
      ·rename_i I
       split at e
       ·rename_i dv J
        cases e with
        |tt h1 e=>rw[<-T.bD e];simp only[mA,O,hb,amt U,hd,A,am5,Nz,I,J,h1,amH]
        |ff h1 e=>rw[<-T.bD e];simp only[mA,O,hb,amt U,hd,A,am5,Nz,I,J,h1,amp,ann,amH]
       exact(T.aP e).elim
      exact(T.aP e).elim
     ·cases e with
      |tt h1 e=>exact(T.aP e).elim
      |ff h1 e=>
       have e:=T.iH e
       cases hs:abr P h r0 kt _ _ l st clock d v with
       |none=>rw[hs]at e;cases e
       |some h'=>rw[hs]at e;simp only[mA,O,hb,amt U,hd,A,am5,agD h1 hs];exact e
     split at e
     ·rename_i f h1
      rw[aa0]at h1;rw[<-T.bD e];simp only[mA,O,hb,amt U,hd,A,am5,Nz,h1,amp,ann,amH]
     exact(T.aP e).elim
    exact(T.aP e).elim
   exact(T.aP e).elim
  exact T.iH e
 exact T.iH e
def Yw {it:BV}{r:bP×ai}(e:T.dV r (Yv P h it)):(BR P h it).map (fun v=>((bP.value v,h):bP×ai))=some r:=by
 unfold Yv at e
 split at e
 ·rename_i O
  split at e
  ·rename_i m ks st clock seen hb
   split at e
   ·rename_i k kt vk l st' I hs J
    obtain⟨h1,h2⟩:=T.iG e;have h2:=T.iH h2;simp only[BR,hb,hs,J,h1,am5]
    cases A:Bz P m kt vk l k with
    |none=>rw[A]at h2;cases h2
    |some p=>rw[A]at h2;exact h2
   exact(T.aP e).elim
  exact T.iH e
 exact T.iH e
def YH {t:TypeId}{x A:BV}{r:bP×ai}(e:T.dV r (YG P h t x A)):(LY P t x A).map (fun v=>((bP.value v,h):bP×ai))=some r:=by
 unfold YG at e
 split at e
 ·rename_i s k i J
  obtain⟨h1,h2⟩:=T.iG e;obtain⟨O,I⟩:=J7 h1;rw[fp h2];simp only[LY,amt O,J,amr I,amH,List.getD,anI]
 exact T.iH e
def dI {x:Option BV}{r:Option Nat}(e:T.dV r (wc x)):mS x=some r:=by
 unfold wc at e
 split at e
 ·rw[<-T.bD e];rfl
 ·obtain⟨h1,h2⟩:=T.iG e;have h1:(0:Int)<=_:=amU h1;rw[<-T.bD h2];simp only[mS];rw[ifN]
 exact(T.aP e).elim
def Z2 {t:TypeId}{x:BV}{lo hi mx:Option BV}{r:bP×ai}(e:T.dV r (Z1 P h t x lo hi mx)):(sliceB P t x lo hi mx).map (fun v=>((bP.value v,h):bP×ai))=some r:=by
 unfold Z1 at e
 split at e
 ·rename_i s J
  obtain⟨l,hl,e⟩:=T.ca e;obtain⟨Z,A,e⟩:=T.ca e
  cases mx with
  |none=>obtain⟨h1,h2⟩:=T.iG e;rw[fp h2];have V:mS none=some none:=rfl;simp only[sliceB,dI hl,dI A,V,J,Option.isNone_none,anf,h1,am5,amH]
  |some m=>exact(T.aP e).elim
 ·rename_i el Y l J
  split at e
  ·rename_i hc
   obtain⟨O,hl,e⟩:=T.ca e;obtain⟨U,A,e⟩:=T.ca e;obtain⟨mx',I,e⟩:=T.ca e
   split at e
   ·obtain⟨h1,h2⟩:=T.iG e;rw[fp h2];simp only[sliceB,dI hl,dI A,dI I,J,hc,h1,am5,amH]
   obtain⟨h1,h2⟩:=T.iG e;rw[fp h2];simp only[sliceB,dI hl,dI A,dI I,J,hc,h1,am5,amH]
  exact(T.aP e).elim
 ·rename_i el Y l J
  split at e
  ·rename_i hc
   obtain⟨O,hl,e⟩:=T.ca e;obtain⟨U,A,e⟩:=T.ca e;obtain⟨mx',I,e⟩:=T.ca e
   split at e
   ·obtain⟨h1,h2⟩:=T.iG e;rw[fp h2];simp only[sliceB,dI hl,dI A,dI I,J,hc,h1,am5,amH]
   obtain⟨h1,h2⟩:=T.iG e;rw[fp h2];simp only[sliceB,dI hl,dI A,dI I,J,hc,h1,am5,amH]
  exact(T.aP e).elim
 ·rename_i el b n vt J
  split at e
  ·rename_i hd
   obtain⟨O,hl,e⟩:=T.ca e;obtain⟨U,A,e⟩:=T.ca e;obtain⟨mx',I,e⟩:=T.ca e
   cases e with
   |tt hc e=>rw[fp e];simp only[sliceB,dI hl,dI A,dI I,J,hd,anf,hc,am5,amH]
   |ff hc e=>obtain⟨h1,h2⟩:=T.iG e;rw[fp h2];simp only[sliceB,dI hl,dI A,dI I,J,hd,anf,hc,h1,am5,amH,amp,ann]
  exact(T.aP e).elim
 exact T.iH e
def acs {t:TypeId}{l c:BV}{r:bP×ai}(e:T.dV r (ae7 P h t l c)):(wz P h t l c).map (fun x=>((bP.value x.1,x.2):bP×ai))=some r:=by
 unfold ae7 at e
 split at e
 ·rename_i el V J U O A
  split at e
  ·rename_i i z hi I
   split at e
   ·rename_i hc
    split at e
    ·rename_i d hd
     obtain⟨h1,h2⟩:=T.iG e;rw[<-T.bD h2];unfold vQ at h1;simp only[wz,A,hi,I,hc,am5,hd,h1,amH]
    exact(T.aP e).elim
   exact(T.aP e).elim
  exact(T.aP e).elim
 exact(T.aP e).elim
def aeg {op:BinOp}{t:TypeId}{x y:BV}{r:bP×ai}(e:T.dV r (aju P h op t x y)):(Dp P op t x y).map (fun v=>((bP.value v,h):bP×ai))=some r:=by
 unfold aju at e
 split at e
 ·obtain⟨h1,h2⟩:=T.iG e;rw[fp h2];have h1:=amU h1;simp only[Dp,amu h1,amH]
 ·obtain⟨h1,h2⟩:=T.iG e;rw[fp h2];have h1:=amU h1;simp only[Dp];rw[ifN];rfl
 ·obtain⟨h1,h2⟩:=T.iG e;rw[fp h2];have h1:=amU h1;simp only[Dp];rw[ifN];rfl
 ·split at e
  ·exact(T.aP e).elim
  rename_i I
  obtain⟨h1,h2⟩:=T.iG e;rw[fp h2];have h1:=amU h1;simp only[Dp,amt I,amt h1,amH]
 ·split at e
  ·exact(T.aP e).elim
  rename_i I
  obtain⟨h1,h2⟩:=T.iG e;rw[fp h2];have h1:=amU h1;simp only[Dp,amt I,amt h1,amH]
 ·split at e
  ·rename_i J l x s A
   cases e with
   |tt hc e=>exact(T.aP e).elim
   |ff hc e=>
    rw[fp e]
    cases l with
    |nil=>cases hc
    |cons a r=>simp[Dp,Jg,A,Kd,TX]
  exact(T.aP e).elim
 ·split at e
  ·rename_i J l x s A
   cases e with
   |tt hc e=>exact(T.aP e).elim
   |ff hc e=>
    rw[fp e]
    cases l with
    |nil=>cases hc
    |cons a r=>simp[Dp,Jg,A,Kd,TX]
  exact(T.aP e).elim
 ·split at e
  ·rename_i b n vt x s A
   cases e with
   |tt hc e=>exact(T.aP e).elim
   |ff hc e=>
    rw[fp e]
    cases n with
    |zero=>simp at hc
    |succ n=>simp[Dp,Jg,A,Kd,TX]
  exact(T.aP e).elim
 ·split at e
  ·rename_i b n vt x s A
   cases e with
   |tt hc e=>exact(T.aP e).elim
   |ff hc e=>
    rw[fp e]
    cases n with
    |zero=>simp at hc
    |succ n=>simp[Dp,Jg,A,Kd,TX]
  exact(T.aP e).elim
 exact T.iH e
def Xw {el:TypeId}{x:BV}{l:List D}(e:T.dV l (aiG h el x)):N9 h el x=some l:=by
 unfold aiG at e
 split at e
 ·split at e
  ·rename_i hb
   split at e
   ·rename_i hc
    obtain⟨h1,h2⟩:=T.iG e;have h1:=amU h1;rw[<-T.bD h2];simp only[N9,hb,hc,am5,amu h1]
   exact(T.aP e).elim
  exact(T.aP e).elim
 exact T.iH e
def Tk {el:TypeId}{A:Nat}{s:BV}{xs:List D}{r:bP×ai}(e:T.dV r (OR h el A s xs)):(Dm h el A s xs).map (fun x=>((bP.value x.1,x.2):bP×ai))=some r:=by
 unfold OR at e
 split at e
 ·split at e
  ·rename_i hb
   split at e
   ·rename_i hc
    obtain⟨h1,h2⟩:=T.iG e;rw[<-T.bD h2];simp only[Dm,hb,hc,am5,h1,amH]
   exact(T.aP e).elim
  exact(T.aP e).elim
 ·obtain⟨h1,h2⟩:=T.iG e;rw[<-T.bD h2];simp only[Dm,h1,am5,amH]
 ·split at e
  ·rename_i hc
   obtain⟨h1,h2⟩:=T.iG e;rw[<-T.bD h2];simp only[Dm,hc,am5,h1,amH]
  exact(T.aP e).elim
 exact(T.aP e).elim
def adD {el:TypeId}{x:BV}{l:List D}(e:T.dV l (agE P h el x)):adC P h el x=some l:=by
 unfold agE at e
 split at e
 ·exact T.iH e
 rename_i A
 have:=Xw e
 cases x<;>first|exact this|exact absurd rfl (A _)
def TE {A dst:TypeId}{x:BV}{r:bP×ai}(e:T.dV r (Py P h A dst x)):(tV P h A dst x).map (fun v=>((bP.value v,h):bP×ai))=some r:=by
 unfold Py at e
 split at e
 ·rename_i el b n vt hs hd
  split at e
  ·rename_i hc
   obtain⟨l,h1,e⟩:=T.ca e;rw[fp e];simp only[tV,hs,hd,hc,am5,Xw h1,amH]
  exact(T.aP e).elim
 exact T.iH e
def U9 {A:Array TypeId}{args:List BV}{r:bP×ai}(e:T.dV r (Tl P h A args)):(Jy P h A args).map (fun x=>((bP.value x.1,x.2):bP×ai))=some r:=by
 unfold Tl at e
 split at e
 ·rename_i st J s x h1 h2
  split at e
  ·rename_i el U I O
   split at e
   ·rename_i i hi
    split at e
    ·rename_i hc
     obtain⟨xs,hs,e⟩:=T.ca e;have e:=Tk e;rw[<-e];simp only[Jy,h1,h2,I,O,hi,hc,am5,adD hs]
    exact(T.aP e).elim
   exact(T.aP e).elim
  exact(T.aP e).elim
 exact(T.aP e).elim
def Kl {ρ:Operand->BV}{o:Oper}{r:bP×ai}(e:T.dV r (opT P h ρ o)):HB P h ρ o=some r:=by
 obtain⟨dst,op,ty,pos,after,guard⟩:=o
 cases op<;>simp only[opT]at e<;>try exact T.iH e
 case pick c a b=>
  split at e
  ·rename_i x I
   simp only[HB,I]
   cases e with
   |tt hc e=>subst hc;rw[fp e];rfl
   |ff hc e=>subst hc;rw[fp e];rfl
  exact(T.aP e).elim
 case indexAddr=>exact PY e
 case load=>exact acq e
 case store=>exact Z6 e
 case index=>exact YH e
 case slice=>exact Z2 e
 case convert=>exact TE e
 case makeSlice=>exact acs e
 case lookup=>exact VY e
 case mapUpdate=>exact FE e
 case insert=>exact FE e
 case entry=>exact Yw e
 case binOp op t x y c=>
  split at e
  ·rename_i A;simp only[HB,A,am5];exact aeg e
  exact(T.aP e).elim
 case call c=>
  split at e
  ·rename_i hc
   have:=U9 e;simp only[HB,xO,hc,anT,GP,Fa];exact this
  exact T.iH e
end
def afy {P:Program}{h:ai}{ρ:Operand->BV}{o:Oper}{r:bP×ai}(e:T.dV r (ajV P h ρ o)):opR P h ρ o=some r:=by
 unfold ajV at e;unfold opR
 split at e
 ·rename_i A dst x ho
  simp only[ho]
  split at e
  ·rename_i q I;simp only[I];rw[T.bD e]
  rename_i I;simp only[I];exact Kl e
 rename_i J
 split
 ·rename_i A dst x ho;exact absurd ho (J A dst x)
 exact Kl e
def G2 (o:Oper)(aZ:Array Oper)(dw:Nat->Option BV):T Bool:=
 match o.guard with
 |none=> .ret true
 |some (j,A)=>
  match (aZ[j]?).bind (·.dst)with
  |some d=>(match dw d with
   |some (.bool b)=> .ite b (.ret A) (.ret (!A))
   |some .qd=> .bT
   |_=> .ret false)
  |none=> .ret false
def BD {o:Oper}{aZ:Array Oper}{dw:Nat->Option BV}{r:Bool}(e:T.dV r (G2 o aZ dw)):nP o aZ dw=some r:=by
 unfold G2 at e;unfold nP
 split at e
 ·rename_i I;rw[I];rw[<-T.bD e]
 rename_i j A I
 rw[I];dsimp only;unfold Q0
 split at e
 ·rename_i d hd
  rw[hd];dsimp only
  split at e
  ·rename_i b hb
   rw[hb]
   cases e with
   |tt hc e=>subst hc;rw[<-T.bD e];cases A<;>rfl
   |ff hc e=>subst hc;rw[<-T.bD e];cases A<;>rfl
  ·exact(T.aP e).elim
  rename_i h1 h2
  rw[<-T.bD e]
  split
  ·rename_i b hb;exact absurd hb (h1 b)
  ·rename_i hb;exact absurd hb h2
  rfl
 rename_i hd;rw[hd];rw[<-T.bD e];rfl
def Bc (P:Program)(aZ:Array Oper)(A:List Nat)(cN:List BV)(dB:List Nat):List Nat->ai->List (Option BV)->T (ai×List (Option BV))
 | [],h,aN=> .ret (h,aN)
 |i::rest,h,aN=>
  match aZ[i]?,aN.getD i none with
  |some o,none=>
   if ng o||dB.any (fg A i)then Bc P aZ A cN dB rest h aN else
   (G2 o aZ fun t=>some (qi aZ A cN aN i t)).bind fun w=>
     match w with
     |true=>(opT P h (nF aZ A cN aN i) o).bind fun r=>
      match r with
      | (.value v,h')=>Bc P aZ A cN dB rest h' (aN.set i (some v))
      |_=> .bT
     |false=>Bc P aZ A cN dB rest h (aN.set i (some BV.undef))
  |_,_=>Bc P aZ A cN dB rest h aN
def KX (P:Program)(aZ:Array Oper)(A:List Nat)(cN:List BV)(aN:List (Option BV))(x:Nat)(h:ai):List Nat->T Unit
 | []=> .ret ()
 |i::rest=>
  T.bind (α:=Unit) (match aZ[i]?,aN.getD i none with
  |some o,some v=>
   if ng o||nw o||!L4 o||fg A x i then .ret ()else
   (G2 o aZ fun t=>some (qi aZ A cN aN i t)).bind fun w=>
     match w with
     |true=>(opT P h (nF aZ A cN aN i) o).bind fun r=>(match r with| (.value u,_)=> .same u v (.ret ())|_=> .bT)
     |false=> .ret ()
  |_,_=> .ret ()) fun _=>KX P aZ A cN aN x h rest
def LP (P:Program)(d:Lr)(x:Nat)(v:BV)(h:ai):T (Lr×ai):=
 let A:=bj d.aZ
 let aN:=d.aN.set x (some v)
 let dB:=d.dB.tail
 let I:=List.range d.aZ.size
 (KX P d.aZ A d.cN d.aN x h I).bind fun _=>(Bc P d.aZ A d.cN dB I h aN).bind fun r=> .ret ({d with aN:=r.2,dB},r.1)
section
variable {P:Program}
def M5 {aZ:Array Oper}{A:List Nat}{cN:List BV}{dB:List Nat}:∀(l:List Nat) (h:ai) (aN:List (Option BV)) {r:ai×List (Option BV)},T.dV r (Bc P aZ A cN dB l h aN)->wy P aZ A cN dB l h aN=some r:=by
 intro l
 induction l with
 |nil=>intro h aN r e;rw[<-T.bD e];rfl
 |cons i rest I=>
  intro h aN r e;simp only[Bc]at e;simp only[wy]
  split at e
  ·rename_i o ho J
   simp only[ho,J]
   split at e
   ·rename_i hc;rw[amu hc];exact I _ _ e
   rename_i hc
   rw[amt hc];obtain⟨w,hw,e⟩:=T.ca e;rw[BD hw]
   cases w with
   |true=>
    dsimp only at e ⊢;obtain⟨q,O,e⟩:=T.ca e;rw[Kl O];obtain⟨n,h'⟩:=q
    cases n<;>first|exact I _ _ e|exact(T.aP e).elim
   |false=>exact I _ _ e
  rename_i hno
  split
  ·rename_i o ho J;exact absurd J (hno o ho)
  exact I _ _ e
def UF {aZ:Array Oper}{I:List Nat}{cN:List BV}{aN:List (Option BV)}{x:Nat}{h:ai}:∀(l:List Nat),T.dV () (KX P aZ I cN aN x h l)->GX P aZ I cN aN x h l=true:=by
 intro l
 induction l with
 |nil=>intro _;rfl
 |cons i rest V=>
  intro e;simp only[KX]at e;obtain⟨⟨⟩,A,O⟩:=T.ca e;simp only[GX,amo];refine⟨?_,V O⟩
  split at A
  ·rename_i o v ho J
   simp only[ho,J]
   split at A
   ·rename_i hc;rw[amu hc]
   rename_i hc
   rw[amt hc];obtain⟨w,hw,A⟩:=T.ca A;rw[BD hw]
   cases w with
   |true=>
    dsimp only at A ⊢;obtain⟨q,U,A⟩:=T.ca A;rw[Kl U];obtain⟨n,h'⟩:=q
    cases n with
    |value u=>cases A with|same he _=>subst he;exact BV.ZP _
    |_=>exact(T.aP A).elim
   |false=>rfl
  rename_i hno
  split
  ·rename_i o v ho J;exact absurd J (hno o v ho)
  rfl
def Ra {d d':Lr}{x:Nat}{v:BV}{h h':ai}(e:T.dV (d',h') (LP P d x v h)):Fo P d x v h=some (d',h'):=by
 unfold LP at e;obtain⟨⟨⟩,A,e⟩:=T.ca e;obtain⟨r,I,e⟩:=T.ca e;have:=T.bD e;unfold Fo;dsimp only;rw[amu (UF _ A),M5 _ _ _ I,<-this];rfl
end
def uo (P:Program)(fr:bE)(v:BV)(h:ai):T (bE×ai):=
 match fr.mode,fr.todo with
 | .run,.js d::k=>(match d.dB with
   |x::_=>(LP P d x v h).bind fun r=> .ret ({fr with todo:= .js r.1::k},r.2)
   | []=> .bT)
 |_,_=>T.of (qB P fr v h)
inductive Nx where
 |pick (ks seen:List D) (s0:av) (k:D->av)
 |st (s:av)
 |Lk (s1 s2:av)
 |call (f:FuncId) (as:List BV) (fr:bE) (cs:List bE) (h:ai)
def stT (o:Option av):T Nx:=T.of (o.map Nx.st)
def Tm (P:Program)(tb:FuncId->Bool)(fr:bE)(cs:List bE)(r:bP×ai):T Nx:=
 match r with
 | (.value v,h)=>(uo P fr v h).bind fun r=> .ret (.st {fr:=r.1,cs,h:=r.2})
 | (.skip,h)=>(uo P fr BV.undef h).bind fun r=> .ret (.st {fr:=r.1,cs,h:=r.2})
 | (.enter f as,h)=>(match tb f,fj P f as .normal with
   |true,some _=> .ret (.call f as fr cs h)
   |_,_=>stT (sS P fr cs .normal (.enter f as,h)))
 |r=>stT (sS P fr cs .normal r)
def LO (P:Program)(fr:bE)(cs:List bE)(v:BV)(h:ai):T Nx:=
 match cs,fr.kind with
 |caller::rest,.normal=>(uo P caller v h).bind fun r=> .ret (.st {fr:=r.1,cs:=rest,h:=r.2})
 |cs,_=>stT (zw P fr cs v h)
def UR (P:Program)(fr:bE)(cs:List bE)(h:ai):T Nx:=
 match fr.defers,fr.mode with
 | [],.returning=>(match P.funcs[fr.fn]? with
   |some fn=>(match Gk P h fn fr.dw with|some v=>LO P fr cs v h|none=> .bT)
   |none=> .bT)
 |_,_=>stT (BB P fr cs h)
def toT (fr:bE)(cs:List bE)(h:ai)(todo:List ig):T Nx:= .ret (.st {fr:={fr with todo},cs,h})
def ai5 (P:Program)(fr:bE)(cs:List bE)(h:ai)(aZ:Array Oper)(dst:Option Nat)(rest:List Nat)(kk:List ig)(it:BV):Option (T Nx):=
 match it with
 | .ie r 0=>
   (match h.get r with
   |some (.nb m ks st ck seen)=>
    (match h.get m with
    |some (.cd kt vk l st' ck')=>
     (match Bz P m kt vk l (.z 0)with
     |some _=>some (.ite (xR l st' ck' ks st ck)
       (.ret (.pick ks seen ⟨{fr with dw:=yc fr.dw dst (.tuple [.bool false]),todo:= .inRegion aZ rest::kk},cs,h⟩
         fun k=>⟨{fr with dw:=yc fr.dw dst (match Bz P m kt vk l k with|some p=> .tuple [.bool true,p.1,p.2]|none=> .qd),todo:= .inRegion aZ rest::kk},cs,h.put r (some (.nb m ks st ck (k::seen)))⟩)) .bT)
     |none=>some .bT)
    |_=>some .bT)
   |_=>none)
 |_=>none
def ajt (dw:List BV)(o:Oper):Option (Nat×Bool):=
 match o.op with
 | .binOp .eql _ (.tmp j) y _=>(match dw[j]?,AV dw y with|some (.bx e l),.cS=>some (j,l.isEmpty)|some (.hY _ n _),.cS=>some (j,decide (n=0))|_,_=>none)
 | .binOp .neq _ (.tmp j) y _=>(match dw[j]?,AV dw y with|some (.bx e l),.cS=>some (j,l.isEmpty)|some (.hY _ n _),.cS=>some (j,decide (n=0))|_,_=>none)
 |_=>none
def aiw (P:Program)(tb:FuncId->Bool)(fr:bE)(cs:List bE)(h:ai)(aZ:Array Oper)(o:Oper)(rest:List Nat)(k:List ig):T Nx:=
 match o.op with
 | .next it false=>(match ai5 P fr cs h aZ o.dst rest k (AV fr.dw it)with
   |some t=>t
   |none=> .bT)
 |_=>(ajV P h (AV fr.dw) o).bind (Tm P tb fr cs)
def agG (P:Program)(tb:FuncId->Bool)(s:av):T Nx:=
 match s with
 | ⟨fr,cs,h⟩=>
   match fr.mode with
   | .run=>
     (match fr.todo with
     | []=>stT (Af P fr cs h none)
     | .code .ret::_=>stT (Af P fr cs h (some .ret))
     | .code (.cond c A I)::k=>(match AV fr.dw c with
       | .bool b=> .ite b (toT fr cs h (.code A::k)) (toT fr cs h (.code I::k))
       |_=> .bT)
     | .code (.exit id)::k=>(match yK id k with|some k'=>toT fr cs h k'|none=>stT (Af P fr cs h (some (.exit id))))
     | .code (.goto l)::k=>(match yM l k with|some k'=>toT fr cs h k'|none=>stT (Af P fr cs h (some (.goto l))))
     | .code (.region _ aZ true)::k=>
       if !(LQ aZ&&LR aZ fr.dw.length)then .bT else
       (Bc P aZ (bj aZ) fr.dw (tW aZ) (List.range aZ.size) h (List.replicate aZ.size none)).bind fun r=>toT fr cs r.1 (.js {aZ,cN:=fr.dw,aN:=r.2,dB:=tW aZ}::k)
     | .inRegion aZ (i::rest)::k=>(match aZ[i]? with
       |none=>toT fr cs h (.inRegion aZ rest::k)
       |some o=>(G2 o aZ fun t=>fr.dw[t]?).bind fun w=>
        match w with
        |true=>(match ajt fr.dw o with
         |some (j,c)=> .ite c (.ret (.Lk ⟨{fr with dw:=fr.dw.set j .cS},cs,h⟩ ⟨{fr with dw:=fr.dw.set j .nE},cs,h⟩)) (aiw P tb fr cs h aZ o rest k)
         |none=>aiw P tb fr cs h aZ o rest k)
        |false=>toT {fr with dw:=yc fr.dw o.dst BV.undef} cs h (.inRegion aZ rest::k))
     | .js d::k=>(match d.dB with
       | []=>toT {fr with dw:=rL d.aZ d.aN 0 d.cN} cs h k
       |x::_=>(match d.aZ[x]? with
        |none=> .bT
        |some o=>(G2 o d.aZ fun t=>some (qi d.aZ (bj d.aZ) d.cN d.aN x t)).bind fun w=>
         match w with
         |true=>(opT P h (nF d.aZ (bj d.aZ) d.cN d.aN x) o).bind (Tm P tb fr cs)
         |false=>(uo P fr BV.undef h).bind fun r=> .ret (.st {fr:=r.1,cs,h:=r.2})))
     |_=>stT (fX P ⟨fr,cs,h⟩))
   |_=>UR P fr cs h
def B9 (P:Program)(o:Option av):Nx->Prop
 | .pick _ _ _ _=>False
 | .Lk _ _=>False
 | .st s=>o=some s
 | .call f as fr cs h=>∃c,fj P f as .normal=some c/\o=some ⟨c,fr::cs,h⟩
def B9.of {P:Program}{o:Option av}{s:av}(h:o=some s):B9 P o (.st s):=h
section
variable {P:Program} {tb:FuncId->Bool}
def zf {o:Option av}{x:Nx}(e:T.dV x (stT o)):B9 P o x:=by
 have:=T.iH e
 cases o with
 |none=>cases this
 |some s=>simp only[amH,amD]at this;subst this;rfl
def tw {fr:bE}{v:BV}{h:ai}{r:bE×ai}(e:T.dV r (uo P fr v h)):qB P fr v h=some r:=by
 unfold uo at e
 split at e
 ·rename_i d k A ht
  split at e
  ·rename_i x xs hd
   obtain⟨⟨d',h'⟩,I,e⟩:=T.ca e;rw[<-T.bD e];simp only[qB,A,ht,hd,Ra I,amH]
  exact(T.aP e).elim
 exact T.iH e
def OS {fr:bE}{cs:List bE}{q:bP×ai}{x:Nx}(e:T.dV x (Tm P tb fr cs q)):B9 P (sS P fr cs .normal q) x:=by
 unfold Tm at e
 split at e
 ·obtain⟨r,A,e⟩:=T.ca e;rw[<-T.bD e];simp only[B9,sS,tw A,amH]
 ·obtain⟨r,A,e⟩:=T.ca e;rw[<-T.bD e];simp only[B9,sS,tw A,amH]
 ·split at e
  ·rename_i c _ hc
   rw[<-T.bD e];exact⟨c,hc,by simp only[sS,hc,amH]⟩
  exact zf e
 exact zf e
def Q9 {fr:bE}{cs:List bE}{v:BV}{h:ai}{x:Nx}(e:T.dV x (LO P fr cs v h)):B9 P (zw P fr cs v h) x:=by
 unfold LO at e
 split at e
 ·rename_i caller rest A
  obtain⟨r,I,e⟩:=T.ca e;rw[<-T.bD e];simp only[B9,zw,A,tw I,amH]
 exact zf e
def XH {fr:bE}{cs:List bE}{h:ai}{x:Nx}(e:T.dV x (UR P fr cs h)):B9 P (BB P fr cs h) x:=by
 unfold UR at e
 split at e
 ·rename_i hd A
  split at e
  ·rename_i fn hf
   split at e
   ·rename_i v I
    simp only[BB,hd,A,hf,I];exact Q9 e
   exact(T.aP e).elim
  exact(T.aP e).elim
 exact zf e
def BA {fr:bE}{cs:List bE}{h:ai}{todo:List ig}{x:Nx}(e:T.dV x (toT fr cs h todo)):x= .st {fr:={fr with todo},cs,h}:=(T.bD e).symm
structure aiN (P:Program)(s:av)(ks seen:List D)(s0:av)(k:D->av):Prop where
 ex:∃(fn:FuncId) (dw:List BV) (aZ:Array Oper) (i:Nat) (rest:List Nat) (kk:List ig) (ds:List Ay) (kind:CallKind) (ro:Option Nat) (cs:List bE) (h:ai) (o:Oper) (it:Operand) (r m:Nat) (st:List Nat) (ck:Nat) (kt:TypeId) (vk:VK) (l:List (D×D)) (st':List Nat) (ck':Nat),
  s=⟨⟨fn,dw,.inRegion aZ (i::rest)::kk,ds,.run,kind,ro⟩,cs,h⟩/\aZ[i]?=some o/\o.op= .next it false/\nP o aZ (fun t=>dw[t]?)=some true/\AV dw it= .ie r 0/\
  h.get r=some (.nb m ks st ck seen)/\h.get m=some (.cd kt vk l st' ck')/\xR l st' ck' ks st ck=true/\(∃p,Bz P m kt vk l (.z 0)=some p)/\
  s0=⟨⟨fn,yc dw o.dst (.tuple [.bool false]),.inRegion aZ rest::kk,ds,.run,kind,ro⟩,cs,h⟩/\
  k=fun d=>⟨⟨fn,yc dw o.dst (match Bz P m kt vk l d with|some p=> .tuple [.bool true,p.1,p.2]|none=> .qd),.inRegion aZ rest::kk,ds,.run,kind,ro⟩,cs,h.put r (some (.nb m ks st ck (d::seen)))⟩
def adn {m:Nat}{kt:TypeId}{vk:VK}{l:List (D×D)}{d d':D}{p:BV×BV}(e:Bz P m kt vk l d=some p):∃q,Bz P m kt vk l d'=some q:=by
 unfold Bz at e ⊢
 split at e
 ·rename_i hc
  rw[amu hc]
  cases vk with
  |data A=>
   dsimp only at e ⊢
   split at e
   ·rename_i h2;rw[amu h2];exact⟨_,rfl⟩
   cases e
  |dD f A=>exact⟨_,rfl⟩
  |Oq=>cases e
 cases e
structure aks (s s1 s2:av):Prop where
 ex:∃(fn:FuncId) (dw:List BV) (aZ:Array Oper) (todo:List Nat) (kk:List ig) (ds:List Ay) (kind:CallKind) (ro:Option Nat) (cs:List bE) (h:ai) (j:Nat),
  s=⟨⟨fn,dw,.inRegion aZ todo::kk,ds,.run,kind,ro⟩,cs,h⟩/\((∃e,dw[j]?=some (.bx e []))\/∃b vt,dw[j]?=some (.hY b 0 vt))/\s1=⟨⟨fn,dw.set j .cS,.inRegion aZ todo::kk,ds,.run,kind,ro⟩,cs,h⟩/\s2=⟨⟨fn,dw.set j .nE,.inRegion aZ todo::kk,ds,.run,kind,ro⟩,cs,h⟩
def Te (P:Program)(s:av)(x:Nx):Prop:=
 B9 P (fX P s) x\/(∃ks seen s0 k,x= .pick ks seen s0 k/\aiN P s ks seen s0 k)\/∃s1 s2,x= .Lk s1 s2/\aks s s1 s2
def abI {dw:List BV}{o:Oper}{j:Nat}{c:Bool}(h:ajt dw o=some (j,c))(hc:c=true):(∃e,dw[j]?=some (.bx e []))\/∃b vt,dw[j]?=some (.hY b 0 vt):=by
 unfold ajt at h
 split at h
 all_goals try (cases h;done)
 all_goals
  split at h
  ·rename_i h1 _;cases h;rw[ao8.1 hc]at h1;exact .inl ⟨_,h1⟩
  ·rename_i h1 _;cases h;rw[amU hc]at h1;exact .inr ⟨_,_,h1⟩
  cases h
def Xi {fr:bE}{cs:List bE}{h:ai}{aZ:Array Oper}{i:Nat}{rest:List Nat}{k:List ig}{o:Oper}{x:Nx}(Z:fr.mode= .run)(ht:fr.todo= .inRegion aZ (i::rest)::k)(ho:aZ[i]?=some o)
 (I:nP o aZ (fun t=>fr.dw[t]?)=some true)(e:T.dV x (aiw P tb fr cs h aZ o rest k)):Te P ⟨fr,cs,h⟩ x:=by
 unfold aiw at e
 split at e
 ·rename_i it O
  split at e
  ·rename_i t A
   right;left;unfold ai5 at A
   split at A
   ·rename_i r U
    split at A
    ·rename_i m ks st ck seen hb
     split at A
     ·rename_i kt vk l st' ck' V
      split at A
      ·rename_i p hp
       cases A
       obtain⟨h1,h2⟩:=T.iG e;have h3:=T.bD h2;obtain⟨b4,a7,Y,a8,a6,J,b1⟩:=fr;dsimp only at Z ht;subst Z;subst ht;exact⟨_,_,_,_,h3.symm,⟨⟨_,_,_,_,_,_,_,_,_,_,_,_,_,_,_,_,_,_,_,_,_,_,rfl,ho,O,I,U,hb,V,h1,⟨p,hp⟩,rfl,rfl⟩⟩⟩
      cases A;exact(T.aP e).elim
     cases A;exact(T.aP e).elim
    cases A
   cases A
  exact(T.aP e).elim
 left;simp only[fX,Z,ht];rw[ho];dsimp only;rw[I];obtain⟨q,e1,e⟩:=T.ca e;dsimp only;rw[afy e1];exact OS e
def adE {s:av}{x:Nx}(e:T.dV x (agG P tb s)):Te P s x:=by
 unfold Te;obtain⟨fr,cs,h⟩:=s;unfold agG at e;dsimp only at e
 split at e
 ·rename_i A
  split at e
  ·left;rename_i ht;simp only[fX,A,ht];exact zf e
  ·left;rename_i ht;simp only[fX,A,ht];exact zf e
  ·left
   rename_i c b1 b6 k ht
   split at e
   ·rename_i b hb
    simp only[fX,A,ht,hb]
    cases e with
    |tt hc e=>subst hc;rw[BA e];exact B9.of (by simp[A])
    |ff hc e=>subst hc;rw[BA e];exact B9.of (by simp[A])
   exact(T.aP e).elim
  ·left
   rename_i id k ht
   simp only[fX,A,ht]
   split at e
   ·rename_i k' I;rw[BA e,I];exact B9.of (by simp[A])
   rename_i I;rw[I];exact zf e
  ·left
   rename_i l k ht
   simp only[fX,A,ht]
   split at e
   ·rename_i k' I;rw[BA e,I];exact B9.of (by simp[A])
   rename_i I;rw[I];exact zf e
  ·left
   rename_i id aZ k ht
   split at e
   ·exact(T.aP e).elim
   rename_i hc
   obtain⟨r,U,e⟩:=T.ca e;rw[BA e];simp only[B9,fX,A,ht,anY,amp,ann,amt hc,M5 _ _ _ U,amH]
  ·rename_i aZ i rest k ht
   split at e
   ·left;rename_i ho;simp only[fX,A,ht];rw[ho,BA e];exact B9.of (by simp[A])
   rename_i o ho
   obtain⟨w,hw,e⟩:=T.ca e;have J:=BD hw
   cases w with
   |true=>
    dsimp only at e
    split at e
    ·rename_i j c hq
     cases e with
     |tt hc e=>have h3:=T.bD e;have hj:=abI hq hc;obtain⟨b4,a6,Y,a7,Z,V,a8⟩:=fr;dsimp only at A ht hj;subst A;subst ht;exact .inr (.inr ⟨_,_,h3.symm,⟨⟨_,_,_,_,_,_,_,_,_,_,_,rfl,hj,rfl,rfl⟩⟩⟩)
     |ff hc e=>exact Xi A ht ho J e
    exact Xi A ht ho J e
   |false=>left;simp only[fX,A,ht];rw[ho];dsimp only;rw[J];dsimp only at e ⊢;rw[BA e];exact B9.of (by simp[A])
  ·left
   rename_i d k ht
   simp only[fX,A,ht]
   split at e
   ·rename_i hd;rw[hd,BA e];exact B9.of (by simp[A])
   rename_i y ys hd
   rw[hd];dsimp only
   split at e
   ·exact(T.aP e).elim
   rename_i o ho
   rw[ho];dsimp only;obtain⟨w,hw,e⟩:=T.ca e;rw[BD hw]
   cases w with
   |true=>dsimp only at e ⊢;obtain⟨q,U,e⟩:=T.ca e;rw[Kl U];exact OS e
   |false=>dsimp only at e ⊢;obtain⟨r,U,e⟩:=T.ca e;rw[tw U,<-T.bD e];rfl
  left;exact zf e
 left
 rename_i A
 have:fX P ⟨fr,cs,h⟩=BB P fr cs h:=by
  unfold fX
  cases O:fr.mode with
  |run=>exact absurd O A
  |returning=>simp only[O]
 rw[this];exact XH e
end
end
end
section
noncomputable section
def BS (g:Gh)(bs:List Nat)(c:Nat):Prop:=g.fz c\/∃b∈bs,∃aD,g.m b=some (c,aD)
def aaZ (F:TypeId->List BV->T (D×List BV×List Nat)):List Field->List BV->T (List D×List BV×List Nat)
 | [],cs=> .ret ([],cs,[])
 |f::r,cs=>(F f.type cs).bind fun x=>(aaZ F r x.2.1).bind fun y=> .ret (x.1::y.1,y.2.1,x.2.2++y.2.2)
def ab6 (P:Program)(h:ai):Nat->TypeId->List BV->T (D×List BV×List Nat)
 |0,_,_=> .bT
 |n+1,t,cs=>
  match P.underlying t with
  |some (.int k)=>(match cs with| .int k' m::r=>if k=k' then .ret (.z m,r,[])else .bT|_=> .bT)
  |some .bool=>(match cs with| .bool b::r=> .ret (.b b,r,[])|_=> .bT)
  |some .string=>(match cs with| .ax s::r=> .ret (.s s,r,[])|_=> .bT)
  |some (.slice e)=>(match cs with
   | .bx A l::r=>if Nat.beq e A then .ret (.r l,r,[])else .bT
   | .IL A l::r=>if Nat.beq e A then .ret (.r l,r,[])else .bT
   | .cS::r=> .ret (.r [],r,[])
   | .nE::r=> .ret (.r [],r,[])
   | .hY b n vt::r=>(match h.get b with|some (.bY A l I)=>if Nat.beq e A&&(vt==I)then .ite (decide (n=l.length)) (.ret (.r l,r,[b])) .bT else .bT|_=> .bT)
   |_=> .bT)
  |some (.struct fs)=>(aaZ (ab6 P h n) fs.toList cs).bind fun x=> .ret (.r x.1,x.2.1,x.2.2)
  |_=> .bT
def ahl (P:Program)(h:ai)(t:TypeId)(cs:List BV):T (D×List Nat):=(ab6 P h 8 t cs).bind fun x=>match x.2.1 with| []=> .ret (x.1,x.2.2)|_=> .bT
def ab7 (P:Program)(h:ai)(t:TypeId)(v:BV):T (D×List Nat):=
 match cZ P t,jw P t with
 |true,some true=>(match v with| .agg cs=>ahl P h t cs|_=> .bT)
 |true,some false=>ahl P h t [v]
 |_,_=> .bT
def M7 (P:Program)(h:ai):List TypeId->List BV->T (List D×List Nat)
 | [],[]=> .ret ([],[])
 |t::A,v::vs=>(ab7 P h t v).bind fun x=>(M7 P h A vs).bind fun y=> .ret (x.1::y.1,x.2++y.2)
 |_,_=> .bT
def AB (P:Program):List TypeId->List D->List BV
 |t::A,d::ds=>de P t d::AB P A ds
 |_,_=>[]
def VG:List TypeId->Nat->D->List D
 | [],_,_=>[]
 |_::A,i,d=>d.af i::VG A (i+1) d
def aeM {l:List D}:∀(A:List TypeId) (i:Nat),i+A.length=l.length->VG A i (.r l)=l.drop i:=by
 intro A
 induction A with
 |nil=>intro i h;simp at h;simp[VG,h]
 |cons t A I=>
  intro i h;simp only[amB]at h;have hi:i<l.length:=by omega
  simp only[VG];rw[I (i+1) (by omega),anU hi];simp[D.af,D.ae,D.at,List.getD,amr hi]
def K0 (P:Program)(ts:List TypeId)(d:D):BV:=
 match ts with
 | [t]=>de P t d
 |ts=> .tuple (AB P ts (VG ts 0 d))
def GZ (P:Program)(t:TypeId):Bool:=
 match P.underlying t with
 |some (.int _)=>true
 |some .bool=>true
 |some .string=>true
 |_=>false
def ahm (P:Program)(h:ai)(ts:List TypeId)(v:BV):T (D×List Nat):=
 match ts with
 | [t]=>ab7 P h t v
 |ts=>(match v with| .tuple vs=>(M7 P h ts vs).bind fun x=> .ret (.r x.1,x.2)|_=> .bT)
section
variable {P:Program} {g g':Gh} {h h':ai} {w w':World}
def Fy {bs A:List Nat}(hs:∀b∈bs,b∈A)(c:Nat)(h:BS g bs c):BS g A c:=by
 rcases h with h| ⟨b,hb,aD,I⟩
 ·exact .inl h
 exact .inr ⟨b,hs b hb,aD,I⟩
def Q2 (g:Gh)(h:ai)(bs:List Nat):Prop:=∀b∈bs,g.m b=none->vU (h.get b)=true
def Q2.nil:Q2 g h []:=fun b hb=>by simp at hb
def Q2.append {as bs:List Nat}(a:Q2 g h as)(b:Q2 g h bs):Q2 g h (as++bs):=fun x hx=>by
 rcases amO.1 hx with hx|hx
 ·exact a x hx
 exact b x hx
structure Frz (P:Program)(g:Gh)(h:ai)(w:World)(t:TypeId)(cs:List BV)(d:D)(r:List BV)(bs:List Nat):Prop where
 get:∀b∈bs,∃o,h.get b=some o/\o.nf=some o
 UH:∃c1,cs=c1++r/\∀vs,ay P g w c1 vs->qk P (BS g bs) w t d vs/\Q2 g h bs
def qk.up {bs A:List Nat}{t:TypeId}{d:D}{vs:List Value}(hs:∀b∈bs,b∈A)(hd:qk P (BS g bs) w t d vs):qk P (BS g A) w t d vs:=
 hd.mono (fun c=>Fy hs c) fun _ _=>rfl
def dm.up {bs:List Nat}{t:TypeId}{l:List D}{vs:List Value}(hd:dm P g.fz w t l vs):dm P (BS g bs) w t l vs:=
 hd.mono (fun _ hc=> .inl hc) fun _ _=>rfl
def ajJ {n:Nat}(ih:∀{t:TypeId} {cs:List BV} {x:D×List BV×List Nat},T.dV x (ab6 P h n t cs)->Frz P g h w t cs x.1 x.2.1 x.2.2):
 ∀(fs:List Field) {cs:List BV} {x:List D×List BV×List Nat},T.dV x (aaZ (ab6 P h n) fs cs)->(∀b∈x.2.2,∃o,h.get b=some o/\o.nf=some o)/\∃A:List (List BV),cs=A.flatten++x.2.1/\A.length=fs.length/\
  (∀j f c,fs[j]?=some f->A[j]?=some c->∀vs,ay P g w c vs->qk P (BS g x.2.2) w f.type (D.at x.1 j) vs)/\∀vs,ay P g w A.flatten vs->Q2 g h x.2.2:=by
 intro fs
 induction fs with
 |nil=>intro cs x e;rw[<-T.bD e];exact⟨fun b hb=>by simp at hb,[],by simp,rfl,fun j f c I=>by simp at I,fun _ _=>Q2.nil⟩
 |cons f fr O=>
  intro cs x e;simp only[aaZ]at e;obtain⟨x1,e1,e⟩:=T.ca e;obtain⟨x2,e2,e⟩:=T.ca e;rw[<-T.bD e];obtain⟨g1,c1,V,U⟩:=ih e1;obtain⟨g2,A,m1,Y,Z,m4⟩:=O e2;refine⟨fun b hb=>?_,c1::A,by rw[V,m1];simp,by simp[Y],fun j f' c I hc vs J=>?_,fun vs J=>?_⟩
  ·rcases amO.1 hb with hb|hb
   ·exact g1 b hb
   exact g2 b hb
  ·cases j with
   |zero=>simp at I hc;subst I;subst hc;exact(U vs J).1.up fun b hb=>aoo _ hb
   |succ j=>exact(Z j f' c (by simpa using I) (by simpa using hc) vs J).up fun b hb=>aoi _ hb
  rw[aoZ]at J;obtain⟨us,xs,rfl,h1,h2⟩:=J.Le;exact(U us h1).2.append (m4 xs h2)
def ahn (hr:bq P g h w):∀(n:Nat) {t:TypeId} {cs:List BV} {x:D×List BV×List Nat},T.dV x (ab6 P h n t cs)->Frz P g h w t cs x.1 x.2.1 x.2.2:=by
 intro n
 induction n with
 |zero=>intro t cs x e;exact(T.aP e).elim
 |succ n ih=>
  intro t cs x e;simp only[ab6]at e
  cases J:P.underlying t with
  |none=>simp only[J]at e;exact(T.aP e).elim
  |some td=>
   simp only[J]at e;have one:∀{v:BV} {r:List BV} {d:D},(∀I,aw P g w v I->qk P (BS g []) w t d [I])->Frz P g h w t (v::r) d r []:=fun {v r d} A=>⟨fun b hb=>by simp at hb,[v],rfl,fun vs Z=>by obtain⟨I,rfl,h1⟩:=Z.one;exact⟨A I h1,Q2.nil⟩⟩
   cases td with
   |int k=>
    simp only at e
    split at e
    ·split at e
     ·rename_i hk;subst hk;rw[<-T.bD e]
      exact one fun I A=>by simp only[aw]at A;subst A;exact .int (d:= .z _) J
     exact(T.aP e).elim
    exact(T.aP e).elim
   |bool=>
    simp only at e
    split at e
    ·rw[<-T.bD e];exact one fun I A=>by simp only[aw]at A;subst A;exact .bool (d:= .b _) J
    exact(T.aP e).elim
   |string=>
    simp only at e
    split at e
    ·rw[<-T.bD e];exact one fun I A=>by simp only[aw]at A;subst A;exact .ax (d:= .s _) J
    exact(T.aP e).elim
   |slice el=>
    simp only at e;have bx:∀{l:List D} {I:Value},aw P g w (.bx el l) I->qk P (BS g []) w t (.r l) [I]:=fun {l I} A=>by
     simp only[aw]at A;rcases A with ⟨h0,rfl| ⟨a,c,rfl⟩⟩| ⟨aS,off,c,rfl,hc,hb,vs,O,hat⟩
     ·exact .cS (d:= .r l) J h0
     ·exact .empty (d:= .r l) J h0 a c
     exact .slice (d:= .r l) J aS off c vs (.inl hb) hc O.1 (O.up (bs:=[])).2 hat
    split at e
    ·split at e
     ·rename_i he;have he:=amC he;subst he;rw[<-T.bD e];exact one fun I A=>bx A
     exact(T.aP e).elim
    ·split at e
     ·rename_i he;have he:=amC he;subst he;rw[<-T.bD e];exact one fun I A=>bx A.TC
     exact(T.aP e).elim
    ·rw[<-T.bD e];exact one fun I A=>by simp only[aw]at A;subst A;exact .cS (d:= .r []) J rfl
    ·rw[<-T.bD e];exact one fun I A=>by simp only[aw]at A;obtain⟨a,c,rfl⟩:=A;exact .empty (d:= .r []) J rfl a c
    ·rename_i b n vt r
     split at e
     ·rename_i e' l b6 hb
      split at e
      ·rename_i he
       simp only[amo,amY]at he;obtain⟨he,a8⟩:=he;have he:=amC he;subst he;obtain⟨h1,h2⟩:=T.iG e;have h1:=amU h1;subst h1;rw[<-T.bD h2];refine⟨fun b' a7=>by simp at a7;subst a7;exact⟨_,hb,rfl⟩,[.hY b l.length vt],rfl,fun vs Z=>?_⟩;obtain⟨I,rfl,A⟩:=Z.one;simp only[aw]at A;have U:vt=true->Q2 g h [b]:=fun h1 b1 V _=>by simp at V;subst V;rw[hb];subst a8;exact h1
       rcases A with ⟨⟨a6,h0⟩,rfl| ⟨a,rfl⟩⟩| ⟨aS,aD,c,hm,rfl,hc,_⟩
       ·exact⟨.cS (d:= .r l) J (am3.1 h0),U a6⟩
       ·exact⟨.empty (d:= .r l) J (am3.1 h0) a 0,U a6⟩
       obtain⟨cc,ws,_,hw,O,_,hat,_⟩:=hr.bY hb hm;exact⟨.slice (d:= .r l) J aS aD c ws (.inr ⟨b,by simp,aD,hm⟩) hc O.1 (O.up (bs:=[b])).2 hat,fun b1 V hn=>by simp at V;subst V;rw[hm]at hn;cases hn⟩
      exact(T.aP e).elim
     exact(T.aP e).elim
    exact(T.aP e).elim
   |struct fs=>simp only at e;obtain⟨x1,e1,e⟩:=T.ca e;rw[<-T.bD e];obtain⟨k0,cc,k1,k2,k3,k4⟩:=ajJ ih _ e1;refine⟨k0,cc.flatten,k1,fun vs A=>?_⟩;have b4:=k4 vs A;obtain⟨vv,rfl,m1,m2⟩:=A.SY;refine⟨?_,b4⟩;refine .struct (d:= .r x1.1) J vv (m1.trans k2) fun j f c hj hc=>?_;have Y:j<cc.length:=(by rw[<-m1];exact(amw.1 hc).1);exact k3 j f _ hj (amr Y) c (m2 j _ c (amr Y) hc)
   |_=>exact(T.aP e).elim
def VJ (U:bq P g h w){t:TypeId}{cs:List BV}{x:D×List Nat}(e:T.dV x (ahl P h t cs)):(∀b∈x.2,∃o,h.get b=some o/\o.nf=some o)/\∀vs,ay P g w cs vs->qk P (BS g x.2) w t x.1 vs/\Q2 g h x.2:=by
 unfold ahl at e;obtain⟨y,J,e⟩:=T.ca e;obtain⟨I,c1,A,O⟩:=ahn U 8 J
 split at e
 ·rename_i V
  rw[<-T.bD e];rw[V,ana]at A;subst A;exact⟨I,O⟩
 exact(T.aP e).elim
def adT (P:Program)(fz:Nat->Prop)(w:World)(t:TypeId)(d:D)(v:Value):Prop:=aw P ⟨fun _=>none,fz,fun _ _=>none⟩ w (de P t d) v
def J5 (V:bq P g h w){t:TypeId}{v:BV}{x:D×List Nat}(e:T.dV x (ab7 P h t v)):(∀b∈x.2,∃o,h.get b=some o/\o.nf=some o)/\∀I,aw P g w v I->adT P (BS g x.2) w t x.1 I/\Q2 g h x.2:=by
 unfold ab7 at e
 split at e
 ·rename_i hd U
  split at e
  ·rename_i cs
   obtain⟨O,J⟩:=VJ V e;refine⟨O,fun I A=>?_⟩;simp only[aw]at A;obtain⟨vs,rfl,A⟩:=A;refine⟨?_,(J _ A).2⟩;simp only[adT,de,U,aw];exact⟨vs,rfl,qk.shape (g:=⟨fun _=>none,BS g x.2,fun _ _=>none⟩) hd (J _ A).1⟩
  exact(T.aP e).elim
 ·rename_i hd U
  obtain⟨O,J⟩:=VJ V e;refine⟨O,fun I A=>?_⟩;have Y:=J [I] (ay.cons A ay.nil);have:=qk.shape (g:=⟨fun _=>none,BS g x.2,fun _ _=>none⟩) hd Y.1;refine⟨?_,Y.2⟩;simp only[adT,de,U]
  split
  ·rename_i y Z
   rw[Z]at this;obtain⟨u,hu,h1⟩:=this.one
   cases hu;exact h1
  rename_i hno
  simp only[aw]
 exact(T.aP e).elim
def Sw (Z:bq P g h w):∀{I:List TypeId} {vs:List BV} {x:List D×List Nat},T.dV x (M7 P h I vs)->(∀b∈x.2,∃o,h.get b=some o/\o.nf=some o)/\∀A,ay P g w vs A->ay P ⟨fun _=>none,BS g x.2,fun _ _=>none⟩ w (AB P I x.1) A/\Q2 g h x.2:=by
 intro I
 induction I with
 |nil=>
  intro vs x e
  cases vs with
  |nil=>rw[<-T.bD e];exact⟨fun b hb=>by simp at hb,fun A J=>⟨by simpa [AB,ay]using J,Q2.nil⟩⟩
  |cons v vs=>exact(T.aP e).elim
 |cons t I ih=>
  intro vs x e
  cases vs with
  |nil=>exact(T.aP e).elim
  |cons v vs=>
   simp only[M7]at e;obtain⟨x1,e1,e⟩:=T.ca e;obtain⟨x2,e2,e⟩:=T.ca e;rw[<-T.bD e];obtain⟨Y,V⟩:=J5 Z e1;obtain⟨m1,U⟩:=ih e2;refine⟨fun b hb=>?_,fun A J=>?_⟩
   ·rcases amO.1 hb with hb|hb
    ·exact Y b hb
    exact m1 b hb
   simp only[ay]at J;obtain⟨u,O,rfl,h1,h2⟩:=J;refine⟨?_,(V u h1).2.append (U O h2).2⟩;simp only[AB];refine ay.cons ?_ ?_
   ·exact aw.mono (g:=⟨fun _=>none,BS g x1.2,fun _ _=>none⟩) (w:=w) ⟨fun b x h=>(by cases h),fun c=>Fy (fun b hb=>aoo _ hb) c,fun _ _=>rfl,fun _ _ h=>h,fun _ _ _ h=>(by first|exact h|cases h)⟩ _ _ (V u h1).1
   exact ay.mono (g:=⟨fun _=>none,BS g x2.2,fun _ _=>none⟩) (w:=w) ⟨fun b x h=>(by cases h),fun c=>Fy (fun b hb=>aoi _ hb) c,fun _ _=>rfl,fun _ _ h=>h,fun _ _ _ h=>(by first|exact h|cases h)⟩ _ _ (U O h2).1
def TN:∀{A:List TypeId} {vs:List BV} {x:List D×List Nat},T.dV x (M7 P h A vs)->x.1.length=A.length:=by
 intro A
 induction A with
 |nil=>
  intro vs x e
  cases vs with
  |nil=>rw[<-T.bD e];rfl
  |cons v vs=>exact(T.aP e).elim
 |cons t A I=>
  intro vs x e
  cases vs with
  |nil=>exact(T.aP e).elim
  |cons v vs=>simp only[M7]at e;obtain⟨V,O,e⟩:=T.ca e;obtain⟨U,J,e⟩:=T.ca e;rw[<-T.bD e];simp[I J]
def aeR (O:bq P g h w){I:List TypeId}{v:BV}{x:D×List Nat}(e:T.dV x (ahm P h I v)):(∀b∈x.2,∃o,h.get b=some o/\o.nf=some o)/\∀J,aw P g w v J->aw P ⟨fun _=>none,BS g x.2,fun _ _=>none⟩ w (K0 P I x.1) J/\Q2 g h x.2:=by
 unfold ahm at e
 split at e
 ·exact J5 O e
 rename_i Ln
 split at e
 ·rename_i vs
  obtain⟨y,V,e⟩:=T.ca e;rw[<-T.bD e];obtain⟨Y,U⟩:=Sw O V;refine⟨Y,fun J A=>?_⟩;simp only[aw]at A;obtain⟨Z,rfl,A⟩:=A;have:K0 P I (D.r y.1)= .tuple (AB P I y.1):=by
   unfold K0
   split
   ·rename_i t;exact absurd rfl (Ln t)
   rw[aeM I 0 (by rw[anr];exact(TN V).symm)];rfl
  rw[this];refine⟨?_,(U _ A).2⟩;simp only[aw];exact⟨Z,rfl,(U _ A).1⟩
 exact(T.aP e).elim
def fH (h:ai):List Nat->ai
 | []=>h
 |b::r=>(fH h r).put b none
def CA (h:ai):∀(bs:List Nat) (b:Nat),(fH h bs).get b=if b∈bs then none else h.get b:=by
 intro bs
 induction bs with
 |nil=>intro b;simp[fH]
 |cons x r A=>
  intro b;simp only[fH,ai.iR,A]
  by_cases hb:b=x
  ·simp[hb]
  simp[hb]
def pQ (h:ai):∀bs:List Nat,(fH h bs).next=h.next:=by
 intro bs
 induction bs with
 |nil=>rfl
 |cons x r A=>simp[fH,A]
def Vy {bs:List Nat}(hp:Q2 g h bs)(lb:Nat):vX lb g h {g with fz:=BS g bs} (fH h bs):=fun b _ A I=>⟨A,by
 rw[CA,amt]
 intro hb;rw[hp b hb A]at I;cases I⟩
def bq.grow {O:World}(A:bq P g h O)(V:mO g h w g h O){fz':Nat->Prop}(hf:∀c,g.fz c->fz' c)(Y:∀c,fz' c->c<O.heap.size)(hn:∀c,fz' c->c<w.heap.size->g.fz c)
 (U:∀l aS aD,g.at l=some (aS,aD)->aS<w.heap.size):bq P {g with fz:=fz'} h O/\mO g h w {g with fz:=fz'} h O:=by
 have J:iL g O {g with fz:=fz'} O:=⟨fun _ _ e=>e,hf,fun _ _=>rfl,fun _ _ e=>e,fun _ _ _ e=>e⟩;have hat:∀l,({g with fz:=fz'}:Gh).at l=g.at l:=fun l=>by cases l<;>rfl
 have a6:Ob {g with fz:=fz'} h:=⟨A.PJ,A.lt,A.Ny,A.Hv,A.fu,A.sk,A.al⟩
 refine⟨a6.UH (fun l x y e=>A.rV l x y (hat l▸e)) (fun l l' aS aD base' o o' h1 h2 I m2=>A.rW l l' aS aD base' o o' h1 h2 (hat l▸I) (hat l'▸m2)) ?_ Y,⟨⟨fun _ _ e=>e,hf,V.mono.mc,V.mono.ms,fun _ _ _ e=>e⟩,V.size,V.FB,fun c hc ho=>(by
  obtain⟨l,o,aD,h1,I⟩:=ho
  exact⟨l,o,aD,h1,hat l▸I⟩),fun c hc h1=> .inl (hn c h1 hc),amG _,V.os⟩⟩
 intro l o aS aD h1 I;rw[hat]at I;obtain⟨n1,o',ho,Z⟩:=A.vL l o aS aD h1 I;exact⟨fun h2=>n1 (hn _ h2 (U _ _ _ I)),o',ho,Z.mono J⟩
def aw.abm {fz:Nat->Prop}{t:TypeId}{d:D}{v:Value}(hs:GZ P t=true)(I:aw P ⟨fun _=>none,fz,fun _ _=>none⟩ w (de P t d) v):aw P g w (de P t d) v:=by
 unfold GZ at hs
 cases A:P.underlying t with
 |none=>simp[A]at hs
 |some J=>
  simp only[A]at hs
  cases J<;>simp at hs
  all_goals
   simp only[de,jw,A,amH,aH,fq]at I ⊢;simpa [aw]using I
def aw.aiz {fz:Nat->Prop}:∀{A:List TypeId} {ds:List D} {vs:List Value},A.all (GZ P)=true->ay P ⟨fun _=>none,fz,fun _ _=>none⟩ w (AB P A ds) vs->ay P g w (AB P A ds) vs:=by
 intro A
 induction A with
 |nil=>intro ds vs _ I;simpa [AB,ay]using I
 |cons t A O=>
  intro ds vs hs I;simp only[ap4,amo]at hs
  cases ds with
  |nil=>simpa [AB,ay]using I
  |cons d ds=>simp only[AB,ay]at I ⊢;obtain⟨u,J,rfl,h1,h2⟩:=I;exact⟨u,J,rfl,h1.abm hs.1,O hs.2 h2⟩
def aw.aj7 {fz:Nat->Prop}{I:List TypeId}{d:D}{v:Value}(hs:I.all (GZ P)=true)(A:aw P ⟨fun _=>none,fz,fun _ _=>none⟩ w (K0 P I d) v):aw P g w (K0 P I d) v:=by
 unfold K0 at A ⊢
 split at A
 ·exact A.abm (by simpa using hs)
 simp only[aw]at A ⊢;obtain⟨vs,rfl,A⟩:=A;exact⟨vs,rfl,aw.aiz hs A⟩
def bq.freeze (O:bq P g h w){bs:List Nat}(hb:∀b∈bs,∃o,h.get b=some o/\o.nf=some o):bq P {g with fz:=BS g bs} (fH h bs) w/\mO g h w {g with fz:=BS g bs} (fH h bs) w:=by
 have Z:iL g w {g with fz:=BS g bs} w:=⟨fun _ _ e=>e,fun _ e=> .inl e,fun _ _=>rfl,fun _ _ e=>e,fun _ _ _ e=>e⟩;have A:∀b o,(fH h bs).get b=some o->b∉bs/\h.get b=some o:=fun b o e=>by
  rw[CA]at e
  split at e
  ·cases e
  rename_i hn;exact⟨hn,e⟩
 have J:∀l,({g with fz:=BS g bs}:Gh).at l=g.at l:=fun l=>by cases l<;>rfl
 have hat:∀l o,(fH h bs).at l=some o->h.at l=some o/\∀b∈bs,l≠ .aS b:=fun l o e=>by
  cases l with
  |aS b=>obtain⟨V,e2⟩:=ai.CP e;obtain⟨h1,h2⟩:=A _ _ V;exact⟨ai.jH h2 e2,fun b' a6 e=>by cases e;exact h1 a6⟩
  |el b f k=>obtain⟨y,V,e2⟩:=ai.RU e;exact⟨ai.Hs (A _ _ V).2 e2,fun b' a6 e=>by cases e⟩
 have a8:Ob {g with fz:=BS g bs} (fH h bs):=⟨fun b o e=>by rw[pQ];exact O.PJ b o (A b o e).2,fun b x e=>by rw[pQ];exact O.lt b x e,fun f k x e=>by rw[pQ];exact O.Ny f k x e,
  fun b o f V e2=>by rw[pQ];exact O.Hv b o f (A _ _ V).2 e2,fun b b' o o' f V e2=>O.fu b b' o o' f (A _ _ V).2 (A _ _ e2).2,fun b o f k x V=>O.sk b o f k x (A _ _ V).2,fun b b' f k V=>O.al b b' f k (A _ _ V).2⟩
 refine⟨a8.UH (fun l x y e=>O.rV l x y (J l▸e)) ?_ ?_ ?_,⟨Z,amG _,fun _ _ _=>rfl,?_,?_,by rw[pQ];exact amG _,⟨rfl,rfl,rfl⟩⟩⟩
 ·intro l l' aS aD base' o o' h1 h2 m1 m2;exact O.rW l l' aS aD base' o o' (hat _ _ h1).1 (hat _ _ h2).1 (J l▸m1) (J l'▸m2)
 ·intro l o aS aD h1 m1;rw[J]at m1;obtain⟨h2,hn⟩:=hat _ _ h1;obtain⟨n1,o',ho,a7⟩:=O.vL l o aS aD h2 m1;refine⟨?_,o',ho,a7.mono Z⟩;rintro(hf| ⟨b1,Y,I,U⟩)
  ·exact n1 hf
  obtain⟨o1,h3,h4⟩:=hb b1 Y;exact hn b1 Y (O.rW l (.aS b1) aS aD I o o1 h2 (ai.jH h3 h4) m1 U)
 ·rintro c (hf| ⟨b1,Y,I,U⟩)
  ·exact O.oU c hf
  exact O.img b1 c I U
 ·rintro c _ ⟨l,o,aD,h1,m1⟩;exact⟨l,o,aD,(hat _ _ h1).1,J l▸m1⟩
 rintro c _ (hf| ⟨b1,Y,I,U⟩)
 ·exact .inl hf
 obtain⟨o1,h3,h4⟩:=hb b1 Y;exact .inr ⟨.aS b1,o1,I,ai.jH h3 h4,U⟩
end
def dZ (P:Program)(f:FuncId)(J:List TypeId)(ds:List D)(rs:List TypeId)(Q:D->Prop):Prop:=
 ∀(fz:Nat->Prop) (w:World) (A:Array Value),(∀c,fz c->c<w.heap.size)->ay P ⟨fun _=>none,fz,fun _ _=>none⟩ w (AB P J ds) A.toList->
  Calls P f A w fun O w'=>∃(I:Value) (fz':Nat->Prop) (d:D),O= .returned I/\EG w w'/\(∀c,fz c->fz' c)/\(∀c,fz' c->c<w'.heap.size)/\(∀c,fz' c->c<w.heap.size->fz c)/\
   aw P ⟨fun _=>none,fz',fun _ _=>none⟩ w' (K0 P rs d) I/\Q d
def dZ.mono {P:Program}{f:FuncId}{O rs:List TypeId}{ds:List D}{Q J:D->Prop}(hp:dZ P f O ds rs Q)(Z:∀d,Q d->J d):dZ P f O ds rs J:=by
 intro fz w A I ha;refine(hp fz w A I ha).mono ?_;rintro ed w' ⟨U,fz',d,h1,h2,V,h4,h5,Y,h7⟩;exact⟨U,fz',d,h1,h2,V,h4,h5,Y,Z d h7⟩
structure Iw (g:Gh)(h:ai)(w:World)(g':Gh)(h':ai)(w':World):Prop where
 size:w.heap.size<=w'.heap.size
 FB:∀c,c<w.heap.size->¬ru g h c->w'.heap[c]?=w.heap[c]?
 fz:∀c,g.fz c->g'.fz c
 YC:∀c,c<w.heap.size->g'.fz c->g.fz c\/ru g h c
 oU:∀c,g'.fz c->c<w'.heap.size
 nf:∀c,c<w.heap.size->ru g' h' c->ru g h c
 ms:∀c s,w.shape? c=some s->w'.shape? c=some s
 os:w'.os=w.os/\w'.output=w.output/\w'.tape=w.tape
structure Pin (p:Nat)(g g':Gh):Prop where
 m:∀i,i<p->∀x,g.m i=some x->g'.m i=some x
 s:∀i,i<p->∀k x,g.s i k=some x->g'.s i k=some x
def Pin.DX {p:Nat}{g J g':Gh}{w O:World}(I:iL g w J O)(h:Pin p J g'):Pin p g g':=⟨fun i hi x A=>h.m i hi x (I.mm _ _ A),fun i hi k x A=>h.s i hi k x (I.mse _ _ _ A)⟩
def Pin.zero (g g':Gh):Pin 0 g g':=⟨fun i hi=>absurd hi (apK _),fun i hi=>absurd hi (apK _)⟩
def T.YD {α:Type}{a b:α}:∀{t:T α},T.dV a t->T.dV b t->a=b:=by
 intro t
 induction t with
 |ret x=>intro h1 h2;cases h1;cases h2;rfl
 |bT=>intro h1;cases h1
 |ite c t e O J=>
  intro h1 h2
  cases h1 with
  |tt hc k=>cases h2 with
   |tt _ I=>exact O k I
   |ff A I=>rw[hc]at A;cases A
  |ff hc k=>cases h2 with
   |tt A I=>rw[hc]at A;cases A
   |ff _ I=>exact J k I
 |same u v t U=>
  intro h1 h2
  cases h1 with
  |same _ k=>cases h2 with
   |same _ I=>exact U k I
def hL (L:List (Nat×aE)):ai:=⟨2*L.length,Rh L .leaf⟩
def BV.Sz:BV->Bool
 | .nX _ _=>true
 |_=>false
def Ls (P:Program)(g:Gh)(w:World):BV->Ending->Prop
 | .nX t n,A=>A= .panicked [{v:= .iface t (.agg #[.int .i64 n]),recovered:=false}]
 |x,A=>∃I,A= .returned I/\aw P g w x I
def Ls.ret {P:Program}{g:Gh}{w:World}{x:BV}{v:Value}(h:aw P g w x v):Ls P g w x (.returned v):=by
 cases x<;>first|exact⟨v,rfl,h⟩| (simp only[aw]at h)
def Ls.get {P:Program}{g:Gh}{w:World}{x:BV}{I:Ending}(J:x.Sz=false)(h:Ls P g w x I):∃A,I= .returned A/\aw P g w x A:=by
 cases x<;>first|exact h| (cases J)
def Ls.akF {P:Program}{g:Gh}{w:World}{x:BV}{A:Ending}{s s':Machine}(h:Ls P g w x A)(hs:Steps P s s'):Comes P s s' A:=by
 cases I:x.Sz with
 |false=>obtain⟨v,rfl,_⟩:=h.get I;exact hs
 |true=>
  cases x<;>first
   | (cases I;done)
   | (simp only[Ls]at h;subst h;exact hs)
def xm (P:Program)(f:FuncId)(as:List BV)(L:List (Nat×aE))(p:Nat)(R:D->T (BV×List (Nat×aE)))(Q:D->Prop):Prop:=
 ∀(g:Gh) (w:World) (A:Array Value),bq P g (hL L) w->ay P g w as A.toList->
  Calls P f A w fun I w'=>∃(g':Gh) (d:D) (x:BV×List (Nat×aE)),T.dV x (R d)/\Iw g (hL L) w g' (hL x.2) w'/\Pin p g g'/\bq P g' (hL x.2) w'/\Ls P g' w' x.1 I/\Q d
inductive vJ where
 |cY (Q:D->Prop)
 |bK (p:Nat) (R:D->T (BV×List (Nat×aE))) (Q:D->Prop)
def vJ.p:vJ->Nat
 | .cY _=>0
 | .bK p _ _=>p
def vJ.E (P:Program)(rs:List TypeId):vJ->Gh->ai->World->Ending->Prop
 | .cY Q,g,_,w,A=>∃d v,A= .returned v/\aw P ⟨fun _=>none,g.fz,fun _ _=>none⟩ w (K0 P rs d) v/\Q d
 | .bK _ R Q,g,h,w,A=>∃d x,T.dV x (R d)/\h=hL x.2/\bq P g h w/\Ls P g w x.1 A/\Q d
def aC (P:Program)(f:FuncId)(rs:List TypeId)(G:vJ)(s:av):Prop:=
 ∀(J:List Frame) (g:Gh) (w:World) (lb:Nat) (fr:Frame) (cs:List Frame),Q4 P (sN.of J) g w lb s fr cs->
  ∃(w':World) (A:Frame) (I:Ending) (g':Gh) (h':ai),Steps P (lone fr cs w) (lone A J w')/\A.fn=f/\A.leaving P w' I/\Iw g s.h w g' h' w'/\Pin G.p g g'/\G.E P rs g' h' w' I
section
variable {P:Program} {g g':Gh} {h h':ai} {w w':World} {f:FuncId} {rs:List TypeId} {G:vJ} {Q:D->Prop}
def Iw.DW {g1:Gh}{h1:ai}{w1:World}(a:mO g h w g1 h1 w1)(b:Iw g1 h1 w1 g' h' w'):Iw g h w g' h' w' where
 size:=am8 a.size b.size
 FB:=fun c hc ho=>(b.FB c (amX hc a.size) fun h=>ho (a.nf c hc h)).trans (a.FB c hc ho)
 fz:=fun c hc=>b.fz c (a.mono.mf c hc)
 YC:=fun c hc hf=>by
  rcases b.YC c (amX hc a.size) hf with h1|h1
  ·exact a.YC c hc h1
  exact .inr (a.nf c hc h1)
 oU:=b.oU
 nf:=fun c hc ho=>a.nf c hc (b.nf c (amX hc a.size) ho)
 ms:=fun c s hs=>b.ms c s (a.mono.ms c s hs)
 os:=⟨b.os.1.trans a.os.1,b.os.2.1.trans a.os.2.1,b.os.2.2.trans a.os.2.2⟩
def aC.Kk {s s':av}(hs:∀(A:List Frame) (g:Gh) (w:World) (lb:Nat) (fr:Frame) (cs:List Frame),Q4 P (sN.of A) g w lb s fr cs->ib P (sN.of A) g s.h w s' (lone fr cs w))
 (he:aC P f rs G s'):aC P f rs G s:=by
 intro A g w lb fr cs hr;obtain⟨g1,Z,J,I,O,Y,k2,V⟩:=hs A g w lb fr cs hr;obtain⟨w',U,v',g',h',m1,m2,m3,m4,m5,m6⟩:=he A g1 Z J I O k2;exact⟨w',U,v',g',h',Y.trans m1,m2,m3,.DW V m4,.DX V.mono m5,m6⟩
def aC.step (A:P.follows .mixedOrders=true){s s':av}(e:fX P s=some s')(he:aC P f rs G s'):aC P f rs G s:=
 aC.Kk (fun _ _ _ _ _ _ I=>agB A I e) he
def aC.pick {s s0:av}{ks seen:List D}{k:D->av}(hp:aiN P s ks seen s0 k)(h0:(∀d∈ks,d∈seen)->aC P f rs G s0)(h1:∀d,d∈ks->d∉seen->aC P f rs G (k d)):aC P f rs G s:=by
 obtain⟨a6,I,aZ,i,rest,kk,Z,a8,b1,bs,h,o,it,r,m,st,ck,kt,vk,l,st',ck',rfl,ho,a7,hw,d7,hb,e1,O,⟨p,d8⟩,rfl,rfl⟩:=hp.ex;intro c0 g w lb fr cs hs;have d5:∃s',ib P (sN.of c0) g h w s' (lone fr cs w)/\aC P f rs G s':=by
  obtain⟨hr,b6,hf,hc⟩:=hs;obtain⟨fn,tmps,d4,ds,U,kd,ro⟩:=fr;dsimp only at hr b6 hf hc ⊢;have d0:U= .run:=hf.mode;subst d0;have hrun:=hf.run rfl;unfold gK at hrun;dsimp only at hrun;obtain⟨A,hi⟩:=hrun;simp only[cM]at hi;obtain⟨e3,Y,rfl,J,d9⟩:=hi;simp only[kY]at J;subst J;have d6:Region.wanted o (yielded aZ tmps)=true:=
   ME (P:=P) (g:=g) (w:=w) (fun j b' _ t _=>by
    cases hb:I[t]? with
    |none=>left;refine⟨rfl,?_⟩;have:tmps.toList[t]?=none:=(by rw[anu];have:=A.length;have:=anV.1 hb;omega);simpa using this
    |some y=>
     obtain⟨v,h1,h2⟩:=A.get hb
     exact .inr ⟨y,v,rfl,by simpa using h1,h2⟩) hw
  have b4:=Of A (rf fn tmps (.inRegion aZ (i::rest)::Y) ds kd ro) rfl it;rw[d7]at b4;have go:∀(v:BV) (h2:ai),mN P g h w v h2 ((Instr.next ((rf fn tmps (.inRegion aZ (i::rest)::Y) ds kd ro).eval it) false o.type).run P w)->
   ib P (sN.of c0) g h w ⟨⟨a6,yc I o.dst v,.inRegion aZ rest::kk,Z,.run,a8,b1⟩,bs,h2⟩ (lone (rf fn tmps (.inRegion aZ (i::rest)::Y) ds kd ro) cs w):=fun v h2 V=>by
   have hd:mM P g h w (.value v) h2 ((execOp (rf fn tmps (.inRegion aZ (i::rest)::Y) ds kd ro).eval o).run P w):=(by have:=mM.y9 V;simp only[execOp,a7];exact this);have d2:=Mw (f:=rf fn tmps (.inRegion aZ (i::rest)::Y) ds kd ro) hr b6 (hf.with (btodo':= .inRegion aZ (i::rest)::kk) A ⟨_,_,rfl,rfl,d9⟩) rfl hc hd
    (s':={fr:=bf a6 (yc I o.dst v) (.inRegion aZ rest::kk) Z a8 b1,cs:=bs,h:=h2})
    (by simp[sS,qB,ho])
   refine ib.CQ ?_;rw[Tf ho d6 (.inr fun c hc=>by rw[a7]at hc;cases hc)];exact d2
  rcases adw (ty:=o.type) hr hb e1 O b4 with ⟨a1,a2⟩| ⟨d,a1,a2,a3⟩
  ·exact⟨_,go _ _ a2,h0 a1⟩
  obtain⟨q,hq⟩:=adn (d':=d) d8;refine⟨_,go _ _ (a3 q hq),?_⟩;have:=h1 d a1 a2;dsimp only at this;rw[hq]at this;exact this
 obtain⟨s',⟨g1,w1,d3,d1,e0,k1,k2,k3⟩,he⟩:=d5;obtain⟨w',e2,v',g',h',m1,m2,m3,m4,m5,m6⟩:=he c0 g1 w1 d3 d1 e0 k2;exact⟨w',e2,v',g',h',k1.trans m1,m2,m3,.DW k3 m4,.DX k3.mono m5,m6⟩
def aC.Lk {s s1 s2:av}(ha:aks s s1 s2)(h1:aC P f rs G s1)(h2:aC P f rs G s2):aC P f rs G s:=by
 obtain⟨a6,dw,aZ,todo,kk,b6,b1,b4,bs,h,j,rfl,I,rfl,rfl⟩:=ha.ex;intro V g w lb fr cs hs;obtain⟨hr,d0,hf,hc⟩:=hs;have hrun:=hf.run rfl;unfold gK at hrun;dsimp only at hrun;obtain⟨x,Y⟩:∃x,dw[j]?=some x:=by rcases I with ⟨e,Y⟩| ⟨b,vt,Y⟩<;>exact⟨_,Y⟩
 obtain⟨v,a7,O⟩:=hrun.1.get Y;have new:∀b,aw P g w b v->Q4 P (sN.of V) g w lb ⟨⟨a6,dw.set j b,.inRegion aZ todo::kk,b6,.run,b1,b4⟩,bs,h⟩ fr cs:=fun b hb=>by
  refine⟨hr,d0,⟨hf.fn,hf.kind,hf.tz,hf.defers,hf.mode,hf.round,fun _=>?_,fun Z=>absurd rfl Z⟩,hc⟩;unfold gK;dsimp only;refine⟨ay.vi (by simpa using hrun.1.length) fun i b' v' J U=>?_,hrun.2⟩;rw[aon]at J
  split at J
  ·rename_i a8
   subst a8
   split at J
   ·cases J
    rw[a7]at U;cases U;exact hb
   cases J
  obtain⟨v2,k1,k2⟩:=hrun.1.get J;rw[U]at k1;cases k1;exact k2
 rcases I with ⟨e,I⟩| ⟨b,vt,I⟩
 ·rw[Y]at I;cases I;simp only[aw]at O;rcases O with ⟨_,A| ⟨a,c,A⟩⟩| ⟨aS,off,c,A,_⟩
  ·exact h1 V g w lb fr cs (new .cS (by simp only[aw];exact A))
  ·exact h2 V g w lb fr cs (new .nE (by simp only[aw];exact⟨_,_,A⟩))
  exact h2 V g w lb fr cs (new .nE (by simp only[aw];exact⟨_,_,A⟩))
 rw[Y]at I;cases I;simp only[aw]at O;rcases O with ⟨_,A| ⟨a,A⟩⟩| ⟨aS,aD,c,_,A,_⟩
 ·exact h1 V g w lb fr cs (new .cS (by simp only[aw];exact A))
 ·exact h2 V g w lb fr cs (new .nE (by simp only[aw];exact⟨_,_,A⟩))
 exact h2 V g w lb fr cs (new .nE (by simp only[aw];exact⟨_,_,A⟩))
def ab2 (P:Program)(f:FuncId)(s:av):Option BV:=
 match s.fr.kind,P.funcs[s.fr.fn]? with
 | .normal,some fn=>(match Nat.beq s.fr.fn f with|true=>Gk P s.h fn s.fr.dw|false=>none)
 |_,_=>none
def Sq {s:av}{c0 cs:List Frame}{lb:Nat}{fr:Frame}(U:s.ended=true){v:BV}(O:ab2 P f s=some v)(hs:Q4 P (sN.of c0) g w lb s fr cs):
 cs=c0/\fr.fn=f/\∃V,fr.leaving P w (.returned V)/\aw P g w v V:=by
 obtain⟨hr,h2,J,h4⟩:=hs;obtain⟨e1,hm,e3⟩:=Yu U;unfold ab2 at O
 split at O
 ·rename_i fn a6 Z
  split at O
  ·rename_i hf
   have hf:=amC hf;rw[e1]at h4;simp only[pA,sN.of]at h4;subst h4;have A:=J.mode;rw[hm]at A;simp only[r7]at A;have I:=J.defers;rw[e3]at I;simp only[mL]at I;obtain⟨V,Y,a7⟩:=Nv hr (J.dw (by rw[hm];exact fun h=>by cases h)) O;exact⟨rfl,by rw[<-J.fn];exact hf,V,⟨A,I,by rw[<-J.kind];exact a6,fn,by rw[<-J.fn];exact Z,Y⟩,a7⟩
  cases O
 cases O
def aeV (l:Loc):hS.at l=none:=by
 cases l with
 |aS b=>show (hS.get b).bind aE.nf=none;simp[hS,ai.get,Tr.rM]
 |el b f k=>show (hS.get b).bind (fun o=>o.BM f k)=none;simp[hS,ai.get,Tr.rM]
def P8 (g:Gh)(c:Nat):¬ru g hS c:=by
 rintro⟨l,o,aD,hb,A⟩;rw[aeV]at hb;cases hb
def aC.ended {s:av}(A:s.ended=true){v:BV}(hv:ab2 P f s=some v){x:D×List Nat}(V:T.dV x (ahm P s.h rs v))(hq:Q x.1):aC P f rs (.cY Q) s:=by
 intro c0 g w lb fr cs hs;obtain⟨rfl,hf,I,J,O⟩:=Sq A hv hs;obtain⟨U,Y⟩:=aeR hs.1 V;obtain⟨z1,Z⟩:=hs.1.freeze U;refine⟨w,fr,.returned I,{g with fz:=BS g x.2},hS,Steps.refl _ _,hf,J,?_,.zero _ _,⟨x.1,I,rfl,(Y I O).1,hq⟩⟩;exact⟨amG _,fun _ _ _=>rfl,fun c hc=> .inl hc,Z.YC,z1.oU,fun c _ ho=>absurd ho (P8 _ c),fun _ _ h=>h,rfl,rfl,rfl⟩
def dZ.y9 {ts:List TypeId}{ds:List D}{fr:bE}(V:fj P f (AB P ts ds) .normal=some fr)(he:aC P f rs (.cY Q) ⟨fr,[],hS⟩):dZ P f ts ds rs Q:=by
 intro fz w U a6 ha cs;have A:∀b,hS.get b=none:=fun b=>by simp[hS,ai.get,Tr.rM]
 have Y:bq P ⟨fun _=>none,fz,fun _ _=>none⟩ hS w:=⟨fun b o hb=>(by rw[A]at hb;cases hb),fun b x J=>(by cases J),fun f k x J=>(by cases J),fun b o f hb=>(by rw[A]at hb;cases hb),fun b b' o o' f hb=>(by rw[A]at hb;cases hb),
  fun b o f k x hb=>(by rw[A]at hb;cases hb),fun b b' f k hb=>(by rw[A]at hb;cases hb),fun l aS aD J=>(by cases l<;>cases J),fun l l' aS aD base' o o' hb=>(by rw[aeV]at hb;cases hb),fun l o aS aD hb=>(by rw[aeV]at hb;cases hb),a6⟩
 have hs:Q4 P (sN.of cs) ⟨fun _=>none,fz,fun _ _=>none⟩ w 0 ⟨fr,[],hS⟩ (Frame.enter P f U .normal) cs:=⟨Y,anX _,JW (.inl rfl) ha V,rfl⟩;obtain⟨w',Z,_,g',h',m1,m2,m3,I,_,d,v',rfl,m5,m6⟩:=he cs _ w 0 _ cs hs;exact⟨.returned v',w',Z,⟨v',g'.fz,d,rfl,⟨I.size,fun c hc=>I.FB c hc (P8 _ c),I.os.1,I.os.2.1,I.os.2.2⟩,I.fz,I.oU,fun c hc O=>(I.YC c O hc).resolve_right (P8 _ c),m5,m6⟩,m1,m2,m3⟩
def xm.y9 {as:List BV}{L:List (Nat×aE)}{p:Nat}{R:D->T (BV×List (Nat×aE))}{fr:bE}(A:fj P f as .normal=some fr)(he:aC P f rs (.bK p R Q) ⟨fr,[],hL L⟩):xm P f as L p R Q:=by
 intro g w I hr ha cs;have hs:Q4 P (sN.of cs) g w 0 ⟨fr,[],hL L⟩ (Frame.enter P f I .normal) cs:=⟨hr,anX _,JW (.inl rfl) ha A,rfl⟩;obtain⟨w',J,V,g',h',m1,Y,Z,m4,m5,d,x,m9,rfl,U,O,m8⟩:=he cs _ w 0 _ cs hs;exact⟨V,w',J,⟨g',d,x,m9,m4,m5,U,O,m8⟩,O.akF m1,Y,Z⟩
def aC.call (b1:P.follows .mixedOrders=true){f g:FuncId}{d0 rs ts:List TypeId}{as:List BV}{fr:bE}{cs:List bE}{h:ai}{s:av}{x:List D×List Nat}{Q':D->Prop}{G:vJ}
 (hs:B9 P (fX P s) (.call g as fr cs h))(hx:T.dV x (M7 P h ts as))(hp:dZ P g ts x.1 rs Q')(sc:Bool)(d6:sc=true->rs.all (GZ P)=true)
 (hk:∀d,Q' d->∃r,T.dV r (uo P fr (K0 P rs d) (match sc with|true=>h|false=>fH h x.2))/\aC P f d0 G ⟨r.1,cs,r.2⟩):aC P f d0 G s:=by
 obtain⟨c,hc,d8⟩:=hs;refine aC.step b1 d8 ?_;intro c0 O w lb f1 e2 d9;obtain⟨hr,h2,h3,h4⟩:=d9;obtain⟨d5,ha,rfl⟩:=PQ hc h3;simp only[pA]at h4;obtain⟨m0,mr,a6,rfl,hl,d1,d2⟩:=h4;obtain⟨k1,k2⟩:=Sw hr hx;have V:∀c,BS O x.2 c->c<w.heap.size:=(hr.freeze k1).1.oU;obtain⟨ed,w2,e1,⟨v',fz',d,rfl,I,q1,q2,q3,q4,q5⟩,b4,_,d3⟩:=hp (BS O x.2) w d5 V (k2 _ ha).1 (m0::mr);obtain⟨r,A,U⟩:=hk d q5;have A:=tw A
 cases sc with
 |true=>dsimp only at A;obtain⟨z1,z2⟩:=hr.acn I;have hv:aw P O w2 (K0 P rs d) v':=aw.aj7 (d6 rfl) q4;have Y:=d1.mono (h':=h) z2.mono (vX.refl _ _ _);have a7:=d2.mono (h':=h) z2.mono (vX.refl _ _ _);obtain⟨r1,r2,r3,r4,r5⟩:=D6 z1 Y (am8 hl h2) h2 hv A;obtain⟨w',a8,v2,g3,Z,n1,n2,n3,n4,n5,n6⟩:=U c0 O w2 a6 _ mr ⟨r1,am8 (am8 hl h2) r5,r4,a7.mono r2.mono (r3.lt (am8 hl h2))⟩;exact⟨w',a8,v2,g3,Z,((show Steps P _ _ from b4).trans (Steps.one (step_leave_returned d3))).trans n1,n2,n3,.DW (z2.trans r2) n4,.DX (z2.trans r2).mono n5,n6⟩
 |false=>
  dsimp only at A;have e0:=(k2 _ ha).2;obtain⟨y1,y2⟩:=hr.freeze k1;obtain⟨z1,z2⟩:=y1.acn I;obtain⟨u1,u2⟩:=z1.grow z2 (fz':=fz') q1 q2 (fun c hc d7=>q3 c hc d7) y1.rV;have J:=y2.trans u2;have hv:aw P {O with fz:=fz'} w2 (K0 P rs d) v':=aw.mono (g:=⟨fun _=>none,fz',fun _ _=>none⟩) (g':={O with fz:=fz'}) (w:=w2) (w':=w2) ⟨fun b x h=>(by cases h),fun _ h=>h,fun _ _=>rfl,fun _ _ h=>h,fun _ _ _ h=>(by first|exact h|cases h)⟩ _ _ q4;have b6:∀lb,vX lb O h {O with fz:=fz'} (fH h x.2):=fun lb b hb hm hv=>Vy e0 lb b hb hm hv;have Y:=d1.mono (h':=fH h x.2) J.mono (b6 _);have a7:=d2.mono (h':=fH h x.2) J.mono (b6 _);have hn:(fH h x.2).next=h.next:=pQ h x.2;obtain⟨r1,r2,r3,r4,r5⟩:=D6 u1 Y (by rw[hn];exact am8 hl h2) (by rw[hn];exact h2) hv A;have d4:a6<=(fH h x.2).next:=by rw[hn];exact am8 hl h2
  obtain⟨w',a8,v2,g3,Z,n1,n2,n3,n4,n5,n6⟩:=U c0 {O with fz:=fz'} w2 a6 _ mr ⟨r1,am8 d4 r5,r4,a7.mono r2.mono (r3.lt d4)⟩;exact⟨w',a8,v2,g3,Z,((show Steps P _ _ from b4).trans (Steps.one (step_leave_returned d3))).trans n1,n2,n3,.DW (J.trans r2) n4,.DX (J.trans r2).mono n5,n6⟩
end
end
end
end Go.PB
end
