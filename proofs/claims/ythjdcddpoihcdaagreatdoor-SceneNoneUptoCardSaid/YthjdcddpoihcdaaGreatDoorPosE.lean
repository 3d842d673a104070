/- A call within B's run by a contract that was proved elsewhere. -/
import Derived.Test.YthjdcddpoihcdaaGreatDoorPosC
set_option linter.unusedSimpArgs false
set_option linter.unusedVariables false
namespace Go.PB
open Go
noncomputable section

section
variable {P : Program} {g g' : Gh} {h h' : BHeap} {w w' : World} {lb ub : Nat} {f : Frame} {cs c0 : List Frame}

/-- all that was there is as it was: B's relation stays -/
theorem HRel.keep (hr : HRel P g h w) (hk : Kept w w') : HRel P g h w' ∧ Ext g h w g h w' := by
  have hm : Mono g w g w' := ⟨fun _ _ e => e, fun _ e => e, fun c hc => hk.heap c (hr.fzlt c hc), fun c s hs => by
    have hlt : c < w.heap.size := by
      unfold World.shape? at hs
      by_cases hc : c < w.heap.size
      · exact hc
      · have : w.heap[c]? = none := by simp; omega
        rw [this] at hs; cases hs
    rw [shape?_of_heap (w := w) (hk.heap c hlt)]; exact hs⟩
  refine ⟨⟨hr.dom, hr.lt, fun b x y e => Nat.lt_of_lt_of_le (hr.img b x y e) hk.size, hr.inj, ?_, fun c hc => Nat.lt_of_lt_of_le (hr.fzlt c hc) hk.size⟩,
    ⟨hm, hk.size, fun c hc _ => hk.heap c hc, fun _ _ e => e, Nat.le_refl _, hk.os, hk.output, hk.tape⟩⟩
  intro b o blk base h1 m1
  obtain ⟨n, o', ho, hr'⟩ := hr.obj _ _ _ _ h1 m1
  exact ⟨n, o', (hk.heap blk (hr.img _ _ _ m1)).trans ho, hr'.mono hm⟩

/-- a function's contract, in B's words -/
def Does (P : Program) (fid : FuncId) (as : List BV) (v : BV) : Prop :=
  ∀ (g : Gh) (w : World) (as' : Array Value), VRels P g w as as'.toList → Calls P fid as' w fun ed w' => ∃ v', ed = .returned v' ∧ VRel P g w' v v' ∧ Kept w w'

/-- the state behind the call -/
def backC (c : CState) (v : BV) : Option CState :=
  match c.cs with
  | f0 :: rest =>
    (match f0.mode, f0.todo with
    | .run, .inRegion ops (i :: r) :: k => some ⟨{ f0 with env := putTmp f0.env ((ops[i]?).bind (·.dst)) v, todo := .inRegion ops r :: k }, rest, c.next, c.heap⟩
    | _, _ => none)
  | [] => none

theorem Kept.refl (w : World) : Kept w w := ⟨Nat.le_refl _, fun _ _ => rfl, rfl, rfl, rfl⟩

theorem enter_same {fid : FuncId} {as : List BV} {b : BFrame} {top : Bool} (e : enterB P fid as .normal = some b) (hf : FRel P g h w lb ub top b f) : ∃ as' : Array Value, VRels P g w as as'.toList ∧ f = Frame.enter P fid as' .normal := by
  unfold enterB at e
  split at e
  · rename_i fn hfn
    split at e
    · rename_i c hb
      cases e
      obtain ⟨ffn, ftmps, ftodo, fds, fmode, fkind, fro⟩ := f
      have h1 : fid = ffn := hf.fn
      have h2 : CallKind.normal = fkind := hf.kind
      have h3 : fmode = .run := hf.mode
      have h4 : fro = none := hf.round
      have h5 := hf.defers
      simp only [DRels] at h5
      have h6 := hf.run rfl
      unfold RunRel at h6
      dsimp only at h6
      obtain ⟨henv, hit⟩ := h6
      simp only [ItemsRel, ItemRel] at hit
      obtain ⟨it, ir, ht, hi, rfl⟩ := hit
      subst h1 h2 h3 h4 h5 hi ht
      have hlen := henv.length
      simp only [List.length_append, List.length_replicate] at hlen
      refine ⟨(ftmps.toList.take as.length).toArray, ?_, ?_⟩
      · have := henv.take as.length
        simpa using this
      · have htail : ftmps.toList.drop as.length = List.replicate (fn.ntmps - as.length) undef := by
          have hd := henv.drop as.length
          rw [List.drop_left] at hd
          apply List.ext_getElem?
          intro i
          rw [List.getElem?_replicate]
          by_cases hi : i < fn.ntmps - as.length
          · rw [if_pos hi]
            obtain ⟨v, h1, h2⟩ := hd.get (i := i) (b := BV.undef) (by rw [List.getElem?_replicate, if_pos hi])
            rw [h1]
            simp only [BV.undef, VRel] at h2
            obtain ⟨vs, rfl, h3⟩ := h2
            simp only [VRels] at h3
            have : vs = #[] := by apply Array.ext'; simpa using h3
            rw [this]; rfl
          · rw [if_neg hi]
            have := hd.length
            simp only [List.length_replicate] at this
            rw [List.getElem?_eq_none_iff]; omega
        have htm : ftmps = (ftmps.toList.take as.length).toArray ++ Array.replicate (fn.ntmps - (ftmps.toList.take as.length).toArray.size) undef := by
          apply Array.ext'
          rw [Array.toList_append, Array.toList_replicate]
          have hsz : (ftmps.toList.take as.length).toArray.size = as.length := by simp; rw [← Array.length_toList]; omega
          rw [hsz, ← htail]
          simp
        unfold Frame.enter
        simp only [hfn, Option.map_some, Option.getD_some, Option.bind_some, hb]
        rw [← htm]
    · cases e
  · cases e

/-- **A CALL BY ITS CONTRACT.** -/
theorem comes_call {fid fn' : FuncId} {args as : List BV} {v : BV} {c c' : CState} (hc : Go.PB.Comes P fid args c) (hin : enterB P fn' as .normal = some c.fr) (hd : Does P fn' as v) (hb : backC c v = some c') : Go.PB.Comes P fid args c' := by
  intro w args' c0 ha
  obtain ⟨g1, w1, lb1, f1, cs1, k1, ⟨k2, k3, k4, k5⟩, k6⟩ := hc w args' c0 ha
  have k4' : FRel P g1 c.toS.h w1 lb1 c.toS.h.next true c.fr f1 := k4
  obtain ⟨as', ha', rfl⟩ := enter_same hin k4'
  have k5' : CRel P g1 c.toS.h w1 (Base.of c0) lb1 c.cs cs1 := k5
  unfold backC at hb
  split at hb
  · rename_i f0 rest hcs
    split at hb
    · rename_i ops i r k hm ht
      cases hb
      rw [hcs] at k5'
      simp only [CRel] at k5'
      obtain ⟨m0, mr, lb2, rfl, hl, hf0, hcr⟩ := k5'
      obtain ⟨ed, w2, fr2, ⟨v', rfl, hv, hk⟩, hco, _, hlv⟩ := hd g1 w1 as' ha' (m0 :: mr)
      obtain ⟨q1, q2⟩ := k2.keep hk
      have hf1 := hf0.mono (h' := c.toS.h) q2.mono (PhLt.refl _ _ _)
      have hc1 := hcr.mono (h' := c.toS.h) q2.mono (PhLt.refl _ _ _)
      have hfin : finishB P f0 v c.toS.h = some ({ f0 with env := putTmp f0.env ((ops[i]?).bind (·.dst)) v, todo := .inRegion ops r :: k }, c.toS.h) := by
        simp only [finishB, hm, ht]
      obtain ⟨r1, r2, r3, r4, r5⟩ := sim_finish q1 hf1 (Nat.le_trans hl k3) k3 hv hfin
      exact ⟨g1, w2, lb2, _, mr, k1.trans ((show Steps P _ _ from hco).trans (Steps.one (step_leave_returned hlv))), ⟨r1, Nat.le_trans hl k3, r4, hc1⟩, k6.trans q2⟩
    · cases hb
  · cases hb
/-- one step, shown by a lemma and not by the kernel -/
theorem comes_step (hmix : P.follows .mixedOrders = true) {fid : FuncId} {args : List BV} {c c' : CState} (hc : Go.PB.Comes P fid args c) (e : stepB P c.toS = some c'.toS) : Go.PB.Comes P fid args c' := by
  intro w args' c0 ha
  obtain ⟨g1, w1, lb1, f1, cs1, k1, k2, k3⟩ := hc w args' c0 ha
  exact StepsTo.trans k1 k3 (sim_step hmix k2 e)

/-- a run of one and the same byte -/
theorem repl_eq (z : BV) (n : Nat) : repl [z] n = List.replicate n z := by
  induction n with
  | zero => rfl
  | succ n ih => simp [repl, ih, List.replicate_succ]
theorem takeCells_repl (z : BV) (n : Nat) : takeCells (repl [z] n) 0 n = some (List.replicate n z) := by
  rw [repl_eq]
  simp [takeCells]

theorem mapM_byte_repl (k : Int) (n : Nat) : (List.replicate n (BV.int .u8 k)).mapM byteB = some (List.replicate n (UInt8.ofNat k.toNat)) := by
  induction n with
  | zero => rfl
  | succ n ih => simp [List.replicate_succ, List.mapM_cons, byteB, ih]

/-- the step that makes a string of so many zero bytes -/
theorem comes_zeros (hmix : P.follows .mixedOrders = true) {fid : FuncId} {args : List BV} {c : CState} {ops : Array Oper} {i : Nat} {r : List Nat} {k : List BItem} {o : Oper} {src dst e : TypeId} {x : Operand} {b n : Nat} {cap : Option Nat} {el : TypeId} {sh : Bool} {z : Int}
    (hc : Go.PB.Comes P fid args c) (hm : c.fr.mode = .run) (ht : c.fr.todo = .inRegion ops (i :: r) :: k) (ho : ops[i]? = some o) (hop : o.op = .convert src dst x)
    (hw : wantedB o ops (fun t => c.fr.env[t]?) = some true) (hsd : (src == dst) = false) (hus : P.underlying src = some (.slice e)) (hud : P.underlying dst = some .string) (hue : P.underlying e = some (.int .u8))
    (hx : evalB c.fr.env x = .slice b 0 n cap) (hb : c.toS.h.get b = some (.cells (repl [.int .u8 z] n) el sh)) :
    Go.PB.Comes P fid args { c with fr := { c.fr with env := putTmp c.fr.env o.dst (.str (List.replicate n (UInt8.ofNat z.toNat))), todo := .inRegion ops r :: k } } := by
  refine comes_step hmix hc ?_
  have hv : convertB P c.toS.h src dst (evalB c.fr.env x) = some (.str (List.replicate n (UInt8.ofNat z.toNat)), c.toS.h) := by
    rw [hx]
    unfold convertB
    simp only [hus, hud, hue]
    unfold elemsB
    simp only [hb, Nat.mul_one, takeCells_repl, Option.map_some, mapM_byte_repl]
  obtain ⟨⟨fn, env, todo, ds, mode, kd, ro⟩, cs, nx, hp⟩ := c
  dsimp only [CState.toS] at *
  subst hm ht
  simp only [stepB, ho, hw]
  cases ro <;> simp [hop, opB, hsd, hv, applyB, finishB, ho]

def zerosC (P : Program) (c : CState) (b n : Nat) (z : Int) : Option CState :=
  match c.fr.mode, c.fr.todo with
  | .run, .inRegion ops (i :: r) :: k =>
    (match ops[i]? with
    | some o =>
      (match wantedB o ops (fun t => c.fr.env[t]?), o.op with
      | some true, .convert src dst x =>
        (match src == dst, P.underlying src, P.underlying dst, evalB c.fr.env x with
        | false, some (.slice e), some .string, .slice b' 0 n' _ =>
          (match P.underlying e, Nat.beq b b', Nat.beq n n' with
          | some (.int .u8), true, true => some { c with fr := { c.fr with env := putTmp c.fr.env o.dst (.str (List.replicate n (UInt8.ofNat z.toNat))), todo := .inRegion ops r :: k } }
          | _, _, _ => none)
        | _, _, _, _ => none)
      | _, _ => none)
    | none => none)
  | _, _ => none

/-- the same, with its premises in one question to the kernel -/
theorem comes_zerosC (hmix : P.follows .mixedOrders = true) {fid : FuncId} {args : List BV} {c c' : CState} {b n : Nat} {el : TypeId} {sh : Bool} {z : Int} (hc : Go.PB.Comes P fid args c)
    (hb : c.toS.h.get b = some (.cells (repl [.int .u8 z] n) el sh)) (e : zerosC P c b n z = some c') : Go.PB.Comes P fid args c' := by
  unfold zerosC at e
  split at e
  · rename_i ops i r k hm ht
    split at e
    · rename_i o ho
      split at e
      · rename_i src dst x hw hop
        split at e
        · rename_i el' b' n' cap hsd hus hud hx
          split at e
          · rename_i hue h1 h2
            cases e
            obtain rfl := Nat.eq_of_beq_eq_true h1
            obtain rfl := Nat.eq_of_beq_eq_true h2
            exact comes_zeros hmix hc hm ht ho hop hw hsd hus hud hue hx hb
          · cases e
        · cases e
      · cases e
    · cases e
  · cases e

end
end
end Go.PB
