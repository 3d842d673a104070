/- Runs from memories of which something is known (variables that are laid); a call by a contract that writes. Runs told from their end: a written state out of which the call returns true; a call with two outcomes. A call by a contract that may write B's memory, in a drawn region too; some steps more behind it. Calls that B carries out within a proof by the kit's walk, and calls by contracts that may make blocks of B's. Calls that B carries out within a proof by the kit's walk, told by a written memory behind them. -/
import Derived.Test.YtabfeencbambmaaGreatDoorPosC
set_option linter.unusedSimpArgs false
set_option linter.unusedVariables false
namespace Go.PB
open Go
noncomputable section

section
variable {P : Program} {X : World → Prop} {g g' : Gh} {h h' : BHeap} {w w' : World} {lb ub : Nat} {f : Frame} {cs c0 : List Frame}

/-- a call out of a memory at which X holds comes to a written state -/
def ComesW (X : World → Prop) (P : Program) (fid : FuncId) (args : List BV) (c : CState) : Prop :=
  ∀ (w : World) (args' : Array Value) (c0 : List Frame), X w → VRels P g0 w args args'.toList → StepsTo P (Base.of c0) g0 h0 w c.toS (lone (Frame.enter P fid args' .normal) c0 w)

theorem Comes.on {fid : FuncId} {args : List BV} {c : CState} (hc : Go.PB.Comes P fid args c) : ComesW X P fid args c := fun w a c0 _ ha => hc w a c0 ha

theorem comesW_next (hmix : P.follows .mixedOrders = true) {fid : FuncId} {args : List BV} {tbl : List Nat} {fuel n : Nat} {live : List Nat} {c c' : CState} (hc : ComesW X P fid args c) (e : runC P tbl fuel n live c = some c') : ComesW X P fid args c' := by
  intro w args' c0 hx ha
  obtain ⟨g1, w1, lb1, f1, cs1, k1, k2, k3⟩ := hc w args' c0 hx ha
  exact StepsTo.trans k1 k3 (sim_runC hmix k2 e)

theorem comesW_end (hmix : P.follows .mixedOrders = true) {fid : FuncId} {args : List BV} {tbl : List Nat} {fuel n : Nat} {c : CState} (hc : ComesW X P fid args c) (e : endC P tbl fuel n fid c = true) (w : World) (args' : Array Value) (hx : X w) (ha : VRels P g0 w args args'.toList) :
    Calls P fid args' w fun ed w' => ed = .returned (.bool true) ∧ Kept w w' := by
  intro c0
  obtain ⟨g1, w1, lb1, f1, cs1, k1, k2, k3⟩ := hc w args' c0 hx ha
  unfold endC at e
  split at e
  · rename_i s hrun
    split at e
    · rename_i fn0 hkd hfn
      split at e
      · rename_i hfid
        split at e
        · rename_i hres
          have hfid : s.fr.fn = fid := Nat.eq_of_beq_eq_true hfid
          obtain ⟨⟨g', w', lb', f', cs', m1, ⟨m2, m3, m4, m5⟩, m6⟩, hend⟩ := sim_runE hmix n k2 hrun
          obtain ⟨h1, hm, h3⟩ := ended_mode hend
          rw [h1] at m5
          simp only [CRel, Base.of] at m5
          subst m5
          have hfm := m4.mode
          rw [hm] at hfm
          simp only [ModeRel] at hfm
          have hds := m4.defers
          rw [h3] at hds
          simp only [DRels] at hds
          obtain ⟨v', hrv, hv⟩ := sim_results m2 (m4.env (by rw [hm]; exact fun h => by cases h)) hres
          simp only [VRel] at hv
          subst hv
          have hy := k3.trans m6
          refine ⟨.returned (.bool true), w', f', ⟨rfl, ⟨hy.size, fun c hc => hy.kept c hc ?_, hy.os.1, hy.os.2.1, hy.os.2.2⟩⟩, k1.trans m1, by rw [← m4.fn]; exact hfid, hfm, hds, by rw [← m4.kind]; exact hkd, fn0, by rw [← m4.fn]; exact hfn, hrv⟩
          rintro ⟨b, o, base, hb, _⟩
          rw [h0_get] at hb; cases hb
        · cases e
      · cases e
    · cases e
  · cases e

theorem comesW_range (hmix : P.follows .mixedOrders = true) {fid : FuncId} {args : List BV} {fuel d l : Nat} {live mask : List Nat} {top n : Nat} {c c' : CState} (hc : ComesW X P fid args c)
    (e : rangeC P fuel d l live mask top c = some (List.replicate n c')) : ComesW X P fid args c' := by
  intro w args' c0 hx ha
  obtain ⟨g1, w1, lb1, f1, cs1, k1, k2, k3⟩ := hc w args' c0 hx ha
  unfold rangeC at e
  split at e
  · rename_i r hr
    obtain ⟨s', m1, g2, w2, lb2, f2, cs2, k4, k5, k6⟩ := sim_exploreT hmix fuel k2 hr
    obtain ⟨c2, m2, m3⟩ := sim_closeC e m1 k5
    have : c2 = c' := List.eq_of_mem_replicate m2
    subst this
    exact StepsTo.trans k1 k3 (StepsTo.trans k4 k6 m3)
  · cases e

/-- X is about memory that a run of B leaves alone -/
def Stays (X : World → Prop) : Prop := ∀ w w' : World, w.heap.size ≤ w'.heap.size → (∀ c, c < w.heap.size → w'.heap[c]? = w.heap[c]?) → X w → X w'

/-- a function's contract, in B's words, that turns B's memory h into h' -/
def DoesH (X : World → Prop) (P : Program) (fid : FuncId) (as : List BV) (v : BV) (h h' : BHeap) : Prop :=
  ∀ (g : Gh) (w : World) (as' : Array Value), X w → HRel P g h w → VRels P g w as as'.toList → Calls P fid as' w fun ed w' =>
    ∃ v', ed = .returned v' ∧ VRel P g w' v v' ∧ HRel P g h' w' ∧ Ext g h w g h' w' ∧ ∀ b, g.m b = none → h'.get b = h.get b

/-- the state behind such a call -/
def backH (c : CState) (v : BV) (hp : List (Nat × BObj)) : Option CState :=
  match c.cs with
  | f0 :: rest =>
    (match f0.mode, f0.todo with
    | .run, .inRegion ops (i :: r) :: k => some ⟨{ f0 with env := putTmp f0.env ((ops[i]?).bind (·.dst)) v, todo := .inRegion ops r :: k }, rest, c.next, hp⟩
    | _, _ => none)
  | [] => none

/-- **A CALL BY ITS CONTRACT, THAT WRITES.** -/
theorem comesW_call (hX : Stays X) {fid fn' : FuncId} {args as : List BV} {v : BV} {c c' : CState} {hp : List (Nat × BObj)} (hc : ComesW X P fid args c) (hin : enterB P fn' as .normal = some c.fr)
    (hd : DoesH X P fn' as v c.toS.h ⟨c.next, mkTr hp .leaf, []⟩) (hb : backH c v hp = some c') : ComesW X P fid args c' := by
  intro w args' c0 hx ha
  obtain ⟨g1, w1, lb1, f1, cs1, k1, ⟨k2, k3, k4, k5⟩, k6⟩ := hc w args' c0 hx ha
  have hx1 : X w1 := hX w w1 k6.size (fun b hb => k6.kept b hb (by rintro ⟨b, o, base, hb, _⟩; rw [h0_get] at hb; cases hb)) hx
  have k4' : FRel P g1 c.toS.h w1 lb1 c.toS.h.next true c.fr f1 := k4
  obtain ⟨as', ha', rfl⟩ := enter_same hin k4'
  have k5' : CRel P g1 c.toS.h w1 (Base.of c0) lb1 c.cs cs1 := k5
  unfold backH at hb
  split at hb
  · rename_i f0 rest hcs
    split at hb
    · rename_i ops i r k hm ht
      cases hb
      rw [hcs] at k5'
      simp only [CRel] at k5'
      obtain ⟨m0, mr, lb2, rfl, hl, hf0, hcr⟩ := k5'
      obtain ⟨ed, w2, fr2, ⟨v', rfl, hv, q1, q2, hph⟩, hco, _, hlv⟩ := hd g1 w1 as' hx1 k2 ha' (m0 :: mr)
      have hf1 := hf0.mono (h' := ⟨c.next, mkTr hp .leaf, []⟩) q2.mono (fun b _ hm => ⟨hm, hph b hm⟩)
      have hc1 := hcr.mono (h' := ⟨c.next, mkTr hp .leaf, []⟩) q2.mono (fun b _ hm => ⟨hm, hph b hm⟩)
      have hfin : finishB P f0 v ⟨c.next, mkTr hp .leaf, []⟩ = some ({ f0 with env := putTmp f0.env ((ops[i]?).bind (·.dst)) v, todo := .inRegion ops r :: k }, ⟨c.next, mkTr hp .leaf, []⟩) := by
        simp only [finishB, hm, ht]
      obtain ⟨r1, r2, r3, r4, r5⟩ := sim_finish q1 hf1 (Nat.le_trans hl k3) k3 hv hfin
      exact ⟨g1, w2, lb2, _, mr, k1.trans ((show Steps P _ _ from hco).trans (Steps.one (step_leave_returned hlv))), ⟨r1, Nat.le_trans hl k3, r4, hc1⟩, k6.trans q2⟩
    · cases hb
  · cases hb
end
end
end Go.PB

set_option linter.unusedSimpArgs false
set_option linter.unusedVariables false
namespace Go.PB
open Go
noncomputable section

section
variable {P : Program} {X : World → Prop} {g g' : Gh} {h h' : BHeap} {w w' : World} {lb ub : Nat} {f : Frame} {cs c0 : List Frame}

/-- out of this state the call of fid returns true -/
def EndsT (P : Program) (fid : FuncId) (c : CState) : Prop :=
  ∀ (c0 : List Frame) (g : Gh) (w : World) (lb : Nat) (f : Frame) (cs : List Frame), SRel P (Base.of c0) g w lb c.toS f cs →
    ∃ g' h' w' f', Ext g c.toS.h w g' h' w' ∧ Steps P (lone f cs w) (lone f' c0 w') ∧ f'.fn = fid ∧ f'.leaving P w' (.returned (.bool true))

theorem ends_end (hmix : P.follows .mixedOrders = true) {fid : FuncId} {tbl : List Nat} {fuel n : Nat} {c : CState} (e : endC P tbl fuel n fid c = true) : EndsT P fid c := by
  intro c0 g1 w1 lb1 f1 cs1 k2
  unfold endC at e
  split at e
  · rename_i s hrun
    split at e
    · rename_i fn0 hkd hfn
      split at e
      · rename_i hfid
        split at e
        · rename_i hres
          have hfid : s.fr.fn = fid := Nat.eq_of_beq_eq_true hfid
          obtain ⟨⟨g', w', lb', f', cs', m1, ⟨m2, m3, m4, m5⟩, m6⟩, hend⟩ := sim_runE hmix n k2 hrun
          obtain ⟨h1, hm, h3⟩ := ended_mode hend
          rw [h1] at m5
          simp only [CRel, Base.of] at m5
          subst m5
          have hfm := m4.mode
          rw [hm] at hfm
          simp only [ModeRel] at hfm
          have hds := m4.defers
          rw [h3] at hds
          simp only [DRels] at hds
          obtain ⟨v', hrv, hv⟩ := sim_results m2 (m4.env (by rw [hm]; exact fun h => by cases h)) hres
          simp only [VRel] at hv
          subst hv
          exact ⟨g', _, w', f', m6, m1, by rw [← m4.fn]; exact hfid, hfm, hds, by rw [← m4.kind]; exact hkd, fn0, by rw [← m4.fn]; exact hfn, hrv⟩
        · cases e
      · cases e
    · cases e
  · cases e

theorem ends_of_steps {fid : FuncId} {c c' : CState} (hg : ∀ (c0 : List Frame) (g : Gh) (w : World) (lb : Nat) (f : Frame) (cs : List Frame), SRel P (Base.of c0) g w lb c.toS f cs → StepsTo P (Base.of c0) g c.toS.h w c'.toS (lone f cs w))
    (he : EndsT P fid c') : EndsT P fid c := by
  intro c0 g w lb f cs hs
  obtain ⟨g1, w1, lb1, f1, cs1, k1, k2, k3⟩ := hg c0 g w lb f cs hs
  obtain ⟨g', h', w', f', m1, m2, m3, m4⟩ := he c0 g1 w1 lb1 f1 cs1 k2
  exact ⟨g', h', w', f', k3.trans m1, k1.trans m2, m3, m4⟩

theorem ends_next (hmix : P.follows .mixedOrders = true) {fid : FuncId} {tbl : List Nat} {fuel n : Nat} {live : List Nat} {c c' : CState} (e : runC P tbl fuel n live c = some c') (he : EndsT P fid c') : EndsT P fid c :=
  ends_of_steps (fun _ _ _ _ _ _ hs => sim_runC hmix hs e) he

theorem ends_range (hmix : P.follows .mixedOrders = true) {fid : FuncId} {fuel d l : Nat} {live mask : List Nat} {top n : Nat} {c c' : CState}
    (e : rangeC P fuel d l live mask top c = some (List.replicate n c')) (he : EndsT P fid c') : EndsT P fid c := by
  refine ends_of_steps (fun c0 g w lb f cs hs => ?_) he
  unfold rangeC at e
  split at e
  · rename_i r hr
    obtain ⟨s', m1, g2, w2, lb2, f2, cs2, k4, k5, k6⟩ := sim_exploreT hmix fuel hs hr
    obtain ⟨c2, m2, m3⟩ := sim_closeC e m1 k5
    have : c2 = c' := List.eq_of_mem_replicate m2
    subst this
    exact StepsTo.trans k4 k6 m3
  · cases e

/-- there and back: the call returns true and leaves all memory -/
theorem comes_ends {fid : FuncId} {args : List BV} {c : CState} (hc : Go.PB.Comes P fid args c) (he : EndsT P fid c) (w : World) (args' : Array Value) (ha : VRels P g0 w args args'.toList) :
    Calls P fid args' w fun ed w' => ed = .returned (.bool true) ∧ Kept w w' := by
  intro c0
  obtain ⟨g1, w1, lb1, f1, cs1, k1, k2, k3⟩ := hc w args' c0 ha
  obtain ⟨g', h', w', f', m1, m2, m3, m4⟩ := he c0 g1 w1 lb1 f1 cs1 k2
  have hy := k3.trans m1
  refine ⟨.returned (.bool true), w', f', ⟨rfl, ⟨hy.size, fun c hc => hy.kept c hc ?_, hy.os.1, hy.os.2.1, hy.os.2.2⟩⟩, k1.trans m2, m3, m4⟩
  rintro ⟨b, o, base, hb, _⟩
  rw [h0_get] at hb; cases hb

/-- a function that answers some truth value and leaves all memory -/
def Says (P : Program) (fid : FuncId) (as : List BV) : Prop :=
  ∀ (g : Gh) (w : World) (as' : Array Value), VRels P g w as as'.toList → Calls P fid as' w fun ed w' => (∃ b : Bool, ed = .returned (.bool b)) ∧ Kept w w'

/-- **A CALL WITH TWO OUTCOMES.** -/
theorem ends_split {fid fn' : FuncId} {as : List BV} {c c1 c2 : CState} (hin : enterB P fn' as .normal = some c.fr) (hd : Says P fn' as)
    (h1 : backC c (.bool true) = some c1) (h2 : backC c (.bool false) = some c2) (e1 : EndsT P fid c1) (e2 : EndsT P fid c2) : EndsT P fid c := by
  intro c0 g1 w1 lb1 f1 cs1 hs
  obtain ⟨k2, k3, k4, k5⟩ := hs
  have k4' : FRel P g1 c.toS.h w1 lb1 c.toS.h.next true c.fr f1 := k4
  obtain ⟨as', ha', rfl⟩ := enter_same hin k4'
  have k5' : CRel P g1 c.toS.h w1 (Base.of c0) lb1 c.cs cs1 := k5
  have key : ∀ (b : Bool) (cb : CState), backC c (.bool b) = some cb → EndsT P fid cb →
      ∀ m0 mr w2 fr2, cs1 = m0 :: mr → Kept w1 w2 → Steps P (lone (Frame.enter P fn' as' .normal) cs1 w1) (lone fr2 cs1 w2) → fr2.leaving P w2 (.returned (.bool b)) →
      ∃ g' h' w' f', Ext g1 c.toS.h w1 g' h' w' ∧ Steps P (lone (Frame.enter P fn' as' .normal) cs1 w1) (lone f' c0 w') ∧ f'.fn = fid ∧ f'.leaving P w' (.returned (.bool true)) := by
    intro b cb hb eb m0 mr w2 fr2 hcs1 hk hco hlv
    unfold backC at hb
    split at hb
    · rename_i f0 rest hcs
      split at hb
      · rename_i ops i r k hm ht
        cases hb
        rw [hcs, hcs1] at k5'
        simp only [CRel] at k5'
        obtain ⟨m0', mr', lb2, hmm, hl, hf0, hcr⟩ := k5'
        cases hmm
        obtain ⟨q1, q2⟩ := k2.keep hk
        have hf1 := hf0.mono (h' := c.toS.h) q2.mono (PhLt.refl _ _ _)
        have hc1 := hcr.mono (h' := c.toS.h) q2.mono (PhLt.refl _ _ _)
        have hfin : finishB P f0 (.bool b) c.toS.h = some ({ f0 with env := putTmp f0.env ((ops[i]?).bind (·.dst)) (.bool b), todo := .inRegion ops r :: k }, c.toS.h) := by
          simp only [finishB, hm, ht]
        obtain ⟨r1, r2, r3, r4, r5⟩ := sim_finish q1 hf1 (Nat.le_trans hl k3) k3 (v' := .bool b) (by simp [VRel]) hfin
        obtain ⟨g', h', w', f', n1, n2, n3, n4⟩ := eb c0 g1 w2 lb2 _ mr ⟨r1, Nat.le_trans hl k3, r4, hc1⟩
        refine ⟨g', h', w', f', q2.trans n1, hco.trans ((Steps.one ?_).trans n2), n3, n4⟩
        rw [hcs1]
        exact step_leave_returned hlv
      · cases hb
    · cases hb
  have hne : ∃ m0 mr, cs1 = m0 :: mr := by
    unfold backC at h1
    split at h1
    · rename_i f0 rest hcs
      rw [hcs] at k5'
      simp only [CRel] at k5'
      obtain ⟨m0, mr, _, rfl, _⟩ := k5'
      exact ⟨m0, mr, rfl⟩
    · cases h1
  obtain ⟨m0, mr, hcs1⟩ := hne
  obtain ⟨ed, w2, fr2, ⟨⟨b, rfl⟩, hk⟩, hco, _, hlv⟩ := hd g1 w1 as' ha' cs1
  cases b
  · exact key false c2 h2 e2 m0 mr w2 fr2 hcs1 hk hco hlv
  · exact key true c1 h1 e1 m0 mr w2 fr2 hcs1 hk hco hlv
/-- a call by a contract with one answer, told from the end -/
theorem ends_call {fid fn' : FuncId} {as : List BV} {v : BV} {c c' : CState} (hin : enterB P fn' as .normal = some c.fr) (hd : Does P fn' as v) (hb : backC c v = some c') (he : EndsT P fid c') : EndsT P fid c := by
  refine ends_of_steps (fun c0 g1 w1 lb1 f1 cs1 hs => ?_) he
  obtain ⟨k2, k3, k4, k5⟩ := hs
  have k4' : FRel P g1 c.toS.h w1 lb1 c.toS.h.next true c.fr f1 := k4
  obtain ⟨as', ha', rfl⟩ := enter_same hin k4'
  have k5' : CRel P g1 c.toS.h w1 (Base.of c0) lb1 c.cs cs1 := k5
  unfold backC at hb
  split at hb
  · rename_i f0 rest hcs
    split at hb
    · rename_i ops i r k hm ht
      cases hb
      rw [hcs] at k5'
      simp only [CRel] at k5'
      obtain ⟨m0, mr, lb2, rfl, hl, hf0, hcr⟩ := k5'
      obtain ⟨ed, w2, fr2, ⟨v', rfl, hv, hk⟩, hco, _, hlv⟩ := hd g1 w1 as' ha' (m0 :: mr)
      obtain ⟨q1, q2⟩ := k2.keep hk
      have hf1 := hf0.mono (h' := c.toS.h) q2.mono (PhLt.refl _ _ _)
      have hc1 := hcr.mono (h' := c.toS.h) q2.mono (PhLt.refl _ _ _)
      have hfin : finishB P f0 v c.toS.h = some ({ f0 with env := putTmp f0.env ((ops[i]?).bind (·.dst)) v, todo := .inRegion ops r :: k }, c.toS.h) := by
        simp only [finishB, hm, ht]
      obtain ⟨r1, r2, r3, r4, r5⟩ := sim_finish q1 hf1 (Nat.le_trans hl k3) k3 hv hfin
      exact ⟨g1, w2, lb2, _, mr, (show Steps P _ _ from hco).trans (Steps.one (step_leave_returned hlv)), ⟨r1, Nat.le_trans hl k3, r4, hc1⟩, q2⟩
    · cases hb
  · cases hb

/-- a closed function that B runs to true, as a contract -/
theorem does_of_comes (hmix : P.follows .mixedOrders = true) {fid : FuncId} {tbl : List Nat} {fuel n : Nat} {c : CState} (hc : Go.PB.Comes P fid [] c) (e : endC P tbl fuel n fid c = true) : Does P fid [] (.bool true) := by
  intro g w as' ha
  have hn : VRels P g0 w [] as'.toList := by
    cases h : as'.toList with
    | nil => exact VRels.nil
    | cons x l => rw [h] at ha; simp [VRels] at ha
  refine (comes_end hmix hc e w as' hn).mono ?_
  rintro ed w' ⟨rfl, hk⟩
  exact ⟨_, rfl, by simp [VRel], hk⟩
end
end
end Go.PB

set_option linter.unusedSimpArgs false
set_option linter.unusedVariables false
namespace Go.PB
open Go
noncomputable section

section
variable {P : Program} {X : World → Prop} {g g' : Gh} {h h' : BHeap} {w w' : World} {lb ub : Nat} {f : Frame} {cs c0 : List Frame}

/-- the state behind a call, with this memory -/
def backF (P : Program) (c : CState) (v : BV) (h : BHeap) : Option BState :=
  match c.cs with
  | f0 :: rest => (match finishB P f0 v h with | some (f1, h1) => some ⟨f1, rest, h1⟩ | none => none)
  | [] => none

/-- so many steps more; then only the blocks of a list are kept -/
def backR (P : Program) (tbl : List Nat) (fuel n : Nat) (c : CState) (v : BV) (h : BHeap) (live : List Nat) : Option CState :=
  match backF P c v h with
  | some s =>
    (match runN P tbl fuel n s with
    | some ⟨fr, cs, h⟩ => (match canCut live fr cs with | true => some ⟨fr, cs, h.next, collectC h live⟩ | false => none)
    | none => none)
  | none => none

theorem sim_cut {fr : BFrame} {bs : List BFrame} {h1 : BHeap} {live : List Nat} (hs : SRel P (Base.of c0) g w lb ⟨fr, bs, h1⟩ f cs) (hb : canCut live fr bs = true) :
    StepsTo P (Base.of c0) g h1 w (CState.toS ⟨fr, bs, h1.next, collectC h1 live⟩) (lone f cs w) := by
  obtain ⟨fn, env, todo, ds, mode, kind, ro⟩ := fr
  have e : closeC live [] h1.next [⟨⟨fn, env, todo, ds, mode, kind, ro⟩, bs, h1⟩] = some [⟨⟨fn, junkAt [] env, todo, ds, mode, kind, ro⟩, bs, h1.next, collectC h1 live⟩] := by
    simp only [closeC, hb]
    have : Nat.ble h1.next h1.next = true := Nat.ble_eq_true_of_le (Nat.le_refl _)
    simp only [this]
  obtain ⟨c2, m2, m3⟩ := sim_closeC e List.mem_cons_self hs
  have : c2 = ⟨⟨fn, junkAt [] env, todo, ds, mode, kind, ro⟩, bs, h1.next, collectC h1 live⟩ := by simpa using m2
  subst this
  exact m3

/-- **A CALL BY ITS CONTRACT, THAT MAY WRITE, IN WHATEVER REGION; AND SOME STEPS MORE.** -/
theorem comesW_back (hmix : P.follows .mixedOrders = true) (hX : Stays X) {fid fn' : FuncId} {args as : List BV} {v : BV} {c c' : CState} {h1 : BHeap} {tbl : List Nat} {fuel n : Nat} {live : List Nat} (hc : ComesW X P fid args c) (hin : enterB P fn' as .normal = some c.fr)
    (hd : DoesH X P fn' as v c.toS.h h1) (hb : backR P tbl fuel n c v h1 live = some c') : ComesW X P fid args c' := by
  intro w args' c0 hx ha
  obtain ⟨g1, w1, lb1, f1, cs1, k1, ⟨k2, k3, k4, k5⟩, k6⟩ := hc w args' c0 hx ha
  have hx1 : X w1 := hX w w1 k6.size (fun b hb => k6.kept b hb (by rintro ⟨b, o, base, hb, _⟩; rw [h0_get] at hb; cases hb)) hx
  have k4' : FRel P g1 c.toS.h w1 lb1 c.toS.h.next true c.fr f1 := k4
  obtain ⟨as', ha', rfl⟩ := enter_same hin k4'
  have k5' : CRel P g1 c.toS.h w1 (Base.of c0) lb1 c.cs cs1 := k5
  unfold backR at hb
  split at hb
  · rename_i s hs
    unfold backF at hs
    split at hs
    · rename_i f0 rest hcs
      split at hs
      · rename_i f2 h2 hfin
        cases hs
        split at hb
        · rename_i fr3 cs3 h3 hrun
          split at hb
          · rename_i hcan
            cases hb
            rw [hcs] at k5'
            simp only [CRel] at k5'
            obtain ⟨m0, mr, lb2, rfl, hl, hf0, hcr⟩ := k5'
            obtain ⟨ed, w2, fr2, ⟨v', rfl, hv, q1, q2, hph⟩, hco, _, hlv⟩ := hd g1 w1 as' hx1 k2 ha' (m0 :: mr)
            have hf1 := hf0.mono (h' := h1) q2.mono (fun b _ hm => ⟨hm, hph b hm⟩)
            have hc1 := hcr.mono (h' := h1) q2.mono (fun b _ hm => ⟨hm, hph b hm⟩)
            have hn := q2.next
            obtain ⟨r1, r2, r3, r4, r5⟩ := sim_finish q1 hf1 (Nat.le_trans hl (Nat.le_trans k3 hn)) (Nat.le_trans k3 hn) hv hfin
            have hlb : lb2 ≤ h1.next := Nat.le_trans hl (Nat.le_trans k3 hn)
            have hrel : SRel P (Base.of c0) g1 w2 lb2 ⟨f2, rest, h2⟩ _ mr := ⟨r1, Nat.le_trans hlb r5, r4, hc1.mono r2.mono (r3.lt hlb)⟩
            obtain ⟨g4, w4, lb4, f4, cs4, t1, t2, t3⟩ := sim_runN hmix n hrel hrun
            exact StepsTo.trans ((k1.trans ((show Steps P _ _ from hco).trans (Steps.one (step_leave_returned hlv)))).trans t1) (((k6.trans q2).trans r2).trans t3) (sim_cut t2 hcan)
          · cases hb
        · cases hb
      · cases hs
    · cases hs
  · cases hb

theorem ComesW.off {fid : FuncId} {args : List BV} {c : CState} (hc : ComesW (fun _ => True) P fid args c) : Go.PB.Comes P fid args c := fun w a c0 ha => hc w a c0 trivial ha

/-- one cell of B's is set -/
theorem HRel.set1 (hr : HRel P g h w) {b blk base : Nat} {old v : BV} {e : TypeId} {v' : Value} (hb : h.get b = some (.cells [old] e false)) (hm : g.m b = some (blk, base)) (hv : VRel P g w v v') :
    (∃ o', w.cell? ⟨blk, base, none⟩ = some o') ∧ w.frozen? ⟨blk, base, none⟩ = false ∧ HRel P g (h.put b (some (.cells [v] e false))) (w.setCell ⟨blk, base, none⟩ v') ∧
      Ext g h w g (h.put b (some (.cells [v] e false))) (w.setCell ⟨blk, base, none⟩ v') := by
  obtain ⟨c, lo, hi, vs, hw, hvs, hc, _, hf, hs⟩ := hr.cells hb hm
  obtain ⟨rfl, rfl⟩ := hs rfl
  simp only [VRels] at hvs
  obtain ⟨x, xr, rfl, _, rfl⟩ := hvs
  have h0 := hc 0 x (by simp)
  have hlt := (Array.getElem?_eq_some_iff.1 hw).1
  simp only [Nat.add_zero] at h0
  have hbl := (Array.getElem?_eq_some_iff.1 h0).1
  refine ⟨⟨x, by simp [World.cell?, hw, h0]⟩, by simp [World.frozen?, hw], ?_⟩
  rw [setCell_eq hw]
  refine hr.write hb hm hw rfl ⟨rfl, rfl, rfl⟩ (fun s hs => ?_) (fun hmono => ?_)
  · simp only [World.shape?, hw] at hs
    simp only [World.shape?, putBlk_heap_same hlt, Array.size_setIfInBounds]
    exact hs
  · simp only [ORel]
    refine ⟨_, 0, 0, rfl, ⟨[v'], ?_, ?_⟩, by omega, fun _ => ⟨rfl, rfl⟩⟩
    · simp only [VRels]; exact ⟨v', [], rfl, VRel.mono hmono _ _ hv, rfl⟩
    · intro i y hi'
      cases i with
      | zero => simp at hi'; subst hi'; simp [hbl]
      | succ i => simp at hi'

end
end
end Go.PB

set_option linter.unusedSimpArgs false
set_option linter.unusedVariables false
namespace Go.PB
open Go
noncomputable section

section
variable {P : Program} {X : World → Prop} {g g' : Gh} {h h' : BHeap} {w w' : World} {lb ub : Nat} {f : Frame} {cs c0 : List Frame}

/-- the frames below are these, and what B has alone stays so -/
def Base.ph (g : Gh) (h : BHeap) (cs : List Frame) : Base :=
  ⟨fun g2 h2 lb c => c = cs ∧ h.next ≤ lb ∧ ∀ b, b < h.next → g.m b = none → g2.m b = none ∧ h2.get b = h.get b,
    fun hm hk => ⟨hk.1, hk.2.1, fun b hb hn => by
      obtain ⟨m1, h1⟩ := hk.2.2 b hb hn
      obtain ⟨m2, h2⟩ := hm b (Nat.lt_of_lt_of_le hb hk.2.1) m1
      exact ⟨m2, h2.trans h1⟩⟩⟩

/-- **A CALL THAT B CARRIES OUT**, told with what stays B's alone. -/
theorem sim_callG (hmix : P.follows .mixedOrders = true) {n : Nat} {fid : FuncId} {args : List BV} {args' : Array Value} {v : BV} (hr : HRel P g h w) (ha : VRels P g w args args'.toList) (e : callB P n fid args h = some (v, h')) :
    Calls P fid args' w fun ed w' => ∃ v' g', ed = .returned v' ∧ HRel P g' h' w' ∧ Ext g h w g' h' w' ∧ VRel P g' w' v v' ∧ ∀ b, b < h.next → g.m b = none → g'.m b = none ∧ h'.get b = h.get b := by
  intro cs
  unfold callB at e
  split at e
  · cases e
  · rename_i fr hfr
    split at e
    · rename_i s hrun
      split at e
      · rename_i fn0 hkd hfn
        split at e
        · rename_i hfid
          have hfid : s.fr.fn = fid := Nat.eq_of_beq_eq_true hfid
          simp only [Option.map_eq_some_iff] at e
          obtain ⟨v0, hres, e2⟩ := e
          simp only [Prod.mk.injEq] at e2
          obtain ⟨rfl, rfl⟩ := e2
          have hs : SRel P (Base.ph g h cs) g w h.next { fr, cs := [], h } (Frame.enter P fid args' .normal) cs := ⟨hr, Nat.le_refl _, enterRel (.inl rfl) ha hfr, rfl, Nat.le_refl _, fun _ _ hn => ⟨hn, rfl⟩⟩
          obtain ⟨⟨g', w', lb', f', cs', k1, ⟨k2, k3, k4, k5⟩, k6⟩, hend⟩ := sim_run hmix n hs hrun
          simp only [BState.ended, Bool.and_eq_true, List.isEmpty_iff] at hend
          obtain ⟨⟨h1, h2⟩, h3⟩ := hend
          rw [h1] at k5
          simp only [CRel] at k5
          obtain ⟨rfl, _, hph⟩ := k5
          have hm : s.fr.mode = .returning := by
            cases hmm : s.fr.mode <;> rw [hmm] at h2 <;> first | rfl | (cases h2; done)
          have hfm := k4.mode
          rw [hm] at hfm
          simp only [ModeRel] at hfm
          have hds := k4.defers
          rw [h3] at hds
          simp only [DRels] at hds
          obtain ⟨v', hrv, hv⟩ := sim_results k2 (k4.env (by rw [hm]; exact fun h => by cases h)) hres
          exact ⟨.returned v', w', f', ⟨v', g', rfl, k2, k6, hv, hph⟩, k1, by rw [← k4.fn]; exact hfid, hfm, hds, by rw [← k4.kind]; exact hkd, fn0, by rw [← k4.fn]; exact hfn, hrv⟩
        · cases e
      · cases e
    · cases e

/-- a call with arguments that B knows whole, out of nothing else: it leaves all memory -/
theorem closed_callA (hmix : P.follows .mixedOrders = true) {n : Nat} {fid : FuncId} {args : List BV} {v : BV} {h' : BHeap} (e : callB P n fid args h0 = some (v, h')) (w : World) (args' : Array Value) (ha : VRels P g0 w args args'.toList) :
    Calls P fid args' w fun ed w' => ∃ v' g', ed = .returned v' ∧ Kept w w' ∧ VRel P g' w' v v' := by
  refine (sim_call hmix (hrel0 P w) ha e).mono ?_
  rintro ed w' ⟨v', g', h1, h2, h3, h4⟩
  refine ⟨v', g', h1, ⟨h3.size, fun c hc => h3.kept c hc ?_, h3.os.1, h3.os.2.1, h3.os.2.2⟩, h4⟩
  rintro ⟨b, o, base, hb, _⟩
  rw [h0_get] at hb; cases hb

/-- a function's contract, in B's words, that turns B's memory h into h' and may make blocks -/
def DoesG (X : World → Prop) (P : Program) (fid : FuncId) (as : List BV) (v : BV) (h h' : BHeap) : Prop :=
  ∀ (g : Gh) (w : World) (as' : Array Value), X w → HRel P g h w → VRels P g w as as'.toList → Calls P fid as' w fun ed w' =>
    ∃ v' g', ed = .returned v' ∧ VRel P g' w' v v' ∧ HRel P g' h' w' ∧ Ext g h w g' h' w' ∧ ∀ b, b < h.next → g.m b = none → g'.m b = none ∧ h'.get b = h.get b

/-- **A CALL BY ITS CONTRACT, THAT MAY WRITE AND MAKE BLOCKS, IN WHATEVER REGION; AND SOME STEPS MORE.** -/
theorem comesW_backG (hmix : P.follows .mixedOrders = true) (hX : Stays X) {fid fn' : FuncId} {args as : List BV} {v : BV} {c c' : CState} {h1 : BHeap} {tbl : List Nat} {fuel n : Nat} {live : List Nat} (hc : ComesW X P fid args c) (hin : enterB P fn' as .normal = some c.fr)
    (hd : DoesG X P fn' as v c.toS.h h1) (hb : backR P tbl fuel n c v h1 live = some c') : ComesW X P fid args c' := by
  intro w args' c0 hx ha
  obtain ⟨g1, w1, lb1, f1, cs1, k1, ⟨k2, k3, k4, k5⟩, k6⟩ := hc w args' c0 hx ha
  have hx1 : X w1 := hX w w1 k6.size (fun b hb => k6.kept b hb (by rintro ⟨b, o, base, hb, _⟩; rw [h0_get] at hb; cases hb)) hx
  have k4' : FRel P g1 c.toS.h w1 lb1 c.toS.h.next true c.fr f1 := k4
  obtain ⟨as', ha', rfl⟩ := enter_same hin k4'
  have k5' : CRel P g1 c.toS.h w1 (Base.of c0) lb1 c.cs cs1 := k5
  unfold backR at hb
  split at hb
  · rename_i s hs
    unfold backF at hs
    split at hs
    · rename_i f0 rest hcs
      split at hs
      · rename_i f2 h2 hfin
        cases hs
        split at hb
        · rename_i fr3 cs3 h3 hrun
          split at hb
          · rename_i hcan
            cases hb
            rw [hcs] at k5'
            simp only [CRel] at k5'
            obtain ⟨m0, mr, lb2, rfl, hl, hf0, hcr⟩ := k5'
            obtain ⟨ed, w2, fr2, ⟨v', g2, rfl, hv, q1, q2, hph⟩, hco, _, hlv⟩ := hd g1 w1 as' hx1 k2 ha' (m0 :: mr)
            have hp1 : PhLt lb1 g1 c.toS.h g2 h1 := fun b hb hm => hph b (Nat.lt_of_lt_of_le hb k3) hm
            have hf1 := hf0.mono (h' := h1) q2.mono hp1
            have hc1 := hcr.mono (h' := h1) q2.mono (hp1.mono hl)
            have hn := q2.next
            obtain ⟨r1, r2, r3, r4, r5⟩ := sim_finish q1 hf1 (Nat.le_trans hl (Nat.le_trans k3 hn)) (Nat.le_trans k3 hn) hv hfin
            have hlb : lb2 ≤ h1.next := Nat.le_trans hl (Nat.le_trans k3 hn)
            have hrel : SRel P (Base.of c0) g2 w2 lb2 ⟨f2, rest, h2⟩ _ mr := ⟨r1, Nat.le_trans hlb r5, r4, hc1.mono r2.mono (r3.lt hlb)⟩
            obtain ⟨g4, w4, lb4, f4, cs4, t1, t2, t3⟩ := sim_runN hmix n hrel hrun
            exact StepsTo.trans ((k1.trans ((show Steps P _ _ from hco).trans (Steps.one (step_leave_returned hlv)))).trans t1) (((k6.trans q2).trans r2).trans t3) (sim_cut t2 hcan)
          · cases hb
        · cases hb
      · cases hs
    · cases hs
  · cases hb
end
end
end Go.PB

set_option linter.unusedSimpArgs false
set_option linter.unusedVariables false
namespace Go.PB
open Go
noncomputable section

/-- a call carried out by B, and what is kept of its memory -/
def callR (P : Program) (n : Nat) (fid : FuncId) (args : List BV) (h : BHeap) (N : Nat) (live : List Nat) : Option (BV × List (Nat × BObj)) :=
  match callB P n fid args h with
  | some (v, h1) => (match Nat.ble h1.next N with | true => some (v, collectC h1 live) | false => none)
  | none => none

/-- a written memory -/
def memC (N : Nat) (l : List (Nat × BObj)) : BHeap := ⟨N, mkTr l .leaf, []⟩

section
variable {P : Program} {g g' : Gh} {h h' : BHeap} {w w' : World}

theorem sim_callR (hmix : P.follows .mixedOrders = true) {n N : Nat} {live : List Nat} {l : List (Nat × BObj)} {fid : FuncId} {args : List BV} {args' : Array Value} {v : BV} (hr : HRel P g h w) (ha : VRels P g w args args'.toList) (e : callR P n fid args h N live = some (v, l)) :
    Calls P fid args' w fun ed w' => ∃ v' g', ed = .returned v' ∧ HRel P g' (memC N l) w' ∧ Ext g h w g' (memC N l) w' ∧ VRel P g' w' v v' ∧ ∀ b, b < h.next → g.m b = none → g'.m b = none := by
  unfold callR at e
  split at e
  · rename_i v1 h1 hc
    split at e
    · rename_i hn
      cases e
      refine (sim_callG hmix hr ha hc).mono ?_
      rintro ed w' ⟨v', g', rfl, k1, k2, k3, k4⟩
      obtain ⟨q1, q2⟩ := k1.sub (h' := memC N (collectC h1 live)) (Nat.le_of_ble_eq_true hn) (mkTr_sub live .leaf fun b => .inl rfl)
      exact ⟨v', g', rfl, q1, k2.trans q2, k3, fun b hb hm => (k4 b hb hm).1⟩
    · cases e
  · cases e

theorem repl_two (a : BV) : ∀ n j, j < 2 * n → (repl [a, a] n)[j]? = some a := by
  intro n
  induction n with
  | zero => intro j hj; omega
  | succ n ih =>
    intro j hj
    show (a :: a :: repl [a, a] n)[j]? = some a
    match j with
    | 0 => rfl
    | 1 => rfl
    | j + 2 => simpa using ih j (by omega)

theorem HRel.row2 (hr : HRel P g h w) {b bs os n : Nat} {e : TypeId} (hb : h.get b = some (.cells (repl [.int .i64 0, .int .i64 0] n) e false)) (hm : g.m b = some (bs, os)) :
    bs < w.heap.size ∧ ∀ i, i < n → w.cell? ⟨bs, os + i * 2, none⟩ = some (.int .i64 0) ∧ w.cell? ⟨bs, os + i * 2 + 1, none⟩ = some (.int .i64 0) := by
  obtain ⟨c, lo, hi, vs, hw, hvs, _, hc, _, _⟩ := hr.cells hb hm
  refine ⟨(Array.getElem?_eq_some_iff.1 hw).1, fun i hi' => ?_⟩
  obtain ⟨x, hx, hrx⟩ := hvs.get (repl_two (.int .i64 0) n (i * 2) (by omega))
  obtain ⟨y, hy, hry⟩ := hvs.get (repl_two (.int .i64 0) n (i * 2 + 1) (by omega))
  simp only [VRel] at hrx hry
  subst hrx; subst hry
  exact ⟨hc _ _ hx, hc _ _ hy⟩

theorem HRel.subC {N : Nat} {l : List (Nat × BObj)} (hr : HRel P g (memC N l) w) {l' : List (Nat × BObj)} {live : List Nat} (e : collectC (memC N l) live = l') : HRel P g (memC N l') w ∧ Ext g (memC N l) w g (memC N l') w := by
  subst e
  exact hr.sub (Nat.le_refl _) (mkTr_sub live .leaf fun b => .inl rfl)
end
end
end Go.PB

