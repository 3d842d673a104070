/- A closed call, carried out by B from nothing. -/
import Derived.Test.YthjdcddpoihcdaaGreatDoorPosM7
import Derived.Below
import Derived.ChangeSame
set_option linter.unusedSimpArgs false
set_option linter.unusedVariables false
namespace Go.PB
open Go

def g0 : Gh := { m := fun _ => none, fz := fun _ => False }

theorem h0_get (b : Nat) : h0.get b = none := by
  unfold h0 BHeap.get
  simp only
  cases b <;> rfl

theorem hrel0 (P : Program) (w : World) : HRel P g0 h0 w where
  dom := fun b o h => by rw [h0_get] at h; cases h
  lt := fun b x h => by cases h
  img := fun b blk base h => by cases h
  inj := fun b b' blk base base' o o' h => by rw [h0_get] at h; cases h
  obj := fun b o blk base h => by rw [h0_get] at h; cases h
  fzlt := fun c h => h.elim

/-- what a closed call leaves alone -/
structure Kept (w w' : World) : Prop where
  size : w.heap.size ≤ w'.heap.size
  heap : ∀ c, c < w.heap.size → w'.heap[c]? = w.heap[c]?
  os : w'.os = w.os
  output : w'.output = w.output
  tape : w'.tape = w.tape

theorem Kept.below {w w' : World} (h : Kept w w') : _root_.Go.RowKit.Below w.heap.size w w' := ⟨h.os, h.tape, h.output, h.size, h.heap⟩

theorem closed_call {P : Program} (hmix : P.follows .mixedOrders = true) {n : Nat} {fid : FuncId} {v : BV} {h' : BHeap} (e : callB P n fid [] h0 = some (v, h')) (w : World) :
    Calls P fid #[] w fun ed w' => ∃ v' g', ed = .returned v' ∧ Kept w w' ∧ VRel P g' w' v v' := by
  refine (sim_call hmix (hrel0 P w) (args := []) (args' := #[]) (by simp [VRels]) e).mono ?_
  rintro ed w' ⟨v', g', h1, h2, h3, h4⟩
  refine ⟨v', g', h1, ⟨h3.size, fun c hc => h3.kept c hc ?_, h3.os.1, h3.os.2.1, h3.os.2.2⟩, h4⟩
  rintro ⟨b, o, base, hb, _⟩
  rw [h0_get] at hb; cases hb

def okB : Option (BV × BHeap) → Bool
  | some (.bool true, _) => true
  | _ => false

theorem closed_true {P : Program} (hmix : P.follows .mixedOrders = true) {n : Nat} {fid : FuncId} (e : okB (callB P n fid [] h0) = true) (w : World) :
    Calls P fid #[] w fun ed w' => ed = .returned (.bool true) ∧ Kept w w' := by
  unfold okB at e
  split at e
  · rename_i h' hc
    refine (closed_call hmix hc w).mono ?_
    rintro ed w' ⟨v', g', h1, h2, h3⟩
    simp only [VRel] at h3
    subst h3
    exact ⟨h1, h2⟩
  · cases e

section post
open Go.RowKit Go.WideShapes Go.ChangeShapes
variable {H : Type} {enc : TypeId × Value → H} {P : Program}
/-- a row's last step, where all that was there is kept -/
theorem post_of_kept {f : Func} {s : ChangeSpec} {apart fresh handsOn again : Bool} {W W' : World} {args : Array Value} {v : Value} {ds gs : List (DataW H)} {before pa pv : List MemPlace}
    (hW : DataW.Whole enc P f.params.toList s.vars apart W args.toList ds gs before)
    (hres : ∀ (b : Nat) (sp : Nat → Bool) (hd : Bool), DataW.TrodAll enc P W' b sp hd f.resultTypes.toList (v.resultList f.resultTypes.size) (s.fn H (ds ++ gs)).results [])
    (hargs : ∀ sp : Nat → Bool, (∀ p ∈ before, sp p.block = true) → DataW.TrodAll enc P W' 0 sp true f.params.toList args.toList (s.fn H (ds ++ gs)).args pa)
    (hvars : ∀ sp : Nat → Bool, (∀ p ∈ before, sp p.block = true) → DataW.TrodVars enc P W' sp s.vars (s.fn H (ds ++ gs)).vars pv)
    (hps : before = pa ++ pv) (hk : Kept W W')
    (hok : ∀ (j : Nat) (t : TypeId) (r : Value), f.resultTypes[j]? = some t → (v.resultList f.resultTypes.size)[j]? = some r → Value.okWide P W' .any 0 t r) :
    s.post enc P f apart fresh handsOn again W args v W' := by
  have hb := hk.below
  have hlt : ∀ p ∈ before, p.block < W.heap.size := fun p hp => hW.lt p hp
  have hold : ∀ p ∈ before, (fun b => decide (b < W.heap.size)) p.block = true := fun p hp => by simpa using hlt p hp
  refine ⟨ds, gs, before, [], pa, pv, hW, hres _ _ _, hargs _ hold, hvars _ hold, World.keptBut_mono (fun p hp => ⟨hp, ?_⟩) (hb.frame (· ∈ before)), fun _ => ?_⟩
  · rw [hps, List.mem_append] at hp
    exact Or.inr hp
  · obtain ⟨_, _, _, _, _, hz, hn⟩ := hW
    refine ⟨hok, _, _, ([] ++ pa) ++ pv, ⟨[] ++ pa, pv, trodAll_append (hargs _ (fun _ _ => rfl)) (hres _ _ _), hvars _ (fun _ _ => rfl), rfl, ?_, ?_⟩, ?_⟩
    · intro b off hp
      have hin : MemPlace.cell b off ∈ before := by rw [hps]; simpa using hp
      rw [hb.frozen (hlt _ hin)]
      exact hz b off hin
    · intro ha
      have := hn ha
      rw [hps] at this
      simpa using this
    · intro p hp _
      rw [hps]
      simpa using hp
end post
end Go.PB
