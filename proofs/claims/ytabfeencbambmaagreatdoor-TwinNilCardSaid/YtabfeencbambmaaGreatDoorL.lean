/- All but the last step: the walk of the law lifted to the row. -/
import Derived.Test.YtabfeencbambmaaGreatDoorRows
import Derived.Test.YtabfeencbambmaaGreatDoorCards
import Derived.Test.YtabfeencbambmaaGreatDoorTie
import Derived.Test.YtabfeencbambmaaGreatDoorJ
import Derived.LaidMore
import Derived.LaidLaws
import Derived.LaidHandle
import Derived.Stop.Joined
import Derived.SevenTiedAt
namespace Go.Proofs.YtabfeencbambmaaGreatDoor.twinNil
open Go Go.ChangeShapes Go.WideShapes Go.ChangeAt Go.RowKit
set_option linter.unusedVariables false
set_option linter.unusedSimpArgs false

theorem own : ownKnob Tryz.prog.godebug = none := by as_aux_lemma => kernel_rfl
theorem laidOut : laidOutB Tryz.prog = true := by as_aux_lemma => kernel_rfl
theorem params : Go.PB.paramsOk Tryz.prog Tryz.f3.params.toList = true := by as_aux_lemma => kernel_rfl

theorem spec (H : Type) (ds : List (DataW H)) (hd : ds.length = Tryz.f3.params.toList.length) : Rows.twinNilSpec.fn H ds = { results := [.lit (.bool true)], args := ds } := by
  rw [Tryz.params3] at hd
  match ds, hd with
  | [d0, d1, d2], _ => rfl

set_option maxHeartbeats 8000000 in
theorem door_met (os : Os) (args : Array Value) : laidMetH Tryz.prog Rows.twinNilRow.laid ((World.doorLaid Tryz.prog 400 os).forCall (fun _ _ => 0) ⟨#[], args, []⟩).memory :=
  laidMetH_of_parts3 (fuel := 8) (laidMet_of_run' 8 (by as_aux_lemma => kernel_rfl) (by as_aux_lemma => kernel_rfl)) (by as_aux_lemma => kernel_rfl) (by as_aux_lemma => kernel_rfl)

set_option maxHeartbeats 8000000 in
set_option maxRecDepth 100000 in
theorem walk (W : World) (base : Nat) (args : Array Value) (hs : args.size = Tryz.f3.params.size)
    (hok : ∀ (j : Nat) t v, Tryz.f3.params[j]? = some t → args[j]? = some v → Value.okWide Tryz.prog W .any base t v) :
    Calls Tryz.prog 3 args W fun e W' => e = .returned (.bool true) ∧ Go.PB.Kept W W' :=
  Go.PB.comes_blind (P := Tryz.prog) mixed hs hok C54 E W

set_option maxHeartbeats 8000000 in
set_option maxRecDepth 100000 in
theorem lifted (os : Os) (started : os.Started) (H : Type) (enc : TypeId × Value → H) :
    ReturnsInHanded {} Tryz.checked os 3 .any (fun w args => (Rows.twinNilSpec.pre enc Tryz.prog Tryz.f3 [] false w args ∧ laidMetH Tryz.prog Rows.twinNilRow.laid w) ∧ sizedMet enc Tryz.prog Tryz.f3 (OpenSpec.ofChange Rows.twinNilSpec) false w args)
      (Rows.twinNilSpec.post enc Tryz.prog Tryz.f3 false true false false) :=
  Go.PB.law_returns_and (C := Tryz.checked) (X := fun w _ => laidMetH Tryz.prog Rows.twinNilRow.laid w) (fun _ _ _ hh h => h.of_heap hh) own started (by as_aux_lemma => kernel_rfl) Tryz.func3
    (ChangeSpec.witness_shaped (enc := enc) (C := Tryz.checked) (os := os) (X := fun w _ => laidMetH Tryz.prog Rows.twinNilRow.laid w) false (World.doorLaid Tryz.prog 400 os) #[.int .i64 0, .int .i64 0, .agg #[.int .i64 0, .int .i64 0]] 8 rfl (World.shaped_of_RefB (by as_aux_lemma => kernel_rfl) (by as_aux_lemma => kernel_rfl)) (by as_aux_lemma => kernel_rfl) (by as_aux_lemma => kernel_rfl) (by as_aux_lemma => kernel_rfl) (door_met os _))
    laidOut params rfl (spec H) (by as_aux_lemma => kernel_rfl) Tryz.underlying4
    (fun W base args ds ps hs hok _ => walk W base args hs hok)

end Go.Proofs.YtabfeencbambmaaGreatDoor.twinNil
