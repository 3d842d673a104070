/- What B writes stands in its heap's log: a block that is not in the log is as it was. -/
import Derived.Test.YthjdcddpoihcdaaGreatDoorPosZ
set_option linter.unusedSimpArgs false
set_option linter.unusedVariables false
namespace Go.PB
open Go

structure LogTo (h h' : BHeap) : Prop where
  next : h.next ≤ h'.next
  log : ∀ b, b ∈ h.log → b ∈ h'.log
  same : ∀ b, b < h.next → b ∉ h'.log → h'.get b = h.get b

theorem LogTo.refl (h : BHeap) : LogTo h h := ⟨Nat.le_refl _, fun _ h => h, fun _ _ _ => rfl⟩
theorem LogTo.trans {a b c : BHeap} (x : LogTo a b) (y : LogTo b c) : LogTo a c :=
  ⟨Nat.le_trans x.next y.next, fun i hi => y.log i (x.log i hi), fun i hi hn => (y.same i (Nat.lt_of_lt_of_le hi x.next) hn).trans (x.same i hi fun h => hn (y.log i h))⟩
theorem LogTo.put (h : BHeap) (b : Nat) (o : Option BObj) : LogTo h (h.put b o) :=
  ⟨Nat.le_refl _, fun _ hi => List.mem_cons_of_mem _ hi, fun i _ hn => by
    rw [BHeap.get_put, if_neg (fun e => hn (by rw [e]; exact List.mem_cons_self))]⟩
theorem LogTo.new (h : BHeap) (o : BObj) : LogTo h (h.new o) :=
  ⟨by simp, fun _ hi => hi, fun i hi _ => by rw [BHeap.get_new, if_neg (by omega)]⟩

section
variable {P : Program} {h h' : BHeap}

theorem log_alloc {t : TypeId} {x v : BV} (e : allocB P h t x = some (v, h')) : LogTo h h' := by
  unfold allocB at e
  split at e
  · cases e; exact LogTo.new _ _
  · cases e
theorem log_buildSlice {t : TypeId} {n : Nat} {ps : List (Nat × BV)} {v : BV} (e : buildSliceB P h t n ps = some (v, h')) : LogTo h h' := by
  unfold buildSliceB at e
  repeat' (first | split at e | dsimp only at e)
  all_goals first
    | (cases e; done)
    | (cases e; exact LogTo.new _ _)
theorem log_makeSlice {t : TypeId} {l c v : BV} (e : makeSliceB P h t l c = some (v, h')) : LogTo h h' := by
  unfold makeSliceB at e
  repeat' (first | split at e | dsimp only at e)
  all_goals first
    | (cases e; done)
    | (cases e; exact LogTo.new _ _)
theorem log_store {t : TypeId} {a v : BV} (e : storeB P h t a v = some h') : LogTo h h' := by
  unfold storeB at e
  repeat' (first | split at e | dsimp only at e)
  all_goals first
    | (cases e; done)
    | (simp only [Option.map_eq_some_iff] at e; obtain ⟨_, _, rfl⟩ := e; exact LogTo.put _ _ _)
theorem log_convert {s t : TypeId} {x v : BV} (e : convertB P h s t x = some (v, h')) : LogTo h h' := by
  unfold convertB at e
  repeat' (first | split at e | dsimp only at e)
  all_goals first
    | (cases e; done)
    | (cases e; exact LogTo.refl _)
    | (cases e; exact LogTo.new _ _)
    | (simp only [Option.map_eq_some_iff, Prod.mk.injEq] at e; obtain ⟨_, _, _, rfl⟩ := e; exact LogTo.refl _)
theorem log_mark {t : TypeId} {x v : BV} (e : markB P h t x = some (v, h')) : LogTo h h' := by
  unfold markB at e
  repeat' (first | split at e | dsimp only at e)
  all_goals first
    | (cases e; done)
    | (cases e; exact LogTo.put _ _ _)
    | exact log_convert e
theorem log_mapUpdate {t : TypeId} {m k v : BV} (e : mapUpdateB P h t m k v = some h') : LogTo h h' := by
  unfold mapUpdateB at e
  repeat' (first | split at e | dsimp only at e)
  all_goals first
    | (cases e; done)
    | (cases e; exact LogTo.put _ _ _)
theorem log_mapEntry {t : TypeId} {m k v : BV} (e : mapEntryB P h t m k = some (v, h')) : LogTo h h' := by
  unfold mapEntryB at e
  repeat' (first | split at e | dsimp only at e)
  all_goals first
    | (cases e; done)
    | (cases e; exact LogTo.put _ _ _)
    | (simp only [Option.map_eq_some_iff, Prod.mk.injEq] at e; obtain ⟨_, _, _, rfl⟩ := e; exact LogTo.put _ _ _)
theorem log_entryStore {m s v : BV} (e : entryStoreB h m s v = some h') : LogTo h h' := by
  unfold entryStoreB at e
  repeat' (first | split at e | dsimp only at e)
  all_goals first
    | (cases e; done)
    | (cases e; exact LogTo.put _ _ _)
theorem log_range {t : TypeId} {x v : BV} (e : rangeB P h t x = some (v, h')) : LogTo h h' := by
  unfold rangeB at e
  repeat' (first | split at e | dsimp only at e)
  all_goals first
    | (cases e; done)
    | (cases e; exact LogTo.new _ _)
theorem log_next {it v : BV} {s : Bool} (e : nextB h it s = some (v, h')) : LogTo h h' := by
  unfold nextB at e
  repeat' (first | split at e | dsimp only at e)
  all_goals first
    | (cases e; done)
    | (cases e; exact LogTo.refl _)
    | (cases e; exact LogTo.put _ _ _)
theorem log_append {ts : Array TypeId} {as : List BV} {v : BV} (e : appendB P h ts as = some (v, h')) : LogTo h h' := by
  unfold appendB appendNone appendSome at e
  repeat' (first | split at e | dsimp only at e)
  all_goals first
    | (cases e; done)
    | (cases e; exact LogTo.refl _)
    | (cases e; exact LogTo.new _ _)
    | (cases e; exact (LogTo.put _ _ _).trans (LogTo.new _ _))
    | (simp only [Option.map_eq_some_iff, Prod.mk.injEq] at e; obtain ⟨_, _, _, rfl⟩ := e; first | exact LogTo.put _ _ _ | exact LogTo.new _ _)
theorem log_copy {ts : Array TypeId} {as : List BV} {v : BV} (e : copyB P h ts as = some (v, h')) : LogTo h h' := by
  unfold copyB at e
  repeat' (first | split at e | dsimp only at e)
  all_goals first
    | (cases e; done)
    | (cases e; exact LogTo.refl _)
    | (simp only [Option.map_eq_some_iff, Prod.mk.injEq] at e; obtain ⟨_, _, _, rfl⟩ := e; exact LogTo.put _ _ _)
theorem log_delete {ts : Array TypeId} {as : List BV} {v : BV} (e : deleteB P h ts as = some (v, h')) : LogTo h h' := by
  unfold deleteB at e
  repeat' (first | split at e | dsimp only at e)
  all_goals first
    | (cases e; done)
    | (cases e; exact LogTo.refl _)
    | (cases e; exact LogTo.put _ _ _)
theorem log_clear {ts : Array TypeId} {as : List BV} {v : BV} (e : clearB P h ts as = some (v, h')) : LogTo h h' := by
  unfold clearB at e
  repeat' (first | split at e | dsimp only at e)
  all_goals first
    | (cases e; done)
    | (cases e; exact LogTo.refl _)
    | (cases e; exact LogTo.put _ _ _)

theorem log_vh {n : BNext} {r : Option (BV × BHeap)} (hs : ∀ v h1, r = some (v, h1) → LogTo h h1) (e : (r.map fun (x : BV × BHeap) => (BNext.value x.1, x.2)) = some (n, h')) : LogTo h h' := by
  cases r with
  | none => cases e
  | some x => obtain ⟨v, h1⟩ := x; simp at e; obtain ⟨rfl, rfl⟩ := e; exact hs v h1 rfl
theorem log_v {α β : Type} {n : β} {r : Option α} {f : α → β} (e : (r.map fun x => (f x, h)) = some (n, h')) : LogTo h h' := by
  cases r with
  | none => cases e
  | some x => simp at e; obtain ⟨_, rfl⟩ := e; exact LogTo.refl _
theorem log_u {n : BNext} {r : Option BHeap} (hs : ∀ h1, r = some h1 → LogTo h h1) (e : (r.map fun x => (BNext.skip, x)) = some (n, h')) : LogTo h h' := by
  cases r with
  | none => cases e
  | some x => simp at e; obtain ⟨rfl, rfl⟩ := e; exact hs x rfl

theorem log_builtin {b : Builtin} {ts : Array TypeId} {as : List BV} {n : BNext} (e : builtinB P h b ts as = some (n, h')) : LogTo h h' := by
  unfold builtinB at e
  dsimp only at e
  split at e
  · exact log_vh (fun _ _ e => log_append e) e
  · exact log_vh (fun _ _ e => log_copy e) e
  · exact log_vh (fun _ _ e => log_delete e) e
  · exact log_vh (fun _ _ e => log_clear e) e
  · exact log_v e
  · split at e
    · cases e
    · exact log_v e
  · split at e
    · cases e
    · exact log_v e
  · split at e
    · cases e; exact LogTo.refl _
    · cases e
  · cases e; exact LogTo.refl _
  · cases e

theorem log_invoke {t : BTarget} {as : List BV} {n : BNext} (e : invokeB P h t as = some (n, h')) : LogTo h h' := by
  unfold invokeB at e
  split at e
  · exact log_builtin e
  · exact log_v (f := id) e
  · split at e
    · simp only [Option.bind_eq_some_iff] at e
      obtain ⟨_, _, e⟩ := e
      exact log_v (f := id) e
    · cases e
  · split at e
    · split at e
      · split at e
        · simp only [Option.bind_eq_some_iff] at e
          obtain ⟨_, _, e⟩ := e
          exact log_v (f := id) e
        · cases e
      · simp only [Option.bind_eq_some_iff] at e
        obtain ⟨_, _, e⟩ := e
        exact log_v (f := id) e
      · cases e
    · cases e
  · split at e
    · split at e
      · cases e
      · cases e; exact LogTo.refl _
    · cases e
  · cases e

theorem log_op {ρ : Operand → BV} {o : Oper} {n : BNext} (e : opB P h ρ o = some (n, h')) : LogTo h h' := by
  obtain ⟨dst, op, ty, pos, after, guard⟩ := o
  cases op <;> simp only [opB] at e
  case move => cases e; exact LogTo.refl _
  case assign => cases e; exact LogTo.refl _
  case pick => split at e <;> cases e; exact LogTo.refl _
  case alloc t =>
    refine log_vh (fun v h1 he => ?_) e
    simp only [Option.bind_eq_some_iff] at he
    obtain ⟨_, _, he⟩ := he
    exact log_alloc he
  case box => exact log_vh (fun _ _ e => log_alloc e) e
  case build => exact log_v e
  case buildSlice => exact log_vh (fun _ _ e => log_buildSlice e) e
  case load => exact log_v e
  case store => exact log_u (fun _ e => log_store e) e
  case nilCheck =>
    split at e
    all_goals first
      | (cases e; done)
      | (cases e; exact LogTo.refl _)
      | (split at e <;> cases e; exact LogTo.refl _)
  case binOp => split at e
                · exact log_v e
                · cases e
  case unOp => exact log_v e
  case convert => split at e
                  · exact log_vh (fun _ _ e => log_mark e) e
                  · exact log_vh (fun _ _ e => log_convert e) e
  case sliceToArrayPointer => exact log_v e
  case makeInterface => split at e <;> cases e; exact LogTo.refl _
  case makeFunc => split at e <;> cases e; exact LogTo.refl _
  case makeMap =>
    repeat' split at e
    all_goals first
      | (cases e; done)
      | (cases e; exact LogTo.new _ _)
  case makeSlice => exact log_vh (fun _ _ e => log_makeSlice e) e
  case slice => exact log_v e
  case fieldAddr => exact log_v e
  case field => exact log_v e
  case indexAddr => exact log_v e
  case index => exact log_v e
  case lookup => exact log_v e
  case mapUpdate => exact log_u (fun _ e => log_mapUpdate e) e
  case insert => exact log_u (fun _ e => log_mapUpdate e) e
  case mapEntry => exact log_vh (fun _ _ e => log_mapEntry e) e
  case entryStore => exact log_u (fun _ e => log_entryStore e) e
  case range => exact log_vh (fun _ _ e => log_range e) e
  case next => exact log_vh (fun _ _ e => log_next e) e
  case entry => exact log_v e
  case typeAssert => exact log_v e
  case extract => split at e
                  · exact log_v e
                  · cases e
  case call c =>
    simp only [Option.bind_eq_some_iff] at e
    obtain ⟨_, _, e⟩ := e
    exact log_invoke e
  case defer => exact log_v e
  case panic => split at e <;> cases e; exact LogTo.refl _
  all_goals cases e

theorem log_floats {ops : Array Oper} {bits : List Nat} {env0 : List BV} {effs : List Nat} : ∀ (is : List Nat) {h h' : BHeap} {vals vals' : List (Option BV)}, floats P ops bits env0 effs is h vals = some (h', vals') → LogTo h h' := by
  intro is
  induction is with
  | nil => intro h h' vals vals' e; simp only [floats] at e; cases e; exact LogTo.refl _
  | cons i is ih =>
    intro h h' vals vals' e
    simp only [floats] at e
    split at e
    · split at e
      · exact ih e
      · split at e
        · split at e
          · rename_i hop
            exact (log_op hop).trans (ih e)
          · cases e
        · exact ih e
        · cases e
    · exact ih e

theorem log_finish {fr fr' : BFrame} {v : BV} (e : finishB P fr v h = some (fr', h')) : LogTo h h' := by
  unfold finishB at e
  split at e
  · split at e
    · cases e; exact LogTo.refl _
    · split at e
      · simp only [Option.map_eq_some_iff, Prod.mk.injEq] at e
        obtain ⟨⟨d, h2⟩, e1, _, rfl⟩ := e
        unfold drawNext at e1
        dsimp only at e1
        split at e1
        · simp only [Option.map_eq_some_iff, Prod.mk.injEq] at e1
          obtain ⟨⟨h3, vs⟩, e2, _, rfl⟩ := e1
          exact log_floats _ e2
        · cases e1
      · cases e
    · cases e; exact LogTo.refl _
    · cases e
  · cases e

theorem log_fin {fr : BFrame} {cs : List BFrame} {v : BV} {s' : BState} (e : ((finishB P fr v h).map fun (x : BFrame × BHeap) => ({ fr := x.1, cs, h := x.2 } : BState)) = some s') : LogTo h s'.h := by
  simp only [Option.map_eq_some_iff] at e
  obtain ⟨⟨fr', h'⟩, e1, rfl⟩ := e
  exact log_finish e1

theorem log_apply {fr : BFrame} {cs : List BFrame} {k : CallKind} {n : BNext} {s' : BState} (e : applyB P fr cs k (n, h) = some s') : LogTo h s'.h := by
  cases n <;> simp only [applyB] at e
  case value => exact log_fin e
  case skip => exact log_fin e
  case enter => simp only [Option.map_eq_some_iff] at e; obtain ⟨_, _, rfl⟩ := e; exact LogTo.refl _
  case round => cases e; exact LogTo.refl _
  case defer => exact log_fin e
  case recover =>
    split at e
    · cases e
    · split at e
      · exact log_fin e
      · split at e
        · exact log_fin e
        · cases e
  case panic => cases e; exact LogTo.refl _

theorem log_doReturn {fr : BFrame} {cs : List BFrame} {v : BV} {s' : BState} (e : doReturnB P fr cs v h = some s') : LogTo h s'.h := by
  unfold doReturnB at e
  split at e
  · split at e
    · exact log_fin e
    · split at e
      · cases e
      · cases e; exact LogTo.refl _
      · cases e; exact LogTo.refl _
    · cases e
  · cases e

theorem log_leave {fr : BFrame} {cs : List BFrame} {j : Option Code} {s' : BState} (e : leaveB P fr cs h j = some s') : LogTo h s'.h := by
  unfold leaveB at e
  split at e
  · split at e
    · cases e; exact LogTo.refl _
    · cases e; exact LogTo.refl _
    · cases e
  · split at e
    · exact (LogTo.put _ _ _).trans (log_doReturn e)
    · cases e

theorem log_unwind {fr : BFrame} {cs : List BFrame} {s' : BState} (e : unwindB P fr cs h = some s') : LogTo h s'.h := by
  unfold unwindB at e
  split at e
  · split at e
    · split at e
      · cases e; exact LogTo.put _ _ _
      · cases e
    · unfold callDeferredB at e
      split at e
      · cases e
      · split at e
        · rename_i h1
          simp only [Option.map_eq_some_iff] at e
          obtain ⟨_, _, rfl⟩ := e
          exact log_invoke h1
        · rename_i h1
          cases e
          exact log_invoke h1
        · cases e
  · split at e
    · cases e
    · split at e
      · cases e; exact LogTo.refl _
      · cases e
    · split at e
      · cases e
      · split at e
        · exact log_doReturn e
        · cases e

theorem log_step {s s' : BState} (e : stepB P s = some s') : LogTo s.h s'.h := by
  obtain ⟨fr, cs, h⟩ := s
  unfold stepB at e
  dsimp only at e
  split at e
  · split at e
    all_goals first
      | exact log_leave e
      | (cases e; exact LogTo.refl _)
      | (cases e; done)
      | skip
    · split at e
      · cases e; exact LogTo.refl _
      · cases e
    · split at e
      · cases e; exact LogTo.refl _
      · exact log_leave e
    · split at e
      · cases e; exact LogTo.refl _
      · exact log_leave e
    · split at e
      · cases e
      · rename_i blk hb
        simp only [Option.bind_eq_some_iff] at e
        obtain ⟨d, _, r, hr, e⟩ := e
        have hl := log_invoke hr
        split at e
        · refine LogTo.trans ?_ (hl.trans (log_apply e))
          refine LogTo.trans ?_ (LogTo.new _ _)
          split
          · split
            · exact LogTo.refl _
            · exact LogTo.refl _
          · exact LogTo.new _ _
        · cases e
    · split at e
      · split at e
        · split at e
          · cases e; exact LogTo.put _ _ _
          · cases e
        · cases e
      · cases e
    · split at e
      · split at e
        · cases e
        · cases e; exact LogTo.put _ _ _
      · cases e
    · split at e
      · cases e; exact LogTo.refl _
      · split at e
        · cases e
        · simp only [Option.map_eq_some_iff] at e
          obtain ⟨⟨h2, vs⟩, e1, rfl⟩ := e
          exact log_floats _ e1
    · split at e
      · cases e; exact LogTo.refl _
      · split at e
        · split at e
          · cases e
          · simp only [Option.bind_eq_some_iff] at e
            obtain ⟨⟨n, h2⟩, h1, e⟩ := e
            exact (log_op h1).trans (log_apply e)
        · simp at e; subst e; exact LogTo.refl _
        · cases e
    · split at e
      · cases e; exact LogTo.refl _
      · split at e
        · cases e
        · split at e
          · split at e
            · cases e
            · simp only [Option.bind_eq_some_iff] at e
              obtain ⟨⟨n, h2⟩, h1, e⟩ := e
              exact (log_op h1).trans (log_apply e)
          · exact log_fin e
          · cases e
  · exact log_unwind e
end
end Go.PB
