/- What B writes stands in its heap's log: a block that is not in the log is as it was. A step of a map's range where several entries are left: B goes on with each of them, and the model with one of them. A call that ranges over maps, carried out by B in each order; the ends laid into one. -/
import Derived.Test.YtabfeencbambmaaGreatDoorPosN
set_option linter.unusedSimpArgs false
set_option linter.unusedVariables false
namespace Go.PB
open Go

structure LogTo (h h' : BHeap) : Prop where
  next : h.next ≤ h'.next
  log : ∀ b, b ∈ h.log → b ∈ h'.log
  same : ∀ b, b < h.next → b ∉ h'.log → h'.get b = h.get b

theorem LogTo.refl (h : BHeap) : LogTo h h := ⟨Nat.le_refl _, fun _ h => h, fun _ _ _ => rfl⟩
theorem LogTo.trans {a b c : BHeap} (x : LogTo a b) (y : LogTo b c) : LogTo a c :=
  ⟨Nat.le_trans x.next y.next, fun i hi => y.log i (x.log i hi), fun i hi hn => (y.same i (Nat.lt_of_lt_of_le hi x.next) hn).trans (x.same i hi fun h => hn (y.log i h))⟩
theorem LogTo.put (h : BHeap) (b : Nat) (o : Option BObj) : LogTo h (h.put b o) :=
  ⟨Nat.le_refl _, fun _ hi => List.mem_cons_of_mem _ hi, fun i _ hn => by
    rw [BHeap.get_put, if_neg (fun e => hn (by rw [e]; exact List.mem_cons_self))]⟩
theorem LogTo.new (h : BHeap) (o : BObj) : LogTo h (h.new o) :=
  ⟨by simp, fun _ hi => hi, fun i hi _ => by rw [BHeap.get_new, if_neg (by omega)]⟩

section
variable {P : Program} {h h' : BHeap}

theorem log_alloc {t : TypeId} {x v : BV} (e : allocB P h t x = some (v, h')) : LogTo h h' := by
  unfold allocB at e
  split at e
  · cases e; exact LogTo.new _ _
  · cases e
theorem log_buildSlice {t : TypeId} {n : Nat} {ps : List (Nat × BV)} {v : BV} (e : buildSliceB P h t n ps = some (v, h')) : LogTo h h' := by
  unfold buildSliceB at e
  repeat' (first | split at e | dsimp only at e)
  all_goals first
    | (cases e; done)
    | (cases e; exact LogTo.new _ _)
theorem log_makeSlice {t : TypeId} {l c v : BV} (e : makeSliceB P h t l c = some (v, h')) : LogTo h h' := by
  unfold makeSliceB at e
  repeat' (first | split at e | dsimp only at e)
  all_goals first
    | (cases e; done)
    | (cases e; exact LogTo.new _ _)
theorem log_store {t : TypeId} {a v : BV} (e : storeB P h t a v = some h') : LogTo h h' := by
  unfold storeB at e
  repeat' (first | split at e | dsimp only at e)
  all_goals first
    | (cases e; done)
    | (simp only [Option.map_eq_some_iff] at e; obtain ⟨_, _, rfl⟩ := e; exact LogTo.put _ _ _)
theorem log_convert {s t : TypeId} {x v : BV} (e : convertB P h s t x = some (v, h')) : LogTo h h' := by
  unfold convertB at e
  repeat' (first | split at e | dsimp only at e)
  all_goals first
    | (cases e; done)
    | (cases e; exact LogTo.refl _)
    | (cases e; exact LogTo.new _ _)
    | (simp only [Option.map_eq_some_iff, Prod.mk.injEq] at e; obtain ⟨_, _, _, rfl⟩ := e; exact LogTo.refl _)
theorem log_mark {t : TypeId} {x v : BV} (e : markB P h t x = some (v, h')) : LogTo h h' := by
  unfold markB at e
  repeat' (first | split at e | dsimp only at e)
  all_goals first
    | (cases e; done)
    | (cases e; exact LogTo.put _ _ _)
    | exact log_convert e
theorem log_mapUpdate {t : TypeId} {m k v : BV} (e : mapUpdateB P h t m k v = some h') : LogTo h h' := by
  unfold mapUpdateB at e
  repeat' (first | split at e | dsimp only at e)
  all_goals first
    | (cases e; done)
    | (cases e; exact LogTo.put _ _ _)
theorem log_mapEntry {t : TypeId} {m k v : BV} (e : mapEntryB P h t m k = some (v, h')) : LogTo h h' := by
  unfold mapEntryB at e
  repeat' (first | split at e | dsimp only at e)
  all_goals first
    | (cases e; done)
    | (cases e; exact LogTo.put _ _ _)
    | (simp only [Option.map_eq_some_iff, Prod.mk.injEq] at e; obtain ⟨_, _, _, rfl⟩ := e; exact LogTo.put _ _ _)
theorem log_entryStore {m s v : BV} (e : entryStoreB h m s v = some h') : LogTo h h' := by
  unfold entryStoreB at e
  repeat' (first | split at e | dsimp only at e)
  all_goals first
    | (cases e; done)
    | (cases e; exact LogTo.put _ _ _)
theorem log_range {t : TypeId} {x v : BV} (e : rangeB P h t x = some (v, h')) : LogTo h h' := by
  unfold rangeB at e
  repeat' (first | split at e | dsimp only at e)
  all_goals first
    | (cases e; done)
    | (cases e; exact LogTo.new _ _)
theorem log_next {it v : BV} {s : Bool} (e : nextB h it s = some (v, h')) : LogTo h h' := by
  unfold nextB at e
  repeat' (first | split at e | dsimp only at e)
  all_goals first
    | (cases e; done)
    | (cases e; exact LogTo.refl _)
    | (cases e; exact LogTo.put _ _ _)
theorem log_append {ts : Array TypeId} {as : List BV} {v : BV} (e : appendB P h ts as = some (v, h')) : LogTo h h' := by
  unfold appendB appendNone appendSome at e
  repeat' (first | split at e | dsimp only at e)
  all_goals first
    | (cases e; done)
    | (cases e; exact LogTo.refl _)
    | (cases e; exact LogTo.new _ _)
    | (cases e; exact (LogTo.put _ _ _).trans (LogTo.new _ _))
    | (simp only [Option.map_eq_some_iff, Prod.mk.injEq] at e; obtain ⟨_, _, _, rfl⟩ := e; first | exact LogTo.put _ _ _ | exact LogTo.new _ _)
theorem log_copy {ts : Array TypeId} {as : List BV} {v : BV} (e : copyB P h ts as = some (v, h')) : LogTo h h' := by
  unfold copyB at e
  repeat' (first | split at e | dsimp only at e)
  all_goals first
    | (cases e; done)
    | (cases e; exact LogTo.refl _)
    | (simp only [Option.map_eq_some_iff, Prod.mk.injEq] at e; obtain ⟨_, _, _, rfl⟩ := e; exact LogTo.put _ _ _)
theorem log_delete {ts : Array TypeId} {as : List BV} {v : BV} (e : deleteB P h ts as = some (v, h')) : LogTo h h' := by
  unfold deleteB at e
  repeat' (first | split at e | dsimp only at e)
  all_goals first
    | (cases e; done)
    | (cases e; exact LogTo.refl _)
    | (cases e; exact LogTo.put _ _ _)
theorem log_clear {ts : Array TypeId} {as : List BV} {v : BV} (e : clearB P h ts as = some (v, h')) : LogTo h h' := by
  unfold clearB at e
  repeat' (first | split at e | dsimp only at e)
  all_goals first
    | (cases e; done)
    | (cases e; exact LogTo.refl _)
    | (cases e; exact LogTo.put _ _ _)

theorem log_vh {n : BNext} {r : Option (BV × BHeap)} (hs : ∀ v h1, r = some (v, h1) → LogTo h h1) (e : (r.map fun (x : BV × BHeap) => (BNext.value x.1, x.2)) = some (n, h')) : LogTo h h' := by
  cases r with
  | none => cases e
  | some x => obtain ⟨v, h1⟩ := x; simp at e; obtain ⟨rfl, rfl⟩ := e; exact hs v h1 rfl
theorem log_v {α β : Type} {n : β} {r : Option α} {f : α → β} (e : (r.map fun x => (f x, h)) = some (n, h')) : LogTo h h' := by
  cases r with
  | none => cases e
  | some x => simp at e; obtain ⟨_, rfl⟩ := e; exact LogTo.refl _
theorem log_u {n : BNext} {r : Option BHeap} (hs : ∀ h1, r = some h1 → LogTo h h1) (e : (r.map fun x => (BNext.skip, x)) = some (n, h')) : LogTo h h' := by
  cases r with
  | none => cases e
  | some x => simp at e; obtain ⟨rfl, rfl⟩ := e; exact hs x rfl

theorem log_builtin {b : Builtin} {ts : Array TypeId} {as : List BV} {n : BNext} (e : builtinB P h b ts as = some (n, h')) : LogTo h h' := by
  unfold builtinB at e
  dsimp only at e
  split at e
  · exact log_vh (fun _ _ e => log_append e) e
  · exact log_vh (fun _ _ e => log_copy e) e
  · exact log_vh (fun _ _ e => log_delete e) e
  · exact log_vh (fun _ _ e => log_clear e) e
  · exact log_v e
  · split at e
    · cases e
    · exact log_v e
  · split at e
    · cases e
    · exact log_v e
  · split at e
    · cases e; exact LogTo.refl _
    · cases e
  · cases e; exact LogTo.refl _
  · cases e

theorem log_invoke {t : BTarget} {as : List BV} {n : BNext} (e : invokeB P h t as = some (n, h')) : LogTo h h' := by
  unfold invokeB at e
  split at e
  · exact log_builtin e
  · exact log_v (f := id) e
  · split at e
    · simp only [Option.bind_eq_some_iff] at e
      obtain ⟨_, _, e⟩ := e
      exact log_v (f := id) e
    · cases e
  · split at e
    · split at e
      · split at e
        · simp only [Option.bind_eq_some_iff] at e
          obtain ⟨_, _, e⟩ := e
          exact log_v (f := id) e
        · cases e
      · simp only [Option.bind_eq_some_iff] at e
        obtain ⟨_, _, e⟩ := e
        exact log_v (f := id) e
      · cases e
    · cases e
  · split at e
    · split at e
      · cases e
      · cases e; exact LogTo.refl _
    · cases e
  · cases e

theorem log_op {ρ : Operand → BV} {o : Oper} {n : BNext} (e : opB P h ρ o = some (n, h')) : LogTo h h' := by
  obtain ⟨dst, op, ty, pos, after, guard⟩ := o
  cases op <;> simp only [opB] at e
  case move => cases e; exact LogTo.refl _
  case assign => cases e; exact LogTo.refl _
  case pick => split at e <;> cases e; exact LogTo.refl _
  case alloc t =>
    refine log_vh (fun v h1 he => ?_) e
    simp only [Option.bind_eq_some_iff] at he
    obtain ⟨_, _, he⟩ := he
    exact log_alloc he
  case box => exact log_vh (fun _ _ e => log_alloc e) e
  case build => exact log_v e
  case buildSlice => exact log_vh (fun _ _ e => log_buildSlice e) e
  case load => exact log_v e
  case store => exact log_u (fun _ e => log_store e) e
  case nilCheck =>
    split at e
    all_goals first
      | (cases e; done)
      | (cases e; exact LogTo.refl _)
      | (split at e <;> cases e; exact LogTo.refl _)
  case binOp => split at e
                · exact log_v e
                · cases e
  case unOp => exact log_v e
  case convert => split at e
                  · exact log_vh (fun _ _ e => log_mark e) e
                  · exact log_vh (fun _ _ e => log_convert e) e
  case sliceToArrayPointer => exact log_v e
  case makeInterface => split at e <;> cases e; exact LogTo.refl _
  case makeFunc => split at e <;> cases e; exact LogTo.refl _
  case makeMap =>
    repeat' split at e
    all_goals first
      | (cases e; done)
      | (cases e; exact LogTo.new _ _)
  case makeSlice => exact log_vh (fun _ _ e => log_makeSlice e) e
  case slice => exact log_v e
  case fieldAddr => exact log_v e
  case field => exact log_v e
  case indexAddr => exact log_v e
  case index => exact log_v e
  case lookup => exact log_v e
  case mapUpdate => exact log_u (fun _ e => log_mapUpdate e) e
  case insert => exact log_u (fun _ e => log_mapUpdate e) e
  case mapEntry => exact log_vh (fun _ _ e => log_mapEntry e) e
  case entryStore => exact log_u (fun _ e => log_entryStore e) e
  case range => exact log_vh (fun _ _ e => log_range e) e
  case next => exact log_vh (fun _ _ e => log_next e) e
  case entry => exact log_v e
  case typeAssert => exact log_v e
  case extract => split at e
                  · exact log_v e
                  · cases e
  case call c =>
    simp only [Option.bind_eq_some_iff] at e
    obtain ⟨_, _, e⟩ := e
    exact log_invoke e
  case defer => exact log_v e
  case panic => split at e <;> cases e; exact LogTo.refl _
  all_goals cases e

theorem log_floats {ops : Array Oper} {bits : List Nat} {env0 : List BV} {effs : List Nat} : ∀ (is : List Nat) {h h' : BHeap} {vals vals' : List (Option BV)}, floats P ops bits env0 effs is h vals = some (h', vals') → LogTo h h' := by
  intro is
  induction is with
  | nil => intro h h' vals vals' e; simp only [floats] at e; cases e; exact LogTo.refl _
  | cons i is ih =>
    intro h h' vals vals' e
    simp only [floats] at e
    split at e
    · split at e
      · exact ih e
      · split at e
        · split at e
          · rename_i hop
            exact (log_op hop).trans (ih e)
          · cases e
        · exact ih e
        · cases e
    · exact ih e

theorem log_finish {fr fr' : BFrame} {v : BV} (e : finishB P fr v h = some (fr', h')) : LogTo h h' := by
  unfold finishB at e
  split at e
  · split at e
    · cases e; exact LogTo.refl _
    · split at e
      · simp only [Option.map_eq_some_iff, Prod.mk.injEq] at e
        obtain ⟨⟨d, h2⟩, e1, _, rfl⟩ := e
        unfold drawNext at e1
        dsimp only at e1
        split at e1
        · simp only [Option.map_eq_some_iff, Prod.mk.injEq] at e1
          obtain ⟨⟨h3, vs⟩, e2, _, rfl⟩ := e1
          exact log_floats _ e2
        · cases e1
      · cases e
    · cases e; exact LogTo.refl _
    · cases e
  · cases e

theorem log_fin {fr : BFrame} {cs : List BFrame} {v : BV} {s' : BState} (e : ((finishB P fr v h).map fun (x : BFrame × BHeap) => ({ fr := x.1, cs, h := x.2 } : BState)) = some s') : LogTo h s'.h := by
  simp only [Option.map_eq_some_iff] at e
  obtain ⟨⟨fr', h'⟩, e1, rfl⟩ := e
  exact log_finish e1

theorem log_apply {fr : BFrame} {cs : List BFrame} {k : CallKind} {n : BNext} {s' : BState} (e : applyB P fr cs k (n, h) = some s') : LogTo h s'.h := by
  cases n <;> simp only [applyB] at e
  case value => exact log_fin e
  case skip => exact log_fin e
  case enter => simp only [Option.map_eq_some_iff] at e; obtain ⟨_, _, rfl⟩ := e; exact LogTo.refl _
  case round => cases e; exact LogTo.refl _
  case defer => exact log_fin e
  case recover =>
    split at e
    · cases e
    · split at e
      · exact log_fin e
      · split at e
        · exact log_fin e
        · cases e
  case panic => cases e; exact LogTo.refl _

theorem log_doReturn {fr : BFrame} {cs : List BFrame} {v : BV} {s' : BState} (e : doReturnB P fr cs v h = some s') : LogTo h s'.h := by
  unfold doReturnB at e
  split at e
  · split at e
    · exact log_fin e
    · split at e
      · cases e
      · cases e; exact LogTo.refl _
      · cases e; exact LogTo.refl _
    · cases e
  · cases e

theorem log_leave {fr : BFrame} {cs : List BFrame} {j : Option Code} {s' : BState} (e : leaveB P fr cs h j = some s') : LogTo h s'.h := by
  unfold leaveB at e
  split at e
  · split at e
    · cases e; exact LogTo.refl _
    · cases e; exact LogTo.refl _
    · cases e
  · split at e
    · exact (LogTo.put _ _ _).trans (log_doReturn e)
    · cases e

theorem log_unwind {fr : BFrame} {cs : List BFrame} {s' : BState} (e : unwindB P fr cs h = some s') : LogTo h s'.h := by
  unfold unwindB at e
  split at e
  · split at e
    · split at e
      · cases e; exact LogTo.put _ _ _
      · cases e
    · unfold callDeferredB at e
      split at e
      · cases e
      · split at e
        · rename_i h1
          simp only [Option.map_eq_some_iff] at e
          obtain ⟨_, _, rfl⟩ := e
          exact log_invoke h1
        · rename_i h1
          cases e
          exact log_invoke h1
        · cases e
  · split at e
    · cases e
    · split at e
      · cases e; exact LogTo.refl _
      · cases e
    · split at e
      · cases e
      · split at e
        · exact log_doReturn e
        · cases e

theorem log_step {s s' : BState} (e : stepB P s = some s') : LogTo s.h s'.h := by
  obtain ⟨fr, cs, h⟩ := s
  unfold stepB at e
  dsimp only at e
  split at e
  · split at e
    all_goals first
      | exact log_leave e
      | (cases e; exact LogTo.refl _)
      | (cases e; done)
      | skip
    · split at e
      · cases e; exact LogTo.refl _
      · cases e
    · split at e
      · cases e; exact LogTo.refl _
      · exact log_leave e
    · split at e
      · cases e; exact LogTo.refl _
      · exact log_leave e
    · split at e
      · cases e
      · rename_i blk hb
        simp only [Option.bind_eq_some_iff] at e
        obtain ⟨d, _, r, hr, e⟩ := e
        have hl := log_invoke hr
        split at e
        · refine LogTo.trans ?_ (hl.trans (log_apply e))
          refine LogTo.trans ?_ (LogTo.new _ _)
          split
          · split
            · exact LogTo.refl _
            · exact LogTo.refl _
          · exact LogTo.new _ _
        · cases e
    · split at e
      · split at e
        · split at e
          · cases e; exact LogTo.put _ _ _
          · cases e
        · cases e
      · cases e
    · split at e
      · split at e
        · cases e
        · cases e; exact LogTo.put _ _ _
      · cases e
    · split at e
      · cases e; exact LogTo.refl _
      · split at e
        · cases e
        · simp only [Option.map_eq_some_iff] at e
          obtain ⟨⟨h2, vs⟩, e1, rfl⟩ := e
          exact log_floats _ e1
    · split at e
      · cases e; exact LogTo.refl _
      · split at e
        · split at e
          · cases e
          · simp only [Option.bind_eq_some_iff] at e
            obtain ⟨⟨n, h2⟩, h1, e⟩ := e
            exact (log_op h1).trans (log_apply e)
        · simp at e; subst e; exact LogTo.refl _
        · cases e
    · split at e
      · cases e; exact LogTo.refl _
      · split at e
        · cases e
        · split at e
          · split at e
            · cases e
            · simp only [Option.bind_eq_some_iff] at e
              obtain ⟨⟨n, h2⟩, h1, e⟩ := e
              exact (log_op h1).trans (log_apply e)
          · exact log_fin e
          · cases e
  · exact log_unwind e
end
end Go.PB

set_option linter.unusedSimpArgs false
set_option linter.unusedVariables false
namespace Go.PB
open Go
noncomputable section

def nextAll (h : BHeap) (it : BV) : Option (List (BV × BHeap)) :=
  match it with
  | .ptr r 0 =>
    match h.get r with
    | some (.mapIter (some m) since seen last) =>
      match h.get m with
      | some (.map es clock) =>
        if !seen.isEmpty && !es.isEmpty && es.all (fun e => decide (e.born ≥ last)) then none else
        let left := es.filter fun e => !seen.contains e.born
        let old := left.filter fun e => decide (e.born < since)
        let new := left.filter fun e => decide (e.born ≥ since)
        some ((if old.isEmpty then [(.tuple [.bool false], h)] else []) ++ (old ++ new).map fun e => (.tuple [.bool true, e.key, e.val], h.put r (some (.mapIter (some m) since (seen ++ [e.born]) clock))))
      | _ => none
    | _ => none
  | _ => none

section
variable {P : Program} {g : Gh} {h : BHeap} {w : World}

theorem run_choose_lt {n : Nat} (hn : 0 < n) : ∃ i w1, i < n ∧ (choose (.mapNext n)).run P w = .ok i w1 ∧ w1.heap = w.heap ∧ (w1.os = w.os ∧ w1.output = w.output ∧ w1.tape = w.tape) := by
  by_cases h1 : n ≤ 1
  · exact ⟨0, w, by omega, by simp [choose, Sem.run, Question.forced, h1], rfl, rfl, rfl, rfl⟩
  · refine ⟨w.tape w.drawn (.mapNext n) % n, { w with drawn := w.drawn + 1 }, Nat.mod_lt _ hn, ?_, rfl, rfl, rfl, rfl⟩
    have : Question.forced (.mapNext n) = false := by simp [Question.forced]; omega
    simp [choose, Sem.run, this, Question.cut]

theorem ERels.get' {bs : List BEntry} {es : List MapEntry} (h : ERels P g w bs es) {i : Nat} {e : MapEntry} (he : es[i]? = some e) : ∃ b, bs[i]? = some b ∧ ERel P g w b e := by
  have hl := h.length
  have hi : i < bs.length := by have := (List.getElem?_eq_some_iff.1 he).1; omega
  obtain ⟨u, hu, hr⟩ := h.get (List.getElem?_eq_getElem hi)
  rw [he] at hu; cases hu
  exact ⟨_, List.getElem?_eq_getElem hi, hr⟩

theorem sim_nextAll (hr : HRel P g h w) {ty : TypeId} {it : BV} {it' : Value} {l : List (BV × BHeap)} (hi : VRel P g w it it') (e : nextAll h it = some l) :
    ∃ p, p ∈ l ∧ Ends P g h w p.1 p.2 ((Instr.next it' false ty).run P w) := by
  unfold nextAll at e
  split at e
  · rename_i r
    simp only [VRel] at hi; obtain ⟨blk, base, hm, rfl⟩ := hi
    split at e
    · rename_i m since seen st hb
      obtain ⟨o', hw, ho⟩ := hr.iter hb hm
      simp only [ORel] at ho
      obtain ⟨rfl, blk2, hm2, rfl⟩ := ho
      have hget : (getObj blk).run P w = .ok (.mapIter (some blk2) since seen.toArray st) w := by simp [getObj, Sem.run, hw]
      split at e
      · rename_i es clock hb2
        obtain ⟨es', hw2, he⟩ := hr.map hb2 hm2
        have hget2 := r_getMap (P := P) hw2
        have hl := he.length
        have h1 : (!seen.toArray.isEmpty && !es'.isEmpty && es'.all (fun e => decide (e.born ≥ st))) = (!seen.isEmpty && !es.isEmpty && es.all (fun e => decide (e.born ≥ st))) := by
          have a1 : seen.toArray.isEmpty = seen.isEmpty := by simp
          have a2 : es'.isEmpty = es.isEmpty := by
            rw [Bool.eq_iff_iff, Array.isEmpty_iff_size_eq_zero, List.isEmpty_iff_length_eq_zero]
            simp at hl; omega
          have a3 : es'.all (fun e => decide (e.born ≥ st)) = es.all (fun e => decide (e.born ≥ st)) := by
            rw [← Array.all_toList]
            exact (all_born he st).symm
          rw [a1, a2, a3]
        split at e
        · cases e
        · rename_i hc
          have hleft := he.filter (p := fun e => !seen.contains e.born) (q := fun e => !seen.toArray.contains e.born) (fun b e hbe => by rw [hbe.2.2]; simp)
          have hold := hleft.filter (p := fun e => decide (e.born < since)) (q := fun e => decide (e.born < since)) (fun b e hbe => by rw [hbe.2.2])
          have hnew := hleft.filter (p := fun e => decide (e.born ≥ since)) (q := fun e => decide (e.born ≥ since)) (fun b e hbe => by rw [hbe.2.2])
          have eold : ((es'.filter fun e => !seen.toArray.contains e.born).filter fun e => decide (e.born < since)).toList = ((es'.toList.filter fun e => !seen.toArray.contains e.born).filter fun e => decide (e.born < since)) := by simp
          have enew : ((es'.filter fun e => !seen.toArray.contains e.born).filter fun e => decide (e.born ≥ since)).toList = ((es'.toList.filter fun e => !seen.toArray.contains e.born).filter fun e => decide (e.born ≥ since)) := by simp
          have hcond : (!seen.toArray.isEmpty && !es'.isEmpty && es'.all (fun e => decide (e.born ≥ st))) = false := by rw [h1]; simpa using hc
          dsimp only at e
          generalize hO : (es.filter fun e => !seen.contains e.born).filter (fun e => decide (e.born < since)) = O at e hold
          generalize hN : (es.filter fun e => !seen.contains e.born).filter (fun e => decide (e.born ≥ since)) = N at e hnew
          generalize hO' : ((es'.filter fun e => !seen.toArray.contains e.born).filter fun e => decide (e.born < since)) = O' at eold
          generalize hN' : ((es'.filter fun e => !seen.toArray.contains e.born).filter fun e => decide (e.born ≥ since)) = N' at enew
          rw [← eold] at hold
          rw [← enew] at hnew
          cases e
          have hOl : O'.size = O.length := by have := hold.length; simpa using this
          have hemp : O'.isEmpty = O.isEmpty := by
            rw [Bool.eq_iff_iff, Array.isEmpty_iff_size_eq_zero, List.isEmpty_iff_length_eq_zero, hOl]
          have hon : ERels P g w (O ++ N) (O' ++ N').toList := by rw [Array.toList_append]; exact hold.append hnew
          let C : Array (Option MapEntry) := (if O'.isEmpty then #[none] else #[]) ++ (O' ++ N').map some
          have hpos : 0 < C.size := by
            by_cases h0 : O'.isEmpty = true
            · simp [C, h0]; omega
            · have : O'.size ≠ 0 := fun h => h0 (by rw [Array.isEmpty_iff_size_eq_zero]; exact h)
              simp [C, h0]; omega
          obtain ⟨i, w1, hi, hrun, hheap, hos⟩ := run_choose_lt (P := P) (w := w) hpos
          obtain ⟨hr1, x1⟩ := hr.same hheap hos
          have hCi : C[i]? = some C[i] := Array.getElem?_eq_getElem hi
          cases hcc : C[i] with
          | none =>
            have h0 : O'.isEmpty = true := by
              by_cases h0 : O'.isEmpty = true
              · exact h0
              · exfalso
                have hmem : none ∈ C := Array.mem_of_getElem? (by rw [hCi, hcc])
                simp only [C, h0, if_false, Bool.false_eq_true] at hmem
                simp at hmem
            rw [hcc] at hCi
            refine ⟨(.tuple [.bool false], h), ?_, ?_⟩
            · rw [← hemp, h0]; simp
            · refine ⟨.tuple #[.bool false], g, w1, ?_, hr1, x1, Ph.refl _ _, by simp only [VRel]; exact ⟨_, rfl, VRels.cons (by simp [VRel]) VRels.nil⟩⟩
              simp only [Instr.next, Nat.add_zero, Sem.run_bind, hget, hget2, Result.andThen_ok, hcond, Bool.false_eq_true, if_false, hO', hN']
              rw [show (if O'.isEmpty = true then #[none] else #[]) ++ Array.map some (O' ++ N') = C from rfl, hrun]
              simp only [Result.andThen_ok, hCi, Sem.run_pure]
          | some d =>
            rw [hcc] at hCi
            obtain ⟨j, hj⟩ : ∃ j, (O' ++ N').toList[j]? = some d := by
              have hmem : some d ∈ C := by rw [Array.mem_iff_getElem?]; exact ⟨i, hCi⟩
              have hmem2 : d ∈ O' ++ N' := by
                simp only [C] at hmem
                rw [Array.mem_append] at hmem
                rcases hmem with hmem | hmem
                · split at hmem <;> simp at hmem
                · simpa using hmem
              have : d ∈ (O' ++ N').toList := by simpa using hmem2
              exact List.mem_iff_getElem?.1 this
            obtain ⟨b, hbj, hd⟩ := hon.get' hj
            have hw1 : w1.heap[blk]? = some (.mapIter (some blk2) since seen.toArray st) := by rw [hheap]; exact hw
            have hput := hr1.write (o' := .mapIter (some m) since (seen ++ [b.born]) clock) (co' := .mapIter (some blk2) since (seen.toArray.push d.born) clock) hb hm hw1 (w' := w1.putBlk blk (.mapIter (some blk2) since (seen.toArray.push d.born) clock)) rfl ⟨rfl, rfl, rfl⟩
              (fun s hs => by simp [World.shape?, hw1] at hs) (fun hmono => by simp only [ORel]; exact ⟨trivial, blk2, hmono.mm _ _ hm2, by rw [hd.2.2]; simp⟩)
            refine ⟨(.tuple [.bool true, b.key, b.val], h.put r (some (.mapIter (some m) since (seen ++ [b.born]) clock))), ?_, ?_⟩
            · refine List.mem_append_right _ (List.mem_map.2 ⟨b, List.mem_iff_getElem?.2 ⟨j, hbj⟩, rfl⟩)
            · have hx := x1.trans hput.2
              refine ⟨.tuple #[.bool true, d.key, d.val], g, w1.putBlk blk (.mapIter (some blk2) since (seen.toArray.push d.born) clock), ?_, hput.1, hx, Ph.put hm _, ?_⟩
              · simp only [Instr.next, Nat.add_zero, Sem.run_bind, hget, hget2, Result.andThen_ok, hcond, Bool.false_eq_true, if_false, hO', hN']
                rw [show (if O'.isEmpty = true then #[none] else #[]) ++ Array.map some (O' ++ N') = C from rfl, hrun]
                simp only [Result.andThen_ok, hCi]
                simp [setObj, Sem.run, hw1, World.putBlk]
              · simp only [VRel]
                exact ⟨_, rfl, VRels.cons (by simp [VRel]) (VRels.cons (VRel.mono hx.mono _ _ hd.1) (VRels.cons (VRel.mono hx.mono _ _ hd.2.1) VRels.nil))⟩
      · cases e
    · cases e
  · cases e
end
end
end Go.PB

set_option linter.unusedSimpArgs false
set_option linter.unusedVariables false
namespace Go.PB
open Go
noncomputable section

/-- the states behind a step that draws an entry of a map -/
def choicesB (P : Program) (s : BState) : Option (List BState) :=
  match s.fr.mode with
  | .run =>
    match s.fr.todo with
    | .inRegion ops (i :: rest) :: k =>
      match ops[i]? with
      | some o =>
        match o.op with
        | .next it false =>
          match wantedB o ops (fun t => s.fr.env[t]?) with
          | some true => (nextAll s.h (evalB s.fr.env it)).map fun l => l.map fun p =>
              { fr := { s.fr with env := putTmp s.fr.env o.dst p.1, todo := .inRegion ops rest :: k }, cs := s.cs, h := p.2 }
          | _ => none
        | _ => none
      | none => none
    | _ => none
  | _ => none

def exploreAll (f : BState → Option (List BState)) : List BState → Option (List BState)
  | [] => some []
  | s :: r => match f s with
    | some a => (match exploreAll f r with | some b => some (a ++ b) | none => none)
    | none => none

/-- all ends of a machine -/
def exploreB (P : Program) : Nat → BState → Option (List BState)
  | 0, _ => none
  | n + 1, s =>
    if s.ended then some [s] else
    match stepB P s with
    | some s' => exploreB P n s'
    | none => match choicesB P s with
      | some l => exploreAll (exploreB P n) l
      | none => none

/-! ### laying heaps into one -/
def entryEq : List BEntry → List BEntry → Bool
  | [], [] => true
  | a :: r, b :: s => BV.beq 40 a.key b.key && BV.beq 40 a.val b.val && Nat.beq a.born b.born && entryEq r s
  | _, _ => false

def natsEq : List Nat → List Nat → Bool
  | [], [] => true
  | a :: r, b :: s => Nat.beq a b && natsEq r s
  | _, _ => false

def objEq : Option BObj → Option BObj → Bool
  | none, none => true
  | some (.cells a e s), some (.cells b f t) => Nat.beq e f && (s == t) && BV.beqs 1000000 a b
  | some (.map a c), some (.map b d) => Nat.beq c d && entryEq a b
  | some (.mapIter a s l t), some (.mapIter b u m v) => (a == b) && Nat.beq s u && natsEq l m && Nat.beq t v
  | some (.strIter a p), some (.strIter b q) => (a == b) && Nat.beq p q
  | _, _ => false

def seenB (t : Tr Bool) (b : Nat) : Bool := match Tr.get t b with | some x => x | none => false

/-- the blocks of a list are laid, each once: what is the same in all heaps stays, what is not goes -/
def layB (n0 : Nat) (h1 : BHeap) (r : List BHeap) : List Nat → Tr Bool → BHeap → Option (Tr Bool × BHeap)
  | [], t, h => some (t, h)
  | b :: bs, t, h =>
    if seenB t b then layB n0 h1 r bs t h else
    if r.all (fun x => objEq (h1.get b) (x.get b)) then layB n0 h1 r bs (Tr.setF (b + 1) t b (some true)) (h.put b (h1.get b)) else
    if Nat.ble n0 b then layB n0 h1 r bs (Tr.setF (b + 1) t b (some true)) (h.put b none) else none

def layAll (n0 : Nat) (h1 : BHeap) (r : List BHeap) : List (List Nat) → Tr Bool → BHeap → Option (Tr Bool × BHeap)
  | [], t, h => some (t, h)
  | l :: ls, t, h => match layB n0 h1 r l t h with | some (t', h') => layAll n0 h1 r ls t' h' | none => none

def topOf : Nat → List BHeap → Nat
  | n, [] => n
  | n, h :: r => topOf (if Nat.ble n h.next then h.next else n) r

def mergeH (h0 h1 : BHeap) (r : List BHeap) : Option BHeap :=
  let top := topOf h1.next r
  match layAll h0.next h1 r (((List.range (top - h0.next)).map (· + h0.next)) :: h1.log :: r.map (·.log)) .leaf h0 with
  | some (_, h) => some { h with next := top }
  | none => none

def zipEnv : List BV → List BV → List BV
  | a :: as, b :: bs => (if BV.beq 40 a b then a else .junk) :: zipEnv as bs
  | [], _ => []
  | a :: as, [] => (a :: as).map fun _ => .junk

def mergeEnv : List BV → List (List BV) → List BV
  | e, [] => e
  | e, x :: r => mergeEnv (zipEnv e x) r

def plainEnd (fn : Nat) (s : BState) : Bool := Nat.beq s.fr.fn fn && s.fr.roundOf.isNone && (match s.fr.kind with | .normal => true | _ => false)

def mergeS (h0 : BHeap) : List BState → Option (BFrame × BHeap)
  | [] => none
  | s :: r =>
    if (s :: r).all (fun t => plainEnd s.fr.fn t && Nat.beq t.fr.env.length s.fr.env.length) then
      (mergeH h0 s.h (r.map (·.h))).map fun h => ({ s.fr with env := mergeEnv s.fr.env (r.map (·.fr.env)) }, h)
    else none

/-- does the frame begin a call that is carried out in each order? -/
def hereX (tbl : List Nat) (fr : BFrame) : Bool :=
  match fr.todo with
  | [.code _] => (match fr.mode, fr.kind, fr.roundOf with | .run, .normal, none => tbl.any (Nat.beq fr.fn) | _, _, _ => false)
  | _ => false

def stepX (P : Program) (tbl : List Nat) (fuel : Nat) (s : BState) : Option BState :=
  if hereX tbl s.fr then
    match exploreB P fuel { fr := s.fr, cs := [], h := { s.h with log := [] } } with
    | some l => (mergeS { s.h with log := [] } l).map fun x => { fr := x.1, cs := s.cs, h := x.2 }
    | none => none
  else stepB P s

def runX (P : Program) (tbl : List Nat) (fuel : Nat) : Nat → BState → Option BState
  | 0, _ => none
  | n + 1, s => if s.ended then some s else match stepX P tbl fuel s with | some s' => runX P tbl fuel n s' | none => none

def callX (P : Program) (tbl : List Nat) (fuel n : Nat) (f : FuncId) (args : List BV) (h : BHeap) : Option (BV × BHeap) :=
  match enterB P f args .normal with
  | none => none
  | some fr =>
    match runX P tbl fuel n { fr, cs := [], h } with
    | some s => (match s.fr.kind, P.funcs[s.fr.fn]? with | .normal, some fn => if Nat.beq s.fr.fn f then (resultsB P s.h fn s.fr.env).map fun v => (v, s.h) else none | _, _ => none)
    | none => none

section
variable {P : Program} {g g' : Gh} {h h' : BHeap} {w w' : World} {lb ub : Nat} {base : Base} {f : Frame} {cs : List Frame}

theorem sim_choices {s : BState} {l : List BState} (hs : SRel P base g w lb s f cs) (e : choicesB P s = some l) : ∃ s', s' ∈ l ∧ StepsTo P base g s.h w s' (lone f cs w) := by
  obtain ⟨⟨bfn, benv, btodo, bds, bmode, bkd, bro⟩, bs, h⟩ := s
  obtain ⟨hr, hlb, hf, hc⟩ := hs
  obtain ⟨fn, tmps, ftodo, ds, fmode, kd, ro⟩ := f
  dsimp only at hr hlb hf hc ⊢
  unfold choicesB at e
  dsimp only at e
  split at e
  · have hfm : fmode = .run := hf.mode
    subst hfm
    split at e
    · rename_i ops i rest k
      split at e
      · rename_i o ho
        split at e
        · rename_i it hop
          split at e
          · rename_i hw
            cases hn : nextAll h (evalB benv it) with
            | none => simp [hn] at e
            | some ps =>
              simp [hn] at e
              have hrun := hf.run rfl
              unfold RunRel at hrun
              dsimp only at hrun
              obtain ⟨henv, hi⟩ := hrun
              simp only [ItemsRel] at hi
              obtain ⟨it', ir, rfl, hit, hir⟩ := hi
              simp only [ItemRel] at hit
              subst hit
              have hw' : Region.wanted o (yielded ops tmps) = true :=
                wantedRel (P := P) (g := g) (w := w) (fun j b' _ t _ => by
                  cases hb : benv[t]? with
                  | none =>
                    left
                    refine ⟨rfl, ?_⟩
                    have : tmps.toList[t]? = none := by rw [List.getElem?_eq_none]; have := henv.length; have := List.getElem?_eq_none_iff.1 hb; omega
                    simpa using this
                  | some y =>
                    obtain ⟨v, h1, h2⟩ := henv.get hb
                    exact .inr ⟨y, v, rfl, by simpa using h1, h2⟩) hw
              obtain ⟨p, hp, hends⟩ := sim_nextAll (ty := o.type) hr (evalRel henv (rf fn tmps (.inRegion ops (i :: rest) :: ir) ds kd ro) rfl it) hn
              refine ⟨_, by rw [← e]; exact List.mem_map.2 ⟨p, hp, rfl⟩, ?_⟩
              have hd : Done P g h w (.value p.1) p.2 ((execOp (rf fn tmps (.inRegion ops (i :: rest) :: ir) ds kd ro).eval o).run P w) := by
                have := Done.of_ends hends
                simp only [execOp, hop]
                exact this
              have hap := sim_apply (f := rf fn tmps (.inRegion ops (i :: rest) :: ir) ds kd ro) hr hlb (hf.with (btodo' := .inRegion ops (i :: rest) :: k) henv ⟨_, _, rfl, rfl, hir⟩) rfl hc hd
                (s' := { fr := bf bfn (putTmp benv o.dst p.1) (.inRegion ops rest :: k) bds bkd bro, cs := bs, h := p.2 })
                (by simp [applyB, finishB, ho])
              refine StepsTo.of_lands ?_
              rw [a_oper ho hw' (.inr fun c hc => by rw [hop] at hc; cases hc)]
              exact hap
          · cases e
        · cases e
      · cases e
    · cases e
  · cases e

theorem mem_exploreAll {fx : BState → Option (List BState)} : ∀ {l r : List BState}, exploreAll fx l = some r → ∀ s ∈ l, ∃ a, fx s = some a ∧ ∀ t ∈ a, t ∈ r := by
  intro l
  induction l with
  | nil => intro r _ s hs; cases hs
  | cons x l ih =>
    intro r e s hs
    simp only [exploreAll] at e
    split at e
    · rename_i a ha
      split at e
      · rename_i b hb
        cases e
        rcases List.mem_cons.1 hs with rfl | hs
        · exact ⟨a, ha, fun t ht => List.mem_append_left _ ht⟩
        · obtain ⟨c, h1, h2⟩ := ih hb s hs
          exact ⟨c, h1, fun t ht => List.mem_append_right _ (h2 t ht)⟩
      · cases e
    · cases e

theorem exploreAll_mem {fx : BState → Option (List BState)} : ∀ {l r : List BState}, exploreAll fx l = some r → ∀ t ∈ r, ∃ s ∈ l, ∃ a, fx s = some a ∧ t ∈ a := by
  intro l
  induction l with
  | nil => intro r e t ht; simp only [exploreAll] at e; cases e; cases ht
  | cons x l ih =>
    intro r e t ht
    simp only [exploreAll] at e
    split at e
    · rename_i a ha
      split at e
      · rename_i b hb
        cases e
        rcases List.mem_append.1 ht with ht | ht
        · exact ⟨x, List.mem_cons_self, a, ha, ht⟩
        · obtain ⟨s, h1, c, h2, h3⟩ := ih hb t ht
          exact ⟨s, List.mem_cons_of_mem _ h1, c, h2, h3⟩
      · cases e
    · cases e

theorem sim_explore (hmix : P.follows .mixedOrders = true) : ∀ (n : Nat) {s : BState} {l : List BState} {g : Gh} {w : World} {lb : Nat} {f : Frame} {cs : List Frame}, SRel P base g w lb s f cs → exploreB P n s = some l →
    ∃ s', s' ∈ l ∧ s'.ended = true ∧ StepsTo P base g s.h w s' (lone f cs w) := by
  intro n
  induction n with
  | zero => intro s l g w lb f cs _ e; cases e
  | succ n ih =>
    intro s l g w lb f cs hs e
    simp only [exploreB] at e
    split at e
    · rename_i he
      cases e
      exact ⟨s, List.mem_cons_self, he, ⟨g, w, lb, f, cs, Steps.refl _ _, hs, Ext.refl _ _ _⟩⟩
    · split at e
      · rename_i s1 h1
        obtain ⟨g1, w1, lb1, f1, cs1, k1, k2, k3⟩ := sim_step hmix hs h1
        obtain ⟨s', m1, m2, m3⟩ := ih k2 e
        exact ⟨s', m1, m2, StepsTo.trans k1 k3 m3⟩
      · split at e
        · rename_i l1 h1
          obtain ⟨s1, hm, g1, w1, lb1, f1, cs1, k1, k2, k3⟩ := sim_choices hs h1
          obtain ⟨a, ha, hsub⟩ := mem_exploreAll e s1 hm
          obtain ⟨s', m1, m2, m3⟩ := ih k2 ha
          exact ⟨s', hsub _ m1, m2, StepsTo.trans k1 k3 m3⟩
        · cases e

theorem log_choices {s : BState} {l : List BState} (e : choicesB P s = some l) : ∀ t ∈ l, LogTo s.h t.h := by
  unfold choicesB at e
  repeat' (first | split at e | dsimp only at e)
  all_goals first
    | (cases e; done)
    | skip
  rename_i it _ _ _
  cases hn : nextAll s.h (evalB s.fr.env it) with
  | none => simp [hn] at e
  | some ps =>
    simp [hn] at e
    subst e
    intro t ht
    obtain ⟨p, hp, rfl⟩ := List.mem_map.1 ht
    dsimp only
    unfold nextAll at hn
    repeat' (first | split at hn | dsimp only at hn)
    all_goals first
      | (cases hn; done)
      | skip
    all_goals
      cases hn
      rcases List.mem_append.1 hp with hp | hp
      · first
          | (cases hp; done)
          | (simp at hp; rw [hp]; exact LogTo.refl _)
      · obtain ⟨b, _, rfl⟩ := List.mem_map.1 hp
        exact LogTo.put _ _ _

theorem log_explore : ∀ (n : Nat) {s : BState} {l : List BState}, exploreB P n s = some l → ∀ t ∈ l, LogTo s.h t.h := by
  intro n
  induction n with
  | zero => intro s l e; cases e
  | succ n ih =>
    intro s l e t ht
    simp only [exploreB] at e
    split at e
    · cases e
      simp at ht; subst ht; exact LogTo.refl _
    · split at e
      · rename_i s1 h1
        exact (log_step h1).trans (ih e t ht)
      · split at e
        · rename_i l1 h1
          obtain ⟨s1, hm, a, ha, hta⟩ := exploreAll_mem e t ht
          exact (log_choices h1 s1 hm).trans (ih ha t hta)
        · cases e

theorem entryEq_sound : ∀ {a b : List BEntry}, entryEq a b = true → a = b := by
  intro a
  induction a with
  | nil => intro b h; cases b <;> simp [entryEq] at h; rfl
  | cons x a ih =>
    intro b h
    cases b with
    | nil => simp [entryEq] at h
    | cons y b =>
      obtain ⟨k, v, n⟩ := x; obtain ⟨k', v', n'⟩ := y
      simp only [entryEq, Bool.and_eq_true] at h
      obtain ⟨⟨⟨h1, h2⟩, h3⟩, h4⟩ := h
      rw [(beq_sound 40).1 _ _ h1, (beq_sound 40).1 _ _ h2, Nat.eq_of_beq_eq_true h3, ih h4]

theorem natsEq_sound : ∀ {a b : List Nat}, natsEq a b = true → a = b := by
  intro a
  induction a with
  | nil => intro b h; cases b <;> simp [natsEq] at h; rfl
  | cons x a ih =>
    intro b h
    cases b with
    | nil => simp [natsEq] at h
    | cons y b =>
      simp only [natsEq, Bool.and_eq_true] at h
      rw [Nat.eq_of_beq_eq_true h.1, ih h.2]

theorem objEq_sound {a b : Option BObj} (h : objEq a b = true) : a = b := by
  unfold objEq at h
  split at h
  · rfl
  · simp only [Bool.and_eq_true, beq_iff_eq] at h
    obtain ⟨⟨h1, rfl⟩, h3⟩ := h
    rw [Nat.eq_of_beq_eq_true h1, (beq_sound _).2 _ _ h3]
  · simp only [Bool.and_eq_true] at h
    rw [Nat.eq_of_beq_eq_true h.1, entryEq_sound h.2]
  · simp only [Bool.and_eq_true, beq_iff_eq] at h
    obtain ⟨⟨⟨rfl, h2⟩, h3⟩, h4⟩ := h
    rw [Nat.eq_of_beq_eq_true h2, natsEq_sound h3, Nat.eq_of_beq_eq_true h4]
  · simp only [Bool.and_eq_true, beq_iff_eq] at h
    obtain ⟨rfl, h2⟩ := h
    rw [Nat.eq_of_beq_eq_true h2]
  · cases h

/-- what the laying keeps: a block that is marked is in all the heaps as it is here, or gone here and not older; one that is not marked is as it was -/
structure Laid (n0 : Nat) (h0 h1 : BHeap) (r : List BHeap) (t : Tr Bool) (h : BHeap) : Prop where
  seen : ∀ b, seenB t b = true → (h.get b = none ∧ n0 ≤ b) ∨ (∀ x, x ∈ h1 :: r → h.get b = x.get b)
  rest : ∀ b, seenB t b = false → h.get b = h0.get b
  next : h.next = h0.next

theorem seenB_set (t : Tr Bool) (b j : Nat) : seenB (Tr.setF (b + 1) t b (some true)) j = if j = b then true else seenB t j := by
  unfold seenB
  rw [Tr.get_set _ _ _ _ _ (by omega)]
  by_cases e : j = b
  · simp [e]
  · simp [e]

theorem layB_laid {n0 : Nat} {h0 h1 : BHeap} {r : List BHeap} : ∀ (bs : List Nat) {t t' : Tr Bool} {h h' : BHeap}, Laid n0 h0 h1 r t h → layB n0 h1 r bs t h = some (t', h') →
    Laid n0 h0 h1 r t' h' ∧ (∀ b, seenB t b = true → seenB t' b = true) ∧ ∀ b ∈ bs, seenB t' b = true := by
  intro bs
  induction bs with
  | nil => intro t t' h h' hl e; simp only [layB] at e; cases e; exact ⟨hl, fun _ h => h, fun b hb => by cases hb⟩
  | cons b bs ih =>
    intro t t' h h' hl e
    simp only [layB] at e
    split at e
    · rename_i hs
      obtain ⟨h1', h2', h3'⟩ := ih hl e
      refine ⟨h1', h2', fun j hj => ?_⟩
      rcases List.mem_cons.1 hj with rfl | hj
      · exact h2' _ hs
      · exact h3' _ hj
    · rename_i hs
      have key : ∀ {o : Option BObj}, ((o = none ∧ n0 ≤ b) ∨ (∀ x, x ∈ h1 :: r → o = x.get b)) → Laid n0 h0 h1 r (Tr.setF (b + 1) t b (some true)) (h.put b o) := by
        intro o ho
        refine ⟨fun j hj => ?_, fun j hj => ?_, hl.next⟩
        · rw [seenB_set] at hj
          by_cases e : j = b
          · subst e; simp only [BHeap.get_put, if_pos]; exact ho
          · rw [if_neg e] at hj
            simp only [BHeap.get_put, if_neg e]; exact hl.seen j hj
        · rw [seenB_set] at hj
          by_cases e : j = b
          · rw [if_pos e] at hj; cases hj
          · rw [if_neg e] at hj
            rw [BHeap.get_put, if_neg e]; exact hl.rest j hj
      have fin : ∀ {hh : BHeap}, Laid n0 h0 h1 r (Tr.setF (b + 1) t b (some true)) hh → layB n0 h1 r bs (Tr.setF (b + 1) t b (some true)) hh = some (t', h') →
          Laid n0 h0 h1 r t' h' ∧ (∀ b, seenB t b = true → seenB t' b = true) ∧ ∀ j ∈ b :: bs, seenB t' j = true := by
        intro hh hk e
        obtain ⟨h1', h2', h3'⟩ := ih hk e
        refine ⟨h1', fun j hj => h2' _ (by rw [seenB_set]; split <;> simp_all), fun j hj => ?_⟩
        rcases List.mem_cons.1 hj with rfl | hj
        · exact h2' _ (by rw [seenB_set]; simp)
        · exact h3' _ hj
      split at e
      · rename_i hall
        refine fin (key (.inr fun x hx => ?_)) e
        rcases List.mem_cons.1 hx with rfl | hx
        · rfl
        · exact objEq_sound (List.all_eq_true.1 hall x hx)
      · split at e
        · rename_i hle
          exact fin (key (.inl ⟨rfl, Nat.le_of_ble_eq_true hle⟩)) e
        · cases e

theorem layAll_laid {n0 : Nat} {h0 h1 : BHeap} {r : List BHeap} : ∀ (ls : List (List Nat)) {t t' : Tr Bool} {h h' : BHeap}, Laid n0 h0 h1 r t h → layAll n0 h1 r ls t h = some (t', h') →
    Laid n0 h0 h1 r t' h' ∧ (∀ b, seenB t b = true → seenB t' b = true) ∧ ∀ l ∈ ls, ∀ b ∈ l, seenB t' b = true := by
  intro ls
  induction ls with
  | nil => intro t t' h h' hl e; simp only [layAll] at e; cases e; exact ⟨hl, fun _ h => h, fun b hb => by cases hb⟩
  | cons l ls ih =>
    intro t t' h h' hl e
    simp only [layAll] at e
    split at e
    · rename_i t1 h1' he
      obtain ⟨a1, a2, a3⟩ := layB_laid l hl he
      obtain ⟨b1, b2, b3⟩ := ih a1 e
      refine ⟨b1, fun b hb => b2 _ (a2 _ hb), fun l' hl' b hb => ?_⟩
      rcases List.mem_cons.1 hl' with rfl | hl'
      · exact b2 _ (a3 _ hb)
      · exact b3 _ hl' _ hb
    · cases e

theorem topOf_le : ∀ (r : List BHeap) (n : Nat), n ≤ topOf n r ∧ ∀ x ∈ r, x.next ≤ topOf n r := by
  intro r
  induction r with
  | nil => intro n; exact ⟨Nat.le_refl _, fun x hx => by cases hx⟩
  | cons h r ih =>
    intro n
    simp only [topOf]
    obtain ⟨i1, i2⟩ := ih (if Nat.ble n h.next then h.next else n)
    have hn : n ≤ (if Nat.ble n h.next then h.next else n) ∧ h.next ≤ (if Nat.ble n h.next then h.next else n) := by
      split
      · rename_i e; exact ⟨Nat.le_of_ble_eq_true e, Nat.le_refl _⟩
      · rename_i e; exact ⟨Nat.le_refl _, Nat.le_of_not_le fun h => e (Nat.ble_eq_true_of_le h)⟩
    refine ⟨Nat.le_trans hn.1 i1, fun x hx => ?_⟩
    rcases List.mem_cons.1 hx with rfl | hx
    · exact Nat.le_trans hn.2 i1
    · exact i2 x hx

/-- the laid heap is each of the heaps, less some young blocks -/
theorem mergeH_sound {h0 h1 hm : BHeap} {r : List BHeap} (hlog : ∀ x ∈ h1 :: r, LogTo h0 x) (hdom : ∀ b o, h0.get b = some o → b < h0.next)
    (e : mergeH h0 h1 r = some hm) :
    ∀ x ∈ h1 :: r, x.next ≤ hm.next ∧ (∀ b, hm.get b = none ∨ hm.get b = x.get b) ∧ ∀ b, b < h0.next → hm.get b = x.get b := by
  unfold mergeH at e
  dsimp only at e
  split at e
  · rename_i t h he
    cases e
    have hl0 : Laid h0.next h0 h1 r .leaf h0 := ⟨fun b hb => by simp [seenB, Tr.get_leaf] at hb, fun b _ => rfl, rfl⟩
    obtain ⟨a1, _, a3⟩ := layAll_laid _ hl0 he
    have hge : ∀ b, ({ h with next := topOf h1.next r } : BHeap).get b = h.get b := fun b => rfl
    have htop : ∀ x ∈ h1 :: r, x.next ≤ topOf h1.next r := fun x hx => by
      obtain ⟨t1, t2⟩ := topOf_le r h1.next
      rcases List.mem_cons.1 hx with rfl | hx
      · exact t1
      · exact t2 x hx
    have hold : ∀ x ∈ h1 :: r, ∀ b, b < h0.next → h.get b = x.get b := by
      intro x hx b hb
      cases hs : seenB t b with
      | true =>
        rcases a1.seen b hs with ⟨_, h2⟩ | h2
        · omega
        · exact h2 x hx
      | false =>
        rw [a1.rest b hs]
        refine ((hlog x hx).same b hb fun hmem => ?_).symm
        have : seenB t b = true := by
          rcases List.mem_cons.1 hx with rfl | hx
          · exact a3 x.log (by simp) b hmem
          · exact a3 x.log (by simp; exact .inr (.inr ⟨x, hx, rfl⟩)) b hmem
        rw [hs] at this; cases this
    intro x hx
    refine ⟨htop x hx, fun b => ?_, fun b hb => hold x hx b hb⟩
    rw [hge]
    by_cases hb : b < h0.next
    · exact .inr (hold x hx b hb)
    · cases hs : seenB t b with
      | true =>
        rcases a1.seen b hs with ⟨h2, _⟩ | h2
        · exact .inl h2
        · exact .inr (h2 x hx)
      | false =>
        left
        rw [a1.rest b hs]
        cases hg : h0.get b with
        | none => rfl
        | some o => exact absurd (hdom b o hg) hb
  · cases e

theorem HRel.sub (hr : HRel P g h w) (hn : h.next ≤ h'.next) (hsub : ∀ b, h'.get b = none ∨ h'.get b = h.get b) : HRel P g h' w ∧ Ext g h w g h' w := by
  have hget : ∀ b o, h'.get b = some o → h.get b = some o := fun b o h1 => by
    rcases hsub b with h2 | h2
    · rw [h2] at h1; cases h1
    · rw [← h2]; exact h1
  refine ⟨⟨fun b1 o h1 => Nat.lt_of_lt_of_le (hr.dom _ _ (hget _ _ h1)) hn, fun b x h1 => Nat.lt_of_lt_of_le (hr.lt b x h1) hn, hr.img, ?_, ?_, hr.fzlt⟩, ⟨Mono.refl g w, Nat.le_refl _, fun _ _ _ => rfl, ?_, hn, rfl, rfl, rfl⟩⟩
  · intro b1 b2 blk base base' o1 o2 h1 h2 m1 m2
    exact hr.inj _ _ _ _ _ _ _ (hget _ _ h1) (hget _ _ h2) m1 m2
  · intro b1 o1 blk base h1 m1; exact hr.obj _ _ _ _ (hget _ _ h1) m1
  · rintro c _ ⟨b1, o1, base1, hb1, hm1⟩; exact ⟨b1, o1, base1, hget _ _ hb1, hm1⟩

theorem VRels.zip {a b : List BV} : ∀ {vs : List Value} , a.length = b.length → (VRels P g w a vs ∨ VRels P g w b vs) → VRels P g w (zipEnv a b) vs := by
  induction a generalizing b with
  | nil => intro vs hl h; cases b with
           | nil => simpa [zipEnv] using h
           | cons => simp at hl
  | cons x a ih =>
    intro vs hl h
    cases b with
    | nil => simp at hl
    | cons y b =>
      simp only [zipEnv]
      have hlt : a.length = b.length := by simpa using hl
      have key : ∀ {v : Value}, (VRel P g w x v ∨ VRel P g w y v) → VRel P g w (if BV.beq 40 x y then x else .junk) v := by
        intro v hv
        split
        · rename_i he
          have := (beq_sound 40).1 _ _ he
          subst this
          simpa using hv
        · simp [VRel]
      rcases h with h | h
      · simp only [VRels] at h; obtain ⟨v, vr, rfl, h1, h2⟩ := h
        exact VRels.cons (key (.inl h1)) (ih hlt (.inl h2))
      · simp only [VRels] at h; obtain ⟨v, vr, rfl, h1, h2⟩ := h
        exact VRels.cons (key (.inr h1)) (ih hlt (.inr h2))

theorem zipEnv_length {a b : List BV} : (zipEnv a b).length = a.length := by
  induction a generalizing b with
  | nil => cases b <;> rfl
  | cons x a ih => cases b with
                   | nil => simp [zipEnv]
                   | cons y b => simp [zipEnv, ih]

theorem VRels.merge : ∀ (r : List (List BV)) {e : List BV} {vs : List Value}, (∀ x ∈ r, x.length = e.length) → (VRels P g w e vs ∨ ∃ x ∈ r, VRels P g w x vs) → VRels P g w (mergeEnv e r) vs := by
  intro r
  induction r with
  | nil =>
    intro e vs _ h
    rcases h with h | ⟨x, hx, _⟩
    · exact h
    · cases hx
  | cons x r ih =>
    intro e vs hl h
    simp only [mergeEnv]
    have hx : e.length = x.length := (hl x List.mem_cons_self).symm
    refine ih (fun y hy => by rw [zipEnv_length]; exact hl y (List.mem_cons_of_mem _ hy)) ?_
    rcases h with h | ⟨y, hy, h⟩
    · exact .inl (VRels.zip hx (.inl h))
    · rcases List.mem_cons.1 hy with rfl | hy
      · exact .inl (VRels.zip hx (.inr h))
      · exact .inr ⟨y, hy, h⟩


theorem ended_mode {s : BState} (h : s.ended = true) : s.cs = [] ∧ s.fr.mode = .returning ∧ s.fr.defers = [] := by
  simp only [BState.ended, Bool.and_eq_true, List.isEmpty_iff] at h
  obtain ⟨⟨h1, h2⟩, h3⟩ := h
  refine ⟨h1, ?_, h3⟩
  cases hmm : s.fr.mode <;> rw [hmm] at h2 <;> first | rfl | (cases h2; done)

theorem mergeS_sound {h0 : BHeap} {l : List BState} {fr : BFrame} {hm : BHeap} (hlog : ∀ t ∈ l, LogTo h0 t.h) (hdom : ∀ b o, h0.get b = some o → b < h0.next) (hend : ∀ t ∈ l, t.ended = true) (e : mergeS h0 l = some (fr, hm)) :
    ∀ t ∈ l, t.h.next ≤ hm.next ∧ (∀ b, hm.get b = none ∨ hm.get b = t.h.get b) ∧ (∀ b, b < h0.next → hm.get b = t.h.get b) ∧
      fr.fn = t.fr.fn ∧ fr.kind = t.fr.kind ∧ fr.kind = .normal ∧ fr.mode = .returning ∧ fr.defers = [] ∧ fr.roundOf = none ∧ t.fr.roundOf = none ∧
      ∀ (P : Program) (g : Gh) (w : World) (vs : List Value), VRels P g w t.fr.env vs → VRels P g w fr.env vs := by
  cases l with
  | nil => cases e
  | cons s r =>
    simp only [mergeS] at e
    split at e
    · rename_i hall
      simp only [Option.map_eq_some_iff, Prod.mk.injEq] at e
      obtain ⟨h, e1, rfl, rfl⟩ := e
      have hl' : ∀ x ∈ s.h :: r.map (·.h), LogTo h0 x := by
        intro x hx
        rcases List.mem_cons.1 hx with rfl | hx
        · exact hlog s List.mem_cons_self
        · obtain ⟨t, ht, rfl⟩ := List.mem_map.1 hx
          exact hlog t (List.mem_cons_of_mem _ ht)
      have hms := mergeH_sound hl' hdom e1
      have hplain : ∀ t ∈ s :: r, Nat.beq t.fr.fn s.fr.fn = true ∧ t.fr.roundOf = none ∧ t.fr.kind = .normal ∧ t.fr.env.length = s.fr.env.length := by
        intro t ht
        have := List.all_eq_true.1 hall t ht
        simp only [plainEnd, Bool.and_eq_true, Option.isNone_iff_eq_none] at this
        obtain ⟨⟨⟨h1, h2⟩, h3⟩, h4⟩ := this
        refine ⟨h1, h2, ?_, Nat.eq_of_beq_eq_true h4⟩
        cases hk : t.fr.kind <;> rw [hk] at h3 <;> first | rfl | (cases h3; done)
      have hs := hplain s List.mem_cons_self
      obtain ⟨_, m1, m2⟩ := ended_mode (hend s List.mem_cons_self)
      intro t ht
      have hp := hplain t ht
      have hmem : t.h ∈ s.h :: r.map (·.h) := by
        rcases List.mem_cons.1 ht with rfl | ht
        · exact List.mem_cons_self
        · exact List.mem_cons_of_mem _ (List.mem_map.2 ⟨t, ht, rfl⟩)
      obtain ⟨k1, k2, k3⟩ := hms t.h hmem
      refine ⟨k1, k2, k3, (Nat.eq_of_beq_eq_true hp.1).symm, hs.2.2.1.trans hp.2.2.1.symm, hs.2.2.1, m1, m2, hs.2.1, hp.2.1, fun P g w vs hv => ?_⟩
      refine VRels.merge _ (fun x hx => ?_) ?_
      · obtain ⟨u, hu, rfl⟩ := List.mem_map.1 hx
        exact (hplain u (List.mem_cons_of_mem _ hu)).2.2.2
      · rcases List.mem_cons.1 ht with rfl | ht
        · exact .inl hv
        · exact .inr ⟨_, List.mem_map.2 ⟨t, ht, rfl⟩, hv⟩
    · cases e

/-- all the ends have ended -/
theorem explore_ended : ∀ (n : Nat) {s : BState} {l : List BState}, exploreB P n s = some l → ∀ t ∈ l, t.ended = true := by
  intro n
  induction n with
  | zero => intro s l e; cases e
  | succ n ih =>
    intro s l e t ht
    simp only [exploreB] at e
    split at e
    · rename_i he
      cases e
      simp at ht; subst ht; exact he
    · split at e
      · exact ih e t ht
      · split at e
        · obtain ⟨s1, hm, a, ha, hta⟩ := exploreAll_mem e t ht
          exact ih ha t hta
        · cases e

theorem sim_stepX (hmix : P.follows .mixedOrders = true) {tbl : List Nat} {fuel : Nat} {s s' : BState} (hs : SRel P base g w lb s f cs) (e : stepX P tbl fuel s = some s') : StepsTo P base g s.h w s' (lone f cs w) := by
  unfold stepX at e
  split at e
  · rename_i hh
    split at e
    · rename_i l hl
      simp only [Option.map_eq_some_iff] at e
      obtain ⟨⟨frm, hm⟩, e1, rfl⟩ := e
      obtain ⟨fr, bs, h⟩ := s
      obtain ⟨hr, hlb, hf, hc⟩ := hs
      dsimp only at hr hlb hf hc hl e1 hh ⊢
      have htodo : ∃ c, fr.todo = [.code c] := by
        unfold hereX at hh
        split at hh
        · rename_i c hc; exact ⟨c, hc⟩
        · cases hh
      obtain ⟨c, htodo⟩ := htodo
      let hz : BHeap := { h with log := [] }
      let B0 : Base := { K := fun g1 h1 l1 c1 => c1 = cs ∧ lb ≤ l1 ∧ ∀ b, b < lb → g.m b = none → g1.m b = none ∧ h1.get b = h.get b
                         mono := fun hph hk => ⟨hk.1, hk.2.1, fun b hb hm => by
                           obtain ⟨k1, k2⟩ := hk.2.2 b hb hm
                           obtain ⟨k3, k4⟩ := hph b (Nat.lt_of_lt_of_le hb hk.2.1) k1
                           exact ⟨k3, k4.trans k2⟩⟩ }
      have hrz : HRel P g hz w := ⟨hr.dom, hr.lt, hr.img, hr.inj, hr.obj, hr.fzlt⟩
      have hfz : FRel P g hz w lb hz.next true fr f := ⟨hf.fn, hf.kind, hf.kinds, hf.defers, hf.mode, hf.round, fun hm => by
        have := hf.run hm
        unfold RunRel at this ⊢
        rw [htodo] at this ⊢
        exact this, hf.env⟩
      have hsz : SRel P B0 g w lb { fr, cs := [], h := hz } f cs := ⟨hrz, hlb, hfz, rfl, Nat.le_refl _, fun b _ hm => ⟨hm, rfl⟩⟩
      obtain ⟨t, ht, hte, g', w', lb', f', cs', k1, ⟨k2, k3, k4, k5⟩, k6⟩ := sim_explore hmix fuel hsz hl
      obtain ⟨m1, m2, m3⟩ := ended_mode hte
      rw [m1] at k5
      simp only [CRel] at k5
      obtain ⟨rfl, _, k7⟩ := k5
      have hms := mergeS_sound (log_explore fuel hl) hrz.dom (explore_ended fuel hl) e1 t ht
      obtain ⟨n1, n2, n3, n4, n5, n6, n7, n8, n9, n10, n11⟩ := hms
      obtain ⟨q1, q2⟩ := k2.sub n1 n2
      have hx : Ext g h w g' t.h w' := ⟨k6.mono, k6.size, k6.kept, k6.own, k6.next, k6.os⟩
      have hc1 : CRel P g' t.h w' base lb bs cs' := hc.mono hx.mono k7
      have hc2 : CRel P g' hm w' base lb bs cs' := hc1.mono (Mono.refl _ _) (fun b hb hmb => ⟨hmb, n3 b (Nat.lt_of_lt_of_le hb hlb)⟩)
      refine ⟨g', w', lb, f', cs', k1, ⟨q1, Nat.le_trans hlb (Nat.le_trans hx.next n1), ?_, hc2⟩, hx.trans q2⟩
      have hne : t.fr.mode ≠ .run := by rw [m2]; exact fun h => by cases h
      refine ⟨n4.trans k4.fn, n5.trans k4.kind, .inl n6, ?_, ?_, ?_, (fun h => by rw [n7] at h; cases h), fun _ => n11 P g' w' _ (k4.env hne)⟩
      · have := k4.defers; rw [m3] at this; rw [n8]; exact this
      · have := k4.mode; rw [m2] at this; rw [n7]; exact this
      · have := k4.round; rw [n10] at this; rw [n9]; exact this
    · cases e
  · exact sim_step hmix hs e

theorem sim_runX (hmix : P.follows .mixedOrders = true) {tbl : List Nat} {fuel : Nat} : ∀ (n : Nat) {s s' : BState} {g : Gh} {w : World} {lb : Nat} {f : Frame} {cs : List Frame}, SRel P base g w lb s f cs → runX P tbl fuel n s = some s' →
    StepsTo P base g s.h w s' (lone f cs w) ∧ s'.ended = true := by
  intro n
  induction n with
  | zero => intro s s' g w lb f cs _ e; cases e
  | succ n ih =>
    intro s s' g w lb f cs hs e
    simp only [runX] at e
    split at e
    · rename_i he
      cases e
      exact ⟨⟨g, w, lb, f, cs, Steps.refl _ _, hs, Ext.refl _ _ _⟩, he⟩
    · split at e
      · rename_i s1 h1
        obtain ⟨g1, w1, lb1, f1, cs1, k1, k2, k3⟩ := sim_stepX hmix hs h1
        obtain ⟨k4, k5⟩ := ih k2 e
        exact ⟨StepsTo.trans k1 k3 k4, k5⟩
      · cases e

/-- **A CALL THAT B CARRIES OUT, WITH THE CALLS OF A TABLE IN EACH ORDER.** -/
theorem sim_callX (hmix : P.follows .mixedOrders = true) {tbl : List Nat} {fuel n : Nat} {fid : FuncId} {args : List BV} {args' : Array Value} {v : BV} (hr : HRel P g h w) (ha : VRels P g w args args'.toList) (e : callX P tbl fuel n fid args h = some (v, h')) :
    Calls P fid args' w fun ed w' => ∃ v' g', ed = .returned v' ∧ HRel P g' h' w' ∧ Ext g h w g' h' w' ∧ VRel P g' w' v v' := by
  intro cs
  unfold callX at e
  split at e
  · cases e
  · rename_i fr hfr
    split at e
    · rename_i s hrun
      split at e
      · rename_i fn0 hkd hfn
        split at e
        · rename_i hfid
          have hfid : s.fr.fn = fid := Nat.eq_of_beq_eq_true hfid
          simp only [Option.map_eq_some_iff] at e
          obtain ⟨v0, hres, e2⟩ := e
          simp only [Prod.mk.injEq] at e2
          obtain ⟨rfl, rfl⟩ := e2
          have hs : SRel P (Base.of cs) g w h.next { fr, cs := [], h := h } (Frame.enter P fid args' .normal) cs := ⟨hr, Nat.le_refl _, enterRel (.inl rfl) ha hfr, rfl⟩
          obtain ⟨⟨g', w', lb', f', cs', k1, ⟨k2, k3, k4, k5⟩, k6⟩, hend⟩ := sim_runX hmix n hs hrun
          obtain ⟨h1, hm, h3⟩ := ended_mode hend
          rw [h1] at k5
          simp only [CRel, Base.of] at k5
          subst k5
          have hfm := k4.mode
          rw [hm] at hfm
          simp only [ModeRel] at hfm
          have hds := k4.defers
          rw [h3] at hds
          simp only [DRels] at hds
          obtain ⟨v', hrv, hv⟩ := sim_results k2 (k4.env (by rw [hm]; exact fun h => by cases h)) hres
          exact ⟨.returned v', w', f', ⟨v', g', rfl, k2, k6, hv⟩, k1, by rw [← k4.fn]; exact hfid, hfm, hds, by rw [← k4.kind]; exact hkd, fn0, by rw [← k4.fn]; exact hfn, hrv⟩
        · cases e
      · cases e
    · cases e

theorem closedX_true (hmix : P.follows .mixedOrders = true) {tbl : List Nat} {fuel n : Nat} {fid : FuncId} (e : okB (callX P tbl fuel n fid [] h0) = true) (w : World) :
    Calls P fid #[] w fun ed w' => ed = .returned (.bool true) ∧ Kept w w' := by
  unfold okB at e
  split at e
  · rename_i h' hc
    refine (sim_callX hmix (hrel0 P w) (args := []) (args' := #[]) (by simp [VRels]) hc).mono ?_
    rintro ed w' ⟨v', g', h1, h2, h3, h4⟩
    simp only [VRel] at h4
    subst h4
    refine ⟨h1, ⟨h3.size, fun c hc => h3.kept c hc ?_, h3.os.1, h3.os.2.1, h3.os.2.2⟩⟩
    rintro ⟨b, o, base, hb, _⟩
    rw [h0_get] at hb; cases hb
  · cases e
end
end
end Go.PB

