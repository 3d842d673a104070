/- Operations without an effect: what they ask of B's memory. -/
import Derived.Test.YthjdcddpoihcdaaGreatDoorPosD2
set_option linter.unusedSimpArgs false
set_option linter.unusedVariables false
namespace Go.PB
open Go

def HLe (h h' : BHeap) : Prop := ∀ b o, h.get b = some o → h'.get b = some o

section
variable {P : Program} {h h' : BHeap}

theorem eqFields_le {E E' : TypeId → BV → BV → Option Bool} (hE : ∀ t x y r, E t x y = some r → E' t x y = some r) : ∀ (fs : List Field) (xs ys : List BV) (r : Bool), eqFields P E fs xs ys = some r → eqFields P E' fs xs ys = some r := by
  intro fs
  induction fs with
  | nil => intro xs ys r e; simpa [eqFields] using e
  | cons f fs ih =>
    intro xs ys r e
    simp only [eqFields] at e ⊢
    split at e
    · rename_i hn
      rw [if_pos hn]
      split at e
      · rename_i a b ha hb
        try simp only [ha, hb]
        split at e
        · rename_i hh; rw [hE _ _ _ _ hh]; exact ih _ _ _ e
        · rename_i hh; rw [hE _ _ _ _ hh]; exact e
        · cases e
      · cases e
    · rename_i hn
      rw [if_neg hn]
      exact ih _ _ _ e

theorem eqElems_le {E E' : TypeId → BV → BV → Option Bool} (hE : ∀ t x y r, E t x y = some r → E' t x y = some r) (el : TypeId) (n : Nat) : ∀ (is : List Nat) (xs ys : List BV) (r : Bool), eqElems P E el n is xs ys = some r → eqElems P E' el n is xs ys = some r := by
  intro is
  induction is with
  | nil => intro xs ys r e; simpa [eqElems] using e
  | cons f fs ih =>
    intro xs ys r e
    simp only [eqElems] at e ⊢
    split at e
    · rename_i a b ha hb
      try simp only [ha, hb]
      split at e
      · rename_i hh; rw [hE _ _ _ _ hh]; exact ih _ _ _ e
      · rename_i hh; rw [hE _ _ _ _ hh]; exact e
      · cases e
    · cases e

theorem eqB_le (hl : HLe h h') : ∀ (d : Nat) (t : TypeId) (x y : BV) (r : Bool), eqB P h d t x y = some r → eqB P h' d t x y = some r := by
  intro d
  induction d with
  | zero => intro t x y r e; simp [eqB] at e
  | succ d ih =>
    intro t x y r e
    simp only [eqB] at e ⊢
    split at e
    case h_9 =>
      rename_i hu
      try simp only [hu]
      split at e
      · rename_i h1 h2 h3
        simp only [hl _ _ h1, hl _ _ h2, h3]; exact e
      · cases e
    case h_13 =>
      rename_i hu
      try simp only [hu]
      split at e
      · rename_i hc; rw [if_pos hc]; exact e
      · rename_i hc
        rw [if_neg hc]
        split at e
        · rename_i hi
          try simp only [hi]
          split at e
          · rename_i hcc; rw [if_pos hcc]; exact ih _ _ _ _ e
          · cases e
        · cases e
    case h_14 =>
      rename_i hu
      try simp only [hu]
      split at e
      · cases e
      · rename_i hs
        rw [if_neg hs]
        exact eqFields_le (fun t x y r => ih t x y r) _ _ _ _ e
    case h_15 =>
      rename_i hu
      try simp only [hu]
      split at e
      · rename_i hs
        try simp only [hs]
        exact eqElems_le (fun t x y r => ih t x y r) _ _ _ _ _ _ e
      · cases e
    all_goals first | exact e | cases e

theorem loadB_le (hl : HLe h h') {t : TypeId} {a v : BV} (e : loadB P h t a = some v) : loadB P h' t a = some v := by
  unfold loadB at e ⊢
  split at e
  · rename_i ag n h1 h2
    try simp only [h1, h2]
    split at e
    · rename_i b off
      split at e
      · rename_i hb
        simp only [hl _ _ hb]; exact e
      · cases e
    · exact e
    · cases e
  · cases e

theorem findB_le (hl : HLe h h') {kt : TypeId} {k : BV} : ∀ (es : List BEntry) (i : Nat) (r : Option (Nat × BV)), findB P h kt k es i = some r → findB P h' kt k es i = some r := by
  intro es
  induction es with
  | nil => intro i r e; simpa [findB] using e
  | cons x es ih =>
    intro i r e
    simp only [findB] at e ⊢
    split at e
    · rename_i hk; unfold keyEq at hk ⊢; rw [eqB_le hl _ _ _ _ _ hk]; exact e
    · rename_i hk; unfold keyEq at hk ⊢; rw [eqB_le hl _ _ _ _ _ hk]; exact ih _ _ e
    · cases e

theorem lookupB_le (hl : HLe h h') {t : TypeId} {x k : BV} {ok : Bool} {v : BV} (e : lookupB P h t x k ok = some v) : lookupB P h' t x k ok = some v := by
  unfold lookupB at e ⊢
  split at e
  · rename_i kt et hu
    try simp only [hu]
    split at e
    · cases e
    · rename_i hk
      rw [if_neg hk]
      have key : ∀ (es : List BEntry), (match findB P h kt k es 0 with
          | some (some (_, v)) => some (if ok then .tuple [v, .bool true] else v)
          | some none => (zeroB P et).map fun z => if ok then .tuple [z, .bool false] else z
          | none => none) = some v → (match findB P h' kt k es 0 with
          | some (some (_, v)) => some (if ok then .tuple [v, .bool true] else v)
          | some none => (zeroB P et).map fun z => if ok then .tuple [z, .bool false] else z
          | none => none) = some v := by
        intro es e
        cases hf : findB P h kt k es 0 with
        | none => simp [hf] at e
        | some r => rw [findB_le hl _ _ _ hf]; rw [hf] at e; exact e
      cases x <;> try (simp at e; done)
      case nilm => exact key [] e
      case map r =>
        dsimp only at e ⊢
        cases hb : h.get r with
        | none => simp [hb] at e
        | some o =>
          rw [hl _ _ hb]
          rw [hb] at e
          cases o <;> try (simp at e; done)
          exact key _ e
  · cases e

theorem binB_le (hl : HLe h h') {op : BinOp} {t : TypeId} {x y v : BV} (e : binB P h op t x y = some v) : binB P h' op t x y = some v := by
  unfold binB at e ⊢
  split at e
  case h_5 =>
    cases he : eqB P h 12 t x y with
    | none => simp [he] at e
    | some r => rw [eqB_le hl _ _ _ _ _ he]; rw [he] at e; exact e
  case h_6 =>
    cases he : eqB P h 12 t x y with
    | none => simp [he] at e
    | some r => rw [eqB_le hl _ _ _ _ _ he]; rw [he] at e; exact e
  all_goals first | exact e | cases e | skip

theorem entryB_le (hl : HLe h h') {it v : BV} (e : entryB h it = some v) : entryB h' it = some v := by
  unfold entryB at e ⊢
  split at e
  · rename_i r
    split at e
    · rename_i hb
      try simp only [hl _ _ hb]
      split at e
      · rename_i h1 h2
        simp only [h1, hl _ _ h2]; exact e
      · cases e
    · cases e
  · cases e

theorem elemsB_le (hl : HLe h h') {n : Nat} {x : BV} {r : List BV × Nat} (e : elemsB P h n x = some r) : elemsB P h' n x = some r := by
  unfold elemsB at e ⊢
  split at e
  case h_3 =>
    split at e
    · rename_i hb; simp only [hl _ _ hb]; exact e
    · cases e
  all_goals exact e

theorem lenB_le (hl : HLe h h') {ts : Array TypeId} {args : List BV} {v : BV} (e : lenB P h ts args = some v) : lenB P h' ts args = some v := by
  unfold lenB at e ⊢
  split at e
  · rename_i t x ht
    try simp only [ht]
    split at e
    case h_8 =>
      rename_i hu
      try simp only [hu]
      split at e
      · rename_i hb; simp only [hl _ _ hb]; exact e
      · cases e
    all_goals first | exact e | cases e
  · cases e

theorem sliceB_le (hl : HLe h h') {t : TypeId} {x v : BV} {lo hi mx : Option BV} (e : sliceB P h t x lo hi mx = some v) : sliceB P h' t x lo hi mx = some v := by
  unfold sliceB at e ⊢
  split at e
  · dsimp only at e ⊢
    split at e
    case h_3 =>
      split at e
      · split at e
        · rename_i hc
          rw [if_pos hc]
          split at e
          · exact e
          · split at e
            · rename_i hc1; rw [if_pos hc1]; exact e
            · rename_i hc1
              rw [if_neg hc1]
              split at e
              · rename_i hc2
                rw [if_pos hc2]
                split at e
                · rename_i hb
                  simp only [hl _ _ hb]; exact e
                · cases e
              · rename_i hc2; rw [if_neg hc2]; exact e
        · cases e
      · cases e
    all_goals exact e
  · cases e

theorem convertB_le (hl : HLe h h') {s d : TypeId} {x v : BV} (ha : (match P.underlying d with | some (.slice _) => true | _ => false) = false) (e : convertB P h s d x = some (v, h)) : convertB P h' s d x = some (v, h') := by
  unfold convertB at e ⊢
  split at e
  case h_4 => rename_i hu; simp [hu] at ha
  case h_5 =>
    split at e
    · split at e
      · rename_i he
        simp only [elemsB_le hl he]
        simp only [Option.map_eq_some_iff] at e ⊢
        obtain ⟨l, h1, h2⟩ := e
        exact ⟨l, h1, by simpa using h2⟩
      · cases e
    · cases e
  case h_6 => cases e
  all_goals (cases e; rfl)

/-- an operation without an effect that makes no block leaves the memory alone, and answers so in any larger one -/
theorem opB_le (hl : HLe h h') {ρ : Operand → BV} {o : Oper} {v : BV} {h1 : BHeap} (he : effOp o = false) (ha : allocOp P o = false) (e : opB P h ρ o = some (.value v, h1)) : h1 = h ∧ opB P h' ρ o = some (.value v, h') := by
  obtain ⟨dst, op, ty, pos, after, guard⟩ := o
  have hv : ∀ {r r' : Option BV}, (∀ v, r = some v → r' = some v) → (r.map fun x => (BNext.value x, h)) = some (.value v, h1) → h1 = h ∧ (r'.map fun x => (BNext.value x, h')) = some (.value v, h') := by
    intro r r' hr e
    cases r with
    | none => cases e
    | some x => simp at e; obtain ⟨rfl, rfl⟩ := e; exact ⟨rfl, by rw [hr _ rfl]; rfl⟩
  have hs : ∀ {u : BV}, some (BNext.value u, h) = some (BNext.value v, h1) → h1 = h ∧ some (BNext.value u, h') = some (BNext.value v, h') := by
    intro u e; cases e; exact ⟨rfl, rfl⟩
  cases op <;> simp only [opB, effOp, allocOp, Bool.true_eq_false, Bool.false_eq_true, reduceCtorEq] at e he ha ⊢
  case move => exact hs e
  case assign => exact hs e
  case pick => split at e; · exact hs e
               · cases e
  case build => exact hv (fun v e => e) e
  case load => exact hv (fun v e => loadB_le hl e) e
  case nilCheck => split at e
                   case h_4 => split at e <;> first | cases e; done | exact hs e
                   all_goals first | cases e; done | exact hs e
  case binOp => split at e
                · rename_i hg; rw [if_pos hg]; exact hv (fun v e => binB_le hl e) e
                · cases e
  case unOp => exact hv (fun v e => e) e
  case convert s d x =>
    rw [he] at e ha ⊢
    simp only [Bool.false_eq_true, if_false, Bool.not_false, Bool.true_and] at e ha ⊢
    cases hc : convertB P h s d (ρ x) with
    | none => simp [hc] at e
    | some r =>
      obtain ⟨u, h2⟩ := r
      have h2h : h2 = h := by
        unfold convertB at hc
        split at hc
        case h_4 => rename_i hu _; rw [hu] at ha; cases ha
        case h_5 =>
          split at hc
          · split at hc
            · simp only [Option.map_eq_some_iff] at hc
              obtain ⟨l, _, hc⟩ := hc
              cases hc; rfl
            · cases hc
          · cases hc
        case h_6 => cases hc
        all_goals (cases hc; rfl)
      subst h2h
      rw [hc] at e
      simp at e
      obtain ⟨rfl, rfl⟩ := e
      exact ⟨rfl, by rw [convertB_le hl ha hc]; rfl⟩
  case makeInterface => split at e <;> first | cases e; done | exact hs e
  case makeFunc => split at e <;> first | cases e; done | exact hs e
  case slice => exact hv (fun v e => sliceB_le hl e) e
  case fieldAddr => exact hv (fun v e => e) e
  case field => exact hv (fun v e => e) e
  case indexAddr => exact hv (fun v e => e) e
  case index => exact hv (fun v e => e) e
  case lookup => exact hv (fun v e => lookupB_le hl e) e
  case entry => exact hv (fun v e => entryB_le hl e) e
  case typeAssert => exact hv (fun v e => e) e
  case extract => split at e
                  · exact hv (fun v e => e) e
                  · cases e
  case call c =>
    split at he
    case h_4 => cases he
    all_goals
      rename_i hc
      simp only [resolveB, hc, Option.bind_some, invokeB, builtinB] at e ⊢
    · exact hv (fun v e => lenB_le hl e) e
    · split at e
      · cases e
      · exact hv (fun v e => e) e
    · split at e
      · cases e
      · exact hv (fun v e => e) e

/-- ... and an operation that asks nothing of the memory answers so in any -/
theorem opB_pure {ρ : Operand → BV} {o : Oper} {v : BV} {h1 : BHeap} (he : effOp o = false) (ha : allocOp P o = false) (hlo : loadOp o = false) (e : opB P h ρ o = some (.value v, h1)) (h' : BHeap) : opB P h' ρ o = some (.value v, h') := by
  obtain ⟨dst, op, ty, pos, after, guard⟩ := o
  have hv : ∀ {r : Option BV}, (r.map fun x => (BNext.value x, h)) = some (.value v, h1) → (r.map fun x => (BNext.value x, h')) = some (.value v, h') := by
    intro r e
    cases r with
    | none => cases e
    | some x => simp at e; obtain ⟨rfl, rfl⟩ := e; rfl
  have hs : ∀ {u : BV}, some (BNext.value u, h) = some (BNext.value v, h1) → some (BNext.value u, h') = some (BNext.value v, h') := by
    intro u e; cases e; rfl
  cases op <;> simp only [opB, effOp, allocOp, loadOp, Bool.true_eq_false, Bool.false_eq_true, reduceCtorEq] at e he ha hlo ⊢
  case pick => split at e; · exact hs e
               · cases e
  case nilCheck => split at e
                   case h_4 => split at e <;> first | cases e; done | exact hs e
                   all_goals first | cases e; done | exact hs e
  case makeInterface => split at e <;> first | cases e; done | exact hs e
  case makeFunc => split at e <;> first | cases e; done | exact hs e
  case extract => split at e
                  · exact hv e
                  · cases e
  case move => exact hs e
  case assign => exact hs e
  all_goals exact hv e

/-- an operation that makes a block: one, at the end -/
theorem opB_alloc {ρ : Operand → BV} {o : Oper} {v : BV} {h1 : BHeap} (ha : allocOp P o = true) (e : opB P h ρ o = some (.value v, h1)) : ∃ ob, h1 = h.new ob := by
  obtain ⟨dst, op, ty, pos, after, guard⟩ := o
  have hvh : ∀ {r : Option (BV × BHeap)}, (∀ v h1, r = some (v, h1) → ∃ ob, h1 = h.new ob) → (r.map fun (x : BV × BHeap) => (BNext.value x.1, x.2)) = some (.value v, h1) → ∃ ob, h1 = h.new ob := by
    intro r hr e
    cases r with
    | none => cases e
    | some x => obtain ⟨u, h2⟩ := x; simp at e; obtain ⟨rfl, rfl⟩ := e; exact hr _ _ rfl
  have hal : ∀ {t : TypeId} {x u : BV} {h2 : BHeap}, allocB P h t x = some (u, h2) → ∃ ob, h2 = h.new ob := by
    intro t x u h2 e
    unfold allocB at e
    split at e
    · cases e; exact ⟨_, rfl⟩
    · cases e
  cases op <;> simp only [opB, allocOp, Bool.true_eq_false, Bool.false_eq_true, reduceCtorEq] at e ha
  case alloc t =>
    refine hvh (fun v h1 e => ?_) e
    cases hz : zeroB P t with
    | none => simp [hz] at e
    | some z => simp only [hz, Option.bind_some] at e; exact hal e
  case box => exact hvh (fun v h1 e => hal e) e
  case buildSlice =>
    refine hvh (fun v h1 e => ?_) e
    unfold buildSliceB at e
    split at e
    · split at e
      · dsimp only at e
        split at e
        · cases e
        · split at e
          · split at e
            · cases e; exact ⟨_, rfl⟩
            · cases e
          · cases e
      · cases e
    · cases e
  case convert =>
    simp only [Bool.and_eq_true, Bool.not_eq_true'] at ha
    obtain ⟨hne, ha⟩ := ha
    rw [hne] at e
    simp only [Bool.false_eq_true, if_false] at e
    refine hvh (fun v h1 e => ?_) e
    unfold convertB at e
    split at e
    case h_4 => split at e; · cases e; exact ⟨_, rfl⟩
                · cases e
    case h_6 => cases e
    all_goals first
      | (rename_i hu2; rw [hu2] at ha; cases ha; done)
      | (rename_i hu2 _; rw [hu2] at ha; cases ha; done)
      | (rename_i hu2 _ _; rw [hu2] at ha; cases ha; done)
      | (rename_i hu2 _ _ _; rw [hu2] at ha; cases ha; done)
      | (rename_i hu2 _ _ _ _; rw [hu2] at ha; cases ha; done)
  case makeMap =>
    split at e
    · split at e
      · cases e; exact ⟨_, rfl⟩
      · cases e
    · split at e
      · cases e; exact ⟨_, rfl⟩
      · cases e
    · cases e
  case makeSlice =>
    refine hvh (fun v h1 e => ?_) e
    unfold makeSliceB at e
    split at e
    · split at e
      · split at e
        · cases e; exact ⟨_, rfl⟩
        · cases e
      · cases e
    · cases e
end
end Go.PB
