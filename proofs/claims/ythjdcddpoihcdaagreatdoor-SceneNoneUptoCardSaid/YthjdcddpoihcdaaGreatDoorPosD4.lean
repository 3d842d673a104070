/- An operation that makes a block, carried out by the model behind B. -/
import Derived.Test.YthjdcddpoihcdaaGreatDoorPosD3
set_option linter.unusedSimpArgs false
set_option linter.unusedVariables false
namespace Go.PB
open Go

def RealN (P : Program) (g : Gh) (h : BHeap) (w : World) (b : Nat) (v : BV) (r : Result Next) : Prop :=
  ∃ v' w', r = .ok (.value v') w' ∧ HRel P (g.upd b w.heap.size 0) h w' ∧ Ext g h w (g.upd b w.heap.size 0) h w' ∧ VRel P (g.upd b w.heap.size 0) w' v v'

section
variable {P : Program} {g : Gh} {h : BHeap} {w : World}

theorem RealN.of {b : Nat} {v : BV} {s : Sem Value} (hr : Real P g h w b v (s.run P w)) : RealN P g h w b v ((do pure (.value (← s)) : Sem Next).run P w) := by
  obtain ⟨v', w', e, h1, h2, h3⟩ := hr
  exact ⟨v', w', by simp [e], h1, h2, h3⟩

theorem real_op (hr : HRel P g h w) {o : Oper} {ρ : Operand → BV} {σ : Operand → Value} {v : BV} {h1 h2 : BHeap} (ha : allocOp P o = true)
    (hρ : ∀ x ∈ o.op.operands.toList, VRel P g w (ρ x) (σ x)) (e : opB P h1 ρ o = some (.value v, h2)) (hb : h.get h1.next = h2.get h1.next) (hm : g.m h1.next = none) :
    RealN P g h w h1.next v ((execOp σ o).run P w) := by
  obtain ⟨dst, op, ty, pos, after, guard⟩ := o
  have hvh : ∀ {r : Option (BV × BHeap)} {s : Sem Value}, (∀ v h2', h.get h1.next = h2'.get h1.next → r = some (v, h2') → Real P g h w h1.next v (s.run P w)) → (r.map fun (x : BV × BHeap) => (BNext.value x.1, x.2)) = some (.value v, h2) → RealN P g h w h1.next v ((do pure (.value (← s)) : Sem Next).run P w) := by
    intro r s hs he
    cases r with
    | none => cases he
    | some x => obtain ⟨u, h3⟩ := x; simp at he; obtain ⟨rfl, rfl⟩ := he; exact RealN.of (hs _ _ hb rfl)
  cases op <;> simp only [opB, allocOp, Bool.false_eq_true, reduceCtorEq] at e ha <;> simp only [Op.operands] at hρ
  case alloc t =>
    refine hvh (fun v h2 hb he => ?_) e
    cases hz : zeroB P t with
    | none => simp [hz] at he
    | some z =>
      simp only [hz, Option.bind_some, allocB] at he
      split at he
      · rename_i hone
        cases he
        rw [BHeap.get_new, if_pos rfl] at hb
        exact real_alloc hr hz hb hm hone
      · cases he
  case box t x =>
    refine hvh (fun v h2 hb he => ?_) e
    simp only [allocB] at he
    split at he
    · rename_i hone
      cases he
      rw [BHeap.get_new, if_pos rfl] at hb
      exact real_box hr hb hm (hρ x (by simp)) hone
    · cases he
  case buildSlice t len parts =>
    refine hvh (s := Instr.buildSlice t len (parts.map fun (x : Nat × Operand) => (x.1, σ x.2))) (fun v h2 hb he => ?_) e
    have hp := prel (P := P) (g := g) (w := w) (ps := parts) (ρ := ρ) (σ := σ) (fun x hx => hρ x (by simpa using hx))
    have e1 : (parts.map fun (x : Nat × Operand) => (x.1, σ x.2)) = (parts.toList.map fun (x : Nat × Operand) => (x.1, σ x.2)).toArray := by apply Array.ext'; simp
    rw [e1]
    exact real_buildSlice hr hp he hb rfl hm
  case makeSlice t l c =>
    exact hvh (fun v h2 hb he => real_makeSlice hr (hρ l (by simp)) (hρ c (by simp)) he hb rfl hm) e
  case makeMap t r =>
    have hm' : ∀ (hh : (r.map ρ = none ∧ r.map σ = none) ∨ ∃ q n, r.map ρ = some (.int q n) ∧ r.map σ = some (.int q n)) k el, P.underlying t = some (.map k el) → h.get h1.next = some (.map [] 0) → RealN P g h w h1.next (.map h1.next) ((execOp σ { dst, op := .makeMap t r, type := ty, pos, after, guard }).run P w) := by
      intro hh k el hu2 hb
      exact RealN.of (s := Instr.makeMap t (r.map σ)) (real_map hr hu2 hb hm hh)
    cases r with
    | none =>
      simp only [Option.map_none] at e
      split at e
      · cases e; rw [BHeap.get_new, if_pos rfl] at hb; exact hm' (.inl ⟨rfl, rfl⟩) _ _ (by assumption) hb
      · cases e
    | some x =>
      have hx := hρ x (by simp)
      cases hxx : ρ x <;> simp [hxx] at e
      rename_i q i
      rw [hxx] at hx
      simp only [VRel] at hx
      split at e
      · simp at e; obtain ⟨rfl, rfl⟩ := e; rw [BHeap.get_new, if_pos rfl] at hb; exact hm' (.inr ⟨q, i, by simp [hxx], by simp [hx]⟩) _ _ (by assumption) hb
      · cases e
  case convert src dst x =>
    simp only [Bool.and_eq_true, Bool.not_eq_true'] at ha
    obtain ⟨hne, ha⟩ := ha
    rw [hne] at e
    simp only [Bool.false_eq_true, if_false] at e
    refine hvh (s := convert src dst (σ x)) (fun v h2 hb he => ?_) e
    have hd : ∃ el, P.underlying dst = some (.slice el) := by
      cases hd : P.underlying dst with
      | none => rw [hd] at ha; cases ha
      | some d => cases d <;> rw [hd] at ha <;> first | (cases ha; done) | exact ⟨_, rfl⟩
    obtain ⟨el, hd⟩ := hd
    unfold convertB at he
    split at he
    · rename_i hd2 _; rw [hd] at hd2; cases hd2
    · rename_i hd2 _; rw [hd] at hd2; cases hd2
    · rename_i hd2 _; rw [hd] at hd2; cases hd2
    · rename_i d el2 s hs2 hd2 hx2
      split at he
      · rename_i hel hsz
        cases he
        have hx := hρ x (by simp)
        rw [hx2] at hx
        simp only [VRel] at hx
        have hrun : (convert src dst (σ x)).run P w = (Conv.stringToBytes el2 ⟨s.toArray⟩).run P w := by
          rw [hx]
          refine (Sem.run_bind P w _ _).trans ?_
          rw [r_underlying hs2, Result.andThen_ok]
          refine (Sem.run_bind P w _ _).trans ?_
          rw [r_underlying hd2, Result.andThen_ok]
          cases d <;> (refine (Sem.run_bind P w (underlying el2) _).trans ?_; rw [r_underlying hel, Result.andThen_ok])
        rw [hrun]
        rw [BHeap.get_new, if_pos rfl] at hb
        exact real_bytes hr (szOf_cellsOf hsz) hb hm
      · cases he
    · rename_i hd2 _ _; rw [hd] at hd2; cases hd2
    · cases he
end
end Go.PB
