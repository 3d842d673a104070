/- A step of a map's range where several entries are left: B goes on with each of them, and the model with one of them. -/
import Derived.Test.YthjdcddpoihcdaaGreatDoorPosX1
set_option linter.unusedSimpArgs false
set_option linter.unusedVariables false
namespace Go.PB
open Go
noncomputable section

def nextAll (h : BHeap) (it : BV) : Option (List (BV × BHeap)) :=
  match it with
  | .ptr r 0 =>
    match h.get r with
    | some (.mapIter (some m) since seen last) =>
      match h.get m with
      | some (.map es clock) =>
        if !seen.isEmpty && !es.isEmpty && es.all (fun e => decide (e.born ≥ last)) then none else
        let left := es.filter fun e => !seen.contains e.born
        let old := left.filter fun e => decide (e.born < since)
        let new := left.filter fun e => decide (e.born ≥ since)
        some ((if old.isEmpty then [(.tuple [.bool false], h)] else []) ++ (old ++ new).map fun e => (.tuple [.bool true, e.key, e.val], h.put r (some (.mapIter (some m) since (seen ++ [e.born]) clock))))
      | _ => none
    | _ => none
  | _ => none

section
variable {P : Program} {g : Gh} {h : BHeap} {w : World}

theorem run_choose_lt {n : Nat} (hn : 0 < n) : ∃ i w1, i < n ∧ (choose (.mapNext n)).run P w = .ok i w1 ∧ w1.heap = w.heap ∧ (w1.os = w.os ∧ w1.output = w.output ∧ w1.tape = w.tape) := by
  by_cases h1 : n ≤ 1
  · exact ⟨0, w, by omega, by simp [choose, Sem.run, Question.forced, h1], rfl, rfl, rfl, rfl⟩
  · refine ⟨w.tape w.drawn (.mapNext n) % n, { w with drawn := w.drawn + 1 }, Nat.mod_lt _ hn, ?_, rfl, rfl, rfl, rfl⟩
    have : Question.forced (.mapNext n) = false := by simp [Question.forced]; omega
    simp [choose, Sem.run, this, Question.cut]

theorem ERels.get' {bs : List BEntry} {es : List MapEntry} (h : ERels P g w bs es) {i : Nat} {e : MapEntry} (he : es[i]? = some e) : ∃ b, bs[i]? = some b ∧ ERel P g w b e := by
  have hl := h.length
  have hi : i < bs.length := by have := (List.getElem?_eq_some_iff.1 he).1; omega
  obtain ⟨u, hu, hr⟩ := h.get (List.getElem?_eq_getElem hi)
  rw [he] at hu; cases hu
  exact ⟨_, List.getElem?_eq_getElem hi, hr⟩

theorem sim_nextAll (hr : HRel P g h w) {ty : TypeId} {it : BV} {it' : Value} {l : List (BV × BHeap)} (hi : VRel P g w it it') (e : nextAll h it = some l) :
    ∃ p, p ∈ l ∧ Ends P g h w p.1 p.2 ((Instr.next it' false ty).run P w) := by
  unfold nextAll at e
  split at e
  · rename_i r
    simp only [VRel] at hi; obtain ⟨blk, base, hm, rfl⟩ := hi
    split at e
    · rename_i m since seen st hb
      obtain ⟨o', hw, ho⟩ := hr.iter hb hm
      simp only [ORel] at ho
      obtain ⟨rfl, blk2, hm2, rfl⟩ := ho
      have hget : (getObj blk).run P w = .ok (.mapIter (some blk2) since seen.toArray st) w := by simp [getObj, Sem.run, hw]
      split at e
      · rename_i es clock hb2
        obtain ⟨es', hw2, he⟩ := hr.map hb2 hm2
        have hget2 := r_getMap (P := P) hw2
        have hl := he.length
        have h1 : (!seen.toArray.isEmpty && !es'.isEmpty && es'.all (fun e => decide (e.born ≥ st))) = (!seen.isEmpty && !es.isEmpty && es.all (fun e => decide (e.born ≥ st))) := by
          have a1 : seen.toArray.isEmpty = seen.isEmpty := by simp
          have a2 : es'.isEmpty = es.isEmpty := by
            rw [Bool.eq_iff_iff, Array.isEmpty_iff_size_eq_zero, List.isEmpty_iff_length_eq_zero]
            simp at hl; omega
          have a3 : es'.all (fun e => decide (e.born ≥ st)) = es.all (fun e => decide (e.born ≥ st)) := by
            rw [← Array.all_toList]
            exact (all_born he st).symm
          rw [a1, a2, a3]
        split at e
        · cases e
        · rename_i hc
          have hleft := he.filter (p := fun e => !seen.contains e.born) (q := fun e => !seen.toArray.contains e.born) (fun b e hbe => by rw [hbe.2.2]; simp)
          have hold := hleft.filter (p := fun e => decide (e.born < since)) (q := fun e => decide (e.born < since)) (fun b e hbe => by rw [hbe.2.2])
          have hnew := hleft.filter (p := fun e => decide (e.born ≥ since)) (q := fun e => decide (e.born ≥ since)) (fun b e hbe => by rw [hbe.2.2])
          have eold : ((es'.filter fun e => !seen.toArray.contains e.born).filter fun e => decide (e.born < since)).toList = ((es'.toList.filter fun e => !seen.toArray.contains e.born).filter fun e => decide (e.born < since)) := by simp
          have enew : ((es'.filter fun e => !seen.toArray.contains e.born).filter fun e => decide (e.born ≥ since)).toList = ((es'.toList.filter fun e => !seen.toArray.contains e.born).filter fun e => decide (e.born ≥ since)) := by simp
          have hcond : (!seen.toArray.isEmpty && !es'.isEmpty && es'.all (fun e => decide (e.born ≥ st))) = false := by rw [h1]; simpa using hc
          dsimp only at e
          generalize hO : (es.filter fun e => !seen.contains e.born).filter (fun e => decide (e.born < since)) = O at e hold
          generalize hN : (es.filter fun e => !seen.contains e.born).filter (fun e => decide (e.born ≥ since)) = N at e hnew
          generalize hO' : ((es'.filter fun e => !seen.toArray.contains e.born).filter fun e => decide (e.born < since)) = O' at eold
          generalize hN' : ((es'.filter fun e => !seen.toArray.contains e.born).filter fun e => decide (e.born ≥ since)) = N' at enew
          rw [← eold] at hold
          rw [← enew] at hnew
          cases e
          have hOl : O'.size = O.length := by have := hold.length; simpa using this
          have hemp : O'.isEmpty = O.isEmpty := by
            rw [Bool.eq_iff_iff, Array.isEmpty_iff_size_eq_zero, List.isEmpty_iff_length_eq_zero, hOl]
          have hon : ERels P g w (O ++ N) (O' ++ N').toList := by rw [Array.toList_append]; exact hold.append hnew
          let C : Array (Option MapEntry) := (if O'.isEmpty then #[none] else #[]) ++ (O' ++ N').map some
          have hpos : 0 < C.size := by
            by_cases h0 : O'.isEmpty = true
            · simp [C, h0]; omega
            · have : O'.size ≠ 0 := fun h => h0 (by rw [Array.isEmpty_iff_size_eq_zero]; exact h)
              simp [C, h0]; omega
          obtain ⟨i, w1, hi, hrun, hheap, hos⟩ := run_choose_lt (P := P) (w := w) hpos
          obtain ⟨hr1, x1⟩ := hr.same hheap hos
          have hCi : C[i]? = some C[i] := Array.getElem?_eq_getElem hi
          cases hcc : C[i] with
          | none =>
            have h0 : O'.isEmpty = true := by
              by_cases h0 : O'.isEmpty = true
              · exact h0
              · exfalso
                have hmem : none ∈ C := Array.mem_of_getElem? (by rw [hCi, hcc])
                simp only [C, h0, if_false, Bool.false_eq_true] at hmem
                simp at hmem
            rw [hcc] at hCi
            refine ⟨(.tuple [.bool false], h), ?_, ?_⟩
            · rw [← hemp, h0]; simp
            · refine ⟨.tuple #[.bool false], g, w1, ?_, hr1, x1, Ph.refl _ _, by simp only [VRel]; exact ⟨_, rfl, VRels.cons (by simp [VRel]) VRels.nil⟩⟩
              simp only [Instr.next, Nat.add_zero, Sem.run_bind, hget, hget2, Result.andThen_ok, hcond, Bool.false_eq_true, if_false, hO', hN']
              rw [show (if O'.isEmpty = true then #[none] else #[]) ++ Array.map some (O' ++ N') = C from rfl, hrun]
              simp only [Result.andThen_ok, hCi, Sem.run_pure]
          | some d =>
            rw [hcc] at hCi
            obtain ⟨j, hj⟩ : ∃ j, (O' ++ N').toList[j]? = some d := by
              have hmem : some d ∈ C := by rw [Array.mem_iff_getElem?]; exact ⟨i, hCi⟩
              have hmem2 : d ∈ O' ++ N' := by
                simp only [C] at hmem
                rw [Array.mem_append] at hmem
                rcases hmem with hmem | hmem
                · split at hmem <;> simp at hmem
                · simpa using hmem
              have : d ∈ (O' ++ N').toList := by simpa using hmem2
              exact List.mem_iff_getElem?.1 this
            obtain ⟨b, hbj, hd⟩ := hon.get' hj
            have hw1 : w1.heap[blk]? = some (.mapIter (some blk2) since seen.toArray st) := by rw [hheap]; exact hw
            have hput := hr1.write (o' := .mapIter (some m) since (seen ++ [b.born]) clock) (co' := .mapIter (some blk2) since (seen.toArray.push d.born) clock) hb hm hw1 (w' := w1.putBlk blk (.mapIter (some blk2) since (seen.toArray.push d.born) clock)) rfl ⟨rfl, rfl, rfl⟩
              (fun s hs => by simp [World.shape?, hw1] at hs) (fun hmono => by simp only [ORel]; exact ⟨trivial, blk2, hmono.mm _ _ hm2, by rw [hd.2.2]; simp⟩)
            refine ⟨(.tuple [.bool true, b.key, b.val], h.put r (some (.mapIter (some m) since (seen ++ [b.born]) clock))), ?_, ?_⟩
            · refine List.mem_append_right _ (List.mem_map.2 ⟨b, List.mem_iff_getElem?.2 ⟨j, hbj⟩, rfl⟩)
            · have hx := x1.trans hput.2
              refine ⟨.tuple #[.bool true, d.key, d.val], g, w1.putBlk blk (.mapIter (some blk2) since (seen.toArray.push d.born) clock), ?_, hput.1, hx, Ph.put hm _, ?_⟩
              · simp only [Instr.next, Nat.add_zero, Sem.run_bind, hget, hget2, Result.andThen_ok, hcond, Bool.false_eq_true, if_false, hO', hN']
                rw [show (if O'.isEmpty = true then #[none] else #[]) ++ Array.map some (O' ++ N') = C from rfl, hrun]
                simp only [Result.andThen_ok, hCi]
                simp [setObj, Sem.run, hw1, World.putBlk]
              · simp only [VRel]
                exact ⟨_, rfl, VRels.cons (by simp [VRel]) (VRels.cons (VRel.mono hx.mono _ _ hd.1) (VRels.cons (VRel.mono hx.mono _ _ hd.2.1) VRels.nil))⟩
      · cases e
    · cases e
  · cases e
end
end
end Go.PB
