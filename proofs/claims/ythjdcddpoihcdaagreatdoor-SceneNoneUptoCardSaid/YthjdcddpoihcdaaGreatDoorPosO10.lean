/- What B's operations do is what the model's do: clear, range, next, len, min, max, copy, append. -/
import Derived.Test.YthjdcddpoihcdaaGreatDoorPosO9
set_option linter.unusedSimpArgs false
set_option linter.unusedVariables false
namespace Go.PB
open Go

section
variable {P : Program} {g : Gh} {h : BHeap} {w : World}

/-- how an operation that answers a value ends: the model's and B's -/
def Ends (P : Program) (g : Gh) (h : BHeap) (w : World) (v : BV) (h' : BHeap) (r : Result Value) : Prop :=
  ∃ v' g' w', r = .ok v' w' ∧ HRel P g' h' w' ∧ Ext g h w g' h' w' ∧ Ph g h g' h' ∧ VRel P g' w' v v'

theorem Ends.still (hr : HRel P g h w) {v : BV} {r : Result Value} (hv : ∃ v', r = .ok v' w ∧ VRel P g w v v') : Ends P g h w v h r := by
  obtain ⟨v', h1, h2⟩ := hv
  exact ⟨v', g, w, h1, hr, Ext.refl _ _ _, Ph.refl _ _, h2⟩

theorem Ends.of_w {v : BV} {h' : BHeap} {r : Result Value} (hv : ∃ v' w', r = .ok v' w' ∧ HRel P g h' w' ∧ Ext g h w g h' w' ∧ Ph g h g h' ∧ VRel P g w' v v') : Ends P g h w v h' r := by
  obtain ⟨v', w', h1, h2, h3, h4, h5⟩ := hv
  exact ⟨v', g, w', h1, h2, h3, h4, h5⟩

/-- B makes a block, and the model makes it at once -/
theorem Ends.made (hr : HRel P g h w) {o : BObj} {v : BV} {r : Result Value} (hk : HRel P g (h.new o) w → g.m h.next = none → Real P g (h.new o) w h.next v r) : Ends P g h w v (h.new o) r := by
  obtain ⟨h1, h2⟩ := hr.newB o
  obtain ⟨v', w', e, k1, k2, k3⟩ := hk h1 hr.next_none
  refine ⟨v', _, w', e, k1, h2.trans k2, ?_, k3⟩
  intro b hb hm
  refine ⟨by rw [Gh.upd_other g (by omega)]; exact hm, ?_⟩
  rw [BHeap.get_new, if_neg (by omega)]

theorem sim_clear (hr : HRel P g h w) {ts : Array TypeId} {t : TypeId} {args : List BV} {args' : Array Value} {v : BV} {h' : BHeap} (ha : VRels P g w args args'.toList) (e : clearB P h ts args = some (v, h')) :
    Ends P g h w v h' ((Builtin.clear_ ts t args').run P w) := by
  have hundef : ∀ g w', VRel P g w' (BV.tuple []) (Value.tuple #[]) := fun g w' => by simp only [VRel]; exact ⟨_, rfl, VRels.nil⟩
  unfold clearB at e
  split at e
  · rename_i t0 x ht
    obtain ⟨x', hl, hx⟩ := ha.one
    have hargs : args' = #[x'] := by apply Array.ext'; simpa using hl
    subst hargs
    split at e
    · rename_i d hu
      simp only [VRel] at hx; subst hx; cases e
      exact Ends.still hr ⟨_, by simp only [Builtin.clear_]; simp [ht, r_underlying hu], hundef g w⟩
    · rename_i d hu
      simp only [VRel] at hx; subst hx; cases e
      exact Ends.still hr ⟨_, by simp only [Builtin.clear_]; simp [ht, r_underlying hu], hundef g w⟩
    · rename_i d hu
      simp only [VRel] at hx; obtain ⟨a, c, rfl⟩ := hx; cases e
      exact Ends.still hr ⟨_, by simp only [Builtin.clear_]; simp [ht, r_underlying hu], hundef g w⟩
    · rename_i k el r hu
      simp only [VRel] at hx; obtain ⟨blk, hmm, rfl⟩ := hx
      split at e
      · rename_i es clock hb
        cases e
        obtain ⟨es', hw, he⟩ := hr.map hb hmm
        have hput := hr.putMap hb hmm hw (clock1 := clock) (es1 := []) (es1' := #[]) (by simp [ERels])
        refine Ends.of_w ⟨_, _, ?_, hput.1, hput.2, Ph.put hmm _, hundef g _⟩
        simp only [Builtin.clear_]
        simp [ht, r_underlying hu, r_getMap hw, r_setMap hw]
      · cases e
    · cases e
  · cases e

theorem sim_range (hr : HRel P g h w) {t : TypeId} {x v : BV} {x' : Value} {h' : BHeap} (hx : VRel P g w x x') (e : rangeB P h t x = some (v, h')) : Ends P g h w v h' ((Instr.range t x').run P w) := by
  have mk : ∀ (o : BObj) (co : Obj), (∀ g' w', Mono g w g' w' → ORel P g' w' o 0 co) → (Instr.range t x').run P w = .ok (.pointer (some ⟨w.heap.size, 0, none⟩)) { w with heap := w.heap.push co } → Ends P g h w (.ptr h.next 0) (h.new o) ((Instr.range t x').run P w) := by
    intro o co ho hrun
    refine Ends.made hr fun hr' hm => ?_
    refine ⟨_, _, hrun, ?_⟩
    have h1 := hr'.real (w' := { w with heap := w.heap.push co }) (by rw [BHeap.get_new, if_pos rfl]) hm rfl ⟨rfl, rfl, rfl⟩ (fun hmono => ho _ _ hmono)
    refine ⟨h1.1, h1.2, ?_⟩
    simp only [VRel]
    exact ⟨_, _, Gh.upd_same _ _ _ _, rfl⟩
  unfold rangeB at e
  split at e
  · rename_i s hu
    simp only [VRel] at hx; subst hx; cases e
    exact mk _ (.stringIter ⟨s.toArray⟩ 0) (fun g' w' _ => by simp [ORel]) (by simp [Instr.range, r_underlying hu])
  · rename_i k el hu
    simp only [VRel] at hx; subst hx; cases e
    exact mk _ (.mapIter none 0 #[] 0) (fun g' w' _ => by simp [ORel]) (by simp [Instr.range, r_underlying hu])
  · rename_i k el m hu
    simp only [VRel] at hx; obtain ⟨blk, hmm, rfl⟩ := hx
    split at e
    · rename_i es clock hb
      cases e
      obtain ⟨es', hw, he⟩ := hr.map hb hmm
      exact mk _ _ (fun g' w' hmono => by simp only [ORel]; exact ⟨trivial, blk, hmono.mm _ _ hmm, rfl⟩) (by simp [Instr.range, r_underlying hu, r_getMap hw])
    · cases e
  · cases e

theorem HRel.iter (hr : HRel P g h w) {r blk base : Nat} {o : BObj} (hb : h.get r = some o) (hm : g.m r = some (blk, base)) : ∃ o', w.heap[blk]? = some o' ∧ ORel P g w o base o' := by
  obtain ⟨_, o', ho, hr'⟩ := hr.obj _ _ _ _ hb hm
  exact ⟨o', ho, hr'⟩

theorem all_born {es : List BEntry} : ∀ {l : List MapEntry}, ERels P g w es l → ∀ st, es.all (fun e => decide (e.born ≥ st)) = l.all (fun e => decide (e.born ≥ st)) := by
  induction es with
  | nil => intro l he st; simp only [ERels] at he; subst he; rfl
  | cons b es ih =>
    intro l he st
    simp only [ERels] at he; obtain ⟨d, dr, rfl, hd, hr'⟩ := he
    simp only [List.all_cons, hd.2.2, ih hr' st]

theorem sim_next (hr : HRel P g h w) {ty : TypeId} {it v : BV} {it' : Value} {s : Bool} {h' : BHeap} (hi : VRel P g w it it') (e : nextB h it s = some (v, h')) : Ends P g h w v h' ((Instr.next it' s ty).run P w) := by
  unfold nextB at e
  split at e
  · rename_i r
    simp only [VRel] at hi; obtain ⟨blk, base, hm, rfl⟩ := hi
    split at e
    · -- a string's
      rename_i str pos hb
      obtain ⟨o', hw, ho⟩ := hr.iter hb hm
      simp only [ORel] at ho
      obtain ⟨rfl, rfl⟩ := ho
      have hget : (getObj blk).run P w = .ok (.stringIter ⟨str.toArray⟩ pos) w := by simp [getObj, Sem.run, hw]
      split at e
      · rename_i hlt
        cases hcw : Utf8.decode ⟨str.toArray⟩ pos with
        | mk c wd =>
          simp only [hcw, Option.some.injEq, Prod.mk.injEq] at e
          obtain ⟨rfl, rfl⟩ := e
          have hput := hr.write (o' := .strIter str (pos + wd)) (co' := .stringIter ⟨str.toArray⟩ (pos + wd)) hb hm hw (w' := w.putBlk blk (.stringIter ⟨str.toArray⟩ (pos + wd))) rfl ⟨rfl, rfl, rfl⟩
            (fun s hs => by simp [World.shape?, hw] at hs) (fun _ => by simp [ORel])
          refine Ends.of_w ⟨.tuple #[.bool true, goInt pos, .int .i32 c], w.putBlk blk (.stringIter ⟨str.toArray⟩ (pos + wd)), ?_, hput.1, hput.2, Ph.put hm _, ?_⟩
          · have e1 : pos < (ByteArray.mk str.toArray).size := by simpa [ByteArray.size] using hlt
            have hset : (setObj blk (.stringIter ⟨str.toArray⟩ (pos + wd))).run P w = .ok () (w.putBlk blk (.stringIter ⟨str.toArray⟩ (pos + wd))) := by simp [setObj, Sem.run, hw, World.putBlk]
            simp only [Instr.next, Nat.add_zero, Sem.run_bind, hget, Result.andThen_ok]
            rw [if_pos e1]
            simp only [hcw, Sem.run_bind, hset, Result.andThen_ok, Sem.run_pure]
          · simp only [VRel]
            exact ⟨_, rfl, VRels.cons (by simp [VRel]) (VRels.cons (by simp [VRel, goI, goInt]) (VRels.cons (by simp [VRel]) VRels.nil))⟩
      · rename_i hlt
        cases e
        refine Ends.still hr ⟨.tuple #[.bool false], ?_, by simp only [VRel]; exact ⟨_, rfl, VRels.cons (by simp [VRel]) VRels.nil⟩⟩
        have e1 : ¬ pos < (ByteArray.mk str.toArray).size := by simpa [ByteArray.size] using hlt
        simp only [Instr.next, Nat.add_zero, Sem.run_bind, hget, Result.andThen_ok]
        rw [if_neg e1]; rfl
    · rename_i since seen st hb
      obtain ⟨o', hw, ho⟩ := hr.iter hb hm
      simp only [ORel] at ho
      obtain ⟨rfl, rfl⟩ := ho
      have hget : (getObj blk).run P w = .ok (.mapIter none since seen.toArray st) w := by simp [getObj, Sem.run, hw]
      cases e
      refine Ends.still hr ⟨.tuple #[.bool false], ?_, by simp only [VRel]; exact ⟨_, rfl, VRels.cons (by simp [VRel]) VRels.nil⟩⟩
      simp only [Instr.next, Nat.add_zero, Sem.run_bind, hget, Result.andThen_ok]; rfl
    · rename_i m since seen st hb
      obtain ⟨o', hw, ho⟩ := hr.iter hb hm
      simp only [ORel] at ho
      obtain ⟨rfl, blk2, hm2, rfl⟩ := ho
      have hget : (getObj blk).run P w = .ok (.mapIter (some blk2) since seen.toArray st) w := by simp [getObj, Sem.run, hw]
      split at e
      · rename_i es clock hb2
        obtain ⟨es', hw2, he⟩ := hr.map hb2 hm2
        have hget2 := r_getMap (P := P) hw2
        have hl := he.length
        have h1 : (!seen.toArray.isEmpty && !es'.isEmpty && es'.all (fun e => decide (e.born ≥ st))) = (!seen.isEmpty && !es.isEmpty && es.all (fun e => decide (e.born ≥ st))) := by
          have a1 : seen.toArray.isEmpty = seen.isEmpty := by simp
          have a2 : es'.isEmpty = es.isEmpty := by
            rw [Bool.eq_iff_iff, Array.isEmpty_iff_size_eq_zero, List.isEmpty_iff_length_eq_zero]
            simp at hl; omega
          have a3 : es'.all (fun e => decide (e.born ≥ st)) = es.all (fun e => decide (e.born ≥ st)) := by
            rw [← Array.all_toList]
            exact (all_born he st).symm
          rw [a1, a2, a3]
        split at e
        · cases e
        · rename_i hc
          have hleft := he.filter (p := fun e => !seen.contains e.born) (q := fun e => !seen.toArray.contains e.born) (fun b e hbe => by rw [hbe.2.2]; simp)
          have hold := hleft.filter (p := fun e => decide (e.born < since)) (q := fun e => decide (e.born < since)) (fun b e hbe => by rw [hbe.2.2])
          have hnew := hleft.filter (p := fun e => decide (e.born ≥ since)) (q := fun e => decide (e.born ≥ since)) (fun b e hbe => by rw [hbe.2.2])
          have eold : ((es'.filter fun e => !seen.toArray.contains e.born).filter fun e => decide (e.born < since)).toList = ((es'.toList.filter fun e => !seen.toArray.contains e.born).filter fun e => decide (e.born < since)) := by simp
          have enew : ((es'.filter fun e => !seen.toArray.contains e.born).filter fun e => decide (e.born ≥ since)).toList = ((es'.toList.filter fun e => !seen.toArray.contains e.born).filter fun e => decide (e.born ≥ since)) := by simp
          have hcond : (!seen.toArray.isEmpty && !es'.isEmpty && es'.all (fun e => decide (e.born ≥ st))) = false := by rw [h1]; simpa using hc
          dsimp only at e
          generalize hO : (es.filter fun e => !seen.contains e.born).filter (fun e => decide (e.born < since)) = O at e hold
          generalize hN : (es.filter fun e => !seen.contains e.born).filter (fun e => decide (e.born ≥ since)) = N at e hnew
          generalize hO' : ((es'.filter fun e => !seen.toArray.contains e.born).filter fun e => decide (e.born < since)) = O' at eold
          generalize hN' : ((es'.filter fun e => !seen.toArray.contains e.born).filter fun e => decide (e.born ≥ since)) = N' at enew
          rw [← eold] at hold
          rw [← enew] at hnew
          split at e
          · -- nothing is left
            cases e
            simp only [ERels] at hold hnew
            have hO0 : O' = #[] := by apply Array.ext'; simpa using hold
            have hN0 : N' = #[] := by apply Array.ext'; simpa using hnew
            refine Ends.still hr ⟨.tuple #[.bool false], ?_, by simp only [VRel]; exact ⟨_, rfl, VRels.cons (by simp [VRel]) VRels.nil⟩⟩
            simp only [Instr.next, Nat.add_zero, Sem.run_bind, hget, hget2, Result.andThen_ok, hcond, Bool.false_eq_true, if_false, hO', hN', hO0, hN0]
            simp [Question.forced]
          · -- one
            rename_i b
            simp only [ERels] at hold hnew
            obtain ⟨d, dr, hde, hd, rfl⟩ := hold
            have hO0 : O' = #[d] := by apply Array.ext'; simpa using hde
            have hN0 : N' = #[] := by apply Array.ext'; simpa using hnew
            cases e
            have hput := hr.write (o' := .mapIter (some m) since (seen ++ [b.born]) clock) (co' := .mapIter (some blk2) since (seen.toArray.push d.born) clock) hb hm hw (w' := w.putBlk blk (.mapIter (some blk2) since (seen.toArray.push d.born) clock)) rfl ⟨rfl, rfl, rfl⟩
              (fun s hs => by simp [World.shape?, hw] at hs) (fun hmono => by simp only [ORel]; exact ⟨trivial, blk2, hmono.mm _ _ hm2, by rw [hd.2.2]; simp⟩)
            refine Ends.of_w ⟨.tuple #[.bool true, d.key, d.val], w.putBlk blk (.mapIter (some blk2) since (seen.toArray.push d.born) clock), ?_, hput.1, hput.2, Ph.put hm _, ?_⟩
            · simp only [Instr.next, Nat.add_zero, Sem.run_bind, hget, hget2, Result.andThen_ok, hcond, Bool.false_eq_true, if_false, hO', hN', hO0, hN0]
              simp [Question.forced, setObj, Sem.run, hw, World.putBlk]
            · simp only [VRel]
              exact ⟨_, rfl, VRels.cons (by simp [VRel]) (VRels.cons (VRel.mono hput.2.mono _ _ hd.1) (VRels.cons (VRel.mono hput.2.mono _ _ hd.2.1) VRels.nil))⟩
          · cases e
      · cases e
    · cases e
  · cases e

theorem find_rel {stamp : Nat} : ∀ {es : List BEntry} {es' : List MapEntry} {b : BEntry}, ERels P g w es es' → es.find? (fun e => e.born == stamp) = some b → ∃ e, es'.find? (fun e => e.born == stamp) = some e ∧ ERel P g w b e := by
  intro es
  induction es with
  | nil => intro es' b he e; simp at e
  | cons x es ih =>
    intro es' b he e
    simp only [ERels] at he; obtain ⟨d, dr, rfl, hd, hr⟩ := he
    rw [List.find?_cons] at e ⊢
    rw [← hd.2.2]
    split at e
    · rename_i hc; cases e; exact ⟨d, by simp [hc], hd⟩
    · rename_i hc
      obtain ⟨e', h1, h2⟩ := ih hr e
      exact ⟨e', by simp [hc, h1], h2⟩

theorem sim_entry (hr : HRel P g h w) {it v : BV} {it' : Value} (hi : VRel P g w it it') (e : entryB h it = some v) : ∃ v', (Instr.entry it').run P w = .ok v' w ∧ VRel P g w v v' := by
  unfold entryB at e
  split at e
  · rename_i r
    simp only [VRel] at hi; obtain ⟨blk, base, hm, rfl⟩ := hi
    split at e
    · rename_i m since seen st hb
      obtain ⟨o', hw, ho⟩ := hr.iter hb hm
      simp only [ORel] at ho
      obtain ⟨rfl, blk2, hm2, rfl⟩ := ho
      have hget : (getObj blk).run P w = .ok (.mapIter (some blk2) since seen.toArray st) w := by simp [getObj, Sem.run, hw]
      split at e
      · rename_i stamp es clock hs hb2
        obtain ⟨es', hw2, he⟩ := hr.map hb2 hm2
        split at e
        · cases e
        · rename_i hc
          have hc : clock = st := by simpa using hc
          subst hc
          split at e
          · rename_i b hf
            cases e
            obtain ⟨d, h1, h2⟩ := find_rel he hf
            refine ⟨.tuple #[d.key, d.val], ?_, by simp only [VRel]; exact ⟨_, rfl, VRels.cons h2.1 (VRels.cons h2.2.1 VRels.nil)⟩⟩
            have h1' : es'.find? (fun e => e.born == stamp) = some d := by rw [← Array.find?_toList]; exact h1
            have hback : seen.toArray.back? = some stamp := by simpa using hs
            simp only [Instr.entry, Nat.add_zero, Sem.run_bind, hget, Result.andThen_ok, hback, r_getMap hw2]
            rw [if_neg (by simp)]
            simp [h1']
          · cases e
      · cases e
    · cases e
  · cases e

theorem sim_len (hr : HRel P g h w) {ts : Array TypeId} {t : TypeId} {args : List BV} {args' : Array Value} {v : BV} (ha : VRels P g w args args'.toList) (e : lenB P h ts args = some v) :
    ∃ v', (Builtin.len_ ts t args').run P w = .ok v' w ∧ VRel P g w v v' := by
  unfold lenB at e
  split at e
  · rename_i t0 x ht
    obtain ⟨x', hl, hx⟩ := ha.one
    have hargs : args' = #[x'] := by apply Array.ext'; simpa using hl
    subst hargs
    have fin : ∀ (d : TypeDesc) (n : Nat), P.underlying t0 = some d → (∀ K, (Builtin.len_ ts t #[x']).run P w = K → K = .ok (goInt n) w) → some (goI n) = some v → ∃ v', (Builtin.len_ ts t #[x']).run P w = .ok v' w ∧ VRel P g w v v' := fun d n hu hK hv => by
      cases hv
      exact ⟨goInt n, hK _ rfl, by simp [VRel, goI, goInt]⟩
    split at e
    · rename_i s hu
      simp only [VRel] at hx; subst hx
      have e1 : (ByteArray.mk s.toArray).size = s.length := by simp [ByteArray.size]
      have e2 : (Builtin.len_ ts t #[.string ⟨s.toArray⟩]).run P w = .ok (goInt s.length) w := by
        simp only [Builtin.len_]
        simp [ht, r_underlying hu, e1]
      exact fin _ _ hu (fun K hK => by rw [← hK]; exact e2) e
    · rename_i n el hu
      refine fin _ _ hu (fun K hK => ?_) e
      rw [← hK]
      simp only [Builtin.len_]
      simp [ht, r_underlying hu]
    · rename_i el hu
      simp only [VRel] at hx; subst hx
      exact fin _ _ hu (fun K hK => by rw [← hK]; simp [Builtin.len_, ht, r_underlying hu]) e
    · rename_i el hu
      simp only [VRel] at hx; obtain ⟨a, c, rfl⟩ := hx
      exact fin _ _ hu (fun K hK => by rw [← hK]; simp [Builtin.len_, ht, r_underlying hu]) e
    · rename_i el b o n c hu
      simp only [VRel] at hx; obtain ⟨_, _, _, _, rfl, _⟩ := hx
      exact fin _ _ hu (fun K hK => by rw [← hK]; simp [Builtin.len_, ht, r_underlying hu]) e
    · rename_i el cs n c hu
      simp only [VRel] at hx; obtain ⟨_, _, _, rfl, _⟩ := hx
      exact fin _ _ hu (fun K hK => by rw [← hK]; simp [Builtin.len_, ht, r_underlying hu]) e
    · rename_i k el hu
      simp only [VRel] at hx; subst hx
      exact fin _ _ hu (fun K hK => by rw [← hK]; simp [Builtin.len_, ht, r_underlying hu]) e
    · rename_i k el r hu
      simp only [VRel] at hx; obtain ⟨blk, hm, rfl⟩ := hx
      split at e
      · rename_i es clock hb
        obtain ⟨es', hw, he⟩ := hr.map hb hm
        have hl := he.length
        refine fin _ es.length hu (fun K hK => ?_) e
        rw [← hK]
        simp at hl
        simp [Builtin.len_, ht, r_underlying hu, r_getMap hw, hl]
      · cases e
    · cases e
  · cases e

theorem sim_fold {f : BV → BV → Option BV} {f' : Value → Value → Sem Value} (hf : ∀ x y z x' y', VRel P g w x x' → VRel P g w y y' → f x y = some z → ∃ z', (f' x' y').run P w = .ok z' w ∧ VRel P g w z z') :
    ∀ (l : List BV) (l' : List Value) (x v : BV) (x' : Value), VRels P g w l l' → VRel P g w x x' → l.foldlM f x = some v → ∃ v', (l'.foldlM f' x').run P w = .ok v' w ∧ VRel P g w v v' := by
  intro l
  induction l with
  | nil => intro l' x v x' hl hx e; simp only [VRels] at hl; subst hl; simp at e; subst e; exact ⟨x', by simp, hx⟩
  | cons y l ih =>
    intro l' x v x' hl hx e
    simp only [VRels] at hl; obtain ⟨y', lr, rfl, hy, hl⟩ := hl
    simp only [List.foldlM_cons] at e ⊢
    cases hz : f x y with
    | none => simp [hz] at e
    | some z =>
      simp [hz] at e
      obtain ⟨z', h1, h2⟩ := hf _ _ _ _ _ hx hy hz
      obtain ⟨v', h3, h4⟩ := ih lr z v z' hl h2 e
      exact ⟨v', by simp [h1, h3], h4⟩

theorem sim_min2 {x y z : BV} {x' y' : Value} (hx : VRel P g w x x') (hy : VRel P g w y y') (e : minB x y = some z) : ∃ z', (Builtin.min2 x' y').run P w = .ok z' w ∧ VRel P g w z z' := by
  unfold minB at e
  split at e
  · simp only [VRel] at hx hy; subst hx hy; cases e; exact ⟨_, rfl, by simp [VRel]⟩
  · cases e
theorem sim_max2 {x y z : BV} {x' y' : Value} (hx : VRel P g w x x') (hy : VRel P g w y y') (e : maxB x y = some z) : ∃ z', (Builtin.max2 x' y').run P w = .ok z' w ∧ VRel P g w z z' := by
  unfold maxB at e
  split at e
  · simp only [VRel] at hx hy; subst hx hy; cases e; exact ⟨_, rfl, by simp [VRel]⟩
  · cases e
end
end Go.PB
