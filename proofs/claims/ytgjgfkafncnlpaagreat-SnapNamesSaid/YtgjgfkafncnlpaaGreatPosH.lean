/- How the relation of heaps is kept by a write, a new block, a block that is given up. -/
import Derived.Test.YtgjgfkafncnlpaaGreatPosR
import Derived.Laws.Cells
set_option linter.unusedSimpArgs false
set_option linter.unusedVariables false
namespace Go.World
open Go
def putBlk (w : World) (r : Nat) (o : Obj) : World := { w with heap := w.heap.setIfInBounds r o }
end Go.World
namespace Go.PB
open Go

section
variable {P : Program} {g : Gh} {h : BHeap} {w w' : World}

theorem shape?_of_heap {r : Nat} (e : w'.heap[r]? = w.heap[r]?) : w'.shape? r = w.shape? r := by simp [World.shape?, e]

theorem HRel.fz_not_owned (hr : HRel P g h w) {c : Nat} (hf : g.fz c) : ¬ Owned g h c := by
  rintro ⟨b, o, base, hb, hm⟩
  exact (hr.obj b o c base hb hm).1 hf

/-- a write into one block that is B's -/
theorem HRel.write (hr : HRel P g h w) {b blk base : Nat} {o o' : BObj} {co co' : Obj} (hb : h.get b = some o) (hm : g.m b = some (blk, base))
    (hco : w.heap[blk]? = some co) (hheap : w'.heap = w.heap.setIfInBounds blk co') (hos : w'.os = w.os ∧ w'.output = w.output ∧ w'.tape = w.tape)
    (hshape : ∀ s, w.shape? blk = some s → w'.shape? blk = some s)
    (ho : Mono g w g w' → ORel P g w' o' base co') :
    HRel P g (h.put b (some o')) w' ∧ Ext g h w g (h.put b (some o')) w' := by
  have hlt : blk < w.heap.size := hr.img b blk base hm
  have hother : ∀ c, c ≠ blk → w'.heap[c]? = w.heap[c]? := fun c hc => by
    rw [hheap, Array.getElem?_setIfInBounds_ne (by omega)]
  have hsame : w'.heap[blk]? = some co' := by rw [hheap, Array.getElem?_setIfInBounds_self_of_lt hlt]
  have hsz : w'.heap.size = w.heap.size := by rw [hheap]; simp
  have hnf : ¬ g.fz blk := (hr.obj b o blk base hb hm).1
  have hmono : Mono g w g w' := ⟨fun _ _ e => e, fun _ e => e, fun c hc => hother c (fun e => hnf (e ▸ hc)), fun c s hs => by
    by_cases e : c = blk
    · subst e; exact hshape s hs
    · rw [shape?_of_heap (hother c e)]; exact hs⟩
  have hown : ∀ c, Owned g (h.put b (some o')) c → Owned g h c := by
    rintro c ⟨b1, o1, base1, hb1, hm1⟩
    rw [BHeap.get_put] at hb1
    by_cases e : b1 = b
    · subst e; exact ⟨b1, o, base1, hb, hm1⟩
    · rw [if_neg e] at hb1; exact ⟨b1, o1, base1, hb1, hm1⟩
  refine ⟨⟨?_, ?_, ?_, ?_, ?_, ?_⟩, ⟨hmono, by omega, ?_, fun c _ hc => hown c hc, Nat.le_refl _, hos⟩⟩
  · intro b1 o1 h1
    rw [BHeap.get_put] at h1
    by_cases e : b1 = b
    · subst e; exact hr.dom _ _ hb
    · rw [if_neg e] at h1; exact hr.dom _ _ h1
  · exact fun b1 x h1 => hr.lt b1 x h1
  · intro b1 blk1 base1 h1; rw [hsz]; exact hr.img _ _ _ h1
  · intro b1 b2 blk1 base1 base2 o1 o2 h1 h2 m1 m2
    rw [BHeap.get_put] at h1 h2
    have g1 : ∃ o, h.get b1 = some o := by
      by_cases e : b1 = b
      · subst e; exact ⟨_, hb⟩
      · rw [if_neg e] at h1; exact ⟨_, h1⟩
    have g2 : ∃ o, h.get b2 = some o := by
      by_cases e : b2 = b
      · subst e; exact ⟨_, hb⟩
      · rw [if_neg e] at h2; exact ⟨_, h2⟩
    obtain ⟨_, g1⟩ := g1; obtain ⟨_, g2⟩ := g2
    exact hr.inj _ _ _ _ _ _ _ g1 g2 m1 m2
  · intro b1 o1 blk1 base1 h1 m1
    rw [BHeap.get_put] at h1
    by_cases e : b1 = b
    · subst e; rw [if_pos rfl] at h1; cases h1
      rw [hm] at m1; cases m1
      exact ⟨hnf, co', hsame, ho hmono⟩
    · rw [if_neg e] at h1
      obtain ⟨n1, o2, ho2, hr2⟩ := hr.obj _ _ _ _ h1 m1
      have hne : blk1 ≠ blk := fun ee => e (hr.inj _ _ _ _ _ _ _ h1 hb (ee ▸ m1) hm)
      exact ⟨n1, o2, (hother _ hne).trans ho2, hr2.mono hmono⟩
  · intro c hc; rw [hsz]; exact hr.fzlt c hc
  · intro c hc hno
    exact hother c (fun e => hno ⟨b, o, base, hb, e ▸ hm⟩)

def Gh.upd (g : Gh) (b blk base : Nat) : Gh := { g with m := fun x => if x = b then some (blk, base) else g.m x }

theorem Gh.upd_same (g : Gh) (b blk base : Nat) : (g.upd b blk base).m b = some (blk, base) := by simp [Gh.upd]
theorem Gh.upd_other (g : Gh) {b blk base x : Nat} (e : x ≠ b) : (g.upd b blk base).m x = g.m x := by simp [Gh.upd, e]

theorem Mono.push (hr : HRel P g h w) {b : Nat} (hm : g.m b = none) {co : Obj} (hheap : w'.heap = w.heap.push co) (base : Nat) :
    Mono g w (g.upd b w.heap.size base) w' :=
  ⟨fun b1 x h1 => by rw [Gh.upd_other g (fun e => by subst e; rw [hm] at h1; cases h1)]; exact h1, fun _ e => e,
    fun c hc => by rw [hheap]; have := hr.fzlt c hc; rw [Array.getElem?_push]; rw [if_neg (by omega)],
    fun c s hs => by
      have hc : c < w.heap.size := by
        unfold World.shape? at hs
        cases e : w.heap[c]? with
        | none => rw [e] at hs; cases hs
        | some _ => exact (Array.getElem?_eq_some_iff.1 e).1
      rw [shape?_of_heap (w := w)]
      · exact hs
      · rw [hheap, Array.getElem?_push, if_neg (by omega)]⟩

/-- a block that B has made is made -/
theorem HRel.real (hr : HRel P g h w) {b : Nat} {o : BObj} {co : Obj} (hb : h.get b = some o) (hm : g.m b = none)
    (hheap : w'.heap = w.heap.push co) (hos : w'.os = w.os ∧ w'.output = w.output ∧ w'.tape = w.tape)
    (ho : Mono g w (g.upd b w.heap.size 0) w' → ORel P (g.upd b w.heap.size 0) w' o 0 co) :
    HRel P (g.upd b w.heap.size 0) h w' ∧ Ext g h w (g.upd b w.heap.size 0) h w' := by
  have hmono := Mono.push hr hm hheap 0
  have hother : ∀ c, c < w.heap.size → w'.heap[c]? = w.heap[c]? := fun c hc => by rw [hheap, Array.getElem?_push, if_neg (by omega)]
  have hsz : w'.heap.size = w.heap.size + 1 := by rw [hheap]; simp
  refine ⟨⟨hr.dom, ?_, ?_, ?_, ?_, ?_⟩, ⟨hmono, by omega, fun c hc _ => hother c hc, ?_, Nat.le_refl _, hos⟩⟩
  · intro b1 x h1
    by_cases e : b1 = b
    · subst e; exact hr.dom _ _ hb
    · rw [Gh.upd_other g e] at h1; exact hr.lt _ _ h1
  · intro b1 blk1 base1 h1
    by_cases e : b1 = b
    · subst e; rw [Gh.upd_same] at h1; cases h1; omega
    · rw [Gh.upd_other g e] at h1; have := hr.img _ _ _ h1; omega
  · intro b1 b2 blk1 base1 base2 o1 o2 h1 h2 m1 m2
    by_cases e1 : b1 = b
    · subst e1
      by_cases e2 : b2 = b1
      · exact e2.symm
      · rw [Gh.upd_same] at m1; cases m1; rw [Gh.upd_other g e2] at m2; have := hr.img _ _ _ m2; omega
    · rw [Gh.upd_other g e1] at m1
      by_cases e2 : b2 = b
      · subst e2; rw [Gh.upd_same] at m2; cases m2; have := hr.img _ _ _ m1; omega
      · rw [Gh.upd_other g e2] at m2; exact hr.inj _ _ _ _ _ _ _ h1 h2 m1 m2
  · intro b1 o1 blk1 base1 h1 m1
    by_cases e : b1 = b
    · subst e; rw [Gh.upd_same] at m1; cases m1
      rw [hb] at h1; cases h1
      exact ⟨fun hf => by have := hr.fzlt _ hf; omega, co, by rw [hheap]; simp, ho hmono⟩
    · rw [Gh.upd_other g e] at m1
      obtain ⟨n1, o2, ho2, hr2⟩ := hr.obj _ _ _ _ h1 m1
      exact ⟨n1, o2, (hother _ (hr.img _ _ _ m1)).trans ho2, hr2.mono hmono⟩
  · intro c hc; have := hr.fzlt c hc; omega
  · rintro c hc ⟨b1, o1, base1, hb1, hm1⟩
    by_cases e : b1 = b
    · subst e; rw [Gh.upd_same] at hm1; cases hm1; omega
    · rw [Gh.upd_other g e] at hm1; exact ⟨b1, o1, base1, hb1, hm1⟩

theorem HRel.next_none (hr : HRel P g h w) : g.m h.next = none := by
  cases e : g.m h.next with
  | none => rfl
  | some x => exact absurd (hr.lt _ _ e) (Nat.lt_irrefl _)

/-- B makes a block that is not made yet -/
theorem HRel.newB (hr : HRel P g h w) (o : BObj) : HRel P g (h.new o) w ∧ Ext g h w g (h.new o) w := by
  have hget : ∀ b x, g.m b = some x → (h.new o).get b = h.get b := fun b x hb => by
    rw [BHeap.get_new, if_neg (fun e => by subst e; rw [hr.next_none] at hb; cases hb)]
  refine ⟨⟨?_, ?_, hr.img, ?_, ?_, hr.fzlt⟩, ⟨Mono.refl g w, Nat.le_refl _, fun _ _ _ => rfl, ?_, by simp, rfl, rfl, rfl⟩⟩
  · intro b o1 h1
    rw [BHeap.get_new] at h1
    by_cases e : b = h.next
    · subst e; simp
    · rw [if_neg e] at h1; have := hr.dom _ _ h1; simp; omega
  · intro b x hb; have := hr.lt _ _ hb; simp; omega
  · intro b b' blk base base' o1 o2 h1 h2 m1 m2
    rw [hget _ _ m1] at h1; rw [hget _ _ m2] at h2
    exact hr.inj _ _ _ _ _ _ _ h1 h2 m1 m2
  · intro b o1 blk base h1 m1
    rw [hget _ _ m1] at h1
    exact hr.obj _ _ _ _ h1 m1
  · rintro c _ ⟨b1, o1, base1, hb1, hm1⟩
    rw [hget _ _ hm1] at hb1
    exact ⟨b1, o1, base1, hb1, hm1⟩

/-- B gives a block up -/
theorem HRel.drop (hr : HRel P g h w) (b : Nat) : HRel P g (h.put b none) w ∧ Ext g h w g (h.put b none) w := by
  have hget : ∀ b1 o, (h.put b none).get b1 = some o → h.get b1 = some o := fun b1 o h1 => by
    rw [BHeap.get_put] at h1
    by_cases e : b1 = b
    · rw [if_pos e] at h1; cases h1
    · rwa [if_neg e] at h1
  refine ⟨⟨fun b1 o h1 => hr.dom _ _ (hget _ _ h1), hr.lt, hr.img, ?_, ?_, hr.fzlt⟩, ⟨Mono.refl g w, Nat.le_refl _, fun _ _ _ => rfl, ?_, Nat.le_refl _, rfl, rfl, rfl⟩⟩
  · intro b1 b2 blk base base' o1 o2 h1 h2 m1 m2
    exact hr.inj _ _ _ _ _ _ _ (hget _ _ h1) (hget _ _ h2) m1 m2
  · intro b1 o1 blk base h1 m1; exact hr.obj _ _ _ _ (hget _ _ h1) m1
  · rintro c _ ⟨b1, o1, base1, hb1, hm1⟩; exact ⟨b1, o1, base1, hget _ _ hb1, hm1⟩

/-- only draws, nothing in memory -/
theorem HRel.same (hr : HRel P g h w) (hheap : w'.heap = w.heap) (hos : w'.os = w.os ∧ w'.output = w.output ∧ w'.tape = w.tape) : HRel P g h w' ∧ Ext g h w g h w' := by
  have hmono : Mono g w g w' := ⟨fun _ _ e => e, fun _ e => e, fun c _ => by rw [hheap], fun c s hs => by rw [shape?_of_heap (w := w) (by rw [hheap])]; exact hs⟩
  refine ⟨⟨hr.dom, hr.lt, fun b x y e => by rw [hheap]; exact hr.img b x y e, hr.inj, ?_, fun c hc => by rw [hheap]; exact hr.fzlt c hc⟩,
    ⟨hmono, by rw [hheap]; exact Nat.le_refl _, fun c _ _ => by rw [hheap], fun _ _ e => e, Nat.le_refl _, hos⟩⟩
  intro b o blk base h1 m1
  obtain ⟨n, o', ho, hr'⟩ := hr.obj _ _ _ _ h1 m1
  exact ⟨n, o', by rw [hheap]; exact ho, hr'.mono hmono⟩

/-- a block that is B's goes on under another name: b is given up, b' (new) names the same memory from 'off' on, now holding co' -/
theorem HRel.move (hr : HRel P g h w) {b blk base off : Nat} {o o' : BObj} {co co' : Obj} (hb : h.get b = some o) (hm : g.m b = some (blk, base))
    (hco : w.heap[blk]? = some co) (hheap : w'.heap = w.heap.setIfInBounds blk co') (hos : w'.os = w.os ∧ w'.output = w.output ∧ w'.tape = w.tape)
    (hshape : ∀ s, w.shape? blk = some s → w'.shape? blk = some s)
    (ho : Mono g w (g.upd h.next blk (base + off)) w' → ORel P (g.upd h.next blk (base + off)) w' o' (base + off) co') :
    HRel P (g.upd h.next blk (base + off)) ((h.put b none).new o') w' ∧ Ext g h w (g.upd h.next blk (base + off)) ((h.put b none).new o') w' := by
  have hn : g.m h.next = none := hr.next_none
  have hlt : blk < w.heap.size := hr.img b blk base hm
  have hother : ∀ c, c ≠ blk → w'.heap[c]? = w.heap[c]? := fun c hc => by
    rw [hheap, Array.getElem?_setIfInBounds_ne (by omega)]
  have hsame : w'.heap[blk]? = some co' := by rw [hheap, Array.getElem?_setIfInBounds_self_of_lt hlt]
  have hsz : w'.heap.size = w.heap.size := by rw [hheap]; simp
  have hnf : ¬ g.fz blk := (hr.obj b o blk base hb hm).1
  have hbn : b ≠ h.next := fun e => by rw [e, hn] at hm; cases hm
  have hmono : Mono g w (g.upd h.next blk (base + off)) w' := ⟨fun b1 x h1 => by rw [Gh.upd_other g (fun e => by subst e; rw [hn] at h1; cases h1)]; exact h1, fun _ e => e,
    fun c hc => hother c (fun e => hnf (e ▸ hc)), fun c s hs => by
    by_cases e : c = blk
    · subst e; exact hshape s hs
    · rw [shape?_of_heap (hother c e)]; exact hs⟩
  have hget : ∀ b1 o1, ((h.put b none).new o').get b1 = some o1 → b1 ≠ h.next → b1 ≠ b ∧ h.get b1 = some o1 := fun b1 o1 h1 e => by
    rw [BHeap.get_new, if_neg (by simpa using e), BHeap.get_put] at h1
    by_cases e1 : b1 = b
    · rw [if_pos e1] at h1; cases h1
    · rw [if_neg e1] at h1; exact ⟨e1, h1⟩
  have hown : ∀ c, Owned (g.upd h.next blk (base + off)) ((h.put b none).new o') c → Owned g h c := by
    rintro c ⟨b1, o1, base1, hb1, hm1⟩
    by_cases e : b1 = h.next
    · subst e; rw [Gh.upd_same] at hm1; cases hm1; exact ⟨b, o, base, hb, hm⟩
    · rw [Gh.upd_other g e] at hm1; exact ⟨b1, o1, base1, (hget _ _ hb1 e).2, hm1⟩
  refine ⟨⟨?_, ?_, ?_, ?_, ?_, ?_⟩, ⟨hmono, by omega, ?_, fun c _ hc => hown c hc, by simp, hos⟩⟩
  · intro b1 o1 h1
    by_cases e : b1 = h.next
    · subst e; simp
    · have := hr.dom _ _ (hget _ _ h1 e).2; simp; omega
  · intro b1 x h1
    by_cases e : b1 = h.next
    · subst e; simp
    · rw [Gh.upd_other g e] at h1; have := hr.lt _ _ h1; simp; omega
  · intro b1 blk1 base1 h1
    rw [hsz]
    by_cases e : b1 = h.next
    · subst e; rw [Gh.upd_same] at h1; cases h1; exact hlt
    · rw [Gh.upd_other g e] at h1; exact hr.img _ _ _ h1
  · intro b1 b2 blk1 base1 base2 o1 o2 h1 h2 m1 m2
    by_cases e1 : b1 = h.next
    · subst e1
      by_cases e2 : b2 = h.next
      · exact e2.symm
      · rw [Gh.upd_same] at m1; cases m1; rw [Gh.upd_other g e2] at m2
        obtain ⟨n2, g2⟩ := hget _ _ h2 e2
        exact absurd (hr.inj _ _ _ _ _ _ _ g2 hb m2 hm) n2
    · rw [Gh.upd_other g e1] at m1
      obtain ⟨n1, g1⟩ := hget _ _ h1 e1
      by_cases e2 : b2 = h.next
      · subst e2; rw [Gh.upd_same] at m2; cases m2
        exact absurd (hr.inj _ _ _ _ _ _ _ g1 hb m1 hm) n1
      · rw [Gh.upd_other g e2] at m2; exact hr.inj _ _ _ _ _ _ _ g1 (hget _ _ h2 e2).2 m1 m2
  · intro b1 o1 blk1 base1 h1 m1
    by_cases e : b1 = h.next
    · subst e; rw [Gh.upd_same] at m1; cases m1
      rw [BHeap.get_new, if_pos (by simp)] at h1; cases h1
      exact ⟨hnf, co', hsame, ho hmono⟩
    · rw [Gh.upd_other g e] at m1
      obtain ⟨n1, g1⟩ := hget _ _ h1 e
      obtain ⟨f1, o2, ho2, hr2⟩ := hr.obj _ _ _ _ g1 m1
      have hne : blk1 ≠ blk := fun ee => n1 (hr.inj _ _ _ _ _ _ _ g1 hb (ee ▸ m1) hm)
      exact ⟨f1, o2, (hother _ hne).trans ho2, hr2.mono hmono⟩
  · intro c hc; rw [hsz]; exact hr.fzlt c hc
  · intro c hc hno
    exact hother c (fun e => hno ⟨b, o, base, hb, e ▸ hm⟩)
end

/-! ### cells in a row -/
def setMany (c : Array Value) (k : Nat) : List Value → Array Value
  | [] => c
  | v :: r => setMany (c.setIfInBounds k v) (k + 1) r

@[simp] theorem setMany_size (c : Array Value) (k : Nat) (vs : List Value) : (setMany c k vs).size = c.size := by
  induction vs generalizing c k with
  | nil => rfl
  | cons v r ih => simp [setMany, ih]

theorem setMany_get (vs : List Value) : ∀ (c : Array Value) (k j : Nat), k + vs.length ≤ c.size → (setMany c k vs)[j]? = if k ≤ j ∧ j < k + vs.length then vs[j - k]? else c[j]? := by
  induction vs with
  | nil => intro c k j _; simp only [setMany, List.length_nil, Nat.add_zero]; rw [if_neg (by omega)]
  | cons v r ih =>
    intro c k j hk
    simp only [List.length_cons] at hk
    simp only [setMany]
    rw [ih _ _ _ (by simp; omega)]
    by_cases h1 : k + 1 ≤ j ∧ j < k + 1 + r.length
    · rw [if_pos h1, if_pos (by simp only [List.length_cons]; omega)]
      rw [show j - k = (j - (k + 1)) + 1 by omega, List.getElem?_cons_succ]
    · rw [if_neg h1]
      by_cases h2 : j = k
      · subst h2; rw [if_pos (by simp only [List.length_cons]; omega), Array.getElem?_setIfInBounds_self_of_lt (by omega)]; simp
      · rw [Array.getElem?_setIfInBounds_ne (by omega), if_neg (by simp only [List.length_cons]; omega)]


theorem setCell_eq {w : World} {blk off : Nat} {c : Array Value} {e : TypeId} {fr : Nat × Nat} (h : w.heap[blk]? = some (.cells c e fr)) (v : Value) :
    w.setCell ⟨blk, off, none⟩ v = w.putBlk blk (.cells (c.setIfInBounds off v) e fr) := by
  obtain ⟨hlt, hc⟩ := Array.getElem?_eq_some_iff.1 h
  unfold World.setCell World.putBlk
  congr 1
  apply Array.ext_getElem?
  intro i
  rw [Array.getElem?_modify]
  by_cases e : blk = i
  · subst e; rw [if_pos rfl, Array.getElem?_setIfInBounds_self_of_lt hlt, h]; rfl
  · rw [if_neg e, Array.getElem?_setIfInBounds_ne e]

theorem putBlk_putBlk (w : World) (r : Nat) (o o' : Obj) : (w.putBlk r o).putBlk r o' = w.putBlk r o' := by
  unfold World.putBlk
  congr 1
  apply Array.ext_getElem?
  intro i
  by_cases e : r = i
  · subst e; simp [Array.getElem?_setIfInBounds]
  · simp [e]

theorem putBlk_heap_same {w : World} {r : Nat} {o' : Obj} (h : r < w.heap.size) : (w.putBlk r o').heap[r]? = some o' := by
  unfold World.putBlk; exact Array.getElem?_setIfInBounds_self_of_lt h

theorem run_storeCells_row {P : Program} (blk off : Nat) (e : TypeId) (lo hi : Nat) : ∀ (vs : List Value) (i : Nat) (c : Array Value) (w : World),
    w.heap[blk]? = some (.cells c e (lo, hi)) → off + i + vs.length ≤ c.size → (∀ v ∈ vs, v.oneCell' = true) → (∀ j, j < c.size → ¬ (lo ≤ j ∧ j < hi)) →
    (storeCells ⟨blk, off, none⟩ vs i).run P w = .ok () (w.putBlk blk (.cells (setMany c (off + i) vs) e (lo, hi))) := by
  intro vs
  induction vs with
  | nil =>
    intro i c w h _ _ _
    simp only [storeCells, Sem.run_pure, setMany]
    congr 1
    unfold World.putBlk
    obtain ⟨hlt, hc⟩ := Array.getElem?_eq_some_iff.1 h
    have : w.heap.setIfInBounds blk (.cells c e (lo, hi)) = w.heap := by
      apply Array.ext_getElem?
      intro j
      by_cases ej : blk = j
      · subst ej; rw [Array.getElem?_setIfInBounds_self_of_lt hlt, h]
      · rw [Array.getElem?_setIfInBounds_ne ej]
    rw [this]
  | cons v r ih =>
    intro i c w h hb ho hf
    simp only [List.length_cons] at hb
    have hlt := (Array.getElem?_eq_some_iff.1 h).1
    have ha : (Addr.add ⟨blk, off, none⟩ i) = ⟨blk, off + i, none⟩ := by
      unfold Addr.add; by_cases hi : i = 0
      · subst hi; simp
      · simp [hi]
    have hcell : w.cell? ⟨blk, off + i, none⟩ = some (c[off + i]'(by omega)) := by
      simp [World.cell?, h, show off + i < c.size by omega]
    have hfr : w.frozen? ⟨blk, off + i, none⟩ = false := by
      have := hf (off + i) (by omega)
      simp only [World.frozen?, h]
      simpa using this
    simp only [storeCells, Sem.run_bind, ha, run_store P w _ v _ (ho v (by simp)), hcell, hfr, Bool.false_eq_true, if_false, Result.andThen_ok]
    rw [setCell_eq h, ih (i + 1) (c.setIfInBounds (off + i) v) _ (putBlk_heap_same hlt) (by simp; omega) (fun v hv => ho v (by simp [hv])) (by simpa using hf), putBlk_putBlk]
    simp only [setMany, Nat.add_assoc]

theorem run_loadCells_at {P : Program} {w : World} {blk off n : Nat} (vs : List Value) (hn : vs.length = n) (h : CellsAt w blk off vs) :
    (loadCells ⟨blk, off, none⟩ n).run P w = .ok vs.toArray w := by
  subst hn
  refine run_loadCells_list w _ vs fun j v hj => ?_
  have : (Addr.add ⟨blk, off, none⟩ j) = ⟨blk, off + j, none⟩ := by
    unfold Addr.add; by_cases hi : j = 0
    · subst hi; simp
    · simp [hi]
  rw [this]; exact h j v hj

theorem addr_add (blk off n : Nat) : (Addr.add ⟨blk, off, none⟩ n) = ⟨blk, off + n, none⟩ := by
  unfold Addr.add; by_cases hi : n = 0
  · subst hi; simp
  · simp [hi]

end Go.PB
