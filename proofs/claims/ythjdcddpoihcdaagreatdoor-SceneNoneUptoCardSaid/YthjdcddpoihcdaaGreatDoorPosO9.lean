/- What B's operations do is what the model's do: maps written, ranges, len, min, max. -/
import Derived.Test.YthjdcddpoihcdaaGreatDoorPosO8
set_option linter.unusedSimpArgs false
set_option linter.unusedVariables false
namespace Go.PB
open Go

theorem beq_sound : ∀ (n : Nat), (∀ a b, BV.beq n a b = true → a = b) ∧ (∀ a b, BV.beqs n a b = true → a = b) := by
  intro n
  induction n with
  | zero => exact ⟨fun a b h => by simp [BV.beq] at h, fun a b h => by simp [BV.beqs] at h⟩
  | succ n ih =>
    obtain ⟨i1, i2⟩ := ih
    constructor
    · intro a b h
      cases a <;> cases b <;> simp only [BV.beq, Bool.and_eq_true, beq_iff_eq, Bool.false_eq_true] at h <;> first
        | rfl
        | (subst h; rfl)
        | (obtain ⟨rfl, rfl⟩ := h; rfl)
        | (obtain ⟨⟨⟨rfl, rfl⟩, rfl⟩, rfl⟩ := h; rfl)
        | (have := i2 _ _ h; subst this; rfl)
        | (obtain ⟨⟨h1, rfl⟩, rfl⟩ := h; have := i2 _ _ h1; subst this; rfl)
        | (obtain ⟨⟨rfl, h1⟩, h2⟩ := h; have := i2 _ _ h1; have := i2 _ _ h2; subst_vars; rfl)
        | (obtain ⟨rfl, h1⟩ := h; have := i1 _ _ h1; subst this; rfl)
    · intro a b h
      cases a <;> cases b <;> simp only [BV.beqs, Bool.and_eq_true, Bool.false_eq_true] at h <;> first
        | rfl
        | (obtain ⟨h1, h2⟩ := h; rw [i1 _ _ h1, i2 _ _ h2])

section
variable {P : Program} {g : Gh} {h : BHeap} {w : World}

theorem plain_bits1 {b : BV} {u v : Value} (hb : (match b with | .int .. | .str _ | .bool _ => true | _ => false) = true) (hu : VRel P g w b u) (hv : VRel P g w b v) (n : Nat) : Instr.sameBits n u v = true := by
  cases b <;> simp at hb <;> simp only [VRel] at hu hv <;> subst hu hv
  · cases n <;> simp [Instr.sameBits]
  · cases n <;> simp [Instr.sameBits]
  · cases n <;> (simp only [Instr.sameBits, beq_bytes]; simp)

theorem plain_bits {b : BV} {u v : Value} (hb : plainKeyB b = true) (hu : VRel P g w b u) (hv : VRel P g w b v) : Instr.sameBits 10000 u v = true := by
  by_cases ha : ∃ cs, b = .agg cs
  · obtain ⟨cs, rfl⟩ := ha
    simp only [plainKeyB, List.all_eq_true] at hb
    simp only [VRel] at hu hv
    obtain ⟨us, rfl, hu⟩ := hu
    obtain ⟨vs, rfl, hv⟩ := hv
    rw [show (10000 : Nat) = 9999 + 1 from rfl]
    simp only [Instr.sameBits, Bool.and_eq_true, beq_iff_eq, List.all_eq_true]
    have h1 := hu.length
    have h2 := hv.length
    refine ⟨by simp at h1 h2; omega, fun x hx => ?_⟩
    obtain ⟨i, hi⟩ := List.getElem?_of_mem hx
    rw [List.getElem?_zip_eq_some] at hi
    obtain ⟨b, hb1, hr1⟩ := hu.get' hi.1
    obtain ⟨v', hv1, hr2⟩ := hv.get hb1
    rw [hi.2] at hv1; cases hv1
    exact plain_bits1 (hb b (List.mem_of_getElem? hb1)) hr1 hr2 _
  · refine plain_bits1 ?_ hu hv _
    cases b <;> simp [plainKeyB] at hb ⊢
    exact ha ⟨_, rfl⟩

theorem run_keyStays {es : List BEntry} {es' : Array MapEntry} {i : Nat} {k : BV} {k' : Value} (he : ERels P g w es es'.toList) (hk : VRel P g w k k') (hs : sameKeyB es i k = true) :
    (Instr.keyThatStays (((es'[i]?).map (·.key)).getD k') k').run P w = .ok k' w := by
  unfold sameKeyB at hs
  cases hb : es[i]? with
  | none => simp [hb] at hs
  | some b =>
    simp only [hb, Bool.and_eq_true] at hs
    have hkey := (beq_sound 20).1 _ _ hs.2
    obtain ⟨e, he1, he2⟩ := he.get hb
    simp only [Array.getElem?_toList] at he1
    rw [he1]
    have := he2.1
    rw [hkey] at this
    simp [Instr.keyThatStays, plain_bits hs.1 this hk]

theorem ERel.setKeyVal {k v : BV} {k' v' : Value} (hk : VRel P g w k k') (hv : VRel P g w v v') (b : BEntry) (e : MapEntry) (h : ERel P g w b e) : ERel P g w { b with key := k, val := v } { e with key := k', val := v' } := ⟨hk, hv, h.2.2⟩
theorem ERel.setKey {k : BV} {k' : Value} (hk : VRel P g w k k') (b : BEntry) (e : MapEntry) (h : ERel P g w b e) : ERel P g w { b with key := k } { e with key := k' } := ⟨hk, h.2.1, h.2.2⟩
theorem ERel.setVal {v : BV} {v' : Value} (hv : VRel P g w v v') (b : BEntry) (e : MapEntry) (h : ERel P g w b e) : ERel P g w { b with val := v } { e with val := v' } := ⟨h.1, hv, h.2.2⟩

/-- a map of B's is written -/
theorem HRel.putMap (hr : HRel P g h w) {r blk : Nat} {es es1 : List BEntry} {es1' es' : Array MapEntry} {clock clock1 : Nat} (hb : h.get r = some (.map es clock)) (hm : g.m r = some (blk, 0)) (hw : w.heap[blk]? = some (.map es' clock))
    (he : ERels P g w es1 es1'.toList) :
    HRel P g (h.put r (some (.map es1 clock1))) (w.putBlk blk (.map es1' clock1)) ∧ Ext g h w g (h.put r (some (.map es1 clock1))) (w.putBlk blk (.map es1' clock1)) := by
  refine hr.write hb hm hw rfl ⟨rfl, rfl, rfl⟩ (fun s hs => ?_) (fun hmono => ?_)
  · simp [World.shape?, hw] at hs
  · simp only [ORel]; exact ⟨trivial, es1', rfl, he.mono hmono⟩

theorem sim_mapUpdate (hr : HRel P g h w) {t : TypeId} {m k v : BV} {m' k' v' : Value} {h' : BHeap} (hm : VRel P g w m m') (hk : VRel P g w k k') (hv : VRel P g w v v') (e : mapUpdateB P h t m k v = some h') :
    ∃ w', (Instr.mapUpdate t m' k' v').run P w = .ok () w' ∧ HRel P g h' w' ∧ Ext g h w g h' w' ∧ Ph g h g h' := by
  unfold mapUpdateB at e
  split at e
  · rename_i kt et r hu
    simp only [VRel] at hm; obtain ⟨blk, hmm, rfl⟩ := hm
    split at e
    · cases e
    · rename_i hko
      have hko : keyOk P 4 kt k = true := by simpa using hko
      have hck := fun em => sim_key (P := P) (g := g) (w := w) 4 kt k k' em hk hko 10000 (by omega)
      split at e
      · rename_i es clock hb
        obtain ⟨es', hw, he⟩ := hr.map hb hmm
        split at e
        · rename_i i u hf
          split at e
          · rename_i hsk
            cases e
            obtain ⟨r', h1, h2⟩ := sim_find hr hk (keyOk_under hko) he hf
            cases r' with
            | none => simp [FRelM] at h2
            | some q =>
              obtain ⟨j, u'⟩ := q
              obtain ⟨rfl, _⟩ := h2
              have hput := hr.putMap hb hmm hw (clock1 := clock) (es1 := es.modify i fun e => { e with key := k, val := v }) (es1' := es'.modify i fun e => { e with key := k', val := v' })
                (by rw [Array.toList_modify]; exact he.modify (ERel.setKeyVal hk hv) i)
              refine ⟨_, ?_, hput.1, hput.2, Ph.put hmm _⟩
              simp only [Instr.mapUpdate, Sem.run_bind, r_underlying hu, Result.andThen_ok, r_getMap hw, hck, h1, run_keyStays he hk hsk, r_setMap hw]
          · cases e
        · rename_i hf
          cases e
          obtain ⟨r', h1, h2⟩ := sim_find hr hk (keyOk_under hko) he hf
          cases r' with
          | some q => simp [FRelM] at h2
          | none =>
            have hput := hr.putMap hb hmm hw (clock1 := clock + 1) (es1 := es ++ [{ key := k, val := v, born := clock }]) (es1' := es'.push { key := k', val := v', born := clock })
              (by rw [Array.toList_push]; exact he.append ⟨_, _, rfl, ⟨hk, hv, rfl⟩, rfl⟩)
            refine ⟨_, ?_, hput.1, hput.2, Ph.put hmm _⟩
            simp only [Instr.mapUpdate, Sem.run_bind, r_underlying hu, Result.andThen_ok, r_getMap hw, hck, h1, r_setMap hw]
        · cases e
      · cases e
  · cases e

theorem sim_mapEntry (hr : HRel P g h w) {t : TypeId} {m k v : BV} {m' k' : Value} {h' : BHeap} (hm : VRel P g w m m') (hk : VRel P g w k k') (e : mapEntryB P h t m k = some (v, h')) :
    ∃ v' w', (Instr.mapEntry t m' k').run P w = .ok v' w' ∧ HRel P g h' w' ∧ Ext g h w g h' w' ∧ Ph g h g h' ∧ VRel P g w' v v' := by
  unfold mapEntryB at e
  split at e
  · rename_i kt et r hu
    simp only [VRel] at hm; obtain ⟨blk, hmm, rfl⟩ := hm
    split at e
    · cases e
    · rename_i hko
      have hko : keyOk P 4 kt k = true := by simpa using hko
      have hck := fun em => sim_key (P := P) (g := g) (w := w) 4 kt k k' em hk hko 10000 (by omega)
      split at e
      · rename_i es clock hb
        obtain ⟨es', hw, he⟩ := hr.map hb hmm
        split at e
        · rename_i i u hf
          split at e
          · rename_i hsk
            cases e
            obtain ⟨r', h1, h2⟩ := sim_find hr hk (keyOk_under hko) he hf
            cases r' with
            | none => simp [FRelM] at h2
            | some q =>
              obtain ⟨j, u'⟩ := q
              obtain ⟨rfl, hu'⟩ := h2
              have hput := hr.putMap hb hmm hw (clock1 := clock) (es1 := es.modify i fun e => { e with key := k }) (es1' := es'.modify i fun e => { e with key := k' })
                (by rw [Array.toList_modify]; exact he.modify (ERel.setKey hk) i)
              refine ⟨.tuple #[u', goInt (((es'[i]?).map (·.born)).getD 0)], _, ?_, hput.1, hput.2, Ph.put hmm _, ?_⟩
              · simp only [Instr.mapEntry, Sem.run_bind, r_underlying hu, Result.andThen_ok, r_getMap hw, hck, h1, run_keyStays he hk hsk, r_setMap hw, Sem.run_pure]
              · simp only [VRel]
                refine ⟨_, rfl, VRels.cons (VRel.mono hput.2.mono _ _ hu') (VRels.cons ?_ VRels.nil)⟩
                unfold sameKeyB at hsk
                cases hbi : es[i]? with
                | none => simp [hbi] at hsk
                | some b =>
                  obtain ⟨e0, he1, he2⟩ := he.get hbi
                  simp only [Array.getElem?_toList] at he1
                  simp [goI, goInt, VRel, he1, he2.2.2]
          · cases e
        · rename_i hf
          obtain ⟨r', h1, h2⟩ := sim_find hr hk (keyOk_under hko) he hf
          cases r' with
          | some q => simp [FRelM] at h2
          | none =>
            cases hz : zeroB P et with
            | none => simp [hz] at e
            | some z =>
              simp [hz] at e
              obtain ⟨rfl, rfl⟩ := e
              obtain ⟨z', hz', hzr⟩ := r_zero hz w
              have hput := hr.putMap hb hmm hw (clock1 := clock + 1) (es1 := es ++ [{ key := k, val := z, born := clock }]) (es1' := es'.push { key := k', val := z', born := clock })
                (by rw [Array.toList_push]; exact he.append ⟨_, _, rfl, ⟨hk, hzr g, rfl⟩, rfl⟩)
              refine ⟨.tuple #[z', goInt clock], _, ?_, hput.1, hput.2, Ph.put hmm _, ?_⟩
              · simp only [Instr.mapEntry, Sem.run_bind, r_underlying hu, Result.andThen_ok, r_getMap hw, hck, h1, hz', r_setMap hw, Sem.run_pure]
              · simp only [VRel]
                exact ⟨_, rfl, VRels.cons (VRel.mono hput.2.mono _ _ (hzr g)) (VRels.cons (by simp [goI, goInt, VRel]) VRels.nil)⟩
        · cases e
      · cases e
  · cases e

theorem findIdx_rel {born : Int} : ∀ {es : List BEntry} {es' : List MapEntry} (i : Nat), ERels P g w es es' → es.findIdx? (fun e => (e.born : Int) == born) = some i → es'.findIdx? (fun e => (e.born : Int) == born) = some i := by
  intro es
  induction es with
  | nil => intro es' i he e; simp at e
  | cons b es ih =>
    intro es' i he e
    simp only [ERels] at he; obtain ⟨d, dr, rfl, hd, hr⟩ := he
    rw [List.findIdx?_cons] at e ⊢
    rw [← hd.2.2]
    split
    · rename_i hc; rw [if_pos hc] at e; exact e
    · rename_i hc
      rw [if_neg hc] at e
      cases hf : es.findIdx? (fun e => (e.born : Int) == born) with
      | none => simp [hf] at e
      | some j => simp [hf] at e; subst e; rw [ih j hr hf]; rfl

theorem sim_entryStore (hr : HRel P g h w) {t : TypeId} {m s v : BV} {m' s' v' : Value} {h' : BHeap} (hm : VRel P g w m m') (hs : VRel P g w s s') (hv : VRel P g w v v') (e : entryStoreB h m s v = some h') :
    ∃ w', (Instr.entryStore t m' s' v').run P w = .ok () w' ∧ HRel P g h' w' ∧ Ext g h w g h' w' ∧ Ph g h g h' := by
  unfold entryStoreB at e
  split at e
  · rename_i r q born
    simp only [VRel] at hm hs; obtain ⟨blk, hmm, rfl⟩ := hm; subst hs
    split at e
    · rename_i es clock hb
      obtain ⟨es', hw, he⟩ := hr.map hb hmm
      split at e
      · rename_i i hi
        cases e
        have hi' := findIdx_rel i he hi
        have hput := hr.putMap hb hmm hw (clock1 := clock) (es1 := es.modify i fun e => { e with val := v }) (es1' := es'.modify i fun e => { e with val := v' })
          (by rw [Array.toList_modify]; exact he.modify (ERel.setVal hv) i)
        refine ⟨_, ?_, hput.1, hput.2, Ph.put hmm _⟩
        have hi2 : es'.findIdx? (fun e => (e.born : Int) == born) = some i := by rw [← List.findIdx?_toArray, Array.toArray_toList] at hi'; exact hi'
        simp only [Instr.entryStore, Sem.run_bind, r_getMap hw, Result.andThen_ok, asInt, asIntOf, Sem.run_pure, hi2, r_setMap hw]
      · cases e
    · cases e
  · cases e

theorem sim_delete (hr : HRel P g h w) {ts : Array TypeId} {t : TypeId} {args : List BV} {args' : Array Value} {v : BV} {h' : BHeap} (ha : VRels P g w args args'.toList) (e : deleteB P h ts args = some (v, h')) :
    ∃ v' w', (Builtin.delete_ ts t args').run P w = .ok v' w' ∧ HRel P g h' w' ∧ Ext g h w g h' w' ∧ Ph g h g h' ∧ VRel P g w' v v' := by
  unfold deleteB at e
  split at e
  · rename_i mt m k ht
    obtain ⟨m', k', hl, hm, hk⟩ := ha.two
    have hargs : args' = #[m', k'] := by apply Array.ext'; simpa using hl
    subst hargs
    have hundef : ∀ w', VRel P g w' (BV.tuple []) (Value.tuple #[]) := fun w' => by simp only [VRel]; exact ⟨_, rfl, VRels.nil⟩
    split at e
    · rename_i kt et hu
      split at e
      · cases e
      · rename_i hko
        have hko : keyOk P 4 kt k = true := by simpa using hko
        have hck := fun em => sim_key (P := P) (g := g) (w := w) 4 kt k k' em hk hko 10000 (by omega)
        split at e
        · simp only [VRel] at hm; subst hm
          cases e
          refine ⟨_, w, ?_, hr, Ext.refl _ _ _, Ph.refl _ _, hundef w⟩
          simp [Builtin.delete_, ht, r_underlying hu, hck]
        · rename_i r
          simp only [VRel] at hm; obtain ⟨blk, hmm, rfl⟩ := hm
          split at e
          · rename_i es clock hb
            obtain ⟨es', hw, he⟩ := hr.map hb hmm
            split at e
            · rename_i i u hf
              cases e
              obtain ⟨r', h1, h2⟩ := sim_find hr hk (keyOk_under hko) he hf
              cases r' with
              | none => simp [FRelM] at h2
              | some q =>
                obtain ⟨j, u'⟩ := q
                obtain ⟨rfl, _⟩ := h2
                have hput := hr.putMap hb hmm hw (clock1 := clock) (es1 := es.eraseIdx i) (es1' := es'.eraseIdxIfInBounds i)
                  (by rw [Array.toList_eraseIdxIfInBounds]; exact he.eraseIdx i)
                refine ⟨_, _, ?_, hput.1, hput.2, Ph.put hmm _, hundef _⟩
                simp [Builtin.delete_, ht, r_underlying hu, hck, r_getMap hw, h1, r_setMap hw]
            · rename_i hf
              cases e
              obtain ⟨r', h1, h2⟩ := sim_find hr hk (keyOk_under hko) he hf
              cases r' with
              | some q => simp [FRelM] at h2
              | none =>
                have hput := hr.putMap hb hmm hw (clock1 := clock) (es1 := es) (es1' := es') he
                refine ⟨_, _, ?_, hput.1, hput.2, Ph.put hmm _, hundef _⟩
                simp [Builtin.delete_, ht, r_underlying hu, hck, r_getMap hw, h1, r_setMap hw]
            · cases e
          · cases e
        · cases e
    · cases e
  · cases e
end
end Go.PB
