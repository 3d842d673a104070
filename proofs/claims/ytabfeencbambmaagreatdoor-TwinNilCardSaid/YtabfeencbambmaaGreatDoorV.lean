/- The contracts of twin.Alike and twin.Parted at too many turns, in the words of the machine. -/
import Derived.Test.YtabfeencbambmaaGreatDoorT
import Derived.Test.YtabfeencbambmaaGreatDoorPosS
set_option linter.unusedSimpArgs false
set_option linter.unusedVariables false
namespace Go.Proofs.YtabfeencbambmaaGreatDoor.twinNil
open Go Go.PB

theorem onePlay_of {g : Gh} {h : BHeap} {w : World} {bP bL x ox bp op bl ol : Nat} {a1 a3 a5 : BV} {e e2 : TypeId} (hr : HRel Tryz.prog g h w)
    (h6 : h.get bP = some (.cells [a1, .ptr x ox, a3, .slice bL 0 1 none, a5] e false)) (h5 : h.get bL = some (.cells [.int .i64 0, .nils, .nils, .nils] e2 false))
    (m6 : g.m bP = some (bp, op)) (m5 : g.m bL = some (bl, ol)) : ∃ c a, OnePlay w bp op bl ol c a := by
  obtain ⟨c6, lo6, hi6, vs6, hw6, hvs6, _, hc6, _, _⟩ := hr.cells h6 m6
  obtain ⟨c5, lo5, hi5, vs5, hw5, hvs5, _, hc5, _, _⟩ := hr.cells h5 m5
  obtain ⟨v1, hv1, hr1⟩ := hvs6.get (i := 1) rfl
  obtain ⟨v3, hv3, hr3⟩ := hvs6.get (i := 3) rfl
  obtain ⟨u0, hu0, hq0⟩ := hvs5.get (i := 0) rfl
  obtain ⟨u1, hu1, hq1⟩ := hvs5.get (i := 1) rfl
  obtain ⟨u2, hu2, hq2⟩ := hvs5.get (i := 2) rfl
  obtain ⟨u3, hu3, hq3⟩ := hvs5.get (i := 3) rfl
  simp only [VRel] at hr1 hr3 hq0 hq1 hq2 hq3
  obtain ⟨bx, basex, _, rfl⟩ := hr1
  obtain ⟨by3, base3, c, hm3, rfl, _⟩ := hr3
  rw [m5] at hm3
  cases hm3
  subst hq0; subst hq1; subst hq2; subst hq3
  exact ⟨c, ⟨bx, basex + ox, none⟩, (Array.getElem?_eq_some_iff.1 hw6).1, (Array.getElem?_eq_some_iff.1 hw5).1, hc6 1 _ hv1, hc6 3 _ hv3, hc5 0 _ hu0, hc5 1 _ hu1, hc5 2 _ hu2, hc5 3 _ hu3⟩

theorem mapped_of {g : Gh} {h : BHeap} {w : World} {bP bL x ox bp op : Nat} {a1 a3 a5 : BV} {e : TypeId} (hr : HRel Tryz.prog g h w)
    (h6 : h.get bP = some (.cells [a1, .ptr x ox, a3, .slice bL 0 1 none, a5] e false)) (m6 : g.m bP = some (bp, op)) : ∃ bl ol, g.m bL = some (bl, ol) := by
  obtain ⟨c6, lo6, hi6, vs6, hw6, hvs6, _, hc6, _, _⟩ := hr.cells h6 m6
  obtain ⟨v3, hv3, hr3⟩ := hvs6.get (i := 3) rfl
  simp only [VRel] at hr3
  obtain ⟨bl, ol, c, hm3, _⟩ := hr3
  exact ⟨bl, ol, hm3⟩

theorem does_alike {n N1 N2 nx bP bL bS x ox x1 o1 x2 o2 : Nat} {a1 a3 a5 : BV} {e e2 e3 : TypeId} {l : List (Nat × BObj)} {live1 live2 : List Nat}
    (e1 : callR Tryz.prog n 18 [.ptr bP 0] (memC nx l) N1 live1 = some (.ptr x1 o1, l)) (e2' : callR Tryz.prog n 18 [.ptr bP 0] (memC N1 l) N2 live2 = some (.ptr x2 o2, l))
    (h6 : (memC nx l).get bP = some (.cells [a1, .ptr x ox, a3, .slice bL 0 1 none, a5] e false)) (h5 : (memC nx l).get bL = some (.cells [.int .i64 0, .nils, .nils, .nils] e2 false))
    (h7 : (memC nx l).get bS = some (.cells (repl [.int .i64 0, .int .i64 0] 65537) e3 false)) :
    DoesG (fun _ => True) Tryz.prog 9 [.ptr bP 0, .ptr bP 0, .slice bS 0 65537 (some 65537)] (.tuple [.int .i64 0, .int .i64 0, .bool false, .int .i64 4]) (memC nx l) (memC N2 l) := by
  intro g w as' _ hr ha
  simp only [VRels, VRel, Nat.add_zero] at ha
  obtain ⟨v1, r1, hl, ⟨bp, op, m6, rfl⟩, v2, r2, rfl, ⟨bp', op', m6', rfl⟩, v3, r3, rfl, ⟨bs, os, c, m7, rfl, _⟩, rfl⟩ := ha
  rw [m6] at m6'
  cases m6'
  have : as' = #[.pointer (some ⟨bp, op, none⟩), .pointer (some ⟨bp, op, none⟩), .slice (some ⟨bs, os, none⟩) 65537 c] := by
    apply Array.ext'; simpa using hl
  subst this
  obtain ⟨bl, ol, m5⟩ := mapped_of hr h6 m6
  refine (alike_long (bl := bl) (ol := ol) (S1 := fun w1 => ∃ g1, HRel Tryz.prog g1 (memC N1 l) w1 ∧ Ext g (memC nx l) w g1 (memC N1 l) w1 ∧ ∀ b, b < nx → g.m b = none → g1.m b = none)
    (S2 := fun w2 => ∃ g2, HRel Tryz.prog g2 (memC N2 l) w2 ∧ Ext g (memC nx l) w g2 (memC N2 l) w2 ∧ ∀ b, b < nx → g.m b = none → g2.m b = none) (by decide) (by decide) ?_ ?_ ?_).mono ?_
  · refine (sim_callR mixedP hr ?_ e1).mono ?_
    · simp only [VRels, VRel]; exact ⟨_, _, rfl, ⟨bp, op, m6, rfl⟩, rfl⟩
    · rintro ed w1 ⟨v', g1, rfl, k1, k2, k3, k4⟩
      simp only [VRel] at k3
      obtain ⟨_, _, _, rfl⟩ := k3
      exact ⟨⟨_, rfl⟩, g1, k1, k2, k4⟩
  · rintro w1 ⟨g1, k1, k2, k4⟩
    refine (sim_callR mixedP k1 ?_ e2').mono ?_
    · simp only [VRels, VRel]; exact ⟨_, _, rfl, ⟨bp, op, k2.mono.mm _ _ m6, rfl⟩, rfl⟩
    · rintro ed w2 ⟨v', g2, rfl, j1, j2, j3, j4⟩
      simp only [VRel] at j3
      obtain ⟨_, _, _, rfl⟩ := j3
      exact ⟨⟨_, rfl⟩, g2, j1, k2.trans j2, fun b hb hm => j4 b (Nat.lt_of_lt_of_le hb k2.next) (k4 b hb hm)⟩
  · rintro w2 ⟨g2, k1, k2, k4⟩
    obtain ⟨q1, q2⟩ := k1.row2 (n := 65537) h7 (k2.mono.mm _ _ m7)
    exact ⟨onePlay_of k1 h6 h5 (k2.mono.mm _ _ m6) (k2.mono.mm _ _ m5), q1, q2⟩
  · rintro ed w' ⟨rfl, w2, ⟨g2, k1, k2, k4⟩, hk⟩
    obtain ⟨q1, q2⟩ := k1.keep hk
    exact ⟨_, g2, rfl, by simp [VRel, VRels], q1, k2.trans q2, fun b hb hm => ⟨k4 b hb hm, rfl⟩⟩

theorem does_parted {n N1 N2 nx bP bL bS x ox x1 o1 y k : Nat} {cap : Option Nat} {a1 a3 a5 : BV} {e e2 e3 e4 : TypeId} {l l1 l2 : List (Nat × BObj)} {rest : List BV} {live1 live2 live3 : List Nat}
    (e1 : callR Tryz.prog n 18 [.ptr bP 0] (memC nx l) N1 live1 = some (.ptr x1 o1, l1)) (e2' : callR Tryz.prog n 11 [.ptr x1 o1, .int .i64 1, .int .i64 0] (memC N1 l1) N2 live2 = some (.tuple [.slice y 0 (k + 1) cap, .int .i64 0], l2))
    (hy : (memC N2 l2).get y = some (.cells (.int .i64 0 :: rest) e4 false)) (hl : collectC (memC N2 l2) live3 = l)
    (h6 : (memC nx l).get bP = some (.cells [a1, .ptr x ox, a3, .slice bL 0 1 none, a5] e false)) (h5 : (memC nx l).get bL = some (.cells [.int .i64 0, .nils, .nils, .nils] e2 false))
    (h7 : (memC nx l).get bS = some (.cells (repl [.int .i64 0, .int .i64 0] 65537) e3 false)) :
    DoesG (fun _ => True) Tryz.prog 10 [.ptr bP 0, .int .i64 1, .int .i64 0, .slice bS 0 65537 (some 65537)] (.tuple [.int .i64 0, .int .i64 0, .bool false, .int .i64 4]) (memC nx l) (memC N2 l) := by
  intro g w as' _ hr ha
  simp only [VRels, VRel, Nat.add_zero] at ha
  obtain ⟨v1, r1, hll, ⟨bp, op, m6, rfl⟩, _, r2, rfl, rfl, _, r3, rfl, rfl, v3, r4, rfl, ⟨bs, os, c, m7, rfl, _⟩, rfl⟩ := ha
  have : as' = #[.pointer (some ⟨bp, op, none⟩), .int .i64 1, .int .i64 0, .slice (some ⟨bs, os, none⟩) 65537 c] := by
    apply Array.ext'; simpa using hll
  subst this
  obtain ⟨bl, ol, m5⟩ := mapped_of hr h6 m6
  have old : ∀ c, Owned g (memC nx l) c → c < w.heap.size := by
    rintro c ⟨b, o, base, _, hm⟩; exact hr.img _ _ _ hm
  refine (parted_long (bl0 := bl) (ol0 := ol)
    (S1 := fun k w1 a => ∃ g1, HRel Tryz.prog g1 (memC N1 l1) w1 ∧ Ext g (memC nx l) w g1 (memC N1 l1) w1 ∧ VRel Tryz.prog g1 w1 (.ptr x1 o1) (.pointer (some a)) ∧ k ≤ w1.heap.size ∧ (∀ c, w.heap.size ≤ c → c < k → ¬ Owned g1 (memC N1 l1) c) ∧ ∀ b, b < nx → g.m b = none → g1.m b = none)
    (S2 := fun w2 => ∃ g2, HRel Tryz.prog g2 (memC N2 l) w2 ∧ Ext g (memC nx l) w g2 (memC N2 l) w2 ∧ ∀ b, b < nx → g.m b = none → g2.m b = none) (by decide) (by decide) ?_ ?_ ?_).mono ?_
  · intro w0 hk0
    obtain ⟨q1, q2⟩ := hr.keep hk0
    refine (sim_callR mixedP q1 ?_ e1).mono ?_
    · simp only [VRels, VRel]; exact ⟨_, _, rfl, ⟨bp, op, m6, rfl⟩, rfl⟩
    · rintro ed w1 ⟨v', g1, rfl, k1, k2, k3, k4⟩
      have k3' := k3
      simp only [VRel] at k3'
      obtain ⟨_, _, _, rfl⟩ := k3'
      refine ⟨_, rfl, ⟨g1, k1, q2.trans k2, k3, k2.size, fun c hc hlt ho => ?_, k4⟩, ⟨k2.size, fun c hc hlt => k2.kept c hlt fun ho => ?_⟩⟩
      · have := old c (k2.own c hlt ho); omega
      · have := old c ho; omega
  · rintro k0 w1 a ⟨g1, k1, k2, k3, k5, k6, k4⟩
    refine (sim_callR mixedP k1 ?_ e2').mono ?_
    · refine VRels.cons k3 ?_
      simp [VRels, VRel]
    · rintro ed w2 ⟨v', g2, rfl, j1, j2, j3, j4⟩
      simp only [VRel, VRels, Nat.add_zero] at j3
      obtain ⟨vs, rfl, u1, ur, hvs, ⟨bh, oh, ch, mh, rfl, _⟩, u2, ur2, rfl, rfl, rfl⟩ := j3
      have : vs = #[.slice (some ⟨bh, oh, none⟩) (k + 1) ch, .int .i64 0] := by apply Array.ext'; simpa using hvs
      subst this
      obtain ⟨cc, lo, hi, ws, hw, hws, _, hcc, _, _⟩ := j1.cells hy mh
      obtain ⟨z, hz, hzr⟩ := hws.get (i := 0) rfl
      simp only [VRel] at hzr
      subst hzr
      obtain ⟨t1, t2⟩ := j1.subC hl
      exact ⟨⟨bh, oh, k, ch, rfl, hcc 0 _ hz, (Array.getElem?_eq_some_iff.1 hw).1⟩, ⟨g2, t1, (k2.trans j2).trans t2, fun b hb hm => j4 b (Nat.lt_of_lt_of_le hb k2.next) (k4 b hb hm)⟩,
        ⟨j2.size, fun c hc hlt => j2.kept c (Nat.lt_of_lt_of_le hlt k5) (k6 c hc hlt)⟩⟩
  · rintro w2 ⟨g2, k1, k2, k4⟩
    obtain ⟨q1, q2⟩ := k1.row2 (n := 65537) h7 (k2.mono.mm _ _ m7)
    exact ⟨onePlay_of k1 h6 h5 (k2.mono.mm _ _ m6) (k2.mono.mm _ _ m5), q1, q2⟩
  · rintro ed w' ⟨rfl, w2, ⟨g2, k1, k2, k4⟩, hk⟩
    obtain ⟨q1, q2⟩ := k1.keep hk
    exact ⟨_, g2, rfl, by simp [VRel, VRels], q1, k2.trans q2, fun b hb hm => ⟨k4 b hb hm, rfl⟩⟩
end Go.Proofs.YtabfeencbambmaaGreatDoor.twinNil

