/- The states at which the run of the law is cut; printed by a program of our own. -/
import Derived.Test.YtabfeencbambmaaGreatDoorPosC
import Derived.Test.YtabfeencbambmaaGreatDoorProg
namespace Go.Proofs.YtabfeencbambmaaGreatDoor.twinNil
open Go Go.PB Go.PB.W
set_option linter.unusedVariables false

noncomputable def cd (f n : Nat) : Code := codeC Tryz.prog f n
noncomputable def ops (f n : Nat) : Array Oper := opsOf (cd f n)

noncomputable def S0 : CState := startC Tryz.prog 3 (Tryz.f3.params.toList.map (shapeB Tryz.prog))

noncomputable def b0 : Nat × BObj := (1,  q [zp, zp, z, z, z] 30)
noncomputable def b1 : Nat × BObj := (10,  q [n 9 0 1, s 4 0 2 2, m 6, m 7, i 0, s 5 0 2 2] 62)
noncomputable def b2 : Nat × BObj := (19,  q [n 14 0 1, n 16 0 2, m 11, m 12, i 0, n 18 0 2] 62)
noncomputable def b3 : Nat × BObj := (29,  q [n 24 0 1, n 26 0 2, m 21, m 22, i 0, n 28 0 2] 62)
noncomputable def b4 : Nat × BObj := (31,  q [p 19 0, p 29 0, z, z, z] 30)
noncomputable def b5 : Nat × BObj := (66,  q [i 0, z, z, z] 52)
noncomputable def b6 : Nat × BObj := (82,  q [n 77 0 1, n 79 0 2, m 74, m 75, i 0, n 81 0 2] 62)
noncomputable def b7 : Nat × BObj := (92,  q [n 87 0 1, n 89 0 2, m 84, m 85, i 0, n 91 0 2] 62)
noncomputable def b8 : Nat × BObj := (99,  q [i 0, z, z, z] 52)
noncomputable def b9 : Nat × BObj := (105,  q [i 0, z, z, z] 52)
noncomputable def b10 : Nat × BObj := (106,  q [p 82 0, p 92 0, n 99 0 1, n 105 0 1, z] 30)
noncomputable def S1 : CState :=
  ⟨⟨3,  [y, y, a [y, y], o, o, p 0 0, f, zp, p 2 0, p 10 0, i 0, p 31 0, i 1, i 2, zp, i 1, zp, i 1, z, i 1, i 0, i 0, f, i 1, i 0, i 0, f, i 1, i 0, i 0, f,
  i 1, z, p 106 0, o, o, o, o, o, o, o, o, o, o, zp, a [zp, zp, z, z, z], p 1 0, a [zp, p 1 0], u [p 10 0, i 0], s 3 0 1 1, u [p 10 0, i 0], p 10 0, i 0, u [p 31 0,
  i 0], p 10 0, u [p 31 0, i 0], p 31 0, i 0, p 10 0, f, f, p 31 0, f, f, f, i 0, f, f, f, i 0, f, f, i 2, f, i 1, i 2, u [zp, i 1], i 1, p 2 1, p 1 0, u [zp,
  i 1], zp, i 1, u [zp, i 1], i 1, p 2 1, p 1 0, y, y, u [zp, i 1], zp, i 1, u [z, i 1], i 1, p 2 1, p 1 0, y, y, a [y, y], s 50 0 1 1, u [z, i 1], z, i 1,
  u [i 0, i 0, f, i 1], i 1, p 2 1, p 1 0, p 31 0, a [y, y], s 52 0 1 1, u [i 0, i 0, f, i 1], i 0, i 0, f, i 1, u [i 0, i 0, f, i 1], p 31 0, i 1, p 2 1,
  p 1 0, a [y, y], s 53 0 1 1, u [i 0, i 0, f, i 1], i 0, i 0, f, i 1, u [i 0, i 0, f, i 1], i 1, p 2 1, p 1 0, y, y, a [y, y], s 64 0 1 1, u [i 0, i 0, f,
  i 1], i 0, i 0, f, i 1, zp, f, f, zp, f, f, f, z, i 0, f, f, f, i 0, f, f, f, i 0, f, f, f, f, f, f, f, f, f, f, f, i 1, f, f, i 1, f, f, f, i 1, f, f, f,
  i 1, f, f, f, i 1, f, f, f, i 1, f, f, u [z, i 1], y, y, u [z, i 1], z, i 1, u [p 106 0, i 0], p 10 0, a [i 0, z, z, z], s 66 0 1 1, u [p 106 0, i 0], p 106 0,
  i 0, z, i 0, f, f, i 1, f, f, f, i 0, f, f, o, p 106 0, p 106 0, o, o, o, o, o, o, o, o, o, o, o, o, o, o, o, o, o, o, o, o, o, o, o, o, o, o, o, o, o, o,
  o, o, o, o, o, o, o, o, o, o, o, o, o, o, o, o, o],  [.inRegion (ops 3 3071) [2, 3, 4, 5, 6, 7, 8, 9, 10, 11, 12], .code (cd 3 4095)],  [],  .run,  .normal,
   none⟩, [], 107, [(0,  q [y, y] 24), b0, (2,  q [zp, p 1 0] 31), (3,  q [i 0] 22), (4,  q [f, f] 4), (5,  q [i 0, i 0] 3), (6,  .map [] 0), (7,  .map [] 0),
  (9,  q [i 0] 22), b1, (11,  .map [] 0), (12,  .map [] 0), (14,  q [i 0] 22), (16,  q [f, f] 4), (18,  q [i 0, i 0] 3), b2, (21,  .map [] 0), (22,  .map [] 0),
  (24,  q [i 0] 22), (26,  q [f, f] 4), (28,  q [i 0, i 0] 3), b3, b4, (50,  q [y, y] 24), (52,  q [y, y] 24), (53,  q [y, y] 24), (64,  q [y, y] 24), b5,
  (74,  .map [] 0), (75,  .map [] 0), (77,  q [i 0] 22), (79,  q [f, f] 4), (81,  q [i 0, i 0] 3), b6, (84,  .map [] 0), (85,  .map [] 0), (87,  q [i 0] 22),
  (89,  q [f, f] 4), (91,  q [i 0, i 0] 3), b7, b8, b9, b10]⟩

noncomputable def b11 : Nat × BObj := (107,  q (repl [i 0, i 0] 65537) 24)
noncomputable def S2 : CState :=
  ⟨⟨3,  [y, y, a [y, y], o, o, p 0 0, f, zp, p 2 0, p 10 0, i 0, p 31 0, i 1, i 2, zp, i 1, zp, i 1, z, i 1, i 0, i 0, f, i 1, i 0, i 0, f, i 1, i 0, i 0, f,
  i 1, z, p 106 0, o, o, o, o, o, o, o, o, o, o, zp, a [zp, zp, z, z, z], p 1 0, a [zp, p 1 0], u [p 10 0, i 0], s 3 0 1 1, u [p 10 0, i 0], p 10 0, i 0, u [p 31 0,
  i 0], p 10 0, u [p 31 0, i 0], p 31 0, i 0, p 10 0, f, f, p 31 0, f, f, f, i 0, f, f, f, i 0, f, f, i 2, f, i 1, i 2, u [zp, i 1], i 1, p 2 1, p 1 0, u [zp,
  i 1], zp, i 1, u [zp, i 1], i 1, p 2 1, p 1 0, y, y, u [zp, i 1], zp, i 1, u [z, i 1], i 1, p 2 1, p 1 0, y, y, a [y, y], s 50 0 1 1, u [z, i 1], z, i 1,
  u [i 0, i 0, f, i 1], i 1, p 2 1, p 1 0, p 31 0, a [y, y], s 52 0 1 1, u [i 0, i 0, f, i 1], i 0, i 0, f, i 1, u [i 0, i 0, f, i 1], p 31 0, i 1, p 2 1,
  p 1 0, a [y, y], s 53 0 1 1, u [i 0, i 0, f, i 1], i 0, i 0, f, i 1, u [i 0, i 0, f, i 1], i 1, p 2 1, p 1 0, y, y, a [y, y], s 64 0 1 1, u [i 0, i 0, f,
  i 1], i 0, i 0, f, i 1, zp, f, f, zp, f, f, f, z, i 0, f, f, f, i 0, f, f, f, i 0, f, f, f, f, f, f, f, f, f, f, f, i 1, f, f, i 1, f, f, f, i 1, f, f, f,
  i 1, f, f, f, i 1, f, f, f, i 1, f, f, u [z, i 1], y, y, u [z, i 1], z, i 1, u [p 106 0, i 0], p 10 0, a [i 0, z, z, z], s 66 0 1 1, u [p 106 0, i 0], p 106 0,
  i 0, z, i 0, f, f, i 1, f, f, f, i 0, f, f, o, p 106 0, p 106 0, s 107 0 65537 65537, o, o, o, o, o, o, o, o, o, o, o, o, o, o, o, o, o, o, o, o, o, o, o,
  o, o, o, o, o, o, o, o, o, o, o, o, o, o, o, o, o, o, o, o, o, o, o],  [.inRegion (ops 3 3071) [3, 4, 5, 6, 7, 8, 9, 10, 11, 12], .code (cd 3 4095)],  [],
   .run,  .normal,  none⟩, [], 108, [(0,  q [y, y] 24), b0, (2,  q [zp, p 1 0] 31), (3,  q [i 0] 22), (4,  q [f, f] 4), (5,  q [i 0, i 0] 3), (6,  .map [] 0),
  (7,  .map [] 0), (9,  q [i 0] 22), b1, (11,  .map [] 0), (12,  .map [] 0), (14,  q [i 0] 22), (16,  q [f, f] 4), (18,  q [i 0, i 0] 3), b2, (21,  .map [] 0),
  (22,  .map [] 0), (24,  q [i 0] 22), (26,  q [f, f] 4), (28,  q [i 0, i 0] 3), b3, b4, (50,  q [y, y] 24), (52,  q [y, y] 24), (53,  q [y, y] 24), (64,  q [y,
  y] 24), b5, (74,  .map [] 0), (75,  .map [] 0), (77,  q [i 0] 22), (79,  q [f, f] 4), (81,  q [i 0, i 0] 3), b6, (84,  .map [] 0), (85,  .map [] 0), (87,
   q [i 0] 22), (89,  q [f, f] 4), (91,  q [i 0, i 0] 3), b7, b8, b9, b10, b11]⟩

noncomputable def S3 : CState :=
  ⟨⟨9,  [p 106 0, p 106 0, s 107 0 65537 65537, o, o, o, o, o, o, o, o, o, o, o, o, o, o, o, o, o, o, o, o, o, o, o, o, o, o, o, o, o, o, o, o, o, o, o, o,
  o, o, o, o, o, o, o, o, o, o, o, o, o, o, o, o, o, o, o, o, o, o, o, o, o, o, o, o, o],  [.code (cd 9 1)],  [],  .run,  .normal,  none⟩, [⟨3,  [y, y, a [y,
  y], o, o, p 0 0, f, zp, p 2 0, p 10 0, i 0, p 31 0, i 1, i 2, zp, i 1, zp, i 1, z, i 1, i 0, i 0, f, i 1, i 0, i 0, f, i 1, i 0, i 0, f, i 1, z, p 106 0,
  o, o, o, o, o, o, o, o, o, o, zp, a [zp, zp, z, z, z], p 1 0, a [zp, p 1 0], u [p 10 0, i 0], s 3 0 1 1, u [p 10 0, i 0], p 10 0, i 0, u [p 31 0, i 0], p 10 0,
  u [p 31 0, i 0], p 31 0, i 0, p 10 0, f, f, p 31 0, f, f, f, i 0, f, f, f, i 0, f, f, i 2, f, i 1, i 2, u [zp, i 1], i 1, p 2 1, p 1 0, u [zp, i 1], zp,
  i 1, u [zp, i 1], i 1, p 2 1, p 1 0, y, y, u [zp, i 1], zp, i 1, u [z, i 1], i 1, p 2 1, p 1 0, y, y, a [y, y], s 50 0 1 1, u [z, i 1], z, i 1, u [i 0, i 0,
  f, i 1], i 1, p 2 1, p 1 0, p 31 0, a [y, y], s 52 0 1 1, u [i 0, i 0, f, i 1], i 0, i 0, f, i 1, u [i 0, i 0, f, i 1], p 31 0, i 1, p 2 1, p 1 0, a [y,
  y], s 53 0 1 1, u [i 0, i 0, f, i 1], i 0, i 0, f, i 1, u [i 0, i 0, f, i 1], i 1, p 2 1, p 1 0, y, y, a [y, y], s 64 0 1 1, u [i 0, i 0, f, i 1], i 0, i 0,
  f, i 1, zp, f, f, zp, f, f, f, z, i 0, f, f, f, i 0, f, f, f, i 0, f, f, f, f, f, f, f, f, f, f, f, i 1, f, f, i 1, f, f, f, i 1, f, f, f, i 1, f, f, f,
  i 1, f, f, f, i 1, f, f, u [z, i 1], y, y, u [z, i 1], z, i 1, u [p 106 0, i 0], p 10 0, a [i 0, z, z, z], s 66 0 1 1, u [p 106 0, i 0], p 106 0, i 0, z,
  i 0, f, f, i 1, f, f, f, i 0, f, f, o, p 106 0, p 106 0, s 107 0 65537 65537, o, o, o, o, o, o, o, o, o, o, o, o, o, o, o, o, o, o, o, o, o, o, o, o, o,
  o, o, o, o, o, o, o, o, o, o, o, o, o, o, o, o, o, o, o, o, o],  [.inRegion (ops 3 3071) [3, 4, 5, 6, 7, 8, 9, 10, 11, 12], .code (cd 3 4095)],  [],  .run,
   .normal,  none⟩], 108, [(0,  q [y, y] 24), b0, (2,  q [zp, p 1 0] 31), (3,  q [i 0] 22), (4,  q [f, f] 4), (5,  q [i 0, i 0] 3), (6,  .map [] 0), (7,  .map [] 0),
  (9,  q [i 0] 22), b1, (11,  .map [] 0), (12,  .map [] 0), (14,  q [i 0] 22), (16,  q [f, f] 4), (18,  q [i 0, i 0] 3), b2, (21,  .map [] 0), (22,  .map [] 0),
  (24,  q [i 0] 22), (26,  q [f, f] 4), (28,  q [i 0, i 0] 3), b3, b4, (50,  q [y, y] 24), (52,  q [y, y] 24), (53,  q [y, y] 24), (64,  q [y, y] 24), b5,
  (74,  .map [] 0), (75,  .map [] 0), (77,  q [i 0] 22), (79,  q [f, f] 4), (81,  q [i 0, i 0] 3), b6, (84,  .map [] 0), (85,  .map [] 0), (87,  q [i 0] 22),
  (89,  q [f, f] 4), (91,  q [i 0, i 0] 3), b7, b8, b9, b10, b11]⟩

noncomputable def S4 : CState :=
  ⟨⟨3,  [y, y, a [y, y], o, o, p 0 0, f, zp, p 2 0, p 10 0, i 0, p 31 0, i 1, i 2, zp, i 1, zp, i 1, z, i 1, i 0, i 0, f, i 1, i 0, i 0, f, i 1, i 0, i 0, f,
  i 1, z, p 106 0, o, o, o, o, o, o, o, o, o, o, zp, a [zp, zp, z, z, z], p 1 0, a [zp, p 1 0], u [p 10 0, i 0], s 3 0 1 1, u [p 10 0, i 0], p 10 0, i 0, u [p 31 0,
  i 0], p 10 0, u [p 31 0, i 0], p 31 0, i 0, p 10 0, f, f, p 31 0, f, f, f, i 0, f, f, f, i 0, f, f, i 2, f, i 1, i 2, u [zp, i 1], i 1, p 2 1, p 1 0, u [zp,
  i 1], zp, i 1, u [zp, i 1], i 1, p 2 1, p 1 0, y, y, u [zp, i 1], zp, i 1, u [z, i 1], i 1, p 2 1, p 1 0, y, y, a [y, y], s 50 0 1 1, u [z, i 1], z, i 1,
  u [i 0, i 0, f, i 1], i 1, p 2 1, p 1 0, p 31 0, a [y, y], s 52 0 1 1, u [i 0, i 0, f, i 1], i 0, i 0, f, i 1, u [i 0, i 0, f, i 1], p 31 0, i 1, p 2 1,
  p 1 0, a [y, y], s 53 0 1 1, u [i 0, i 0, f, i 1], i 0, i 0, f, i 1, u [i 0, i 0, f, i 1], i 1, p 2 1, p 1 0, y, y, a [y, y], s 64 0 1 1, u [i 0, i 0, f,
  i 1], i 0, i 0, f, i 1, zp, f, f, zp, f, f, f, z, i 0, f, f, f, i 0, f, f, f, i 0, f, f, f, f, f, f, f, f, f, f, f, i 1, f, f, i 1, f, f, f, i 1, f, f, f,
  i 1, f, f, f, i 1, f, f, f, i 1, f, f, u [z, i 1], y, y, u [z, i 1], z, i 1, u [p 106 0, i 0], p 10 0, a [i 0, z, z, z], s 66 0 1 1, u [p 106 0, i 0], p 106 0,
  i 0, z, i 0, f, f, i 1, f, f, f, i 0, f, f, o, p 106 0, p 106 0, s 107 0 65537 65537, u [i 0, i 0, f, i 4], o, o, o, o, o, o, o, o, o, o, o, o, o, o, o,
  o, o, o, o, o, o, o, o, o, o, o, o, o, o, o, o, o, o, o, o, o, o, o, o, o, o, o, o, o, o],  [.inRegion (ops 3 3071) [4, 5, 6, 7, 8, 9, 10, 11, 12], .code (cd 3 4095)],
   [],  .run,  .normal,  none⟩, [], 1108, [(0,  q [y, y] 24), b0, (2,  q [zp, p 1 0] 31), (3,  q [i 0] 22), (4,  q [f, f] 4), (5,  q [i 0, i 0] 3), (6,  .map [] 0),
  (7,  .map [] 0), (9,  q [i 0] 22), b1, (11,  .map [] 0), (12,  .map [] 0), (14,  q [i 0] 22), (16,  q [f, f] 4), (18,  q [i 0, i 0] 3), b2, (21,  .map [] 0),
  (22,  .map [] 0), (24,  q [i 0] 22), (26,  q [f, f] 4), (28,  q [i 0, i 0] 3), b3, b4, (50,  q [y, y] 24), (52,  q [y, y] 24), (53,  q [y, y] 24), (64,  q [y,
  y] 24), b5, (74,  .map [] 0), (75,  .map [] 0), (77,  q [i 0] 22), (79,  q [f, f] 4), (81,  q [i 0, i 0] 3), b6, (84,  .map [] 0), (85,  .map [] 0), (87,
   q [i 0] 22), (89,  q [f, f] 4), (91,  q [i 0, i 0] 3), b7, b8, b9, b10, b11]⟩

noncomputable def S5 : CState :=
  ⟨⟨3,  [y, y, a [y, y], o, o, p 0 0, f, zp, p 2 0, p 10 0, i 0, p 31 0, i 4, i 2, zp, i 1, zp, i 1, z, i 1, i 0, i 0, f, i 1, i 0, i 0, f, i 1, i 0, i 0, f,
  i 1, z, p 106 0, i 0, i 0, f, o, o, o, o, o, o, o, zp, a [zp, zp, z, z, z], p 1 0, a [zp, p 1 0], u [p 10 0, i 0], s 3 0 1 1, u [p 10 0, i 0], p 10 0, i 0,
  u [p 31 0, i 0], p 10 0, u [p 31 0, i 0], p 31 0, i 0, p 10 0, f, f, p 31 0, f, f, f, i 0, f, f, f, i 0, f, f, i 2, f, i 1, i 2, u [zp, i 1], i 1, p 2 1,
  p 1 0, u [zp, i 1], zp, i 1, u [zp, i 1], i 1, p 2 1, p 1 0, y, y, u [zp, i 1], zp, i 1, u [z, i 1], i 1, p 2 1, p 1 0, y, y, a [y, y], s 50 0 1 1, u [z,
  i 1], z, i 1, u [i 0, i 0, f, i 1], i 1, p 2 1, p 1 0, p 31 0, a [y, y], s 52 0 1 1, u [i 0, i 0, f, i 1], i 0, i 0, f, i 1, u [i 0, i 0, f, i 1], p 31 0,
  i 1, p 2 1, p 1 0, a [y, y], s 53 0 1 1, u [i 0, i 0, f, i 1], i 0, i 0, f, i 1, u [i 0, i 0, f, i 1], i 1, p 2 1, p 1 0, y, y, a [y, y], s 64 0 1 1, u [i 0,
  i 0, f, i 1], i 0, i 0, f, i 1, zp, f, f, zp, f, f, f, z, i 0, f, f, f, i 0, f, f, f, i 0, f, f, f, f, f, f, f, f, f, f, f, i 1, f, f, i 1, f, f, f, i 1,
  f, f, f, i 1, f, f, f, i 1, f, f, f, i 1, f, f, u [z, i 1], y, y, u [z, i 1], z, i 1, u [p 106 0, i 0], p 10 0, a [i 0, z, z, z], s 66 0 1 1, u [p 106 0,
  i 0], p 106 0, i 0, z, i 0, f, f, i 1, f, f, f, i 0, f, f, u [i 0, i 0, f, i 4], p 106 0, p 106 0, s 107 0 65537 65537, u [i 0, i 0, f, i 4], i 0, i 0, f,
  i 4, o, p 106 0, o, o, o, o, o, o, o, o, o, o, o, o, o, o, o, o, o, o, o, o, o, o, o, o, o, o, o, o, o, o, o, o, o, o, o, o, o, o, o],  [.inRegion (ops 3 6143) [1,
  2, 3, 4, 5, 6, 7, 8, 9, 10, 11], .code (cd 3 8191)],  [],  .run,  .normal,  none⟩, [], 1108, [(0,  q [y, y] 24), b0, (2,  q [zp, p 1 0] 31), (3,  q [i 0] 22),
  (4,  q [f, f] 4), (5,  q [i 0, i 0] 3), (6,  .map [] 0), (7,  .map [] 0), (9,  q [i 0] 22), b1, (11,  .map [] 0), (12,  .map [] 0), (14,  q [i 0] 22), (16,
   q [f, f] 4), (18,  q [i 0, i 0] 3), b2, (21,  .map [] 0), (22,  .map [] 0), (24,  q [i 0] 22), (26,  q [f, f] 4), (28,  q [i 0, i 0] 3), b3, b4, (50,  q [y,
  y] 24), (52,  q [y, y] 24), (53,  q [y, y] 24), (64,  q [y, y] 24), b5, (74,  .map [] 0), (75,  .map [] 0), (77,  q [i 0] 22), (79,  q [f, f] 4), (81,  q [i 0,
  i 0] 3), b6, (84,  .map [] 0), (85,  .map [] 0), (87,  q [i 0] 22), (89,  q [f, f] 4), (91,  q [i 0, i 0] 3), b7, b8, b9, b10, b11]⟩

noncomputable def b12 : Nat × BObj := (1108,  q (repl [i 0, i 0] 65537) 24)
noncomputable def S6 : CState :=
  ⟨⟨3,  [y, y, a [y, y], o, o, p 0 0, f, zp, p 2 0, p 10 0, i 0, p 31 0, i 4, i 2, zp, i 1, zp, i 1, z, i 1, i 0, i 0, f, i 1, i 0, i 0, f, i 1, i 0, i 0, f,
  i 1, z, p 106 0, i 0, i 0, f, o, o, o, o, o, o, o, zp, a [zp, zp, z, z, z], p 1 0, a [zp, p 1 0], u [p 10 0, i 0], s 3 0 1 1, u [p 10 0, i 0], p 10 0, i 0,
  u [p 31 0, i 0], p 10 0, u [p 31 0, i 0], p 31 0, i 0, p 10 0, f, f, p 31 0, f, f, f, i 0, f, f, f, i 0, f, f, i 2, f, i 1, i 2, u [zp, i 1], i 1, p 2 1,
  p 1 0, u [zp, i 1], zp, i 1, u [zp, i 1], i 1, p 2 1, p 1 0, y, y, u [zp, i 1], zp, i 1, u [z, i 1], i 1, p 2 1, p 1 0, y, y, a [y, y], s 50 0 1 1, u [z,
  i 1], z, i 1, u [i 0, i 0, f, i 1], i 1, p 2 1, p 1 0, p 31 0, a [y, y], s 52 0 1 1, u [i 0, i 0, f, i 1], i 0, i 0, f, i 1, u [i 0, i 0, f, i 1], p 31 0,
  i 1, p 2 1, p 1 0, a [y, y], s 53 0 1 1, u [i 0, i 0, f, i 1], i 0, i 0, f, i 1, u [i 0, i 0, f, i 1], i 1, p 2 1, p 1 0, y, y, a [y, y], s 64 0 1 1, u [i 0,
  i 0, f, i 1], i 0, i 0, f, i 1, zp, f, f, zp, f, f, f, z, i 0, f, f, f, i 0, f, f, f, i 0, f, f, f, f, f, f, f, f, f, f, f, i 1, f, f, i 1, f, f, f, i 1,
  f, f, f, i 1, f, f, f, i 1, f, f, f, i 1, f, f, u [z, i 1], y, y, u [z, i 1], z, i 1, u [p 106 0, i 0], p 10 0, a [i 0, z, z, z], s 66 0 1 1, u [p 106 0,
  i 0], p 106 0, i 0, z, i 0, f, f, i 1, f, f, f, i 0, f, f, u [i 0, i 0, f, i 4], p 106 0, p 106 0, s 107 0 65537 65537, u [i 0, i 0, f, i 4], i 0, i 0, f,
  i 4, o, p 106 0, s 1108 0 65537 65537, o, o, o, o, o, o, o, o, o, o, o, o, o, o, o, o, o, o, o, o, o, o, o, o, o, o, o, o, o, o, o, o, o, o, o, o, o, o],
   [.inRegion (ops 3 6143) [2, 3, 4, 5, 6, 7, 8, 9, 10, 11], .code (cd 3 8191)],  [],  .run,  .normal,  none⟩, [], 1109, [(0,  q [y, y] 24), b0, (2,  q [zp,
  p 1 0] 31), (3,  q [i 0] 22), (4,  q [f, f] 4), (5,  q [i 0, i 0] 3), (6,  .map [] 0), (7,  .map [] 0), (9,  q [i 0] 22), b1, (11,  .map [] 0), (12,  .map [] 0),
  (14,  q [i 0] 22), (16,  q [f, f] 4), (18,  q [i 0, i 0] 3), b2, (21,  .map [] 0), (22,  .map [] 0), (24,  q [i 0] 22), (26,  q [f, f] 4), (28,  q [i 0,
  i 0] 3), b3, b4, (50,  q [y, y] 24), (52,  q [y, y] 24), (53,  q [y, y] 24), (64,  q [y, y] 24), b5, (74,  .map [] 0), (75,  .map [] 0), (77,  q [i 0] 22),
  (79,  q [f, f] 4), (81,  q [i 0, i 0] 3), b6, (84,  .map [] 0), (85,  .map [] 0), (87,  q [i 0] 22), (89,  q [f, f] 4), (91,  q [i 0, i 0] 3), b7, b8, b9,
  b10, b11, b12]⟩

noncomputable def S7 : CState :=
  ⟨⟨10,  [p 106 0, i 1, i 0, s 1108 0 65537 65537, o, o, o, o, o, o, o, o, o, o, o, o, o, o, o, o, o, o, o, o, o, o, o, o, o, o, o, o, o, o, o, o, o, o, o,
  o, o, o, o, o, o, o, o, o, o, o, o, o, o, o, o, o, o, o, o, o, o, o, o, o, o, o, o, o, o],  [.code (cd 10 1)],  [],  .run,  .normal,  none⟩, [⟨3,  [y, y,
  a [y, y], o, o, p 0 0, f, zp, p 2 0, p 10 0, i 0, p 31 0, i 4, i 2, zp, i 1, zp, i 1, z, i 1, i 0, i 0, f, i 1, i 0, i 0, f, i 1, i 0, i 0, f, i 1, z, p 106 0,
  i 0, i 0, f, o, o, o, o, o, o, o, zp, a [zp, zp, z, z, z], p 1 0, a [zp, p 1 0], u [p 10 0, i 0], s 3 0 1 1, u [p 10 0, i 0], p 10 0, i 0, u [p 31 0, i 0],
  p 10 0, u [p 31 0, i 0], p 31 0, i 0, p 10 0, f, f, p 31 0, f, f, f, i 0, f, f, f, i 0, f, f, i 2, f, i 1, i 2, u [zp, i 1], i 1, p 2 1, p 1 0, u [zp, i 1],
  zp, i 1, u [zp, i 1], i 1, p 2 1, p 1 0, y, y, u [zp, i 1], zp, i 1, u [z, i 1], i 1, p 2 1, p 1 0, y, y, a [y, y], s 50 0 1 1, u [z, i 1], z, i 1, u [i 0,
  i 0, f, i 1], i 1, p 2 1, p 1 0, p 31 0, a [y, y], s 52 0 1 1, u [i 0, i 0, f, i 1], i 0, i 0, f, i 1, u [i 0, i 0, f, i 1], p 31 0, i 1, p 2 1, p 1 0, a [y,
  y], s 53 0 1 1, u [i 0, i 0, f, i 1], i 0, i 0, f, i 1, u [i 0, i 0, f, i 1], i 1, p 2 1, p 1 0, y, y, a [y, y], s 64 0 1 1, u [i 0, i 0, f, i 1], i 0, i 0,
  f, i 1, zp, f, f, zp, f, f, f, z, i 0, f, f, f, i 0, f, f, f, i 0, f, f, f, f, f, f, f, f, f, f, f, i 1, f, f, i 1, f, f, f, i 1, f, f, f, i 1, f, f, f,
  i 1, f, f, f, i 1, f, f, u [z, i 1], y, y, u [z, i 1], z, i 1, u [p 106 0, i 0], p 10 0, a [i 0, z, z, z], s 66 0 1 1, u [p 106 0, i 0], p 106 0, i 0, z,
  i 0, f, f, i 1, f, f, f, i 0, f, f, u [i 0, i 0, f, i 4], p 106 0, p 106 0, s 107 0 65537 65537, u [i 0, i 0, f, i 4], i 0, i 0, f, i 4, o, p 106 0, s 1108 0 65537 65537,
  o, o, o, o, o, o, o, o, o, o, o, o, o, o, o, o, o, o, o, o, o, o, o, o, o, o, o, o, o, o, o, o, o, o, o, o, o, o],  [.inRegion (ops 3 6143) [2, 3, 4, 5,
  6, 7, 8, 9, 10, 11], .code (cd 3 8191)],  [],  .run,  .normal,  none⟩], 1109, [(0,  q [y, y] 24), b0, (2,  q [zp, p 1 0] 31), (3,  q [i 0] 22), (4,  q [f,
  f] 4), (5,  q [i 0, i 0] 3), (6,  .map [] 0), (7,  .map [] 0), (9,  q [i 0] 22), b1, (11,  .map [] 0), (12,  .map [] 0), (14,  q [i 0] 22), (16,  q [f, f] 4),
  (18,  q [i 0, i 0] 3), b2, (21,  .map [] 0), (22,  .map [] 0), (24,  q [i 0] 22), (26,  q [f, f] 4), (28,  q [i 0, i 0] 3), b3, b4, (50,  q [y, y] 24), (52,
   q [y, y] 24), (53,  q [y, y] 24), (64,  q [y, y] 24), b5, (74,  .map [] 0), (75,  .map [] 0), (77,  q [i 0] 22), (79,  q [f, f] 4), (81,  q [i 0, i 0] 3),
  b6, (84,  .map [] 0), (85,  .map [] 0), (87,  q [i 0] 22), (89,  q [f, f] 4), (91,  q [i 0, i 0] 3), b7, b8, b9, b10, b11, b12]⟩

noncomputable def S8 : CState :=
  ⟨⟨3,  [y, y, a [y, y], o, o, p 0 0, f, zp, p 2 0, p 10 0, i 0, p 31 0, i 4, i 2, zp, i 1, zp, i 1, z, i 1, i 0, i 0, f, i 1, i 0, i 0, f, i 1, i 0, i 0, f,
  i 1, z, p 106 0, i 0, i 0, f, o, o, o, o, o, o, o, zp, a [zp, zp, z, z, z], p 1 0, a [zp, p 1 0], u [p 10 0, i 0], s 3 0 1 1, u [p 10 0, i 0], p 10 0, i 0,
  u [p 31 0, i 0], p 10 0, u [p 31 0, i 0], p 31 0, i 0, p 10 0, f, f, p 31 0, f, f, f, i 0, f, f, f, i 0, f, f, i 2, f, i 1, i 2, u [zp, i 1], i 1, p 2 1,
  p 1 0, u [zp, i 1], zp, i 1, u [zp, i 1], i 1, p 2 1, p 1 0, y, y, u [zp, i 1], zp, i 1, u [z, i 1], i 1, p 2 1, p 1 0, y, y, a [y, y], s 50 0 1 1, u [z,
  i 1], z, i 1, u [i 0, i 0, f, i 1], i 1, p 2 1, p 1 0, p 31 0, a [y, y], s 52 0 1 1, u [i 0, i 0, f, i 1], i 0, i 0, f, i 1, u [i 0, i 0, f, i 1], p 31 0,
  i 1, p 2 1, p 1 0, a [y, y], s 53 0 1 1, u [i 0, i 0, f, i 1], i 0, i 0, f, i 1, u [i 0, i 0, f, i 1], i 1, p 2 1, p 1 0, y, y, a [y, y], s 64 0 1 1, u [i 0,
  i 0, f, i 1], i 0, i 0, f, i 1, zp, f, f, zp, f, f, f, z, i 0, f, f, f, i 0, f, f, f, i 0, f, f, f, f, f, f, f, f, f, f, f, i 1, f, f, i 1, f, f, f, i 1,
  f, f, f, i 1, f, f, f, i 1, f, f, f, i 1, f, f, u [z, i 1], y, y, u [z, i 1], z, i 1, u [p 106 0, i 0], p 10 0, a [i 0, z, z, z], s 66 0 1 1, u [p 106 0,
  i 0], p 106 0, i 0, z, i 0, f, f, i 1, f, f, f, i 0, f, f, u [i 0, i 0, f, i 4], p 106 0, p 106 0, s 107 0 65537 65537, u [i 0, i 0, f, i 4], i 0, i 0, f,
  i 4, o, p 106 0, s 1108 0 65537 65537, u [i 0, i 0, f, i 4], o, o, o, o, o, o, o, o, o, o, o, o, o, o, o, o, o, o, o, o, o, o, o, o, o, o, o, o, o, o, o,
  o, o, o, o, o, o],  [.inRegion (ops 3 6143) [3, 4, 5, 6, 7, 8, 9, 10, 11], .code (cd 3 8191)],  [],  .run,  .normal,  none⟩, [], 2109, [(0,  q [y, y] 24),
  b0, (2,  q [zp, p 1 0] 31), (3,  q [i 0] 22), (4,  q [f, f] 4), (5,  q [i 0, i 0] 3), (6,  .map [] 0), (7,  .map [] 0), (9,  q [i 0] 22), b1, (11,  .map [] 0),
  (12,  .map [] 0), (14,  q [i 0] 22), (16,  q [f, f] 4), (18,  q [i 0, i 0] 3), b2, (21,  .map [] 0), (22,  .map [] 0), (24,  q [i 0] 22), (26,  q [f, f] 4),
  (28,  q [i 0, i 0] 3), b3, b4, (50,  q [y, y] 24), (52,  q [y, y] 24), (53,  q [y, y] 24), (64,  q [y, y] 24), b5, (74,  .map [] 0), (75,  .map [] 0), (77,
   q [i 0] 22), (79,  q [f, f] 4), (81,  q [i 0, i 0] 3), b6, (84,  .map [] 0), (85,  .map [] 0), (87,  q [i 0] 22), (89,  q [f, f] 4), (91,  q [i 0, i 0] 3),
  b7, b8, b9, b10, b11, b12]⟩

noncomputable def u13 : BFrame := ⟨3,  [y, y, a [y, y], o, o, p 0 0, f, zp, p 2 0, p 10 0, i 4, p 31 0, i 4, i 2, zp, i 1, zp, i 1, z, i 1, i 0, i 0, f, i 1, i 0, i 0, f, i 1, i 0, i 0, f,
  i 1, z, p 106 0, i 0, i 0, f, i 0, i 0, f, i 0, i 0, f, i 2, zp, a [zp, zp, z, z, z], p 1 0, a [zp, p 1 0], u [p 10 0, i 0], s 3 0 1 1, u [p 10 0, i 0],
  p 10 0, i 0, u [p 31 0, i 0], p 10 0, u [p 31 0, i 0], p 31 0, i 0, p 10 0, f, f, p 31 0, f, f, f, i 0, f, f, f, i 0, f, f, i 2, f, i 1, i 2, u [zp, i 1],
  i 1, p 2 1, p 1 0, u [zp, i 1], zp, i 1, u [zp, i 1], i 1, p 2 1, p 1 0, y, y, u [zp, i 1], zp, i 1, u [z, i 1], i 1, p 2 1, p 1 0, y, y, a [y, y], s 50 0 1 1,
  u [z, i 1], z, i 1, u [i 0, i 0, f, i 1], i 1, p 2 1, p 1 0, p 31 0, a [y, y], s 52 0 1 1, u [i 0, i 0, f, i 1], i 0, i 0, f, i 1, u [i 0, i 0, f, i 1],
  p 31 0, i 1, p 2 1, p 1 0, a [y, y], s 53 0 1 1, u [i 0, i 0, f, i 1], i 0, i 0, f, i 1, u [i 0, i 0, f, i 1], i 1, p 2 1, p 1 0, y, y, a [y, y], s 64 0 1 1,
  u [i 0, i 0, f, i 1], i 0, i 0, f, i 1, zp, f, f, zp, f, f, f, z, i 0, f, f, f, i 0, f, f, f, i 0, f, f, f, f, f, f, f, f, f, f, f, i 1, f, f, i 1, f, f,
  f, i 1, f, f, f, i 1, f, f, f, i 1, f, f, f, i 1, f, f, u [z, i 1], y, y, u [z, i 1], z, i 1, u [p 106 0, i 0], p 10 0, a [i 0, z, z, z], s 66 0 1 1, u [p 106 0,
  i 0], p 106 0, i 0, z, i 0, f, f, i 1, f, f, f, i 0, f, f, u [i 0, i 0, f, i 4], p 106 0, p 106 0, s 107 0 65537 65537, u [i 0, i 0, f, i 4], i 0, i 0, f,
  i 4, u [i 0, i 0, f, i 4], p 106 0, s 1108 0 65537 65537, u [i 0, i 0, f, i 4], i 0, i 0, f, i 4, u [i 0, i 0, f, i 2], p 106 0, p 31 0, u [i 0, i 0, f,
  i 2], i 0, i 0, f, i 2, f, t, t, f, t, t, t, f, t, t, t, i 4, t, t, t, i 4, t, t, t, i 2, t, t, t, o, o],  [.inRegion (ops 3 24575) [23, 24, 25], .code (cd 3 863)],
   [],  .run,  .normal,  none⟩
noncomputable def b14 : Nat × BObj := (2138,  .map [⟨i 1,  p 2194 0,  0⟩] 1)
noncomputable def b15 : Nat × BObj := (2142,  q [n 2141 0 1, s 2136 0 2 2, m 2138, m 2139, i 1, s 2137 0 2 2] 62)
noncomputable def b16 : Nat × BObj := (2194,  q [c 2, i 1, c 0, i 0, x [], z, i 0, z, i 0, i 0, i 0, i 0, c 0, f, z, z] 80)
noncomputable def b17 : Nat × BObj := (2195,  q [x [108], c 4, i 0, x [], z, i 1] 101)
noncomputable def b18 : Nat × BObj := (2196,  q [c 2, x [120], x [], c 1, c 0, c 4, i 0, x [108], z, c 0, i 0, x [], z, z, z, z, z] 109)
noncomputable def b19 : Nat × BObj := (2199,  q [i 0, s 2196 0 1 1, s 2195 0 1 1, s 2197 0 1 1, i 1, s 2196 0 1 1, s 2195 0 1 1, s 2198 0 1 1] 52)
noncomputable def b20 : Nat × BObj := (2300,  .map [⟨i 1,  p 2324 0,  0⟩] 1)
noncomputable def b21 : Nat × BObj := (2308,  q [n 2303 0 1, n 2305 0 2, m 2300, m 2301, i 1, n 2307 0 2] 62)
noncomputable def b22 : Nat × BObj := (2324,  q [c 2, i 1, c 0, i 0, x [], z, i 0, z, i 0, i 0, i 0, i 0, c 0, f, z, z] 80)
noncomputable def b23 : Nat × BObj := (2333,  q [n 2328 0 1, n 2330 0 2, m 2325, m 2326, i 1, n 2332 0 2] 62)
noncomputable def S9 : CState :=
  ⟨⟨152,  [p 2343 0, a [c 0, i 0, x [], z, i 0], o, p 2344 0, f, o, o, o, p 2343 0, p 2343 0, p 2343 0, i 512, f, o, o, o, o, o, o, o, o, o, o, o, o, o, o,
  o, o, o, o, o, o, o, o, o, o, o, o, o, o, o, o, o, o, o, o, o, o, o, o, o, o, o, o, o, o, o, o, o, o, o, o, o, o, o, o, o, o, o, o, o, o, o, o, o, o, o,
  o, o, o, o, o, o, o, o, o, o, o, o, o, o, o, o, o, o, o, o, o, o, o, o, o, o],  [.inRegion (ops 152 9) [], .code (cd 152 13), .code (cd 152 7)],  [],  .run,
   .normal,  none⟩, [⟨114,  [a [c 0, i 0, x [], z, i 0], p 2342 0, i 0, p 2343 0, a [i 512, i 16], p 2343 0, p 2343 0, a [c 0, i 0, x [], z, i 0], o, o, o,
  o, o, o, o],  [.inRegion (ops 114 19) [2, 3], .code (cd 114 27), .code (cd 114 15)],  [],  .run,  .normal,  none⟩, ⟨76,  [a [c 0, i 0, x [], z, i 0], p 2341 0,
  f, a [c 0, i 0, x [], z, i 0], o, o],  [.inRegion (ops 76 5) [1, 2, 3], .code (cd 76 7)],  [],  .run,  .normal,  none⟩, ⟨116,  [a [c 0, i 0, x [], z, i 0],
  p 2339 0, p 2340 0, i 0, a [c 0, i 0, x [], z, i 0], o, o, o, o, o],  [.inRegion (ops 116 9) [1, 2], .code (cd 116 13), .code (cd 116 7)],  [],  .run,  .normal,
   none⟩, ⟨80,  [a [c 0, i 0, x [], z, i 0], p 2337 0, p 2338 0, o, o, o, a [c 0, i 0, x [], z, i 0], o, o, o, o],  [.inRegion (ops 80 5) [1, 2, 3, 4, 5, 6,
  7], .code (cd 80 7)],  [],  .run,  .normal,  none⟩, ⟨48,  [a [c 2, i 1, c 0, i 0, x [], z, i 0, z, i 0, i 0, i 0, i 0, c 0, f, z, z], p 2335 0, p 2336 0,
  o, o, o, o, p 2335 2, a [c 0, i 0, x [], z, i 0], o, o, o, o, o, o, o, o, o, o, o, o, o, o, o, o, o, o, o, o, o, o, o, o, o, o, o, o, o, o, o, o, o, o, o,
  o, o, o, o, o, o, o, o, o, o, o, o],  [.inRegion (ops 48 5) [2, 3, 4], .code (cd 48 7)],  [],  .run,  .normal,  none⟩, ⟨16,  [p 2142 0, o, zp, p 2333 0,
  i 1, p 2194 0, o, p 2142 0, f, p 2142 0, p 2142 0, p 2142 0, n 2141 0 1, n 2328 0 1, p 2142 0, p 2142 0, p 2142 1, s 2136 0 2 2, n 2330 0 2, p 2142 0, p 2142 0,
  p 2142 5, s 2137 0 2 2, n 2332 0 2, p 2142 0, p 2142 0, p 2142 4, i 1, m 2325, m 2326, a [n 2328 0 1, n 2330 0 2, m 2325, m 2326, i 1, n 2332 0 2], p 2333 0,
  p 2142 0, p 2142 0, p 2142 2, m 2138, p 2334 0, u [t, i 1, p 2194 0], t, u [i 1, p 2194 0], i 1, p 2194 0, p 2194 0, p 2194 0, a [c 2, i 1, c 0, i 0, x [],
  z, i 0, z, i 0, i 0, i 0, i 0, c 0, f, z, z], o, o, o, o, o, o, o, o, o, o],  [.inRegion (ops 16 5527) [3, 4, 5], .code (cd 16 7575), .inBlock 1, .inLoop (cd 16 151),
  .inBlock 0, .code (cd 16 31)],  [],  .run,  .normal,  none⟩, ⟨5,  [p 2142 0, s 2199 0 2 2, o, o, zp, i 0, o, p 2250 0, i 0, p 2142 0, f, f, p 2142 0, i 2,
  f, f, s 2199 0 2 2, i 2, f, s 2199 0 2 2, i 2, i 2, f, p 2199 4, a [i 1, s 2196 0 1 1, s 2195 0 1 1, s 2198 0 1 1], p 2142 0, a [i 1, s 2196 0 1 1, s 2195 0 1 1,
  s 2198 0 1 1], i 0, i 0, f, o, i 2, p 2142 0, p 2308 0, p 2142 0, o, o, o, o, o, o, o],  [.inRegion (ops 5 47) [3, 4, 5, 6, 7, 8, 9, 10, 11], .code (cd 5 53)],
   [],  .run,  .normal,  none⟩, ⟨12,  [f, p 2142 0, i 0, s 2195 0 1 1, s 2196 0 1 1, o, o, o, o, o, o, o, o, o, o, o, o, o, o, o, o, o, u [p 2142 0, i 0],
  s 2135 0 1 1, u [p 2142 0, i 0], p 2142 0, i 0, p 2142 0, f, f, i 0, f, f, p 2142 0, a [c 2, i 1, c 0, i 0, x [], z, i 0, z, i 0, i 0, i 0, i 0, c 0, f,
  z, z], u [i 1, i 0], a [c 4, i 0, x [], z, i 1], a [x [108], c 4, i 0, x [], z, i 1], s 2195 0 1 1, a [c 4, i 0, x [108], z], a [c 2, x [120], x [], c 1,
  c 0, c 4, i 0, x [108], z, c 0, i 0, x [], z, z, z, z, z], s 2196 0 1 1, o, p 2142 0, s 2196 0 1 1, s 2195 0 1 1, s 2197 0 1 1, a [i 0, s 2196 0 1 1, s 2195 0 1 1,
  s 2197 0 1 1], s 2196 0 1 1, s 2195 0 1 1, s 2198 0 1 1, a [i 1, s 2196 0 1 1, s 2195 0 1 1, s 2198 0 1 1], s 2199 0 2 2, o, o, o, o, o, o, o, o, o, o, o,
  o, o, o, o, o, o, o, o, o, o, o, o, o, o, o, o, o, o, o, o, o, o, o, o, o, o, o, o, o, o, o, o, o, o, o, o, o, o, o, o, o, o, o, o, o, o, o, o, o, o, o,
  o, o, o, o, o, o, o, o, o, o, o, o, o, o, o, o, o, o, o, o, o, o, o, o, o, o, o, o, o, o],  [.inRegion (ops 12 191) [10, 11, 12, 13, 14, 15], .code (cd 12 255)],
   [],  .run,  .normal,  none⟩, u13], 2345, [(0,  q [y, y] 24), b0, (2,  q [zp, p 1 0] 31), (3,  q [i 0] 22), (4,  q [f, f] 4), (5,  q [i 0, i 0] 3), (6,  .map [] 0),
  (7,  .map [] 0), (9,  q [i 0] 22), b1, (11,  .map [] 0), (12,  .map [] 0), (14,  q [i 0] 22), (16,  q [f, f] 4), (18,  q [i 0, i 0] 3), b2, (21,  .map [] 0),
  (22,  .map [] 0), (24,  q [i 0] 22), (26,  q [f, f] 4), (28,  q [i 0, i 0] 3), b3, b4, (50,  q [y, y] 24), (52,  q [y, y] 24), (53,  q [y, y] 24), (64,  q [y,
  y] 24), b5, (74,  .map [] 0), (75,  .map [] 0), (77,  q [i 0] 22), (79,  q [f, f] 4), (81,  q [i 0, i 0] 3), b6, (84,  .map [] 0), (85,  .map [] 0), (87,
   q [i 0] 22), (89,  q [f, f] 4), (91,  q [i 0, i 0] 3), b7, b8, b9, b10, b11, b12, (2135,  q [i 0] 22), (2136,  q [f, f] 4), (2137,  q [i 0, i 1] 3), b14,
  (2139,  .map [] 0), (2141,  q [i 0] 22), b15, b16, b17, b18, (2197,  q [i 1] 60), (2198,  q [i 1] 60), b19, (2250,  q [i 1, s 2196 0 1 1, s 2195 0 1 1, s 2198 0 1 1] 52),
  b20, (2301,  .map [] 0), (2303,  q [i 0] 22), (2305,  q [f, f] 4), (2307,  q [i 0, i 1] 3), b21, b22, (2325,  .map [] 0), (2326,  .map [] 0), (2328,  q [i 0] 22),
  (2330,  q [f, f] 4), (2332,  q [i 0, i 1] 3), b23, (2334,  .mapIter (some 2138) 1 [0] 1), (2335,  q [c 2, i 1, c 0, i 0, x [], z, i 0, z, i 0, i 0, i 0,
  i 0, c 0, f, z, z] 80), (2336,  q [c 0, i 0, c 0, i 0, x [], z, i 0, z, i 0, i 0, i 0, i 0, c 0, f, z, z] 80), (2337,  q [c 0, i 0, x [], z, i 0] 77), (2338,
   q [c 0, i 0, x [], z, i 0] 77), (2339,  q [c 0, i 0, x [], z, i 0] 77), (2340,  q [c 0, i 0, x [], z, i 0] 77), (2341,  q [c 0, i 0, x [], z, i 0] 77),
  (2342,  q [c 0, i 0, x [], z, i 0] 77), (2343,  q [i 512, i 16] 229), (2344,  q [c 0, i 0, x [], z, i 0] 77)]⟩

noncomputable def u24 : BFrame := ⟨18,  [p 2566 0, o, zp, p 2566 0, t, f, p 2566 0, p 2566 0, p 2566 1, p 2333 0, o],  [.inRegion (ops 18 11) [4, 5], .code (cd 18 53)],  [],  .run,  .normal,
   none⟩
noncomputable def u25 : BFrame := ⟨12,  [f, p 2142 0, i 0, s 2195 0 1 1, s 2196 0 1 1, p 2566 0, o, o, o, o, o, o, o, o, o, o, o, o, o, o, o, o, u [p 2142 0, i 0], s 2135 0 1 1, u [p 2142 0,
  i 0], p 2142 0, i 0, p 2142 0, f, f, i 0, f, f, p 2142 0, a [c 2, i 1, c 0, i 0, x [], z, i 0, z, i 0, i 0, i 0, i 0, c 0, f, z, z], u [i 1, i 0], a [c 4,
  i 0, x [], z, i 1], a [x [108], c 4, i 0, x [], z, i 1], s 2195 0 1 1, a [c 4, i 0, x [108], z], a [c 2, x [120], x [], c 1, c 0, c 4, i 0, x [108], z, c 0,
  i 0, x [], z, z, z, z, z], s 2196 0 1 1, u [p 2566 0, i 0], p 2142 0, s 2196 0 1 1, s 2195 0 1 1, s 2197 0 1 1, a [i 0, s 2196 0 1 1, s 2195 0 1 1, s 2197 0 1 1],
  s 2196 0 1 1, s 2195 0 1 1, s 2198 0 1 1, a [i 1, s 2196 0 1 1, s 2195 0 1 1, s 2198 0 1 1], s 2199 0 2 2, u [p 2566 0, i 0], p 2566 0, i 0, p 2566 0, f,
  f, i 0, f, f, o, p 2566 0, o, o, o, o, o, o, o, o, o, o, o, o, o, o, o, o, o, o, o, o, o, o, o, o, o, o, o, o, o, o, o, o, o, o, o, o, o, o, o, o, o, o,
  o, o, o, o, o, o, o, o, o, o, o, o, o, o, o, o, o, o, o, o, o, o, o, o, o, o, o, o, o, o, o, o, o, o, o, o, o, o, o],  [.inRegion (ops 12 767) [1, 2, 3,
  4, 5, 6], .code (cd 12 1023)],  [],  .run,  .normal,  none⟩
noncomputable def b26 : Nat × BObj := (2325,  .map [⟨i 1,  p 2349 0,  0⟩] 1)
noncomputable def b27 : Nat × BObj := (2349,  q [c 2, i 1, c 0, i 0, x [], z, i 0, z, i 0, i 0, i 0, i 0, c 0, f, z, z] 80)
noncomputable def b28 : Nat × BObj := (2377,  q [c 2, x [120], x [], c 1, c 0, c 4, i 0, x [108], z, c 0, i 0, x [], z, z, z, z, z] 109)
noncomputable def b29 : Nat × BObj := (2399,  q [x [108], c 4, i 0, x [], z, i 1] 101)
noncomputable def b30 : Nat × BObj := (2431,  q [c 2, x [120], x [], c 1, c 0, c 4, i 0, x [108], z, c 0, i 0, x [], z, z, z, z, z] 109)
noncomputable def b31 : Nat × BObj := (2453,  q [x [108], c 4, i 0, x [], z, i 1] 101)
noncomputable def b32 : Nat × BObj := (2457,  q [i 0, n 2377 0 1, n 2399 0 1, n 2401 0 1, i 1, n 2431 0 1, n 2453 0 1, n 2455 0 1] 52)
noncomputable def b33 : Nat × BObj := (2485,  q [c 2, x [120], x [], c 1, c 0, c 4, i 0, x [108], z, c 0, i 0, x [], z, z, z, z, z] 109)
noncomputable def b34 : Nat × BObj := (2507,  q [x [108], c 4, i 0, x [], z, i 1] 101)
noncomputable def b35 : Nat × BObj := (2539,  q [c 2, x [120], x [], c 1, c 0, c 4, i 0, x [108], z, c 0, i 0, x [], z, z, z, z, z] 109)
noncomputable def b36 : Nat × BObj := (2561,  q [x [108], c 4, i 0, x [], z, i 1] 101)
noncomputable def b37 : Nat × BObj := (2565,  q [i 0, n 2485 0 1, n 2507 0 1, n 2509 0 1, i 1, n 2539 0 1, n 2561 0 1, n 2563 0 1] 52)
noncomputable def b38 : Nat × BObj := (2566,  q [p 2308 0, p 2333 0, n 2457 0 2, n 2565 0 2, z] 30)
noncomputable def b39 : Nat × BObj := (2575,  q [n 2570 0 1, n 2572 0 2, m 2567, m 2568, i 1, n 2574 0 2] 62)
noncomputable def S10 : CState :=
  ⟨⟨16,  [p 2333 0, o, zp, p 2575 0, i 1, p 2349 0, o, p 2333 0, f, p 2333 0, p 2333 0, p 2333 0, n 2328 0 1, n 2570 0 1, p 2333 0, p 2333 0, p 2333 1, n 2330 0 2,
  n 2572 0 2, p 2333 0, p 2333 0, p 2333 5, n 2332 0 2, n 2574 0 2, p 2333 0, p 2333 0, p 2333 4, i 1, m 2567, m 2568, a [n 2570 0 1, n 2572 0 2, m 2567, m 2568,
  i 1, n 2574 0 2], p 2575 0, p 2333 0, p 2333 0, p 2333 2, m 2325, p 2576 0, u [t, i 1, p 2349 0], t, u [i 1, p 2349 0], i 1, p 2349 0, o, o, o, o, o, o,
  o, o, o, o, o, o, o],  [.inRegion (ops 16 2455) [], .code (cd 16 3479), .inBlock 1, .inLoop (cd 16 151), .inBlock 0, .code (cd 16 31)],  [],  .run,  .normal,
   none⟩, [u24, ⟨6,  [p 2566 0, o, zp, i 0, o, o, p 2566 0, o, o, o, o, o, o, o, o, o, o, o, o, o, o, o, o],  [.inRegion (ops 6 9) [1, 2], .code (cd 6 13),
  .code (cd 6 7)],  [],  .run,  .normal,  none⟩, u25, u13], 2577, [(0,  q [y, y] 24), b0, (2,  q [zp, p 1 0] 31), (3,  q [i 0] 22), (4,  q [f, f] 4), (5,  q [i 0,
  i 0] 3), (6,  .map [] 0), (7,  .map [] 0), (9,  q [i 0] 22), b1, (11,  .map [] 0), (12,  .map [] 0), (14,  q [i 0] 22), (16,  q [f, f] 4), (18,  q [i 0,
  i 0] 3), b2, (21,  .map [] 0), (22,  .map [] 0), (24,  q [i 0] 22), (26,  q [f, f] 4), (28,  q [i 0, i 0] 3), b3, b4, (50,  q [y, y] 24), (52,  q [y, y] 24),
  (53,  q [y, y] 24), (64,  q [y, y] 24), b5, (74,  .map [] 0), (75,  .map [] 0), (77,  q [i 0] 22), (79,  q [f, f] 4), (81,  q [i 0, i 0] 3), b6, (84,  .map [] 0),
  (85,  .map [] 0), (87,  q [i 0] 22), (89,  q [f, f] 4), (91,  q [i 0, i 0] 3), b7, b8, b9, b10, b11, b12, (2135,  q [i 0] 22), (2136,  q [f, f] 4), (2137,
   q [i 0, i 1] 3), b14, (2139,  .map [] 0), (2141,  q [i 0] 22), b15, b16, b17, b18, (2197,  q [i 1] 60), (2198,  q [i 1] 60), b19, b20, (2301,  .map [] 0),
  (2303,  q [i 0] 22), (2305,  q [f, f] 4), (2307,  q [i 0, i 1] 3), b21, b22, b26, (2326,  .map [] 0), (2328,  q [i 0] 22), (2330,  q [f, f] 4), (2332,  q [i 0,
  i 1] 3), b23, b27, b28, b29, (2401,  q [i 1] 60), b30, b31, (2455,  q [i 1] 60), b32, b33, b34, (2509,  q [i 1] 60), b35, b36, (2563,  q [i 1] 60), b37,
  b38, (2567,  .map [] 0), (2568,  .map [] 0), (2570,  q [i 0] 22), (2572,  q [f, f] 4), (2574,  q [i 0, i 1] 3), b39, (2576,  .mapIter (some 2325) 1 [0] 1)]⟩

noncomputable def u40 : BFrame := ⟨29,  [p 2566 0, o, z, p 2566 0, t, f, p 2566 0, p 2566 0, p 2566 3, n 2565 0 2, o],  [.inRegion (ops 29 11) [4, 5], .code (cd 29 53)],  [],  .run,  .normal,
   none⟩
noncomputable def u41 : BFrame := ⟨6,  [p 2566 0, o, zp, i 0, f, o, p 2566 0, p 2575 0, f, p 2566 0, p 2600 0, a [n 2620 0 1, z, n 2641 0 1, i 1, n 2622 0 2], z, i 0, f, p 2566 0, o, o, o,
  o, o, o, o],  [.inRegion (ops 6 23) [1, 2], .code (cd 6 31)],  [],  .run,  .normal,  none⟩
noncomputable def b42 : Nat × BObj := (2567,  .map [⟨i 1,  p 2591 0,  0⟩] 1)
noncomputable def b43 : Nat × BObj := (2591,  q [c 2, i 1, c 0, i 0, x [], z, i 0, z, i 0, i 0, i 0, i 0, c 0, f, z, z] 80)
noncomputable def b44 : Nat × BObj := (2592,  .map [⟨i 1,  p 2616 0,  0⟩] 1)
noncomputable def b45 : Nat × BObj := (2600,  q [n 2595 0 1, n 2597 0 2, m 2592, m 2593, i 1, n 2599 0 2] 62)
noncomputable def b46 : Nat × BObj := (2616,  q [c 2, i 1, c 0, i 0, x [], z, i 0, z, i 0, i 0, i 0, i 0, c 0, f, z, z] 80)
noncomputable def b47 : Nat × BObj := (2641,  q [i 1, c 2, i 1, c 0, i 0, x [], z, i 0, z, i 0, i 0, i 0, i 0, c 0, f, z, z] 82)
noncomputable def b48 : Nat × BObj := (2642,  .map [⟨i 1,  p 2666 0,  0⟩] 1)
noncomputable def b49 : Nat × BObj := (2650,  q [n 2645 0 1, n 2647 0 2, m 2642, m 2643, i 1, n 2649 0 2] 62)
noncomputable def b50 : Nat × BObj := (2666,  q [c 2, i 1, c 0, i 0, x [], z, i 0, z, i 0, i 0, i 0, i 0, c 0, f, z, z] 80)
noncomputable def b51 : Nat × BObj := (2691,  q [i 1, c 2, i 0, c 0, i 0, x [], z, i 0, z, i 0, i 0, i 0, i 0, c 0, f, z, z] 82)
noncomputable def b52 : Nat × BObj := (2692,  q [z, z, n 2691 0 1, i 1, s 2693 0 1 1] 69)
noncomputable def b53 : Nat × BObj := (2697,  .map [⟨i 1,  p 2738 0,  0⟩] 1)
noncomputable def b54 : Nat × BObj := (2699,  q [z, s 2695 0 1 1, m 2697, m 2698, i 1, n 2760 0 1] 62)
noncomputable def b55 : Nat × BObj := (2738,  q [c 2, i 0, c 0, i 0, x [], z, i 0, z, i 0, i 0, i 0, i 0, c 0, f, z, z] 80)
noncomputable def b56 : Nat × BObj := (2788,  q [c 2, x [120], x [], c 1, c 0, c 4, i 0, x [108], z, c 0, i 0, x [], z, z, z, z, z] 109)
noncomputable def b57 : Nat × BObj := (2810,  q [x [108], c 4, i 0, x [], z, i 1] 101)
noncomputable def S11 : CState :=
  ⟨⟨17,  [n 2565 0 2, o, z, n 2814 0 1, o, p 2761 0, n 2565 0 2, i 2, i 1, t, p 2565 0, a [i 0, n 2485 0 1, n 2507 0 1, n 2509 0 1], u [n 2788 0 1, i 0], p 2761 1,
  n 2485 0 1, u [n 2788 0 1, i 0], n 2788 0 1, i 0, p 2761 1, p 2761 2, n 2507 0 1, n 2810 0 1, p 2761 2, p 2761 3, n 2509 0 1, n 2812 0 1, p 2761 3, z, a [i 0,
  n 2788 0 1, n 2810 0 1, n 2812 0 1], s 2813 0 1 1, n 2814 0 1, i 1, o],  [.code (cd 17 459), .inLoop (cd 17 75), .inBlock 0, .code (cd 17 15)],  [],  .run,
   .normal,  none⟩, [u40, ⟨20,  [p 2566 0, k 21, k 22, o, o, o, zp, p 2650 0, p 2692 0, p 2699 0, i 0, o, o, o, o, o, p 2566 0, p 2650 0, p 2650 0, f, p 2650 0,
  a [n 2670 0 1, z, n 2691 0 1, i 1, n 2672 0 2], k 21, o, u [p 2699 0, i 0], a [z, z, n 2691 0 1, i 1, s 2693 0 1 1], u [p 2699 0, i 0], p 2699 0, i 0, i 0,
  f, p 2566 0, o, o, o, o, o, o, o, o, o, o, o, o, o, o, o, o, o, o, o, o, o, o],  [.inRegion (ops 20 383) [1, 2], .code (cd 20 511)],  [],  .run,  .normal,
   none⟩, u41, u25, u13], 2815, [(0,  q [y, y] 24), b0, (2,  q [zp, p 1 0] 31), (3,  q [i 0] 22), (4,  q [f, f] 4), (5,  q [i 0, i 0] 3), (6,  .map [] 0),
  (7,  .map [] 0), (9,  q [i 0] 22), b1, (11,  .map [] 0), (12,  .map [] 0), (14,  q [i 0] 22), (16,  q [f, f] 4), (18,  q [i 0, i 0] 3), b2, (21,  .map [] 0),
  (22,  .map [] 0), (24,  q [i 0] 22), (26,  q [f, f] 4), (28,  q [i 0, i 0] 3), b3, b4, (50,  q [y, y] 24), (52,  q [y, y] 24), (53,  q [y, y] 24), (64,  q [y,
  y] 24), b5, (74,  .map [] 0), (75,  .map [] 0), (77,  q [i 0] 22), (79,  q [f, f] 4), (81,  q [i 0, i 0] 3), b6, (84,  .map [] 0), (85,  .map [] 0), (87,
   q [i 0] 22), (89,  q [f, f] 4), (91,  q [i 0, i 0] 3), b7, b8, b9, b10, b11, b12, (2135,  q [i 0] 22), (2136,  q [f, f] 4), (2137,  q [i 0, i 1] 3), b14,
  (2139,  .map [] 0), (2141,  q [i 0] 22), b15, b16, b17, b18, (2197,  q [i 1] 60), (2198,  q [i 1] 60), b19, b20, (2301,  .map [] 0), (2303,  q [i 0] 22),
  (2305,  q [f, f] 4), (2307,  q [i 0, i 1] 3), b21, b22, b26, (2326,  .map [] 0), (2328,  q [i 0] 22), (2330,  q [f, f] 4), (2332,  q [i 0, i 1] 3), b23,
  b27, b28, b29, (2401,  q [i 1] 60), b30, b31, (2455,  q [i 1] 60), b32, b33, b34, (2509,  q [i 1] 60), b35, b36, (2563,  q [i 1] 60), b37, b38, b42, (2568,
   .map [] 0), (2570,  q [i 0] 22), (2572,  q [f, f] 4), (2574,  q [i 0, i 1] 3), b39, b43, b44, (2593,  .map [] 0), (2595,  q [i 0] 22), (2597,  q [f, f] 4),
  (2599,  q [i 0, i 1] 3), b45, b46, (2620,  q [i 0] 22), (2622,  q [i 0, i 1] 3), b47, b48, (2643,  .map [] 0), (2645,  q [i 0] 22), (2647,  q [f, f] 4),
  (2649,  q [i 0, i 1] 3), b49, b50, (2670,  q [i 0] 22), (2672,  q [i 0, i 1] 3), b51, b52, (2693,  q [i 1] 3), (2695,  q [f] 4), b53, (2698,  .map [] 0),
  b54, b55, (2760,  q [i 1] 3), (2761,  q [i 0, n 2788 0 1, n 2810 0 1, n 2812 0 1] 52), b56, b57, (2812,  q [i 1] 60), (2813,  q [i 0, n 2788 0 1, n 2810 0 1,
  n 2812 0 1] 52), (2814,  q [i 0, n 2788 0 1, n 2810 0 1, n 2812 0 1] 52)]⟩

noncomputable def b58 : Nat × BObj := (2975,  .map [⟨i 1,  p 2997 0,  0⟩] 1)
noncomputable def b59 : Nat × BObj := (2981,  q [z, n 2978 0 1, m 2975, m 2976, i 1, n 2980 0 1] 62)
noncomputable def b60 : Nat × BObj := (2997,  q [c 2, i 0, c 0, i 0, x [], z, i 0, z, i 0, i 0, i 0, i 0, c 0, f, z, z] 80)
noncomputable def b61 : Nat × BObj := (2998,  .map [⟨i 1,  p 3020 0,  0⟩] 1)
noncomputable def b62 : Nat × BObj := (3004,  q [z, n 3001 0 1, m 2998, m 2999, i 1, n 3003 0 1] 62)
noncomputable def b63 : Nat × BObj := (3020,  q [c 2, i 0, c 0, i 0, x [], z, i 0, z, i 0, i 0, i 0, i 0, c 0, f, z, z] 80)
noncomputable def S12 : CState :=
  ⟨⟨75,  [x [108], o, f, o, c 108, x [108], f, f, x [108], i 1, f, f, f, x [108], c 108, f, f, f, x [108], c 108, f, f, x [108], n 3037 0 1, i 1, i 1, f, p 3037 0,
  c 108, c 108, f, f, c 108, f, f, f, o, o, o, o, o, o, f, i 1],  [.code (cd 75 203), .inLoop (cd 75 75), .inBlock 0, .code (cd 75 15)],  [],  .run,  .normal,
   none⟩, [⟨234,  [a [c 4, i 0, x [108], z], p 3033 0, i 16, p 3034 0, p 3035 0, p 3036 0, f, p 3033 0, p 3033 0, i 512, i 511, p 3033 0, p 3033 0, p 3033 0,
  i 511, f, f, p 3034 0, c 4, t, t, p 3034 1, i 0, f, f, f, f, p 3034 0, c 4, t, t, p 3034 3, z, i 0, f, f, f, f, p 3034 0, c 4, t, t, p 3034 0, c 4, f, f,
  f, o, o, o, f, f, p 3034 0, c 4, f, f, f, f, o, o, o, o, t, t, p 3034 2, x [108], o, o, o, o, o, o, o, o, o, o, o, o],  [.inRegion (ops 234 10199) [2, 3],
  .code (cd 234 107), .inBlock 0, .code (cd 234 31)],  [],  .run,  .normal,  none⟩, ⟨206,  [a [c 4, i 0, x [108], z], p 3032 0, f, p 3033 0, a [c 4, i 0, x [108],
  z], o],  [.inRegion (ops 206 11) [1, 2], .code (cd 206 15)],  [],  .run,  .normal,  none⟩, ⟨204,  [a [c 2, x [120], x [], c 1, c 0, c 4, i 0, x [108], z,
  c 0, i 0, x [], z, z, z, z, z], p 3029 0, p 3030 0, f, o, p 3029 1, x [120], t, t, p 3029 3, c 1, t, t, t, p 3029 5, a [c 4, i 0, x [108], z], o, o, o, o,
  o, o, o, o, o, o, o, o, o, o, o, o, o, o, o, o, o, o, o, o, o, o, o, o, o, o, o, o],  [.inRegion (ops 204 5) [11, 12, 13, 14, 15, 16, 17, 18], .code (cd 204 7)],
   [],  .run,  .normal,  none⟩, ⟨151,  [a [c 2, x [120], x [], c 1, c 0, c 4, i 0, x [108], z, c 0, i 0, x [], z, z, z, z, z], p 3027 0, f, k 204, t, o, u [k 204,
  t], m 3028, p 3027 0, c 2, u [k 204, t], k 204, t, t, f, o, k 204, a [c 2, x [120], x [], c 1, c 0, c 4, i 0, x [108], z, c 0, i 0, x [], z, z, z, z, z],
  o, o, o, o, o, o, o, o, o, o, o, o, o, o, o, o, o, o, o, o, o, o, o, o, o, o, o, o, o, o, o, o, o, o, o, o, o, o, o, o, o, o, o, o, o, o, o, o, o, o, o,
  o, o, o, o, o, o, o, o, o, o, o, o, o, o, o, o, o, o, o, o, o, o, o, o, o, o, o, o, o, o, o, o],  [.inRegion (ops 151 23) [2, 3, 4, 5, 6, 7, 8], .code (cd 151 31)],
   [],  .run,  .normal,  none⟩, ⟨150,  [i 0, i 0, a [c 2, x [120], x [], c 1, c 0, c 4, i 0, x [108], z, c 0, i 0, x [], z, z, z, z, z], p 3022 0, p 3023 0,
  o, o, p 3026 0, f, f, i 0, f, o, o, a [c 2, x [120], x [], c 1, c 0, c 4, i 0, x [108], z, c 0, i 0, x [], z, z, z, z, z], o, o, o, o, o],  [.inRegion (ops 150 89) [1,
  2, 3], .code (cd 150 121), .inBlock 0, .code (cd 150 7)],  [],  .run,  .normal,  none⟩, ⟨149,  [n 2788 0 1, i 0, p 3024 0, kc 150 [p 3022 0, p 3023 0], o,
  o, o, o, f, o, p 3025 0, i 0, o, o, n 2788 0 1, i 1, i 0, t, p 2788 0, a [c 2, x [120], x [], c 1, c 0, c 4, i 0, x [108], z, c 0, i 0, x [], z, z, z, z,
  z], p 3024 0, p 3024 0, i 0, p 3024 0, p 3024 0, i 0, i 1, p 3024 0, i 0, f, f, kc 150 [p 3022 0, p 3023 0], i 0, i 0, a [c 2, x [120], x [], c 1, c 0, c 4,
  i 0, x [108], z, c 0, i 0, x [], z, z, z, z, z], o, o, o, o, o, o, o, o, o, o, o, o, o, o, o, o, o, o, o, o, o, o, o, o],  [.inRegion (ops 149 20069) [7,
  8, 9], .code (cd 149 28261), .code (cd 149 15973), .inBlock 1, .code (cd 149 485), .inLoop (cd 149 37), .inBlock 0, .code (cd 149 7)],  [],  .run,  .normal,
   none⟩, ⟨113,  [n 2788 0 1, o, p 3022 0, p 3023 0, p 3024 0, n 2788 0 1, kc 150 [p 3022 0, p 3023 0], o, o, o],  [.inRegion (ops 113 11) [2], .code (cd 113 15)],
   [],  .run,  .normal,  none⟩, ⟨74,  [n 2788 0 1, o, i 0, o, o, o, n 2788 0 1, o, o, o, o],  [.inRegion (ops 74 5) [1, 2, 3, 4, 5, 6], .code (cd 74 7)],  [],
   .run,  .normal,  none⟩, ⟨50,  [n 2788 0 1, o, z, i 0, o, n 2788 0 1, o, o, o, o, o, o],  [.inRegion (ops 50 9) [1, 2], .code (cd 50 13), .code (cd 50 7)],
   [],  .run,  .normal,  none⟩, ⟨17,  [n 2868 0 2, o, z, z, o, p 3021 0, n 2868 0 2, i 2, i 0, t, p 2868 0, a [i 0, n 2788 0 1, n 2810 0 1, n 2812 0 1], o,
  p 3021 1, n 2788 0 1, o, o, o, o, o, o, o, o, o, o, o, o, o, o, o, o, o, o],  [.inRegion (ops 17 5323) [2, 3, 4, 5, 6, 7], .code (cd 17 7371), .inBlock 1,
  .code (cd 17 971), .inLoop (cd 17 75), .inBlock 0, .code (cd 17 15)],  [],  .run,  .normal,  none⟩, ⟨5,  [p 2699 0, n 2868 0 2, o, o, zp, i 0, o, p 2925 0,
  i 0, p 2699 0, f, f, p 2699 0, i 1, f, f, n 2868 0 2, i 2, f, n 2868 0 2, i 2, i 2, f, p 2868 4, a [i 0, n 2842 0 1, n 2864 0 1, n 2866 0 1], p 2699 0, a [i 0,
  n 2842 0 1, n 2864 0 1, n 2866 0 1], i 0, i 0, f, o, i 2, p 2699 0, p 2981 0, p 2699 0, p 3004 0, n 2868 0 2, o, o, o, o, o],  [.inRegion (ops 5 47) [5,
  6, 7, 8, 9, 10, 11], .code (cd 5 53)],  [],  .run,  .normal,  none⟩, ⟨20,  [p 2566 0, k 21, k 22, o, o, o, zp, p 2650 0, p 2692 0, p 2699 0, i 0, n 2868 0 2,
  i 1, p 2872 0, o, o, p 2566 0, p 2650 0, p 2650 0, f, p 2650 0, a [n 2670 0 1, z, n 2691 0 1, i 1, n 2672 0 2], k 21, o, u [p 2699 0, i 0], a [z, z, n 2691 0 1,
  i 1, s 2693 0 1 1], u [p 2699 0, i 0], p 2699 0, i 0, i 0, f, p 2566 0, n 2868 0 2, n 2868 0 2, i 2, i 2, f, i 1, p 2868 4, a [i 1, n 2842 0 1, n 2864 0 1,
  n 2866 0 1], n 2868 0 2, i 1, k 22, a [i 1, n 2842 0 1, n 2864 0 1, n 2866 0 1], a [i 0, n 2842 0 1, n 2864 0 1, n 2866 0 1], p 2868 4, i 2, o, p 2699 0,
  n 2868 0 2, o, o, o, o],  [.inRegion (ops 20 1535) [2, 3, 4, 5, 6, 7], .code (cd 20 2047)],  [],  .run,  .normal,  none⟩, u41, u25, u13], 3038, [(0,  q [y,
  y] 24), b0, (2,  q [zp, p 1 0] 31), (3,  q [i 0] 22), (4,  q [f, f] 4), (5,  q [i 0, i 0] 3), (6,  .map [] 0), (7,  .map [] 0), (9,  q [i 0] 22), b1, (11,
   .map [] 0), (12,  .map [] 0), (14,  q [i 0] 22), (16,  q [f, f] 4), (18,  q [i 0, i 0] 3), b2, (21,  .map [] 0), (22,  .map [] 0), (24,  q [i 0] 22), (26,
   q [f, f] 4), (28,  q [i 0, i 0] 3), b3, b4, (50,  q [y, y] 24), (52,  q [y, y] 24), (53,  q [y, y] 24), (64,  q [y, y] 24), b5, (74,  .map [] 0), (75,  .map [] 0),
  (77,  q [i 0] 22), (79,  q [f, f] 4), (81,  q [i 0, i 0] 3), b6, (84,  .map [] 0), (85,  .map [] 0), (87,  q [i 0] 22), (89,  q [f, f] 4), (91,  q [i 0,
  i 0] 3), b7, b8, b9, b10, b11, b12, (2135,  q [i 0] 22), (2136,  q [f, f] 4), (2137,  q [i 0, i 1] 3), b14, (2139,  .map [] 0), (2141,  q [i 0] 22), b15,
  b16, b17, b18, (2197,  q [i 1] 60), (2198,  q [i 1] 60), b19, b20, (2301,  .map [] 0), (2303,  q [i 0] 22), (2305,  q [f, f] 4), (2307,  q [i 0, i 1] 3),
  b21, b22, b26, (2326,  .map [] 0), (2328,  q [i 0] 22), (2330,  q [f, f] 4), (2332,  q [i 0, i 1] 3), b23, b27, b28, b29, (2401,  q [i 1] 60), b30, b31,
  (2455,  q [i 1] 60), b32, b33, b34, (2509,  q [i 1] 60), b35, b36, (2563,  q [i 1] 60), b37, b38, b42, (2568,  .map [] 0), (2570,  q [i 0] 22), (2572,  q [f,
  f] 4), (2574,  q [i 0, i 1] 3), b39, b43, b44, (2593,  .map [] 0), (2595,  q [i 0] 22), (2597,  q [f, f] 4), (2599,  q [i 0, i 1] 3), b45, b46, (2620,  q [i 0] 22),
  (2622,  q [i 0, i 1] 3), b47, b48, (2643,  .map [] 0), (2645,  q [i 0] 22), (2647,  q [f, f] 4), (2649,  q [i 0, i 1] 3), b49, b50, (2670,  q [i 0] 22),
  (2672,  q [i 0, i 1] 3), b51, b52, (2693,  q [i 1] 3), (2695,  q [f] 4), b53, (2698,  .map [] 0), b54, b55, (2760,  q [i 1] 3), b56, b57, (2812,  q [i 1] 60),
  (2842,  q [c 2, x [120], x [], c 1, c 0, c 4, i 0, x [108], z, c 0, i 0, x [], z, z, z, z, z] 109), (2864,  q [x [108], c 4, i 0, x [], z, i 1] 101), (2866,
   q [i 1] 60), (2868,  q [i 0, n 2788 0 1, n 2810 0 1, n 2812 0 1, i 0, n 2842 0 1, n 2864 0 1, n 2866 0 1] 52), (2872,  q [i 1, n 2842 0 1, n 2864 0 1, n 2866 0 1] 52),
  (2925,  q [i 0, n 2842 0 1, n 2864 0 1, n 2866 0 1] 52), b58, (2976,  .map [] 0), (2978,  q [f] 4), (2980,  q [i 1] 3), b59, b60, b61, (2999,  .map [] 0),
  (3001,  q [f] 4), (3003,  q [i 1] 3), b62, b63, (3021,  q [i 0, n 2788 0 1, n 2810 0 1, n 2812 0 1] 52), (3022,  q [i 0] 3), (3023,  q [i 0] 32), (3024,
   q [i 1] 3), (3025,  q [c 2, x [120], x [], c 1, c 0, c 4, i 0, x [108], z, c 0, i 0, x [], z, z, z, z, z] 109), (3026,  q [c 2, x [120], x [], c 1, c 0,
  c 4, i 0, x [108], z, c 0, i 0, x [], z, z, z, z, z] 109), (3027,  q [c 2, x [120], x [], c 1, c 0, c 4, i 0, x [108], z, c 0, i 0, x [], z, z, z, z, z] 109),
  (3028,  .map [⟨c 1,  k 202,  0⟩, ⟨c 2,  k 204,  1⟩, ⟨c 3,  k 207,  2⟩, ⟨c 4,  k 208,  3⟩, ⟨c 5,  k 209,  4⟩, ⟨c 6,  k 210,  5⟩, ⟨c 7,  k 211,  6⟩, ⟨c 8,
   k 212,  7⟩, ⟨c 9,  k 213,  8⟩] 9), (3029,  q [c 2, x [120], x [], c 1, c 0, c 4, i 0, x [108], z, c 0, i 0, x [], z, z, z, z, z] 109), (3030,  q [c 0, x [],
  x [], c 0, c 0, c 0, i 0, x [], z, c 0, i 0, x [], z, z, z, z, z] 109), (3032,  q [c 4, i 0, x [108], z] 106), (3033,  q [i 511] 3), (3034,  q [c 4, i 0,
  x [108], z] 106), (3035,  q [p 3033 0] 177), (3036,  q [i 16] 3), (3037,  .cells [c 108] 5 true)]⟩

noncomputable def u64 : BFrame := ⟨12,  [f, p 2142 0, i 0, s 2195 0 1 1, s 2196 0 1 1, p 2566 0, p 3237 0, n 3239 0 1, i 0, s 3240 0 2 2, o, o, o, o, o, o, o, o, o, o, o, o, u [p 2142 0,
  i 0], s 2135 0 1 1, u [p 2142 0, i 0], p 2142 0, i 0, p 2142 0, f, f, i 0, f, f, p 2142 0, a [c 2, i 1, c 0, i 0, x [], z, i 0, z, i 0, i 0, i 0, i 0, c 0,
  f, z, z], u [i 1, i 0], a [c 4, i 0, x [], z, i 1], a [x [108], c 4, i 0, x [], z, i 1], s 2195 0 1 1, a [c 4, i 0, x [108], z], a [c 2, x [120], x [], c 1,
  c 0, c 4, i 0, x [108], z, c 0, i 0, x [], z, z, z, z, z], s 2196 0 1 1, u [p 2566 0, i 0], p 2142 0, s 2196 0 1 1, s 2195 0 1 1, s 2197 0 1 1, a [i 0, s 2196 0 1 1,
  s 2195 0 1 1, s 2197 0 1 1], s 2196 0 1 1, s 2195 0 1 1, s 2198 0 1 1, a [i 1, s 2196 0 1 1, s 2195 0 1 1, s 2198 0 1 1], s 2199 0 2 2, u [p 2566 0, i 0],
  p 2566 0, i 0, p 2566 0, f, f, i 0, f, f, u [p 3237 0, i 0], p 2566 0, u [p 3237 0, i 0], p 3237 0, i 0, u [n 3239 0 1, i 0], p 2142 0, u [n 3239 0 1, i 0],
  n 3239 0 1, i 0, a [i 0, i 0], a [i 1, i 0], s 3240 0 2 2, o, p 2566 0, p 3237 0, s 3240 0 2 2, o, o, o, o, o, o, o, o, o, o, o, o, o, o, o, o, o, o, o,
  o, o, o, o, o, o, o, o, o, o, o, o, o, o, o, o, o, o, o, o, o, o, o, o, o, o, o, o, o, o, o, o, o, o, o, o, o, o, o, o, o, o, o, o, o, o, o],  [.inRegion (ops 12 6143) [3,
  4, 5, 6, 7, 8, 9, 10, 11, 12], .code (cd 12 8191)],  [],  .run,  .normal,  none⟩
noncomputable def b65 : Nat × BObj := (3048,  q [c 2, x [120], x [], c 1, c 0, c 4, i 0, x [108], z, c 0, i 0, x [], z, z, z, z, z] 109)
noncomputable def b66 : Nat × BObj := (3070,  q [x [108], c 4, i 0, x [], z, i 1] 101)
noncomputable def b67 : Nat × BObj := (3102,  q [c 2, x [120], x [], c 1, c 0, c 4, i 0, x [108], z, c 0, i 0, x [], z, z, z, z, z] 109)
noncomputable def b68 : Nat × BObj := (3124,  q [x [108], c 4, i 0, x [], z, i 1] 101)
noncomputable def b69 : Nat × BObj := (3128,  q [i 0, n 3048 0 1, n 3070 0 1, n 3072 0 1, i 0, n 3102 0 1, n 3124 0 1, n 3126 0 1] 52)
noncomputable def b70 : Nat × BObj := (3156,  q [c 2, x [120], x [], c 1, c 0, c 4, i 0, x [108], z, c 0, i 0, x [], z, z, z, z, z] 109)
noncomputable def b71 : Nat × BObj := (3178,  q [x [108], c 4, i 0, x [], z, i 1] 101)
noncomputable def b72 : Nat × BObj := (3210,  q [c 2, x [120], x [], c 1, c 0, c 4, i 0, x [108], z, c 0, i 0, x [], z, z, z, z, z] 109)
noncomputable def b73 : Nat × BObj := (3232,  q [x [108], c 4, i 0, x [], z, i 1] 101)
noncomputable def b74 : Nat × BObj := (3236,  q [i 0, n 3156 0 1, n 3178 0 1, n 3180 0 1, i 0, n 3210 0 1, n 3232 0 1, n 3234 0 1] 52)
noncomputable def b75 : Nat × BObj := (3237,  q [p 2981 0, p 3004 0, n 3128 0 2, n 3236 0 2, z] 30)
noncomputable def b76 : Nat × BObj := (3240,  q [i 0, i 0, i 1, i 0] 24)
noncomputable def b77 : Nat × BObj := (3249,  q [n 3244 0 1, n 3246 0 2, m 3241, m 3242, i 1, n 3248 0 2] 62)
noncomputable def S13 : CState :=
  ⟨⟨16,  [p 2333 0, o, zp, p 3249 0, i 1, p 2349 0, o, p 2333 0, f, p 2333 0, p 2333 0, p 2333 0, n 2328 0 1, n 3244 0 1, p 2333 0, p 2333 0, p 2333 1, n 2330 0 2,
  n 3246 0 2, p 2333 0, p 2333 0, p 2333 5, n 2332 0 2, n 3248 0 2, p 2333 0, p 2333 0, p 2333 4, i 1, m 3241, m 3242, a [n 3244 0 1, n 3246 0 2, m 3241, m 3242,
  i 1, n 3248 0 2], p 3249 0, p 2333 0, p 2333 0, p 2333 2, m 2325, p 3250 0, u [t, i 1, p 2349 0], t, u [i 1, p 2349 0], i 1, p 2349 0, p 2349 0, p 2349 0,
  a [c 2, i 1, c 0, i 0, x [], z, i 0, z, i 0, i 0, i 0, i 0, c 0, f, z, z], a [c 2, i 1, c 0, i 0, x [], z, i 0, z, i 0, i 0, i 0, i 0, c 0, f, z, z], o,
  o, o, o, o, o, o, o, o],  [.inRegion (ops 16 5527) [4, 5], .code (cd 16 7575), .inBlock 1, .inLoop (cd 16 151), .inBlock 0, .code (cd 16 31)],  [],  .run,
   .normal,  none⟩, [u24, ⟨9,  [p 2566 0, p 3237 0, s 3240 0 2 2, o, o, o, i 0, i 0, f, i 0, o, o, o, p 2566 0, o, o, o, o, o, o, o, o, o, o, o, o, o, o, o,
  o, o, o, o, o, o, o, o, o, o, o, o, o, o, o, o, o, o, o, o, o, o, o, o, o, o, o, o, o, o, o, o, o, o, o, o, o, o, o],  [.inRegion (ops 9 9) [1, 2, 3, 4,
  5, 6, 7], .code (cd 9 13), .code (cd 9 7)],  [],  .run,  .normal,  none⟩, u64, u13], 3265, [(0,  q [y, y] 24), b0, (2,  q [zp, p 1 0] 31), (3,  q [i 0] 22),
  (4,  q [f, f] 4), (5,  q [i 0, i 0] 3), (6,  .map [] 0), (7,  .map [] 0), (9,  q [i 0] 22), b1, (11,  .map [] 0), (12,  .map [] 0), (14,  q [i 0] 22), (16,
   q [f, f] 4), (18,  q [i 0, i 0] 3), b2, (21,  .map [] 0), (22,  .map [] 0), (24,  q [i 0] 22), (26,  q [f, f] 4), (28,  q [i 0, i 0] 3), b3, b4, (50,  q [y,
  y] 24), (52,  q [y, y] 24), (53,  q [y, y] 24), (64,  q [y, y] 24), b5, (74,  .map [] 0), (75,  .map [] 0), (77,  q [i 0] 22), (79,  q [f, f] 4), (81,  q [i 0,
  i 0] 3), b6, (84,  .map [] 0), (85,  .map [] 0), (87,  q [i 0] 22), (89,  q [f, f] 4), (91,  q [i 0, i 0] 3), b7, b8, b9, b10, b11, b12, (2135,  q [i 0] 22),
  (2136,  q [f, f] 4), (2137,  q [i 0, i 1] 3), b14, (2139,  .map [] 0), (2141,  q [i 0] 22), b15, b16, b17, b18, (2197,  q [i 1] 60), (2198,  q [i 1] 60),
  b19, b20, (2301,  .map [] 0), (2303,  q [i 0] 22), (2305,  q [f, f] 4), (2307,  q [i 0, i 1] 3), b21, b22, b26, (2326,  .map [] 0), (2328,  q [i 0] 22),
  (2330,  q [f, f] 4), (2332,  q [i 0, i 1] 3), b23, b27, b28, b29, (2401,  q [i 1] 60), b30, b31, (2455,  q [i 1] 60), b32, b33, b34, (2509,  q [i 1] 60),
  b35, b36, (2563,  q [i 1] 60), b37, b38, b58, (2976,  .map [] 0), (2978,  q [f] 4), (2980,  q [i 1] 3), b59, b60, b61, (2999,  .map [] 0), (3001,  q [f] 4),
  (3003,  q [i 1] 3), b62, b63, b65, b66, (3072,  q [i 1] 60), b67, b68, (3126,  q [i 1] 60), b69, b70, b71, (3180,  q [i 1] 60), b72, b73, (3234,  q [i 1] 60),
  b74, b75, (3239,  q [i 1] 22), b76, (3241,  .map [] 0), (3242,  .map [] 0), (3244,  q [i 0] 22), (3246,  q [f, f] 4), (3248,  q [i 0, i 1] 3), b77, (3250,
   .mapIter (some 2325) 1 [0] 1)]⟩

noncomputable def u78 : BFrame := ⟨29,  [p 3237 0, o, z, p 3237 0, t, f, p 3237 0, p 3237 0, p 3237 3, n 3236 0 2, o],  [.inRegion (ops 29 11) [4, 5], .code (cd 29 53)],  [],  .run,  .normal,
   none⟩
noncomputable def b79 : Nat × BObj := (3241,  .map [⟨i 1,  p 3265 0,  0⟩] 1)
noncomputable def b80 : Nat × BObj := (3265,  q [c 2, i 1, c 0, i 0, x [], z, i 0, z, i 0, i 0, i 0, i 0, c 0, f, z, z] 80)
noncomputable def b81 : Nat × BObj := (3266,  .map [⟨i 1,  p 3288 0,  0⟩] 1)
noncomputable def b82 : Nat × BObj := (3272,  q [z, n 3269 0 1, m 3266, m 3267, i 1, n 3271 0 1] 62)
noncomputable def b83 : Nat × BObj := (3288,  q [c 2, i 0, c 0, i 0, x [], z, i 0, z, i 0, i 0, i 0, i 0, c 0, f, z, z] 80)
noncomputable def b84 : Nat × BObj := (3316,  q [c 2, x [120], x [], c 1, c 0, c 4, i 0, x [108], z, c 0, i 0, x [], z, z, z, z, z] 109)
noncomputable def b85 : Nat × BObj := (3338,  q [x [108], c 4, i 0, x [], z, i 1] 101)
noncomputable def b86 : Nat × BObj := (3370,  q [c 2, x [120], x [], c 1, c 0, c 4, i 0, x [108], z, c 0, i 0, x [], z, z, z, z, z] 109)
noncomputable def b87 : Nat × BObj := (3392,  q [x [108], c 4, i 0, x [], z, i 1] 101)
noncomputable def b88 : Nat × BObj := (3396,  q [i 0, n 3316 0 1, n 3338 0 1, n 3340 0 1, i 1, n 3370 0 1, n 3392 0 1, n 3394 0 1] 52)
noncomputable def b89 : Nat × BObj := (3424,  q [c 2, x [120], x [], c 1, c 0, c 4, i 0, x [108], z, c 0, i 0, x [], z, z, z, z, z] 109)
noncomputable def b90 : Nat × BObj := (3446,  q [x [108], c 4, i 0, x [], z, i 1] 101)
noncomputable def b91 : Nat × BObj := (3478,  q [c 2, x [120], x [], c 1, c 0, c 4, i 0, x [108], z, c 0, i 0, x [], z, z, z, z, z] 109)
noncomputable def S14 : CState :=
  ⟨⟨152,  [p 3493 0, a [c 4, i 0, x [], z, i 1], o, p 3494 0, f, p 3495 0, o, o, p 3493 0, p 3493 0, p 3493 0, i 512, f, p 3493 0, p 3493 0, p 3493 0, i 512,
  i 511, p 3493 0, p 3493 0, a [c 4, i 0, x [], z, i 1], p 3494 0, c 4, f, f, f, f, o, f, f, o, o, o, o, o, t, t, p 3494 4, i 1, f, o, o, o, o, o, o, o, o,
  o, o, o, o, o, o, o, o, o, o, o, o, o, o, o, o, o, o, o, o, o, o, o, o, o, o, o, o, o, o, o, o, o, o, o, o, o, o, o, o, o, o, o, o, o, o, o, o, o, o, o,
  o, o, o, o, o],  [.code (cd 152 212911), .code (cd 152 114607), .inBlock 0, .code (cd 152 63)],  [],  .run,  .normal,  none⟩, [⟨114,  [a [c 4, i 0, x [],
  z, i 1], p 3492 0, i 0, p 3493 0, a [i 512, i 16], p 3493 0, p 3493 0, a [c 4, i 0, x [], z, i 1], o, o, o, o, o, o, o],  [.inRegion (ops 114 19) [2, 3],
  .code (cd 114 27), .code (cd 114 15)],  [],  .run,  .normal,  none⟩, ⟨76,  [a [c 4, i 0, x [], z, i 1], p 3491 0, f, a [c 4, i 0, x [], z, i 1], o, o],  [.inRegion (ops 76 5) [1,
  2, 3], .code (cd 76 7)],  [],  .run,  .normal,  none⟩, ⟨116,  [a [c 4, i 0, x [], z, i 1], p 3489 0, p 3490 0, i 0, a [c 4, i 0, x [], z, i 1], o, o, o,
  o, o],  [.inRegion (ops 116 9) [1, 2], .code (cd 116 13), .code (cd 116 7)],  [],  .run,  .normal,  none⟩, ⟨85,  [a [c 4, i 0, x [], z, i 1], p 3487 0, p 3488 0,
  o, o, o, a [c 4, i 0, x [], z, i 1], o, o, o, o, o, o, o],  [.inRegion (ops 85 9) [1, 2, 3, 4, 5, 6, 7], .code (cd 85 13), .code (cd 85 7)],  [],  .run,
   .normal,  none⟩, ⟨51,  [n 3232 0 1, o, z, z, o, p 3486 0, n 3232 0 1, i 1, i 0, t, p 3232 0, a [x [108], c 4, i 0, x [], z, i 1], o, o, o, o, o, o, o, o,
  o, o, o],  [.inDraw ⟨opsOf (cd 51 3275),  [n 3232 0 1, o, z, z, o, p 3486 0, n 3232 0 1, i 1, i 0, t, p 3232 0, a [x [108], c 4, i 0, x [], z, i 1], o, o,
  o, o, o, o, o, o, o, o, o],  [some (z), some (p 3486 0), some (x [108]), some (p 3486 1), some (a [c 4, i 0, x [], z, i 1]), none, none, none, none, none],
   [5, 8]⟩, .inBlock 1, .code (cd 51 971), .inLoop (cd 51 75), .inBlock 0, .code (cd 51 15)],  [],  .run,  .normal,  none⟩, ⟨17,  [n 3236 0 2, o, z, n 3450 0 1,
  o, p 3451 0, n 3236 0 2, i 2, i 1, t, p 3236 4, a [i 0, n 3210 0 1, n 3232 0 1, n 3234 0 1], u [n 3478 0 1, i 0], p 3451 1, n 3210 0 1, u [n 3478 0 1, i 0],
  n 3478 0 1, i 0, p 3451 1, p 3451 2, n 3232 0 1, n 3446 0 1, p 3397 2, p 3397 3, n 3180 0 1, n 3448 0 1, p 3397 3, z, a [i 0, n 3424 0 1, n 3446 0 1, n 3448 0 1],
  s 3449 0 1 1, n 3450 0 1, i 1, o],  [.inRegion (ops 17 11467) [2, 3, 4], .code (cd 17 15563), .inBlock 1, .code (cd 17 971), .inLoop (cd 17 75), .inBlock 0,
  .code (cd 17 15)],  [],  .run,  .normal,  none⟩, u78, ⟨9,  [p 2566 0, p 3237 0, s 3240 0 2 2, o, o, o, i 0, i 0, f, i 0, o, o, o, p 2566 0, p 3249 0, f,
  f, p 3237 0, p 3272 0, f, f, p 2566 0, n 3396 0 2, i 2, p 3237 0, o, o, o, o, o, o, o, o, o, o, o, o, o, o, o, o, o, o, o, o, o, o, o, o, o, o, o, o, o,
  o, o, o, o, o, o, o, o, o, o, o, o, o, o],  [.inRegion (ops 9 19) [4, 5, 6], .code (cd 9 27), .code (cd 9 15)],  [],  .run,  .normal,  none⟩, u64, u13],
  3496, [(0,  q [y, y] 24), b0, (2,  q [zp, p 1 0] 31), (3,  q [i 0] 22), (4,  q [f, f] 4), (5,  q [i 0, i 0] 3), (6,  .map [] 0), (7,  .map [] 0), (9,  q [i 0] 22),
  b1, (11,  .map [] 0), (12,  .map [] 0), (14,  q [i 0] 22), (16,  q [f, f] 4), (18,  q [i 0, i 0] 3), b2, (21,  .map [] 0), (22,  .map [] 0), (24,  q [i 0] 22),
  (26,  q [f, f] 4), (28,  q [i 0, i 0] 3), b3, b4, (50,  q [y, y] 24), (52,  q [y, y] 24), (53,  q [y, y] 24), (64,  q [y, y] 24), b5, (74,  .map [] 0), (75,
   .map [] 0), (77,  q [i 0] 22), (79,  q [f, f] 4), (81,  q [i 0, i 0] 3), b6, (84,  .map [] 0), (85,  .map [] 0), (87,  q [i 0] 22), (89,  q [f, f] 4), (91,
   q [i 0, i 0] 3), b7, b8, b9, b10, b11, b12, (2135,  q [i 0] 22), (2136,  q [f, f] 4), (2137,  q [i 0, i 1] 3), b14, (2139,  .map [] 0), (2141,  q [i 0] 22),
  b15, b16, b17, b18, (2197,  q [i 1] 60), (2198,  q [i 1] 60), b19, b20, (2301,  .map [] 0), (2303,  q [i 0] 22), (2305,  q [f, f] 4), (2307,  q [i 0, i 1] 3),
  b21, b22, b26, (2326,  .map [] 0), (2328,  q [i 0] 22), (2330,  q [f, f] 4), (2332,  q [i 0, i 1] 3), b23, b27, b28, b29, (2401,  q [i 1] 60), b30, b31,
  (2455,  q [i 1] 60), b32, b33, b34, (2509,  q [i 1] 60), b35, b36, (2563,  q [i 1] 60), b37, b38, b58, (2976,  .map [] 0), (2978,  q [f] 4), (2980,  q [i 1] 3),
  b59, b60, b61, (2999,  .map [] 0), (3001,  q [f] 4), (3003,  q [i 1] 3), b62, b63, b65, b66, (3072,  q [i 1] 60), b67, b68, (3126,  q [i 1] 60), b69, b70,
  b71, (3180,  q [i 1] 60), b72, b73, (3234,  q [i 1] 60), b74, b75, (3239,  q [i 1] 22), b76, b79, (3242,  .map [] 0), (3244,  q [i 0] 22), (3246,  q [f,
  f] 4), (3248,  q [i 0, i 1] 3), b77, b80, b81, (3267,  .map [] 0), (3269,  q [f] 4), (3271,  q [i 1] 3), b82, b83, b84, b85, (3340,  q [i 1] 60), b86, b87,
  (3394,  q [i 1] 60), b88, (3397,  q [i 0, n 3424 0 1, n 3446 0 1, n 3448 0 1] 52), b89, b90, (3448,  q [i 1] 60), (3449,  q [i 0, n 3424 0 1, n 3446 0 1,
  n 3448 0 1] 52), (3450,  q [i 0, n 3424 0 1, n 3446 0 1, n 3448 0 1] 52), (3451,  q [i 0, n 3478 0 1, n 3232 0 1, n 3234 0 1] 52), b91, (3486,  q [x [108],
  c 4, i 0, x [], z, i 1] 101), (3487,  q [c 4, i 0, x [], z, i 1] 77), (3488,  q [c 0, i 0, x [], z, i 0] 77), (3489,  q [c 4, i 0, x [], z, i 1] 77), (3490,
   q [c 0, i 0, x [], z, i 0] 77), (3491,  q [c 4, i 0, x [], z, i 1] 77), (3492,  q [c 4, i 0, x [], z, i 1] 77), (3493,  q [i 511, i 16] 229), (3494,  q [c 4,
  i 0, x [], z, i 1] 77), (3495,  q [c 4, i 0, x [], z, i 1] 77)]⟩

noncomputable def u92 : BFrame := ⟨31,  [p 2566 0, s 3240 0 2 2, o, o, z, o, o, o, o, o, o, p 2566 0, o, o, o, o, o, o, o, o, o, o, o, o, o, o, o, o, o, o, o, o, o, o, o, o, o, o, o, o, o,
  o, o, o, o],  [.inRegion (ops 31 5) [1, 2], .code (cd 31 7)],  [],  .run,  .normal,  none⟩
noncomputable def u93 : BFrame := ⟨9,  [p 2566 0, p 3237 0, s 3240 0 2 2, o, o, o, i 0, i 0, f, i 0, n 3728 0 2, o, p 3617 0, p 2566 0, p 3249 0, f, f, p 3237 0, p 3272 0, f, f, p 2566 0,
  n 3396 0 2, i 2, p 3237 0, n 3504 0 2, i 2, f, s 3240 0 2 2, i 2, i 2, f, p 3240 2, a [i 1, i 0], p 2566 0, a [i 1, i 0], t, f, p 3617 1, i 0, t, t, o, o,
  o, t, n 3616 0 1, a [i 1, i 0], s 3727 0 1 1, n 3728 0 2, i 2, s 3240 0 2 2, i 2, f, o, p 2566 0, s 3240 0 2 2, o, o, o, o, o, o, o, o, o, o, o],  [.inRegion (ops 9 191) [2,
  3, 4, 5, 6, 7, 8, 9, 10, 11, 12, 13], .code (cd 9 255)],  [],  .run,  .normal,  none⟩
noncomputable def b94 : Nat × BObj := (3500,  q [x [108], c 4, i 0, x [], z, i 1] 101)
noncomputable def b95 : Nat × BObj := (3504,  q [i 0, n 3424 0 1, n 3446 0 1, n 3448 0 1, i 0, n 3478 0 1, n 3500 0 1, n 3502 0 1] 52)
noncomputable def b96 : Nat × BObj := (3617,  q [i 1, i 0] 24)
noncomputable def b97 : Nat × BObj := (3727,  q [i 1, i 0] 24)
noncomputable def b98 : Nat × BObj := (3728,  q [i 0, i 0, i 1, i 0] 24)
noncomputable def S15 : CState :=
  ⟨⟨16,  [p 2333 0, o, zp, o, o, o, o, p 2333 0, f, o, o, o, o, o, o, o, o, o, o, o, o, o, o, o, o, o, o, o, o, o, o, o, o, o, o, o, o, o, o, o, o, o, o, o,
  o, o, o, o, o, o, o, o, o, o, o],  [.code (cd 16 11), .code (cd 16 15)],  [],  .run,  .normal,  none⟩, [u24, ⟨20,  [p 2566 0, k 61, k 62, o, o, o, zp, o,
  o, o, o, o, o, o, o, o, p 2566 0, o, o, o, o, o, o, o, o, o, o, o, o, o, o, o, o, o, o, o, o, o, o, o, o, o, o, o, o, o, o, o, o, o, o, o, o, o],  [.inRegion (ops 20 5) [1,
  2], .code (cd 20 7)],  [],  .run,  .normal,  none⟩, u92, u93, u64, u13], 3729, [(0,  q [y, y] 24), b0, (2,  q [zp, p 1 0] 31), (3,  q [i 0] 22), (4,  q [f,
  f] 4), (5,  q [i 0, i 0] 3), (6,  .map [] 0), (7,  .map [] 0), (9,  q [i 0] 22), b1, (11,  .map [] 0), (12,  .map [] 0), (14,  q [i 0] 22), (16,  q [f, f] 4),
  (18,  q [i 0, i 0] 3), b2, (21,  .map [] 0), (22,  .map [] 0), (24,  q [i 0] 22), (26,  q [f, f] 4), (28,  q [i 0, i 0] 3), b3, b4, (50,  q [y, y] 24), (52,
   q [y, y] 24), (53,  q [y, y] 24), (64,  q [y, y] 24), b5, (74,  .map [] 0), (75,  .map [] 0), (77,  q [i 0] 22), (79,  q [f, f] 4), (81,  q [i 0, i 0] 3),
  b6, (84,  .map [] 0), (85,  .map [] 0), (87,  q [i 0] 22), (89,  q [f, f] 4), (91,  q [i 0, i 0] 3), b7, b8, b9, b10, b11, b12, (2135,  q [i 0] 22), (2136,
   q [f, f] 4), (2137,  q [i 0, i 1] 3), b14, (2139,  .map [] 0), (2141,  q [i 0] 22), b15, b16, b17, b18, (2197,  q [i 1] 60), (2198,  q [i 1] 60), b19, b20,
  (2301,  .map [] 0), (2303,  q [i 0] 22), (2305,  q [f, f] 4), (2307,  q [i 0, i 1] 3), b21, b22, b26, (2326,  .map [] 0), (2328,  q [i 0] 22), (2330,  q [f,
  f] 4), (2332,  q [i 0, i 1] 3), b23, b27, b28, b29, (2401,  q [i 1] 60), b30, b31, (2455,  q [i 1] 60), b32, b33, b34, (2509,  q [i 1] 60), b35, b36, (2563,
   q [i 1] 60), b37, b38, b58, (2976,  .map [] 0), (2978,  q [f] 4), (2980,  q [i 1] 3), b59, b60, b61, (2999,  .map [] 0), (3001,  q [f] 4), (3003,  q [i 1] 3),
  b62, b63, b65, b66, (3072,  q [i 1] 60), b67, b68, (3126,  q [i 1] 60), b69, b70, b71, (3180,  q [i 1] 60), b72, b73, (3234,  q [i 1] 60), b74, b75, (3239,
   q [i 1] 22), b76, b79, (3242,  .map [] 0), (3244,  q [i 0] 22), (3246,  q [f, f] 4), (3248,  q [i 0, i 1] 3), b77, b80, b81, (3267,  .map [] 0), (3269,
   q [f] 4), (3271,  q [i 1] 3), b82, b83, b84, b85, (3340,  q [i 1] 60), b86, b87, (3394,  q [i 1] 60), b88, b89, b90, (3448,  q [i 1] 60), b91, b94, (3502,
   q [i 1] 60), b95, b96, b97, b98]⟩

noncomputable def b99 : Nat × BObj := (3729,  .map [⟨i 1,  p 3753 0,  0⟩] 1)
noncomputable def b100 : Nat × BObj := (3737,  q [n 3732 0 1, n 3734 0 2, m 3729, m 3730, i 1, n 3736 0 2] 62)
noncomputable def b101 : Nat × BObj := (3753,  q [c 2, i 1, c 0, i 0, x [], z, i 0, z, i 0, i 0, i 0, i 0, c 0, f, z, z] 80)
noncomputable def b102 : Nat × BObj := (3778,  q [i 1, c 2, i 1, c 0, i 0, x [], z, i 0, z, i 0, i 0, i 0, i 0, c 0, f, z, z] 82)
noncomputable def b103 : Nat × BObj := (3779,  q [n 3757 0 1, z, n 3778 0 1, i 1, n 3759 0 2] 69)
noncomputable def b104 : Nat × BObj := (3783,  .map [⟨i 1,  p 3826 0,  0⟩] 1)
noncomputable def b105 : Nat × BObj := (3787,  q [n 3786 0 1, s 3781 0 2 2, m 3783, m 3784, i 1, n 3848 0 2] 62)
noncomputable def b106 : Nat × BObj := (3826,  q [c 2, i 1, c 0, i 0, x [], z, i 0, z, i 0, i 0, i 0, i 0, c 0, f, z, z] 80)
noncomputable def b107 : Nat × BObj := (3876,  q [c 2, x [120], x [], c 1, c 0, c 4, i 0, x [108], z, c 0, i 0, x [], z, z, z, z, z] 109)
noncomputable def b108 : Nat × BObj := (3898,  q [x [108], c 4, i 0, x [], z, i 1] 101)
noncomputable def b109 : Nat × BObj := (3930,  q [c 2, x [120], x [], c 1, c 0, c 4, i 0, x [108], z, c 0, i 0, x [], z, z, z, z, z] 109)
noncomputable def b110 : Nat × BObj := (3952,  q [x [108], c 4, i 0, x [], z, i 1] 101)
noncomputable def b111 : Nat × BObj := (3956,  q [i 0, n 3876 0 1, n 3898 0 1, n 3900 0 1, i 1, n 3930 0 1, n 3952 0 1, n 3954 0 1] 52)
noncomputable def S16 : CState :=
  ⟨⟨20,  [p 2566 0, k 61, k 62, o, o, o, zp, p 3737 0, p 3779 0, p 3787 0, i 0, n 3956 0 2, i 0, p 3957 0, o, o, p 2566 0, p 3737 0, p 3737 0, f, p 3737 0,
  a [n 3757 0 1, z, n 3778 0 1, i 1, n 3759 0 2], k 61, o, u [p 3787 0, i 0], a [n 3757 0 1, z, n 3778 0 1, i 1, n 3759 0 2], u [p 3787 0, i 0], p 3787 0,
  i 0, i 0, f, p 2566 0, n 3956 0 2, n 3956 0 2, i 2, i 1, t, i 0, p 3956 0, a [i 0, n 3876 0 1, n 3898 0 1, n 3900 0 1], n 3956 0 2, i 0, k 62, a [i 0, n 3876 0 1,
  n 3898 0 1, n 3900 0 1], a [i 0, n 3876 0 1, n 3898 0 1, n 3900 0 1], p 3956 0, i 1, o, o, o, o, o, o, o],  [.inRegion (ops 20 8959) [0], .code (cd 20 13055),
  .inLoop (cd 20 4863), .inBlock 0, .code (cd 20 1023)],  [],  .run,  .normal,  none⟩, [u92, u93, u64, u13], 3960, [(0,  q [y, y] 24), b0, (2,  q [zp, p 1 0] 31),
  (3,  q [i 0] 22), (4,  q [f, f] 4), (5,  q [i 0, i 0] 3), (6,  .map [] 0), (7,  .map [] 0), (9,  q [i 0] 22), b1, (11,  .map [] 0), (12,  .map [] 0), (14,
   q [i 0] 22), (16,  q [f, f] 4), (18,  q [i 0, i 0] 3), b2, (21,  .map [] 0), (22,  .map [] 0), (24,  q [i 0] 22), (26,  q [f, f] 4), (28,  q [i 0, i 0] 3),
  b3, b4, (50,  q [y, y] 24), (52,  q [y, y] 24), (53,  q [y, y] 24), (64,  q [y, y] 24), b5, (74,  .map [] 0), (75,  .map [] 0), (77,  q [i 0] 22), (79,  q [f,
  f] 4), (81,  q [i 0, i 0] 3), b6, (84,  .map [] 0), (85,  .map [] 0), (87,  q [i 0] 22), (89,  q [f, f] 4), (91,  q [i 0, i 0] 3), b7, b8, b9, b10, b11,
  b12, (2135,  q [i 0] 22), (2136,  q [f, f] 4), (2137,  q [i 0, i 1] 3), b14, (2139,  .map [] 0), (2141,  q [i 0] 22), b15, b16, b17, b18, (2197,  q [i 1] 60),
  (2198,  q [i 1] 60), b19, b20, (2301,  .map [] 0), (2303,  q [i 0] 22), (2305,  q [f, f] 4), (2307,  q [i 0, i 1] 3), b21, b22, b26, (2326,  .map [] 0),
  (2328,  q [i 0] 22), (2330,  q [f, f] 4), (2332,  q [i 0, i 1] 3), b23, b27, b28, b29, (2401,  q [i 1] 60), b30, b31, (2455,  q [i 1] 60), b32, b33, b34,
  (2509,  q [i 1] 60), b35, b36, (2563,  q [i 1] 60), b37, b38, b58, (2976,  .map [] 0), (2978,  q [f] 4), (2980,  q [i 1] 3), b59, b60, b61, (2999,  .map [] 0),
  (3001,  q [f] 4), (3003,  q [i 1] 3), b62, b63, b65, b66, (3072,  q [i 1] 60), b67, b68, (3126,  q [i 1] 60), b69, b70, b71, (3180,  q [i 1] 60), b72, b73,
  (3234,  q [i 1] 60), b74, b75, (3239,  q [i 1] 22), b76, b79, (3242,  .map [] 0), (3244,  q [i 0] 22), (3246,  q [f, f] 4), (3248,  q [i 0, i 1] 3), b77,
  b80, b81, (3267,  .map [] 0), (3269,  q [f] 4), (3271,  q [i 1] 3), b82, b83, b84, b85, (3340,  q [i 1] 60), b86, b87, (3394,  q [i 1] 60), b88, b89, b90,
  (3448,  q [i 1] 60), b91, b94, (3502,  q [i 1] 60), b95, b96, b97, b98, b99, (3730,  .map [] 0), (3732,  q [i 0] 22), (3734,  q [f, f] 4), (3736,  q [i 0,
  i 1] 3), b100, b101, (3757,  q [i 0] 22), (3759,  q [i 0, i 1] 3), b102, b103, (3781,  q [f, f] 4), b104, (3784,  .map [] 0), (3786,  q [i 0] 22), b105,
  b106, (3848,  q [i 0, i 1] 3), b107, b108, (3900,  q [i 1] 60), b109, b110, (3954,  q [i 1] 60), b111, (3957,  q [i 0, n 3876 0 1, n 3898 0 1, n 3900 0 1] 52)]⟩

noncomputable def b112 : Nat × BObj := (4063,  .map [⟨i 1,  p 4087 0,  0⟩] 1)
noncomputable def b113 : Nat × BObj := (4071,  q [n 4066 0 1, n 4068 0 2, m 4063, m 4064, i 1, n 4070 0 2] 62)
noncomputable def b114 : Nat × BObj := (4087,  q [c 2, i 1, c 0, i 0, x [], z, i 0, z, i 0, i 0, i 0, i 0, c 0, f, z, z] 80)
noncomputable def b115 : Nat × BObj := (4088,  .map [⟨i 1,  p 4112 0,  0⟩] 1)
noncomputable def b116 : Nat × BObj := (4096,  q [n 4091 0 1, n 4093 0 2, m 4088, m 4089, i 1, n 4095 0 2] 62)
noncomputable def b117 : Nat × BObj := (4112,  q [c 2, i 1, c 0, i 0, x [], z, i 0, z, i 0, i 0, i 0, i 0, c 0, f, z, z] 80)
noncomputable def b118 : Nat × BObj := (4140,  q [c 2, x [120], x [], c 1, c 0, c 4, i 0, x [108], z, c 0, i 0, x [], z, z, z, z, z] 109)
noncomputable def b119 : Nat × BObj := (4162,  q [x [108], c 4, i 0, x [], z, i 1] 101)
noncomputable def S17 : CState :=
  ⟨⟨204,  [a [c 2, x [120], x [], c 1, c 0, c 4, i 0, x [108], z, c 0, i 0, x [], z, z, z, z, z], p 4175 0, p 4176 0, f, t, p 4175 1, x [120], t, t, p 4175 3,
  c 1, t, t, t, p 4175 5, a [c 4, i 0, x [108], z], t, t, t, p 4175 9, a [c 0, i 0, x [], z], t, t, o, o, o, o, o, o, o, o, o, o, o, o, o, o, o, o, o, o, o,
  o, o, o, o, o, o],  [.inRegion (ops 204 5) [], .code (cd 204 7)],  [],  .run,  .normal,  none⟩, [⟨151,  [a [c 2, x [120], x [], c 1, c 0, c 4, i 0, x [108],
  z, c 0, i 0, x [], z, z, z, z, z], p 4173 0, f, k 204, t, o, u [k 204, t], m 4174, p 4173 0, c 2, u [k 204, t], k 204, t, t, f, o, k 204, a [c 2, x [120],
  x [], c 1, c 0, c 4, i 0, x [108], z, c 0, i 0, x [], z, z, z, z, z], o, o, o, o, o, o, o, o, o, o, o, o, o, o, o, o, o, o, o, o, o, o, o, o, o, o, o, o,
  o, o, o, o, o, o, o, o, o, o, o, o, o, o, o, o, o, o, o, o, o, o, o, o, o, o, o, o, o, o, o, o, o, o, o, o, o, o, o, o, o, o, o, o, o, o, o, o, o, o, o,
  o, o, o, o],  [.inRegion (ops 151 23) [2, 3, 4, 5, 6, 7, 8], .code (cd 151 31)],  [],  .run,  .normal,  none⟩, ⟨150,  [i 0, i 0, a [c 2, x [120], x [], c 1,
  c 0, c 4, i 0, x [108], z, c 0, i 0, x [], z, z, z, z, z], p 4168 0, p 4169 0, o, o, p 4172 0, f, f, i 0, f, o, o, a [c 2, x [120], x [], c 1, c 0, c 4,
  i 0, x [108], z, c 0, i 0, x [], z, z, z, z, z], o, o, o, o, o],  [.inRegion (ops 150 89) [1, 2, 3], .code (cd 150 121), .inBlock 0, .code (cd 150 7)],  [],
   .run,  .normal,  none⟩, ⟨149,  [n 3930 0 1, i 0, p 4170 0, kc 150 [p 4168 0, p 4169 0], o, o, o, o, f, o, p 4171 0, i 0, o, o, n 3930 0 1, i 1, i 0, t,
  p 3930 0, a [c 2, x [120], x [], c 1, c 0, c 4, i 0, x [108], z, c 0, i 0, x [], z, z, z, z, z], p 4170 0, p 4170 0, i 0, p 4170 0, p 4170 0, i 0, i 1, p 4170 0,
  i 0, f, f, kc 150 [p 4168 0, p 4169 0], i 0, i 0, a [c 2, x [120], x [], c 1, c 0, c 4, i 0, x [108], z, c 0, i 0, x [], z, z, z, z, z], o, o, o, o, o, o,
  o, o, o, o, o, o, o, o, o, o, o, o, o, o, o, o, o, o],  [.inRegion (ops 149 20069) [7, 8, 9], .code (cd 149 28261), .code (cd 149 15973), .inBlock 1, .code (cd 149 485),
  .inLoop (cd 149 37), .inBlock 0, .code (cd 149 7)],  [],  .run,  .normal,  none⟩, ⟨113,  [n 3930 0 1, o, p 4168 0, p 4169 0, p 4170 0, n 3930 0 1, kc 150 [p 4168 0,
  p 4169 0], o, o, o],  [.inRegion (ops 113 11) [2], .code (cd 113 15)],  [],  .run,  .normal,  none⟩, ⟨74,  [n 3930 0 1, o, i 0, o, o, o, n 3930 0 1, o, o,
  o, o],  [.inRegion (ops 74 5) [1, 2, 3, 4, 5, 6], .code (cd 74 7)],  [],  .run,  .normal,  none⟩, ⟨50,  [n 3930 0 1, o, z, i 0, o, n 3930 0 1, o, o, o, o,
  o, o],  [.inRegion (ops 50 9) [1, 2], .code (cd 50 13), .code (cd 50 7)],  [],  .run,  .normal,  none⟩, ⟨17,  [n 3956 0 2, o, z, n 4166 0 1, o, p 4167 0,
  n 3956 0 2, i 2, i 1, t, p 3956 4, a [i 1, n 3930 0 1, n 3952 0 1, n 3954 0 1], u [n 4140 0 1, i 0], p 4167 1, n 3930 0 1, u [n 4140 0 1, i 0], n 4140 0 1,
  i 0, p 4113 1, p 4113 2, n 3898 0 1, n 4162 0 1, p 4113 2, p 4113 3, n 3900 0 1, n 4164 0 1, p 4113 3, z, a [i 0, n 4140 0 1, n 4162 0 1, n 4164 0 1], s 4165 0 1 1,
  n 4166 0 1, i 1, o],  [.inRegion (ops 17 5323) [2, 3, 4, 5, 6, 7], .code (cd 17 7371), .inBlock 1, .code (cd 17 971), .inLoop (cd 17 75), .inBlock 0, .code (cd 17 15)],
   [],  .run,  .normal,  none⟩, ⟨5,  [p 3787 0, n 3956 0 2, o, o, zp, i 0, o, p 4013 0, i 0, p 3787 0, f, f, p 3787 0, i 2, f, f, n 3956 0 2, i 2, f, n 3956 0 2,
  i 2, i 2, f, p 3956 4, a [i 1, n 3930 0 1, n 3952 0 1, n 3954 0 1], p 3787 0, a [i 1, n 3930 0 1, n 3952 0 1, n 3954 0 1], i 0, i 0, f, o, i 2, p 3787 0,
  p 4071 0, p 3787 0, p 4096 0, n 3956 0 2, o, o, o, o, o],  [.inRegion (ops 5 47) [5, 6, 7, 8, 9, 10, 11], .code (cd 5 53)],  [],  .run,  .normal,  none⟩,
  ⟨20,  [p 2566 0, k 61, k 62, o, o, o, zp, p 3737 0, p 3779 0, p 3787 0, i 0, n 3956 0 2, i 1, p 3960 0, o, o, p 2566 0, p 3737 0, p 3737 0, f, p 3737 0,
  a [n 3757 0 1, z, n 3778 0 1, i 1, n 3759 0 2], k 61, o, u [p 3787 0, i 0], a [n 3757 0 1, z, n 3778 0 1, i 1, n 3759 0 2], u [p 3787 0, i 0], p 3787 0,
  i 0, i 0, f, p 2566 0, n 3956 0 2, n 3956 0 2, i 2, i 2, f, i 1, p 3956 4, a [i 1, n 3930 0 1, n 3952 0 1, n 3954 0 1], n 3956 0 2, i 1, k 62, a [i 1, n 3930 0 1,
  n 3952 0 1, n 3954 0 1], a [i 1, n 3930 0 1, n 3952 0 1, n 3954 0 1], p 3956 4, i 2, o, p 3787 0, n 3956 0 2, o, o, o, o],  [.inRegion (ops 20 1535) [2,
  3, 4, 5, 6, 7], .code (cd 20 2047)],  [],  .run,  .normal,  none⟩, u92, u93, u64, u13], 4186, [(0,  q [y, y] 24), b0, (2,  q [zp, p 1 0] 31), (3,  q [i 0] 22),
  (4,  q [f, f] 4), (5,  q [i 0, i 0] 3), (6,  .map [] 0), (7,  .map [] 0), (9,  q [i 0] 22), b1, (11,  .map [] 0), (12,  .map [] 0), (14,  q [i 0] 22), (16,
   q [f, f] 4), (18,  q [i 0, i 0] 3), b2, (21,  .map [] 0), (22,  .map [] 0), (24,  q [i 0] 22), (26,  q [f, f] 4), (28,  q [i 0, i 0] 3), b3, b4, (50,  q [y,
  y] 24), (52,  q [y, y] 24), (53,  q [y, y] 24), (64,  q [y, y] 24), b5, (74,  .map [] 0), (75,  .map [] 0), (77,  q [i 0] 22), (79,  q [f, f] 4), (81,  q [i 0,
  i 0] 3), b6, (84,  .map [] 0), (85,  .map [] 0), (87,  q [i 0] 22), (89,  q [f, f] 4), (91,  q [i 0, i 0] 3), b7, b8, b9, b10, b11, b12, (2135,  q [i 0] 22),
  (2136,  q [f, f] 4), (2137,  q [i 0, i 1] 3), b14, (2139,  .map [] 0), (2141,  q [i 0] 22), b15, b16, b17, b18, (2197,  q [i 1] 60), (2198,  q [i 1] 60),
  b19, b20, (2301,  .map [] 0), (2303,  q [i 0] 22), (2305,  q [f, f] 4), (2307,  q [i 0, i 1] 3), b21, b22, b26, (2326,  .map [] 0), (2328,  q [i 0] 22),
  (2330,  q [f, f] 4), (2332,  q [i 0, i 1] 3), b23, b27, b28, b29, (2401,  q [i 1] 60), b30, b31, (2455,  q [i 1] 60), b32, b33, b34, (2509,  q [i 1] 60),
  b35, b36, (2563,  q [i 1] 60), b37, b38, b58, (2976,  .map [] 0), (2978,  q [f] 4), (2980,  q [i 1] 3), b59, b60, b61, (2999,  .map [] 0), (3001,  q [f] 4),
  (3003,  q [i 1] 3), b62, b63, b65, b66, (3072,  q [i 1] 60), b67, b68, (3126,  q [i 1] 60), b69, b70, b71, (3180,  q [i 1] 60), b72, b73, (3234,  q [i 1] 60),
  b74, b75, (3239,  q [i 1] 22), b76, b79, (3242,  .map [] 0), (3244,  q [i 0] 22), (3246,  q [f, f] 4), (3248,  q [i 0, i 1] 3), b77, b80, b81, (3267,  .map [] 0),
  (3269,  q [f] 4), (3271,  q [i 1] 3), b82, b83, b84, b85, (3340,  q [i 1] 60), b86, b87, (3394,  q [i 1] 60), b88, b89, b90, (3448,  q [i 1] 60), b91, b94,
  (3502,  q [i 1] 60), b95, b96, b97, b98, b99, (3730,  .map [] 0), (3732,  q [i 0] 22), (3734,  q [f, f] 4), (3736,  q [i 0, i 1] 3), b100, b101, (3757,  q [i 0] 22),
  (3759,  q [i 0, i 1] 3), b102, b103, (3781,  q [f, f] 4), b104, (3784,  .map [] 0), (3786,  q [i 0] 22), b105, b106, (3848,  q [i 0, i 1] 3), b107, b108,
  (3900,  q [i 1] 60), b109, b110, (3954,  q [i 1] 60), b111, (3960,  q [i 1, n 3930 0 1, n 3952 0 1, n 3954 0 1] 52), (4013,  q [i 1, n 3930 0 1, n 3952 0 1,
  n 3954 0 1] 52), b112, (4064,  .map [] 0), (4066,  q [i 0] 22), (4068,  q [f, f] 4), (4070,  q [i 0, i 1] 3), b113, b114, b115, (4089,  .map [] 0), (4091,
   q [i 0] 22), (4093,  q [f, f] 4), (4095,  q [i 0, i 1] 3), b116, b117, (4113,  q [i 0, n 4140 0 1, n 4162 0 1, n 4164 0 1] 52), b118, b119, (4164,  q [i 1] 60),
  (4165,  q [i 0, n 4140 0 1, n 4162 0 1, n 4164 0 1] 52), (4166,  q [i 0, n 4140 0 1, n 4162 0 1, n 4164 0 1] 52), (4167,  q [i 1, n 3930 0 1, n 3952 0 1,
  n 3954 0 1] 52), (4168,  q [i 0] 3), (4169,  q [i 0] 32), (4170,  q [i 1] 3), (4171,  q [c 2, x [120], x [], c 1, c 0, c 4, i 0, x [108], z, c 0, i 0, x [],
  z, z, z, z, z] 109), (4172,  q [c 2, x [120], x [], c 1, c 0, c 4, i 0, x [108], z, c 0, i 0, x [], z, z, z, z, z] 109), (4173,  q [c 2, x [120], x [], c 1,
  c 0, c 4, i 0, x [108], z, c 0, i 0, x [], z, z, z, z, z] 109), (4174,  .map [⟨c 1,  k 202,  0⟩, ⟨c 2,  k 204,  1⟩, ⟨c 3,  k 207,  2⟩, ⟨c 4,  k 208,  3⟩,
  ⟨c 5,  k 209,  4⟩, ⟨c 6,  k 210,  5⟩, ⟨c 7,  k 211,  6⟩, ⟨c 8,  k 212,  7⟩, ⟨c 9,  k 213,  8⟩] 9), (4175,  q [c 2, x [120], x [], c 1, c 0, c 4, i 0, x [108],
  z, c 0, i 0, x [], z, z, z, z, z] 109), (4176,  q [c 0, x [], x [], c 0, c 0, c 0, i 0, x [], z, c 0, i 0, x [], z, z, z, z, z] 109)]⟩

noncomputable def b120 : Nat × BObj := (4194,  q [c 2, x [120], x [], c 1, c 0, c 4, i 0, x [108], z, c 0, i 0, x [], z, z, z, z, z] 109)
noncomputable def b121 : Nat × BObj := (4216,  q [x [108], c 4, i 0, x [], z, i 1] 101)
noncomputable def b122 : Nat × BObj := (4220,  q [i 0, n 4140 0 1, n 4162 0 1, n 4164 0 1, i 1, n 4194 0 1, n 4216 0 1, n 4218 0 1] 52)
noncomputable def b123 : Nat × BObj := (4248,  q [c 2, x [120], x [], c 1, c 0, c 4, i 0, x [108], z, c 0, i 0, x [], z, z, z, z, z] 109)
noncomputable def b124 : Nat × BObj := (4270,  q [x [108], c 4, i 0, x [], z, i 1] 101)
noncomputable def b125 : Nat × BObj := (4302,  q [c 2, x [120], x [], c 1, c 0, c 4, i 0, x [108], z, c 0, i 0, x [], z, z, z, z, z] 109)
noncomputable def b126 : Nat × BObj := (4324,  q [x [108], c 4, i 0, x [], z, i 1] 101)
noncomputable def b127 : Nat × BObj := (4328,  q [i 0, n 4248 0 1, n 4270 0 1, n 4272 0 1, i 1, n 4302 0 1, n 4324 0 1, n 4326 0 1] 52)
noncomputable def b128 : Nat × BObj := (4329,  q [p 4071 0, p 4096 0, n 4220 0 2, n 4328 0 2, z] 30)
noncomputable def b129 : Nat × BObj := (4357,  q [c 2, x [120], x [], c 1, c 0, c 4, i 0, x [108], z, c 0, i 0, x [], z, z, z, z, z] 109)
noncomputable def b130 : Nat × BObj := (4379,  q [x [108], c 4, i 0, x [], z, i 1] 101)
noncomputable def S18 : CState :=
  ⟨⟨149,  [n 4302 0 1, i 0, p 4387 0, kc 150 [p 4385 0, p 4386 0], o, o, o, o, f, o, p 4388 0, i 0, o, z, n 4302 0 1, i 1, i 1, f, p 4302 0, a [c 2, x [120],
  x [], c 1, c 0, c 4, i 0, x [108], z, c 0, i 0, x [], z, z, z, z, z], p 4387 0, p 4387 0, i 0, p 4387 0, p 4387 0, i 0, i 1, p 4387 0, i 0, f, f, kc 150 [p 4385 0,
  p 4386 0], i 0, i 0, a [c 2, x [120], x [], c 1, c 0, c 4, i 0, x [108], z, c 0, i 0, x [], z, z, z, z, z], t, f, f, p 4388 13, z, p 4388 14, z, p 4388 15,
  z, s 4409 0 3 3, i 3, i 3, f, p 4409 2, z, z, i 0, i 1, p 4387 0, kc 150 [p 4385 0, p 4386 0], t, f, i 3, i 1],  [.inRegion (ops 149 11) [0], .code (cd 149 110181)],
   [],  .run,  .normal,  none⟩, [⟨113,  [n 4302 0 1, o, p 4385 0, p 4386 0, p 4387 0, n 4302 0 1, kc 150 [p 4385 0, p 4386 0], o, o, o],  [.inRegion (ops 113 11) [2],
  .code (cd 113 15)],  [],  .run,  .normal,  none⟩, ⟨74,  [n 4302 0 1, o, i 0, o, o, o, n 4302 0 1, o, o, o, o],  [.inRegion (ops 74 5) [1, 2, 3, 4, 5, 6],
  .code (cd 74 7)],  [],  .run,  .normal,  none⟩, ⟨50,  [n 4302 0 1, o, z, i 0, o, n 4302 0 1, o, o, o, o, o, o],  [.inRegion (ops 50 9) [1, 2], .code (cd 50 13),
  .code (cd 50 7)],  [],  .run,  .normal,  none⟩, ⟨17,  [n 4328 0 2, o, z, n 4383 0 1, o, p 4384 0, n 4328 0 2, i 2, i 1, t, p 4328 4, a [i 1, n 4302 0 1,
  n 4324 0 1, n 4326 0 1], u [n 4357 0 1, i 0], p 4384 1, n 4302 0 1, u [n 4357 0 1, i 0], n 4357 0 1, i 0, p 4330 1, p 4330 2, n 4270 0 1, n 4379 0 1, p 4330 2,
  p 4330 3, n 4272 0 1, n 4381 0 1, p 4330 3, z, a [i 0, n 4357 0 1, n 4379 0 1, n 4381 0 1], s 4382 0 1 1, n 4383 0 1, i 1, o],  [.inRegion (ops 17 5323) [2,
  3, 4, 5, 6, 7], .code (cd 17 7371), .inBlock 1, .code (cd 17 971), .inLoop (cd 17 75), .inBlock 0, .code (cd 17 15)],  [],  .run,  .normal,  none⟩, ⟨29,
   [p 4329 0, o, z, p 4329 0, t, f, p 4329 0, p 4329 0, p 4329 3, n 4328 0 2, o],  [.inRegion (ops 29 11) [4, 5], .code (cd 29 53)],  [],  .run,  .normal,
   none⟩, ⟨31,  [p 4329 0, s 3240 0 2 2, o, o, z, o, o, o, o, o, o, p 2566 0, p 4329 0, p 4329 0, o, o, o, o, o, o, o, o, o, o, o, o, o, o, o, o, o, o, o,
  o, o, o, o, o, o, o, o, o, o, o, o],  [.inRegion (ops 31 11) [1, 2], .code (cd 31 15)],  [],  .run,  .normal,  none⟩, u93, u64, u13], 4410, [(0,  q [y, y] 24),
  b0, (2,  q [zp, p 1 0] 31), (3,  q [i 0] 22), (4,  q [f, f] 4), (5,  q [i 0, i 0] 3), (6,  .map [] 0), (7,  .map [] 0), (9,  q [i 0] 22), b1, (11,  .map [] 0),
  (12,  .map [] 0), (14,  q [i 0] 22), (16,  q [f, f] 4), (18,  q [i 0, i 0] 3), b2, (21,  .map [] 0), (22,  .map [] 0), (24,  q [i 0] 22), (26,  q [f, f] 4),
  (28,  q [i 0, i 0] 3), b3, b4, (50,  q [y, y] 24), (52,  q [y, y] 24), (53,  q [y, y] 24), (64,  q [y, y] 24), b5, (74,  .map [] 0), (75,  .map [] 0), (77,
   q [i 0] 22), (79,  q [f, f] 4), (81,  q [i 0, i 0] 3), b6, (84,  .map [] 0), (85,  .map [] 0), (87,  q [i 0] 22), (89,  q [f, f] 4), (91,  q [i 0, i 0] 3),
  b7, b8, b9, b10, b11, b12, (2135,  q [i 0] 22), (2136,  q [f, f] 4), (2137,  q [i 0, i 1] 3), b14, (2139,  .map [] 0), (2141,  q [i 0] 22), b15, b16, b17,
  b18, (2197,  q [i 1] 60), (2198,  q [i 1] 60), b19, b20, (2301,  .map [] 0), (2303,  q [i 0] 22), (2305,  q [f, f] 4), (2307,  q [i 0, i 1] 3), b21, b22,
  b26, (2326,  .map [] 0), (2328,  q [i 0] 22), (2330,  q [f, f] 4), (2332,  q [i 0, i 1] 3), b23, b27, b28, b29, (2401,  q [i 1] 60), b30, b31, (2455,  q [i 1] 60),
  b32, b33, b34, (2509,  q [i 1] 60), b35, b36, (2563,  q [i 1] 60), b37, b38, b58, (2976,  .map [] 0), (2978,  q [f] 4), (2980,  q [i 1] 3), b59, b60, b61,
  (2999,  .map [] 0), (3001,  q [f] 4), (3003,  q [i 1] 3), b62, b63, b65, b66, (3072,  q [i 1] 60), b67, b68, (3126,  q [i 1] 60), b69, b70, b71, (3180,  q [i 1] 60),
  b72, b73, (3234,  q [i 1] 60), b74, b75, (3239,  q [i 1] 22), b76, b79, (3242,  .map [] 0), (3244,  q [i 0] 22), (3246,  q [f, f] 4), (3248,  q [i 0, i 1] 3),
  b77, b80, b81, (3267,  .map [] 0), (3269,  q [f] 4), (3271,  q [i 1] 3), b82, b83, b84, b85, (3340,  q [i 1] 60), b86, b87, (3394,  q [i 1] 60), b88, b89,
  b90, (3448,  q [i 1] 60), b91, b94, (3502,  q [i 1] 60), b95, b96, b97, b98, b112, (4064,  .map [] 0), (4066,  q [i 0] 22), (4068,  q [f, f] 4), (4070,  q [i 0,
  i 1] 3), b113, b114, b115, (4089,  .map [] 0), (4091,  q [i 0] 22), (4093,  q [f, f] 4), (4095,  q [i 0, i 1] 3), b116, b117, b118, b119, (4164,  q [i 1] 60),
  b120, b121, (4218,  q [i 1] 60), b122, b123, b124, (4272,  q [i 1] 60), b125, b126, (4326,  q [i 1] 60), b127, b128, (4330,  q [i 0, n 4357 0 1, n 4379 0 1,
  n 4381 0 1] 52), b129, b130, (4381,  q [i 1] 60), (4382,  q [i 0, n 4357 0 1, n 4379 0 1, n 4381 0 1] 52), (4383,  q [i 0, n 4357 0 1, n 4379 0 1, n 4381 0 1] 52),
  (4384,  q [i 1, n 4302 0 1, n 4324 0 1, n 4326 0 1] 52), (4385,  q [i 0] 3), (4386,  q [i 0] 32), (4387,  q [i 1] 3), (4388,  q [c 2, x [120], x [], c 1,
  c 0, c 4, i 0, x [108], z, c 0, i 0, x [], z, z, z, z, z] 109), (4409,  q [z, z, z] 48)]⟩

noncomputable def u131 : BFrame := ⟨63,  [p 4329 0, s 3240 0 2 2, p 4438 0, o, i 0, i 0, o, p 4443 0, o, o, o, f, p 4329 0, t, f, f, s 3240 0 2 2, i 2, f, f, s 3240 0 2 2, kc 92 [p 4438 0],
  f, s 3240 0 2 2, i 2, i 0, t, p 3240 0, a [i 0, i 0], o, p 4329 0, a [i 0, i 0], o, o, o, o, o, o, o, o, o],  [.inRegion (ops 63 5323) [2, 3, 4, 5, 6, 7,
  8, 9, 10], .code (cd 63 7371), .inBlock 2, .code (cd 63 971), .inLoop (cd 63 75), .inBlock 1, .code (cd 63 15)],  [],  .run,  .normal,  none⟩
noncomputable def u132 : BFrame := ⟨31,  [p 4329 0, s 3240 0 2 2, o, o, z, n 4437 0 2, o, o, o, o, o, p 2566 0, p 4329 0, p 4329 0, n 4437 0 2, p 4329 0, s 3240 0 2 2, o, o, o, o, o, o, o,
  o, o, o, o, o, o, o, o, o, o, o, o, o, o, o, o, o, o, o, o, o],  [.inRegion (ops 31 23) [2], .code (cd 31 31)],  [],  .run,  .normal,  none⟩
noncomputable def b133 : Nat × BObj := (4411,  q [c 2, x [120], x [], c 1, c 0, c 4, i 0, x [108], z, c 0, i 0, x [], z, z, z, z, z] 109)
noncomputable def b134 : Nat × BObj := (4433,  q [x [108], c 4, i 0, x [], z, i 1] 101)
noncomputable def b135 : Nat × BObj := (4437,  q [i 0, n 4357 0 1, n 4379 0 1, n 4381 0 1, i 1, n 4411 0 1, n 4433 0 1, n 4435 0 1] 52)
noncomputable def b136 : Nat × BObj := (4438,  q [p 4329 0] 25)
noncomputable def b137 : Nat × BObj := (4443,  q [i 0, i 0] 24)
noncomputable def b138 : Nat × BObj := (4444,  q [i 0, i 0] 24)
noncomputable def S19 : CState :=
  ⟨⟨104,  [c 1, o, f, c 1, c 0, t],  [.inRegion (ops 104 5) [3], .code (cd 104 7)],  [],  .run,  .normal,  none⟩, [⟨205,  [c 1, o, f, c 1, o, o, o, o, o, o],
   [.inRegion (ops 205 5) [1, 2, 3, 4, 5, 6, 7], .code (cd 205 7)],  [],  .run,  .normal,  none⟩, ⟨288,  [p 4096 0, i 0, i 1, c 1, a [c 0, i 0, x [], z, i 0],
  o, o, o, o, p 4661 0, i 0, f, p 4096 0, t, f, o, p 4096 0, i 0, t, f, f, c 1, o, o, o, o, o, o, o, o, o, o, o, o, o, o, o, o, o, o, o, o, o, o, o, o, o,
  o, o, o, o, o, o, o, o, o, o, o, o, o, o, o, o, o],  [.inRegion (ops 288 89) [6, 7, 8, 9, 10, 11, 12, 13, 14], .code (cd 288 121), .inBlock 0, .code (cd 288 7)],
   [],  .run,  .normal,  none⟩, ⟨268,  [p 4096 0, i 0, i 1, c 1, a [c 0, i 0, x [], z, i 0], kc 269 [p 4654 0, p 4651 0, p 4648 0], p 4655 0, o, p 4656 0,
  p 4657 0, p 4658 0, p 4659 0, p 4660 0, zi, o, o, o, p 4096 0, i 0, i 1, c 1, a [c 0, i 0, x [], z, i 0], o, o, o, o, o, o, o, o, o, o, o, o, o, o],  [.inRegion (ops 268 9) [5,
  6], .code (cd 268 13), .code (cd 268 7)],  [],  .run,  .normal,  none⟩, ⟨256,  [p 4647 0, p 4096 0, i 0, a [i 0, i 1, c 1, c 0, i 0, x [], z, i 0], p 4648 0,
  o, o, p 4649 0, p 4650 0, zi, p 4651 0, p 4654 0, o, o, o, i 0, p 4649 1, i 1, p 4096 0, p 4649 1, i 1, i 1, p 4649 2, c 1, p 4649 3, a [c 0, i 0, x [],
  z, i 0], a [c 1, i 0, i 1, i 1, c 1, c 0, i 0, x [], z, i 0, c 0, i 0, x [], z, i 0, c 0, z, z], o, p 4096 0, p 4649 0, i 0, p 4649 1, i 1, p 4649 2, c 1,
  p 4649 3, a [c 0, i 0, x [], z, i 0], kc 269 [p 4654 0, p 4651 0, p 4648 0], o, o, o, o, o, o, o, o, o, o, o, o, o, o, o, o, o, o, o, o, o, o, o, o, o, o,
  o, o, o, o, o, o, o, o, o, o, o, o, o, o, o, o, o, o, o, o, o, o, o, o, o, o],  [.inRegion (ops 256 23) [10, 11, 12, 13, 14, 15, 16], .code (cd 256 31)],
   [],  .run,  .normal,  none⟩, ⟨238,  [p 4096 0, i 0, i 1, c 1, a [c 0, i 0, x [], z, i 0], o, o, o, o, p 4644 0, p 4645 0, z, zi, p 4647 0, o, o, m 4646,
  a [z, m 4646, i 0, i 0, i 0], p 4647 0, o, p 4647 0, p 4096 0, i 0, i 1, c 1, a [c 0, i 0, x [], z, i 0], a [i 0, i 1, c 1, c 0, i 0, x [], z, i 0], o, o,
  o, o, o, o, o, o, o, o, o, o],  [.inRegion (ops 238 11) [7, 8, 9, 10, 11, 12, 13], .code (cd 238 15)],  [],  .run,  .normal,  none⟩, ⟨242,  [p 4555 0, a [c 2,
  x [120], x [], c 1, c 0, c 4, i 0, x [108], z, c 0, i 0, x [], z, z, z, z, z], c 1, o, p 4566 0, o, i 0, p 4641 0, p 4642 0, i 0, o, o, o, u [a [c 4, i 0,
  x [], z, i 1], a [c 0, i 0, x [], z, i 0], i 0], p 4555 0, a [c 2, x [120], x [], c 1, c 0, c 4, i 0, x [108], z, c 0, i 0, x [], z, z, z, z, z], u [a [c 4,
  i 0, x [], z, i 1], a [c 0, i 0, x [], z, i 0], i 0], a [c 4, i 0, x [], z, i 1], a [c 0, i 0, x [], z, i 0], i 0, i 0, f, o, p 4641 0, c 4, f, o, o, o,
  o, o, o, o, o, o, o, o, o, o, o, o, o, o, o, o, o, o, o, o, o, o, o, o, o, o, o],  [.inDraw ⟨opsOf (cd 242 47),  [p 4555 0, a [c 2, x [120], x [], c 1, c 0,
  c 4, i 0, x [108], z, c 0, i 0, x [], z, z, z, z, z], c 1, o, p 4566 0, o, i 0, p 4641 0, p 4642 0, i 0, o, o, o, u [a [c 4, i 0, x [], z, i 1], a [c 0,
  i 0, x [], z, i 0], i 0], p 4555 0, a [c 2, x [120], x [], c 1, c 0, c 4, i 0, x [108], z, c 0, i 0, x [], z, z, z, z, z], u [a [c 4, i 0, x [], z, i 1],
  a [c 0, i 0, x [], z, i 0], i 0], a [c 4, i 0, x [], z, i 1], a [c 0, i 0, x [], z, i 0], i 0, i 0, f, o, p 4641 0, c 4, f, o, o, o, o, o, o, o, o, o, o,
  o, o, o, o, o, o, o, o, o, o, o, o, o, o, o, o, o, o, o, o],  [some (p 4555 0), some (p 4555 0), some (p 4555 4), some (p 4096 0), some (p 4555 0), some (p 4555 0),
  some (p 4555 0), some (p 4555 0), some (i 0), some (p 4641 4), some (i 1), some (c 1), some (a [c 0, i 0, x [], z, i 0]), none, none, none, none, none, some (p 4643 0),
  none, none, none],  [13, 19]⟩, .code (cd 242 63)],  [],  .run,  .normal,  none⟩, ⟨219,  [p 4555 0, a [c 2, x [120], x [], c 1, c 0, c 4, i 0, x [108], z,
  c 0, i 0, x [], z, z, z, z, z], o, p 4565 0, i 0, p 4555 0, a [c 2, x [120], x [], c 1, c 0, c 4, i 0, x [108], z, c 0, i 0, x [], z, z, z, z, z], p 4565 3,
  c 1, o],  [.inRegion (ops 219 5) [4, 5], .code (cd 219 7)],  [],  .run,  .normal,  none⟩, ⟨170,  [p 4096 0, a [i 0, n 4248 0 1, n 4270 0 1, n 4272 0 1],
  o, p 4451 0, p 4452 0, p 4453 0, z, f, i 0, t, p 4555 0, p 4556 0, i 8, u [t, i 0], p 4096 0, a [i 0, n 4248 0 1, n 4270 0 1, n 4272 0 1], u [t, i 0], t,
  i 0, i 0, f, o, o, o, a [i 0, n 4248 0 1, n 4270 0 1, n 4272 0 1], a [i 0, n 4533 0 1, n 4542 0 1, n 4554 0 1], p 4096 0, a [i 0, n 4533 0 1, n 4542 0 1,
  n 4554 0 1, p 4096 0, c 0, x [], x [], c 0, i 0, x [], z, i 0, c 0, i 0, x [], z, i 0, f, i 0, z], p 4555 0, t, f, o, o, o, o, o, p 4555 0, p 4555 0, p 4555 0,
  p 4555 1, n 4533 0 1, p 4533 0, a [c 2, x [120], x [], c 1, c 0, c 4, i 0, x [108], z, c 0, i 0, x [], z, z, z, z, z], p 4555 0, p 4555 0, p 4555 0, p 4555 0,
  p 4555 1, n 4533 0 1, .eslice, p 4555 0, p 4555 0, p 4555 1, p 4555 0, p 4556 0, c 2, p 4556 1, x [120], p 4556 2, x [], a [c 2, x [120], x [], c 0, i 0,
  x [], z, i 0, c 0, i 0, x [], z, i 0, f, i 0], p 4555 0, p 4555 5, p 4555 0, p 4556 1, x [120], p 4556 2, x [], s 4557 0 2 2, t, o, o, o, o, o, o, o, o,
  o, o, o, o, o, o, o, o, o, o, o, o, o, o, o, o, o, o, o, o, o, o, o, o, o, o, o, o, o, o, o, o, o, o, o, o, o, o, o, o, o, o, o, o, o, o, o, o, o, o, o,
  o, o, o, o, o, o, o, o],  [.inDraw ⟨opsOf (cd 170 5631),  [p 4096 0, a [i 0, n 4248 0 1, n 4270 0 1, n 4272 0 1], o, p 4451 0, p 4452 0, p 4453 0, z, f,
  i 0, t, p 4555 0, p 4556 0, i 8, u [t, i 0], p 4096 0, a [i 0, n 4248 0 1, n 4270 0 1, n 4272 0 1], u [t, i 0], t, i 0, i 0, f, o, o, o, a [i 0, n 4248 0 1,
  n 4270 0 1, n 4272 0 1], a [i 0, n 4533 0 1, n 4542 0 1, n 4554 0 1], p 4096 0, a [i 0, n 4533 0 1, n 4542 0 1, n 4554 0 1, p 4096 0, c 0, x [], x [], c 0,
  i 0, x [], z, i 0, c 0, i 0, x [], z, i 0, f, i 0, z], p 4555 0, t, f, o, o, o, o, o, p 4555 0, p 4555 0, p 4555 0, p 4555 1, n 4533 0 1, p 4533 0, a [c 2,
  x [120], x [], c 1, c 0, c 4, i 0, x [108], z, c 0, i 0, x [], z, z, z, z, z], p 4555 0, p 4555 0, p 4555 0, p 4555 0, p 4555 1, n 4533 0 1, .eslice, p 4555 0,
  p 4555 0, p 4555 1, p 4555 0, p 4556 0, c 2, p 4556 1, x [120], p 4556 2, x [], a [c 2, x [120], x [], c 0, i 0, x [], z, i 0, c 0, i 0, x [], z, i 0, f,
  i 0], p 4555 0, p 4555 5, p 4555 0, p 4556 1, x [120], p 4556 2, x [], s 4557 0 2 2, t, o, o, o, o, o, o, o, o, o, o, o, o, o, o, o, o, o, o, o, o, o, o,
  o, o, o, o, o, o, o, o, o, o, o, o, o, o, o, o, o, o, o, o, o, o, o, o, o, o, o, o, o, o, o, o, o, o, o, o, o, o, o, o, o, o, o, o, o],  [some (m 4564),
  some (p 4556 0), some (c 2), some (k 219), some (p 4555 0), some (a [c 2, x [120], x [], c 1, c 0, c 4, i 0, x [108], z, c 0, i 0, x [], z, z, z, z, z]),
  none, none],  [6]⟩, .code (cd 170 2047)],  [],  .run,  .normal,  none⟩, ⟨134,  [p 4329 0, a [i 0, i 0], o, p 4447 0, p 4448 0, f, o, o, o, o, o, o, o, o,
  o, o, o, o, o, o, o, o, o, o, o, o, o, o, o, o, o, o, o, o, o, o, o, o, o, o, o, o, o, o, o, o, o, o, o, o, o, o, o, o, o, o, o],  [.inDraw ⟨opsOf (cd 134 5),
   [p 4329 0, a [i 0, i 0], o, p 4447 0, p 4448 0, f, o, o, o, o, o, o, o, o, o, o, o, o, o, o, o, o, o, o, o, o, o, o, o, o, o, o, o, o, o, o, o, o, o, o,
  o, o, o, o, o, o, o, o, o, o, o, o, o, o, o, o, o],  [some (p 4329 0), some (p 4329 0), some (p 4329 1), some (p 4096 0), some (p 4329 0), some (p 4329 0),
  some (p 4329 3), some (n 4328 0 2), some (p 4447 0), some (i 0), some (p 4328 0), some (a [i 0, n 4248 0 1, n 4270 0 1, n 4272 0 1]), none, none, none, none,
  none, none, none, some (p 4449 0), some (p 4450 0), none, none, none, none, none],  [12, 21, 22]⟩, .code (cd 134 7)],  [],  .run,  .normal,  none⟩, ⟨94,
   [p 4329 0, a [i 0, i 0], o, p 4444 0, p 4445 0, f, i 0, .func (.func 134) [p 4329 0] [], p 4329 0, t, f, o, p 4329 0, a [i 0, i 0], t, f, o, p 4329 0, .func (.func 134) [p 4329 0] [],
  p 4444 1, i 0, f, o, o, o, .func (.func 134) [p 4329 0] [], a [i 0, i 0], o, o, o, o, o, o, o, o, o, o, o, o, o, o, o, o, o, o, o, o, o, o, o, o, o, o, o,
  o, o],  [.inRegion (ops 94 159) [2, 3, 4, 5, 6, 7], .code (cd 94 223), .code (cd 94 127)],  [],  .run,  .normal,  none⟩, u131, u132, u93, u64, u13], 4662,
  [(0,  q [y, y] 24), b0, (2,  q [zp, p 1 0] 31), (3,  q [i 0] 22), (4,  q [f, f] 4), (5,  q [i 0, i 0] 3), (6,  .map [] 0), (7,  .map [] 0), (9,  q [i 0] 22),
  b1, (11,  .map [] 0), (12,  .map [] 0), (14,  q [i 0] 22), (16,  q [f, f] 4), (18,  q [i 0, i 0] 3), b2, (21,  .map [] 0), (22,  .map [] 0), (24,  q [i 0] 22),
  (26,  q [f, f] 4), (28,  q [i 0, i 0] 3), b3, b4, (50,  q [y, y] 24), (52,  q [y, y] 24), (53,  q [y, y] 24), (64,  q [y, y] 24), b5, (74,  .map [] 0), (75,
   .map [] 0), (77,  q [i 0] 22), (79,  q [f, f] 4), (81,  q [i 0, i 0] 3), b6, (84,  .map [] 0), (85,  .map [] 0), (87,  q [i 0] 22), (89,  q [f, f] 4), (91,
   q [i 0, i 0] 3), b7, b8, b9, b10, b11, b12, (2135,  q [i 0] 22), (2136,  q [f, f] 4), (2137,  q [i 0, i 1] 3), b14, (2139,  .map [] 0), (2141,  q [i 0] 22),
  b15, b16, b17, b18, (2197,  q [i 1] 60), (2198,  q [i 1] 60), b19, b20, (2301,  .map [] 0), (2303,  q [i 0] 22), (2305,  q [f, f] 4), (2307,  q [i 0, i 1] 3),
  b21, b22, b26, (2326,  .map [] 0), (2328,  q [i 0] 22), (2330,  q [f, f] 4), (2332,  q [i 0, i 1] 3), b23, b27, b28, b29, (2401,  q [i 1] 60), b30, b31,
  (2455,  q [i 1] 60), b32, b33, b34, (2509,  q [i 1] 60), b35, b36, (2563,  q [i 1] 60), b37, b38, b58, (2976,  .map [] 0), (2978,  q [f] 4), (2980,  q [i 1] 3),
  b59, b60, b61, (2999,  .map [] 0), (3001,  q [f] 4), (3003,  q [i 1] 3), b62, b63, b65, b66, (3072,  q [i 1] 60), b67, b68, (3126,  q [i 1] 60), b69, b70,
  b71, (3180,  q [i 1] 60), b72, b73, (3234,  q [i 1] 60), b74, b75, (3239,  q [i 1] 22), b76, b79, (3242,  .map [] 0), (3244,  q [i 0] 22), (3246,  q [f,
  f] 4), (3248,  q [i 0, i 1] 3), b77, b80, b81, (3267,  .map [] 0), (3269,  q [f] 4), (3271,  q [i 1] 3), b82, b83, b84, b85, (3340,  q [i 1] 60), b86, b87,
  (3394,  q [i 1] 60), b88, b89, b90, (3448,  q [i 1] 60), b91, b94, (3502,  q [i 1] 60), b95, b96, b97, b98, b112, (4064,  .map [] 0), (4066,  q [i 0] 22),
  (4068,  q [f, f] 4), (4070,  q [i 0, i 1] 3), b113, b114, b115, (4089,  .map [] 0), (4091,  q [i 0] 22), (4093,  q [f, f] 4), (4095,  q [i 0, i 1] 3), b116,
  b117, b118, b119, (4164,  q [i 1] 60), b120, b121, (4218,  q [i 1] 60), b122, b123, b124, (4272,  q [i 1] 60), b125, b126, (4326,  q [i 1] 60), b127, b128,
  b129, b130, (4381,  q [i 1] 60), b133, b134, (4435,  q [i 1] 60), b135, b136, b137, b138, (4445,  q [i 0, i 0, c 0, x [], x [], c 0, i 0, x [], z, i 0, c 0,
  i 0, x [], z, i 0, f, i 0, z] 166), (4447,  q [i 0, i 0] 24), (4448,  q [i 0, i 0, c 0, x [], x [], c 0, i 0, x [], z, i 0, c 0, i 0, x [], z, i 0, f, i 0,
  z] 166), (4449,  q [i 0, z, z, z] 52), (4450,  q [c 0, x [], x [], c 0, i 0, x [], z, i 0, c 0, i 0, x [], z, i 0, f, i 0] 163), (4451,  q [i 0, n 4248 0 1,
  n 4270 0 1, n 4272 0 1] 52), (4452,  q [i 0, z, z, z] 52), (4453,  q [c 0, x [], x [], c 0, i 0, x [], z, i 0, c 0, i 0, x [], z, i 0, f, i 0] 163), (4533,
   q [c 2, x [120], x [], c 1, c 0, c 4, i 0, x [108], z, c 0, i 0, x [], z, z, z, z, z] 109), (4542,  q [x [108], c 4, i 0, x [], z, i 1] 101), (4554,  q [i 1] 60),
  (4555,  q [i 0, .eslice, n 4542 0 1, n 4554 0 1, p 4096 0, c 2, x [120], x [], c 0, i 0, x [], z, i 0, c 0, i 0, x [], z, i 0, f, i 0, z] 272), (4556,  q [c 2,
  x [120], x [], c 1, c 0, c 4, i 0, x [108], z, c 0, i 0, x [], z, z, z, z, z] 109), (4557,  q [x [120], x []] 9), (4564,  .map [⟨c 1,  k 218,  0⟩, ⟨c 2,
   k 219,  1⟩, ⟨c 3,  k 220,  2⟩, ⟨c 4,  k 221,  3⟩, ⟨c 5,  k 222,  4⟩, ⟨c 6,  k 223,  5⟩, ⟨c 7,  k 224,  6⟩, ⟨c 8,  k 225,  7⟩, ⟨c 9,  k 226,  8⟩] 9), (4565,
   q [c 2, x [120], x [], c 1, c 0, c 4, i 0, x [108], z, c 0, i 0, x [], z, z, z, z, z] 109), (4566,  q [c 2, x [120], x [], c 1, c 0, c 4, i 0, x [108],
  z, c 0, i 0, x [], z, z, z, z, z] 109), (4641,  q [c 4, i 0, x [], z, i 1] 77), (4642,  q [c 0, i 0, x [], z, i 0] 77), (4643,  q [c 0, i 0, x [], z, i 0] 77),
  (4644,  q [c 0, i 0, x [], z, i 0] 77), (4645,  q [c 0, i 0, x [], z, i 0] 77), (4646,  .map [] 0), (4647,  q [z, m 4646, i 0, i 0, i 0] 324), (4648,  q [p 4647 0] 319),
  (4649,  q [i 0, i 1, c 1, c 0, i 0, x [], z, i 0] 328), (4650,  q [c 0, i 0, x [], z, i 0] 77), (4651,  q [c 1, i 0, i 1, i 1, c 1, c 0, i 0, x [], z, i 0,
  c 0, i 0, x [], z, i 0, c 0, z, z] 248), (4654,  q [f] 4), (4655,  q [p 4096 0] 26), (4656,  q [i 1] 60), (4657,  q [c 1] 78), (4658,  q [c 0, i 0, x [],
  z, i 0] 77), (4659,  q [kc 269 [p 4654 0, p 4651 0, p 4648 0]] 372), (4660,  q [c 0, i 0, x [], z, i 0] 77), (4661,  q [c 0, i 0, x [], z, i 0] 77)]⟩

noncomputable def b139 : Nat × BObj := (4329,  q [p 4071 0, p 4096 0, n 4220 0 2, n 4889 0 2, n 4891 0 1] 30)
noncomputable def b140 : Nat × BObj := (4784,  q [c 1, i 0, i 1, i 1, c 1, c 0, i 0, x [], z, i 0, c 3, i 0, x [], z, i 0, c 0, z, z] 248)
noncomputable def b141 : Nat × BObj := (4865,  q [x [108], c 4, i 0, x [], z, i 1, x [120], c 3, i 0, x [], z, i 0] 101)
noncomputable def b142 : Nat × BObj := (4889,  q [i 0, s 4863 0 0 0, n 4865 0 2, n 4887 0 1, i 1, n 4302 0 1, n 4324 0 1, n 4326 0 1] 52)
noncomputable def b143 : Nat × BObj := (4891,  q [i 0, i 0, c 2, x [120], x [], c 3, i 0, x [], z, i 0, c 0, i 0, x [], z, i 0, f, i 0, n 4784 0 1] 166)
noncomputable def S20 : CState :=
  ⟨⟨152,  [p 4902 0, a [c 3, i 0, x [], z, i 0], o, p 4903 0, f, p 4904 0, o, o, p 4902 0, p 4902 0, p 4902 0, i 512, f, p 4902 0, p 4902 0, p 4902 0, i 512,
  i 511, p 4902 0, p 4902 0, a [c 3, i 0, x [], z, i 0], p 4903 0, c 3, f, f, f, f, o, f, f, o, o, o, o, o, f, f, o, o, o, o, t, t, p 4902 0, p 4902 0, p 4902 1,
  i 16, f, f, p 4903 3, z, i 0, p 4902 0, p 4902 0, p 4902 0, i 511, f, f, p 4902 0, p 4902 0, p 4902 1, i 16, i 15, p 4902 0, p 4902 1, p 4903 3, z, i 0,
  i 0, f, o, o, o, o, o, o, o, p 4902 0, p 4902 0, p 4902 1, i 15, i 16, p 4902 0, p 4902 1, p 4904 3, p 4904 1, i 0, t, t, p 4904 2, x [], t, t, t, p 4904 4,
  i 0, t, t, t, p 4904 3, o, o, o, o],  [.inRegion (ops 152 95) [15, 16, 17, 18, 19], .code (cd 152 53)],  [],  .run,  .normal,  none⟩, [⟨114,  [a [c 3, i 0,
  x [], z, i 0], p 4901 0, i 0, p 4902 0, a [i 512, i 16], p 4902 0, p 4902 0, a [c 3, i 0, x [], z, i 0], o, o, o, o, o, o, o],  [.inRegion (ops 114 19) [2,
  3], .code (cd 114 27), .code (cd 114 15)],  [],  .run,  .normal,  none⟩, ⟨76,  [a [c 3, i 0, x [], z, i 0], p 4900 0, f, a [c 3, i 0, x [], z, i 0], o, o],
   [.inRegion (ops 76 5) [1, 2, 3], .code (cd 76 7)],  [],  .run,  .normal,  none⟩, ⟨116,  [a [c 3, i 0, x [], z, i 0], p 4898 0, p 4899 0, i 0, a [c 3, i 0,
  x [], z, i 0], o, o, o, o, o],  [.inRegion (ops 116 9) [1, 2], .code (cd 116 13), .code (cd 116 7)],  [],  .run,  .normal,  none⟩, ⟨85,  [a [c 3, i 0, x [],
  z, i 0], p 4896 0, p 4897 0, o, o, o, a [c 3, i 0, x [], z, i 0], o, o, o, o, o, o, o],  [.inRegion (ops 85 9) [1, 2, 3, 4, 5, 6, 7], .code (cd 85 13), .code (cd 85 7)],
   [],  .run,  .normal,  none⟩, ⟨174,  [a [c 2, x [120], x [], c 3, i 0, x [], z, i 0, c 0, i 0, x [], z, i 0, f, i 0], p 4894 0, p 4895 0, o, o, o, o, o,
  o, o, o, o],  [.inDraw ⟨opsOf (cd 174 5),  [a [c 2, x [120], x [], c 3, i 0, x [], z, i 0, c 0, i 0, x [], z, i 0, f, i 0], p 4894 0, p 4895 0, o, o, o,
  o, o, o, o, o, o],  [some (p 4894 3), some (a [c 3, i 0, x [], z, i 0]), none, some (p 4894 8), some (a [c 0, i 0, x [], z, i 0]), none, none, none, none,
  none],  [2, 5, 7, 9]⟩, .code (cd 174 7)],  [],  .run,  .normal,  none⟩, ⟨136,  [a [i 0, i 0, c 2, x [120], x [], c 3, i 0, x [], z, i 0, c 0, i 0, x [],
  z, i 0, f, i 0, n 4784 0 1], p 4892 0, p 4893 0, o, o, o, p 4892 2, a [c 2, x [120], x [], c 3, i 0, x [], z, i 0, c 0, i 0, x [], z, i 0, f, i 0], o, o,
  o, o, o, o, o, o, o, o, o, o, o, o, o, o, o, o, o, o, o, o, o, o, o, o, o, o, o, o, o, o, o],  [.inRegion (ops 136 5) [2, 3, 4], .code (cd 136 7)],  [],
   .run,  .normal,  none⟩, ⟨94,  [p 4329 0, a [i 0, i 0], o, p 4444 0, p 4445 0, t, i 0, .func (.func 134) [p 4329 0] [], p 4329 0, t, f, o, p 4329 0, a [i 0,
  i 0], t, f, o, p 4329 0, .func (.func 134) [p 4329 0] [], p 4444 1, i 0, f, o, o, u [a [i 0, i 0, c 2, x [120], x [], c 3, i 0, x [], z, i 0, c 0, i 0, x [],
  z, i 0, f, i 0, n 4784 0 1], t], .func (.func 134) [p 4329 0] [], a [i 0, i 0], u [a [i 0, i 0, c 2, x [120], x [], c 3, i 0, x [], z, i 0, c 0, i 0, x [],
  z, i 0, f, i 0, n 4784 0 1], t], a [i 0, i 0, c 2, x [120], x [], c 3, i 0, x [], z, i 0, c 0, i 0, x [], z, i 0, f, i 0, n 4784 0 1], t, t, f, o, p 4329 0,
  p 4329 0, p 4329 0, p 4329 4, z, p 4329 0, p 4329 0, p 4329 4, z, i 0, p 4329 0, p 4329 0, p 4329 4, z, i 0, z, a [i 0, i 0, c 2, x [120], x [], c 3, i 0,
  x [], z, i 0, c 0, i 0, x [], z, i 0, f, i 0, n 4784 0 1], s 4890 0 1 1, n 4891 0 1, p 4329 0, p 4329 4, a [i 0, i 0, c 2, x [120], x [], c 3, i 0, x [],
  z, i 0, c 0, i 0, x [], z, i 0, f, i 0, n 4784 0 1], o],  [.inRegion (ops 94 383) [1, 2, 3, 4], .code (cd 94 53)],  [],  .run,  .normal,  none⟩, u131, u132,
  u93, u64, u13], 4905, [(0,  q [y, y] 24), b0, (2,  q [zp, p 1 0] 31), (3,  q [i 0] 22), (4,  q [f, f] 4), (5,  q [i 0, i 0] 3), (6,  .map [] 0), (7,  .map [] 0),
  (9,  q [i 0] 22), b1, (11,  .map [] 0), (12,  .map [] 0), (14,  q [i 0] 22), (16,  q [f, f] 4), (18,  q [i 0, i 0] 3), b2, (21,  .map [] 0), (22,  .map [] 0),
  (24,  q [i 0] 22), (26,  q [f, f] 4), (28,  q [i 0, i 0] 3), b3, b4, (50,  q [y, y] 24), (52,  q [y, y] 24), (53,  q [y, y] 24), (64,  q [y, y] 24), b5,
  (74,  .map [] 0), (75,  .map [] 0), (77,  q [i 0] 22), (79,  q [f, f] 4), (81,  q [i 0, i 0] 3), b6, (84,  .map [] 0), (85,  .map [] 0), (87,  q [i 0] 22),
  (89,  q [f, f] 4), (91,  q [i 0, i 0] 3), b7, b8, b9, b10, b11, b12, (2135,  q [i 0] 22), (2136,  q [f, f] 4), (2137,  q [i 0, i 1] 3), b14, (2139,  .map [] 0),
  (2141,  q [i 0] 22), b15, b16, b17, b18, (2197,  q [i 1] 60), (2198,  q [i 1] 60), b19, b20, (2301,  .map [] 0), (2303,  q [i 0] 22), (2305,  q [f, f] 4),
  (2307,  q [i 0, i 1] 3), b21, b22, b26, (2326,  .map [] 0), (2328,  q [i 0] 22), (2330,  q [f, f] 4), (2332,  q [i 0, i 1] 3), b23, b27, b28, b29, (2401,
   q [i 1] 60), b30, b31, (2455,  q [i 1] 60), b32, b33, b34, (2509,  q [i 1] 60), b35, b36, (2563,  q [i 1] 60), b37, b38, b58, (2976,  .map [] 0), (2978,
   q [f] 4), (2980,  q [i 1] 3), b59, b60, b61, (2999,  .map [] 0), (3001,  q [f] 4), (3003,  q [i 1] 3), b62, b63, b65, b66, (3072,  q [i 1] 60), b67, b68,
  (3126,  q [i 1] 60), b69, b70, b71, (3180,  q [i 1] 60), b72, b73, (3234,  q [i 1] 60), b74, b75, (3239,  q [i 1] 22), b76, b79, (3242,  .map [] 0), (3244,
   q [i 0] 22), (3246,  q [f, f] 4), (3248,  q [i 0, i 1] 3), b77, b80, b81, (3267,  .map [] 0), (3269,  q [f] 4), (3271,  q [i 1] 3), b82, b83, b84, b85,
  (3340,  q [i 1] 60), b86, b87, (3394,  q [i 1] 60), b88, b89, b90, (3448,  q [i 1] 60), b91, b94, (3502,  q [i 1] 60), b95, b96, b97, b98, b112, (4064,  .map [] 0),
  (4066,  q [i 0] 22), (4068,  q [f, f] 4), (4070,  q [i 0, i 1] 3), b113, b114, b115, (4089,  .map [] 0), (4091,  q [i 0] 22), (4093,  q [f, f] 4), (4095,
   q [i 0, i 1] 3), b116, b117, b118, b119, (4164,  q [i 1] 60), b120, b121, (4218,  q [i 1] 60), b122, b125, b126, (4326,  q [i 1] 60), b139, b129, b130,
  (4381,  q [i 1] 60), b133, b134, (4435,  q [i 1] 60), b135, b136, b137, b138, (4445,  q [i 0, i 0, c 2, x [120], x [], c 3, i 0, x [], z, i 0, c 0, i 0,
  x [], z, i 0, f, i 0, n 4784 0 1] 166), b140, (4863,  q [] 109), b141, (4887,  q [i 1] 60), b142, (4890,  q [i 0, i 0, c 2, x [120], x [], c 3, i 0, x [],
  z, i 0, c 0, i 0, x [], z, i 0, f, i 0, n 4784 0 1] 166), b143, (4892,  q [i 0, i 0, c 2, x [120], x [], c 3, i 0, x [], z, i 0, c 0, i 0, x [], z, i 0,
  f, i 0, n 4784 0 1] 166), (4893,  q [i 0, i 0, c 0, x [], x [], c 0, i 0, x [], z, i 0, c 0, i 0, x [], z, i 0, f, i 0, z] 166), (4894,  q [c 2, x [120],
  x [], c 3, i 0, x [], z, i 0, c 0, i 0, x [], z, i 0, f, i 0] 163), (4895,  q [c 0, x [], x [], c 0, i 0, x [], z, i 0, c 0, i 0, x [], z, i 0, f, i 0] 163),
  (4896,  q [c 3, i 0, x [], z, i 0] 77), (4897,  q [c 0, i 0, x [], z, i 0] 77), (4898,  q [c 3, i 0, x [], z, i 0] 77), (4899,  q [c 0, i 0, x [], z, i 0] 77),
  (4900,  q [c 3, i 0, x [], z, i 0] 77), (4901,  q [c 3, i 0, x [], z, i 0] 77), (4902,  q [i 511, i 16] 229), (4903,  q [c 3, i 0, x [], z, i 0] 77), (4904,
   q [c 3, i 0, x [], z, i 0] 77)]⟩

noncomputable def u144 : BFrame := ⟨63,  [p 4329 0, s 3240 0 2 2, p 4438 0, o, i 1, i 0, o, p 4948 0, p 4947 0, t, i 0, f, p 4329 0, t, f, f, s 3240 0 2 2, i 2, f, f, s 3240 0 2 2, kc 92 [p 4438 0],
  f, s 3240 0 2 2, i 2, i 1, t, p 3240 2, a [i 1, i 0], u [a [i 0, i 0, c 2, x [120], x [], c 3, i 0, x [], z, i 0, c 0, i 0, x [], z, i 0, f, i 0, n 4946 0 1],
  t, i 0], p 4329 0, a [i 1, i 0], u [a [i 0, i 0, c 2, x [120], x [], c 3, i 0, x [], z, i 0, c 0, i 0, x [], z, i 0, f, i 0, n 4946 0 1], t, i 0], a [i 0,
  i 0, c 2, x [120], x [], c 3, i 0, x [], z, i 0, c 0, i 0, x [], z, i 0, f, i 0, n 4946 0 1], t, i 0, t, i 0, i 1, i 1, o],  [.inRegion (ops 63 5323) [2,
  3, 4, 5, 6, 7, 8, 9, 10], .code (cd 63 7371), .inBlock 2, .code (cd 63 971), .inLoop (cd 63 75), .inBlock 1, .code (cd 63 15)],  [],  .run,  .normal,  none⟩
noncomputable def b145 : Nat × BObj := (4946,  q [c 1, i 0, i 1, i 1, c 1, c 0, i 0, x [], z, i 0, c 3, i 0, x [], z, i 0, c 0, z, z] 248)
noncomputable def b146 : Nat × BObj := (4947,  q [i 0, i 0, c 2, x [120], x [], c 3, i 0, x [], z, i 0, c 0, i 0, x [], z, i 0, f, i 0, n 4946 0 1] 166)
noncomputable def b147 : Nat × BObj := (4948,  q [i 1, i 0] 24)
noncomputable def b148 : Nat × BObj := (4949,  q [i 1, i 0] 24)
noncomputable def S21 : CState :=
  ⟨⟨152,  [p 5169 0, a [c 0, i 0, x [], z, i 0], o, p 5170 0, f, p 5171 0, o, o, p 5169 0, p 5169 0, p 5169 0, i 512, f, p 5169 0, p 5169 0, p 5169 0, i 512,
  i 511, p 5169 0, p 5169 0, a [c 0, i 0, x [], z, i 0], p 5170 0, c 0, t, t, o, o, o, o, o, o, o, o, o, o, o, o, o, o, o, o, o, o, o, o, o, o, o, o, o, o,
  o, o, o, o, o, o, o, o, o, o, o, o, o, o, o, o, o, o, o, o, o, o, o, o, o, o, o, o, o, o, o, o, o, o, o, o, o, o, o, o, o, o, o, o, o, o, o, o, o, o, o,
  o, o],  [.code (cd 152 431), .inBlock 0, .code (cd 152 63)],  [],  .run,  .normal,  none⟩, [⟨114,  [a [c 0, i 0, x [], z, i 0], p 5168 0, i 0, p 5169 0,
  a [i 512, i 16], p 5169 0, p 5169 0, a [c 0, i 0, x [], z, i 0], o, o, o, o, o, o, o],  [.inRegion (ops 114 19) [2, 3], .code (cd 114 27), .code (cd 114 15)],
   [],  .run,  .normal,  none⟩, ⟨76,  [a [c 0, i 0, x [], z, i 0], p 5167 0, f, a [c 0, i 0, x [], z, i 0], o, o],  [.inRegion (ops 76 5) [1, 2, 3], .code (cd 76 7)],
   [],  .run,  .normal,  none⟩, ⟨288,  [p 4096 0, i 1, i 1, c 1, a [c 0, i 0, x [], z, i 0], o, o, o, o, p 5166 0, i 0, f, p 4096 0, t, f, o, p 4096 0, i 1,
  t, f, f, c 1, t, f, f, f, a [c 0, i 0, x [], z, i 0], o, o, o, o, o, o, o, o, o, o, o, o, o, o, o, o, o, o, o, o, o, o, o, o, o, o, o, o, o, o, o, o, o,
  o, o, o, o],  [.inRegion (ops 288 89) [11, 12, 13, 14], .code (cd 288 121), .inBlock 0, .code (cd 288 7)],  [],  .run,  .normal,  none⟩, ⟨268,  [p 4096 0,
  i 1, i 1, c 1, a [c 0, i 0, x [], z, i 0], kc 269 [p 5159 0, p 5156 0, p 5153 0], p 5160 0, o, p 5161 0, p 5162 0, p 5163 0, p 5164 0, p 5165 0, zi, o, o,
  o, p 4096 0, i 1, i 1, c 1, a [c 0, i 0, x [], z, i 0], o, o, o, o, o, o, o, o, o, o, o, o, o, o],  [.inRegion (ops 268 9) [5, 6], .code (cd 268 13), .code (cd 268 7)],
   [],  .run,  .normal,  none⟩, ⟨256,  [p 5152 0, p 4096 0, i 0, a [i 1, i 1, c 1, c 0, i 0, x [], z, i 0], p 5153 0, o, o, p 5154 0, p 5155 0, zi, p 5156 0,
  p 5159 0, o, o, o, i 0, p 5154 1, i 1, p 4096 0, p 5154 1, i 1, i 1, p 5154 2, c 1, p 5154 3, a [c 0, i 0, x [], z, i 0], a [c 1, i 0, i 1, i 1, c 1, c 0,
  i 0, x [], z, i 0, c 0, i 0, x [], z, i 0, c 0, z, z], o, p 4096 0, p 5154 0, i 1, p 5154 1, i 1, p 5154 2, c 1, p 5154 3, a [c 0, i 0, x [], z, i 0], kc 269 [p 5159 0,
  p 5156 0, p 5153 0], o, o, o, o, o, o, o, o, o, o, o, o, o, o, o, o, o, o, o, o, o, o, o, o, o, o, o, o, o, o, o, o, o, o, o, o, o, o, o, o, o, o, o, o,
  o, o, o, o, o, o, o, o],  [.inRegion (ops 256 23) [10, 11, 12, 13, 14, 15, 16], .code (cd 256 31)],  [],  .run,  .normal,  none⟩, ⟨238,  [p 4096 0, i 1,
  i 1, c 1, a [c 0, i 0, x [], z, i 0], o, o, o, o, p 5149 0, p 5150 0, z, zi, p 5152 0, o, o, m 5151, a [z, m 5151, i 0, i 0, i 0], p 5152 0, o, p 5152 0,
  p 4096 0, i 1, i 1, c 1, a [c 0, i 0, x [], z, i 0], a [i 1, i 1, c 1, c 0, i 0, x [], z, i 0], o, o, o, o, o, o, o, o, o, o, o, o],  [.inRegion (ops 238 11) [7,
  8, 9, 10, 11, 12, 13], .code (cd 238 15)],  [],  .run,  .normal,  none⟩, ⟨242,  [p 5060 0, a [c 2, x [120], x [], c 1, c 0, c 4, i 0, x [108], z, c 0, i 0,
  x [], z, z, z, z, z], c 1, o, p 5071 0, o, i 0, p 5146 0, p 5147 0, i 0, o, o, o, u [a [c 4, i 0, x [], z, i 1], a [c 0, i 0, x [], z, i 0], i 0], p 5060 0,
  a [c 2, x [120], x [], c 1, c 0, c 4, i 0, x [108], z, c 0, i 0, x [], z, z, z, z, z], u [a [c 4, i 0, x [], z, i 1], a [c 0, i 0, x [], z, i 0], i 0], a [c 4,
  i 0, x [], z, i 1], a [c 0, i 0, x [], z, i 0], i 0, i 0, f, o, p 5146 0, c 4, f, o, o, o, o, o, o, o, o, o, o, o, o, o, o, o, o, o, o, o, o, o, o, o, o,
  o, o, o, o, o, o],  [.inDraw ⟨opsOf (cd 242 47),  [p 5060 0, a [c 2, x [120], x [], c 1, c 0, c 4, i 0, x [108], z, c 0, i 0, x [], z, z, z, z, z], c 1,
  o, p 5071 0, o, i 0, p 5146 0, p 5147 0, i 0, o, o, o, u [a [c 4, i 0, x [], z, i 1], a [c 0, i 0, x [], z, i 0], i 0], p 5060 0, a [c 2, x [120], x [],
  c 1, c 0, c 4, i 0, x [108], z, c 0, i 0, x [], z, z, z, z, z], u [a [c 4, i 0, x [], z, i 1], a [c 0, i 0, x [], z, i 0], i 0], a [c 4, i 0, x [], z, i 1],
  a [c 0, i 0, x [], z, i 0], i 0, i 0, f, o, p 5146 0, c 4, f, o, o, o, o, o, o, o, o, o, o, o, o, o, o, o, o, o, o, o, o, o, o, o, o, o, o, o, o, o, o],
   [some (p 5060 0), some (p 5060 0), some (p 5060 4), some (p 4096 0), some (p 5060 0), some (p 5060 0), some (p 5060 0), some (p 5060 0), some (i 1), some (p 5146 4),
  some (i 1), some (c 1), some (a [c 0, i 0, x [], z, i 0]), none, none, none, none, none, some (p 5148 0), none, none, none],  [13, 19]⟩, .code (cd 242 63)],
   [],  .run,  .normal,  none⟩, ⟨219,  [p 5060 0, a [c 2, x [120], x [], c 1, c 0, c 4, i 0, x [108], z, c 0, i 0, x [], z, z, z, z, z], o, p 5070 0, i 0,
  p 5060 0, a [c 2, x [120], x [], c 1, c 0, c 4, i 0, x [108], z, c 0, i 0, x [], z, z, z, z, z], p 5070 3, c 1, o],  [.inRegion (ops 219 5) [4, 5], .code (cd 219 7)],
   [],  .run,  .normal,  none⟩, ⟨170,  [p 4096 0, a [i 1, n 4302 0 1, n 4324 0 1, n 4326 0 1], o, p 4956 0, p 4957 0, p 4958 0, z, f, i 0, t, p 5060 0, p 5061 0,
  i 8, u [t, i 0], p 4096 0, a [i 1, n 4302 0 1, n 4324 0 1, n 4326 0 1], u [t, i 0], t, i 0, i 0, f, o, o, o, a [i 1, n 4302 0 1, n 4324 0 1, n 4326 0 1],
  a [i 1, n 5038 0 1, n 5047 0 1, n 5059 0 1], p 4096 0, a [i 1, n 5038 0 1, n 5047 0 1, n 5059 0 1, p 4096 0, c 0, x [], x [], c 0, i 0, x [], z, i 0, c 0,
  i 0, x [], z, i 0, f, i 0, z], p 5060 0, t, f, o, o, o, o, o, p 5060 0, p 5060 0, p 5060 0, p 5060 1, n 5038 0 1, p 5038 0, a [c 2, x [120], x [], c 1, c 0,
  c 4, i 0, x [108], z, c 0, i 0, x [], z, z, z, z, z], p 5060 0, p 5060 0, p 5060 0, p 5060 0, p 5060 1, n 5038 0 1, .eslice, p 5060 0, p 5060 0, p 5060 1,
  p 5060 0, p 5061 0, c 2, p 5061 1, x [120], p 5061 2, x [], a [c 2, x [120], x [], c 0, i 0, x [], z, i 0, c 0, i 0, x [], z, i 0, f, i 0], p 5060 0, p 5060 5,
  p 5060 0, p 5061 1, x [120], p 5061 2, x [], s 5062 0 2 2, t, o, o, o, o, o, o, o, o, o, o, o, o, o, o, o, o, o, o, o, o, o, o, o, o, o, o, o, o, o, o, o,
  o, o, o, o, o, o, o, o, o, o, o, o, o, o, o, o, o, o, o, o, o, o, o, o, o, o, o, o, o, o, o, o, o, o, o, o],  [.inDraw ⟨opsOf (cd 170 5631),  [p 4096 0,
  a [i 1, n 4302 0 1, n 4324 0 1, n 4326 0 1], o, p 4956 0, p 4957 0, p 4958 0, z, f, i 0, t, p 5060 0, p 5061 0, i 8, u [t, i 0], p 4096 0, a [i 1, n 4302 0 1,
  n 4324 0 1, n 4326 0 1], u [t, i 0], t, i 0, i 0, f, o, o, o, a [i 1, n 4302 0 1, n 4324 0 1, n 4326 0 1], a [i 1, n 5038 0 1, n 5047 0 1, n 5059 0 1], p 4096 0,
  a [i 1, n 5038 0 1, n 5047 0 1, n 5059 0 1, p 4096 0, c 0, x [], x [], c 0, i 0, x [], z, i 0, c 0, i 0, x [], z, i 0, f, i 0, z], p 5060 0, t, f, o, o,
  o, o, o, p 5060 0, p 5060 0, p 5060 0, p 5060 1, n 5038 0 1, p 5038 0, a [c 2, x [120], x [], c 1, c 0, c 4, i 0, x [108], z, c 0, i 0, x [], z, z, z, z,
  z], p 5060 0, p 5060 0, p 5060 0, p 5060 0, p 5060 1, n 5038 0 1, .eslice, p 5060 0, p 5060 0, p 5060 1, p 5060 0, p 5061 0, c 2, p 5061 1, x [120], p 5061 2,
  x [], a [c 2, x [120], x [], c 0, i 0, x [], z, i 0, c 0, i 0, x [], z, i 0, f, i 0], p 5060 0, p 5060 5, p 5060 0, p 5061 1, x [120], p 5061 2, x [], s 5062 0 2 2,
  t, o, o, o, o, o, o, o, o, o, o, o, o, o, o, o, o, o, o, o, o, o, o, o, o, o, o, o, o, o, o, o, o, o, o, o, o, o, o, o, o, o, o, o, o, o, o, o, o, o, o,
  o, o, o, o, o, o, o, o, o, o, o, o, o, o, o, o, o],  [some (m 5069), some (p 5061 0), some (c 2), some (k 219), some (p 5060 0), some (a [c 2, x [120], x [],
  c 1, c 0, c 4, i 0, x [108], z, c 0, i 0, x [], z, z, z, z, z]), none, none],  [6]⟩, .code (cd 170 2047)],  [],  .run,  .normal,  none⟩, ⟨134,  [p 4329 0,
  a [i 1, i 0], o, p 4952 0, p 4953 0, f, o, o, o, o, o, o, o, o, o, o, o, o, o, o, o, o, o, o, o, o, o, o, o, o, o, o, o, o, o, o, o, o, o, o, o, o, o, o,
  o, o, o, o, o, o, o, o, o, o, o, o, o],  [.inDraw ⟨opsOf (cd 134 5),  [p 4329 0, a [i 1, i 0], o, p 4952 0, p 4953 0, f, o, o, o, o, o, o, o, o, o, o, o,
  o, o, o, o, o, o, o, o, o, o, o, o, o, o, o, o, o, o, o, o, o, o, o, o, o, o, o, o, o, o, o, o, o, o, o, o, o, o, o, o],  [some (p 4329 0), some (p 4329 0),
  some (p 4329 1), some (p 4096 0), some (p 4329 0), some (p 4329 0), some (p 4329 3), some (n 4889 0 2), some (p 4952 0), some (i 1), some (p 4889 4), some (a [i 1,
  n 4302 0 1, n 4324 0 1, n 4326 0 1]), none, none, none, none, none, none, none, some (p 4954 0), some (p 4955 0), none, none, none, none, none],  [12, 21,
  22]⟩, .code (cd 134 7)],  [],  .run,  .normal,  none⟩, ⟨94,  [p 4329 0, a [i 1, i 0], o, p 4949 0, p 4950 0, f, i 0, .func (.func 134) [p 4329 0] [], p 4329 0,
  t, f, o, p 4329 0, a [i 1, i 0], t, f, o, p 4329 0, .func (.func 134) [p 4329 0] [], p 4949 1, i 0, f, o, o, o, .func (.func 134) [p 4329 0] [], a [i 1,
  i 0], o, o, o, o, o, o, o, o, o, o, o, o, o, o, o, o, o, o, o, o, o, o, o, o, o, o, o, o, o],  [.inRegion (ops 94 159) [2, 3, 4, 5, 6, 7], .code (cd 94 223),
  .code (cd 94 127)],  [],  .run,  .normal,  none⟩, u144, u132, u93, u64, u13], 5172, [(0,  q [y, y] 24), b0, (2,  q [zp, p 1 0] 31), (3,  q [i 0] 22), (4,
   q [f, f] 4), (5,  q [i 0, i 0] 3), (6,  .map [] 0), (7,  .map [] 0), (9,  q [i 0] 22), b1, (11,  .map [] 0), (12,  .map [] 0), (14,  q [i 0] 22), (16,  q [f,
  f] 4), (18,  q [i 0, i 0] 3), b2, (21,  .map [] 0), (22,  .map [] 0), (24,  q [i 0] 22), (26,  q [f, f] 4), (28,  q [i 0, i 0] 3), b3, b4, (50,  q [y, y] 24),
  (52,  q [y, y] 24), (53,  q [y, y] 24), (64,  q [y, y] 24), b5, (74,  .map [] 0), (75,  .map [] 0), (77,  q [i 0] 22), (79,  q [f, f] 4), (81,  q [i 0, i 0] 3),
  b6, (84,  .map [] 0), (85,  .map [] 0), (87,  q [i 0] 22), (89,  q [f, f] 4), (91,  q [i 0, i 0] 3), b7, b8, b9, b10, b11, b12, (2135,  q [i 0] 22), (2136,
   q [f, f] 4), (2137,  q [i 0, i 1] 3), b14, (2139,  .map [] 0), (2141,  q [i 0] 22), b15, b16, b17, b18, (2197,  q [i 1] 60), (2198,  q [i 1] 60), b19, b20,
  (2301,  .map [] 0), (2303,  q [i 0] 22), (2305,  q [f, f] 4), (2307,  q [i 0, i 1] 3), b21, b22, b26, (2326,  .map [] 0), (2328,  q [i 0] 22), (2330,  q [f,
  f] 4), (2332,  q [i 0, i 1] 3), b23, b27, b28, b29, (2401,  q [i 1] 60), b30, b31, (2455,  q [i 1] 60), b32, b33, b34, (2509,  q [i 1] 60), b35, b36, (2563,
   q [i 1] 60), b37, b38, b58, (2976,  .map [] 0), (2978,  q [f] 4), (2980,  q [i 1] 3), b59, b60, b61, (2999,  .map [] 0), (3001,  q [f] 4), (3003,  q [i 1] 3),
  b62, b63, b65, b66, (3072,  q [i 1] 60), b67, b68, (3126,  q [i 1] 60), b69, b70, b71, (3180,  q [i 1] 60), b72, b73, (3234,  q [i 1] 60), b74, b75, (3239,
   q [i 1] 22), b76, b79, (3242,  .map [] 0), (3244,  q [i 0] 22), (3246,  q [f, f] 4), (3248,  q [i 0, i 1] 3), b77, b80, b81, (3267,  .map [] 0), (3269,
   q [f] 4), (3271,  q [i 1] 3), b82, b83, b84, b85, (3340,  q [i 1] 60), b86, b87, (3394,  q [i 1] 60), b88, b89, b90, (3448,  q [i 1] 60), b91, b94, (3502,
   q [i 1] 60), b95, b96, b97, b98, b112, (4064,  .map [] 0), (4066,  q [i 0] 22), (4068,  q [f, f] 4), (4070,  q [i 0, i 1] 3), b113, b114, b115, (4089,  .map [] 0),
  (4091,  q [i 0] 22), (4093,  q [f, f] 4), (4095,  q [i 0, i 1] 3), b116, b117, b118, b119, (4164,  q [i 1] 60), b120, b121, (4218,  q [i 1] 60), b122, b125,
  b126, (4326,  q [i 1] 60), b139, b129, b130, (4381,  q [i 1] 60), b133, b134, (4435,  q [i 1] 60), b135, b136, b140, (4863,  q [] 109), b141, (4887,  q [i 1] 60),
  b142, b143, b145, b146, b147, b148, (4950,  q [i 0, i 0, c 0, x [], x [], c 0, i 0, x [], z, i 0, c 0, i 0, x [], z, i 0, f, i 0, z] 166), (4952,  q [i 1,
  i 0] 24), (4953,  q [i 0, i 0, c 0, x [], x [], c 0, i 0, x [], z, i 0, c 0, i 0, x [], z, i 0, f, i 0, z] 166), (4954,  q [i 0, z, z, z] 52), (4955,  q [c 0,
  x [], x [], c 0, i 0, x [], z, i 0, c 0, i 0, x [], z, i 0, f, i 0] 163), (4956,  q [i 1, n 4302 0 1, n 4324 0 1, n 4326 0 1] 52), (4957,  q [i 0, z, z,
  z] 52), (4958,  q [c 0, x [], x [], c 0, i 0, x [], z, i 0, c 0, i 0, x [], z, i 0, f, i 0] 163), (5038,  q [c 2, x [120], x [], c 1, c 0, c 4, i 0, x [108],
  z, c 0, i 0, x [], z, z, z, z, z] 109), (5047,  q [x [108], c 4, i 0, x [], z, i 1] 101), (5059,  q [i 1] 60), (5060,  q [i 1, .eslice, n 5047 0 1, n 5059 0 1,
  p 4096 0, c 2, x [120], x [], c 0, i 0, x [], z, i 0, c 0, i 0, x [], z, i 0, f, i 0, z] 272), (5061,  q [c 2, x [120], x [], c 1, c 0, c 4, i 0, x [108],
  z, c 0, i 0, x [], z, z, z, z, z] 109), (5062,  q [x [120], x []] 9), (5069,  .map [⟨c 1,  k 218,  0⟩, ⟨c 2,  k 219,  1⟩, ⟨c 3,  k 220,  2⟩, ⟨c 4,  k 221,
   3⟩, ⟨c 5,  k 222,  4⟩, ⟨c 6,  k 223,  5⟩, ⟨c 7,  k 224,  6⟩, ⟨c 8,  k 225,  7⟩, ⟨c 9,  k 226,  8⟩] 9), (5070,  q [c 2, x [120], x [], c 1, c 0, c 4, i 0,
  x [108], z, c 0, i 0, x [], z, z, z, z, z] 109), (5071,  q [c 2, x [120], x [], c 1, c 0, c 4, i 0, x [108], z, c 0, i 0, x [], z, z, z, z, z] 109), (5146,
   q [c 4, i 0, x [], z, i 1] 77), (5147,  q [c 0, i 0, x [], z, i 0] 77), (5148,  q [c 0, i 0, x [], z, i 0] 77), (5149,  q [c 0, i 0, x [], z, i 0] 77),
  (5150,  q [c 0, i 0, x [], z, i 0] 77), (5151,  .map [] 0), (5152,  q [z, m 5151, i 0, i 0, i 0] 324), (5153,  q [p 5152 0] 319), (5154,  q [i 1, i 1, c 1,
  c 0, i 0, x [], z, i 0] 328), (5155,  q [c 0, i 0, x [], z, i 0] 77), (5156,  q [c 1, i 0, i 1, i 1, c 1, c 0, i 0, x [], z, i 0, c 0, i 0, x [], z, i 0,
  c 0, z, z] 248), (5159,  q [f] 4), (5160,  q [p 4096 0] 26), (5161,  q [i 1] 60), (5162,  q [c 1] 78), (5163,  q [c 0, i 0, x [], z, i 0] 77), (5164,  q [kc 269 [p 5159 0,
  p 5156 0, p 5153 0]] 372), (5165,  q [c 0, i 0, x [], z, i 0] 77), (5166,  q [c 0, i 0, x [], z, i 0] 77), (5167,  q [c 0, i 0, x [], z, i 0] 77), (5168,
   q [c 0, i 0, x [], z, i 0] 77), (5169,  q [i 511, i 16] 229), (5170,  q [c 0, i 0, x [], z, i 0] 77), (5171,  q [c 0, i 0, x [], z, i 0] 77)]⟩

noncomputable def b149 : Nat × BObj := (4329,  q [p 4071 0, p 4096 0, n 4220 0 2, n 5394 0 2, n 5396 0 2] 30)
noncomputable def b150 : Nat × BObj := (5289,  q [c 1, i 0, i 1, i 1, c 1, c 0, i 0, x [], z, i 0, c 3, i 0, x [], z, i 0, c 0, z, z] 248)
noncomputable def b151 : Nat × BObj := (5370,  q [x [108], c 4, i 0, x [], z, i 1, x [120], c 3, i 0, x [], z, i 0] 101)
noncomputable def b152 : Nat × BObj := (5394,  q [i 0, s 4863 0 0 0, n 4865 0 2, n 4887 0 1, i 1, s 5368 0 0 0, n 5370 0 2, n 5392 0 1] 52)
noncomputable def b153 : Nat × BObj := (5396,  q [i 0, i 0, c 2, x [120], x [], c 3, i 0, x [], z, i 0, c 0, i 0, x [], z, i 0, f, i 0, n 4784 0 1, i 1, i 0, c 2, x [120], x [], c 3, i 0, x [],
  z, i 0, c 0, i 0, x [], z, i 0, f, i 0, n 5289 0 1] 166)
noncomputable def S22 : CState :=
  ⟨⟨152,  [p 5419 0, a [c 0, i 0, x [], z, i 0], o, p 5420 0, f, o, o, o, p 5419 0, p 5419 0, p 5419 0, i 512, f, o, o, o, o, o, o, o, o, o, o, o, o, o, o,
  o, o, o, o, o, o, o, o, o, o, o, o, o, o, o, o, o, o, o, o, o, o, o, o, o, o, o, o, o, o, o, o, o, o, o, o, o, o, o, o, o, o, o, o, o, o, o, o, o, o, o,
  o, o, o, o, o, o, o, o, o, o, o, o, o, o, o, o, o, o, o, o, o, o, o, o, o, o],  [.code (cd 152 11), .code (cd 152 15)],  [],  .run,  .normal,  none⟩, [⟨114,
   [a [c 0, i 0, x [], z, i 0], p 5418 0, i 0, p 5419 0, a [i 512, i 16], p 5419 0, p 5419 0, a [c 0, i 0, x [], z, i 0], o, o, o, o, o, o, o],  [.inRegion (ops 114 19) [2,
  3], .code (cd 114 27), .code (cd 114 15)],  [],  .run,  .normal,  none⟩, ⟨76,  [a [c 0, i 0, x [], z, i 0], p 5417 0, f, a [c 0, i 0, x [], z, i 0], o, o],
   [.inRegion (ops 76 5) [1, 2, 3], .code (cd 76 7)],  [],  .run,  .normal,  none⟩, ⟨116,  [a [c 0, i 0, x [], z, i 0], p 5415 0, p 5416 0, i 0, a [c 0, i 0,
  x [], z, i 0], o, o, o, o, o],  [.inRegion (ops 116 9) [1, 2], .code (cd 116 13), .code (cd 116 7)],  [],  .run,  .normal,  none⟩, ⟨85,  [a [c 0, i 0, x [],
  z, i 0], p 5413 0, p 5414 0, o, o, o, a [c 0, i 0, x [], z, i 0], o, o, o, o, o, o, o],  [.inRegion (ops 85 9) [1, 2, 3, 4, 5, 6, 7], .code (cd 85 13), .code (cd 85 7)],
   [],  .run,  .normal,  none⟩, ⟨174,  [a [c 2, x [120], x [], c 3, i 0, x [], z, i 0, c 0, i 0, x [], z, i 0, f, i 0], p 5399 0, p 5400 0, o, o, o, o, o,
  o, o, o, o],  [.inDraw ⟨opsOf (cd 174 5),  [a [c 2, x [120], x [], c 3, i 0, x [], z, i 0, c 0, i 0, x [], z, i 0, f, i 0], p 5399 0, p 5400 0, o, o, o,
  o, o, o, o, o, o],  [some (p 5399 3), some (a [c 3, i 0, x [], z, i 0]), some (a [c 3, i 0, x [], z, i 0]), some (p 5399 8), some (a [c 0, i 0, x [], z,
  i 0]), none, some (p 5399 3), none, none, none],  [5, 7, 9]⟩, .code (cd 174 7)],  [],  .run,  .normal,  none⟩, ⟨136,  [a [i 1, i 0, c 2, x [120], x [], c 3,
  i 0, x [], z, i 0, c 0, i 0, x [], z, i 0, f, i 0, n 5289 0 1], p 5397 0, p 5398 0, o, o, o, p 5397 2, a [c 2, x [120], x [], c 3, i 0, x [], z, i 0, c 0,
  i 0, x [], z, i 0, f, i 0], o, o, o, o, o, o, o, o, o, o, o, o, o, o, o, o, o, o, o, o, o, o, o, o, o, o, o, o, o, o, o, o, o],  [.inRegion (ops 136 5) [2,
  3, 4], .code (cd 136 7)],  [],  .run,  .normal,  none⟩, ⟨94,  [p 4329 0, a [i 1, i 0], o, p 4949 0, p 4950 0, t, i 0, .func (.func 134) [p 4329 0] [], p 4329 0,
  t, f, o, p 4329 0, a [i 1, i 0], t, f, o, p 4329 0, .func (.func 134) [p 4329 0] [], p 4949 1, i 0, f, o, o, u [a [i 1, i 0, c 2, x [120], x [], c 3, i 0,
  x [], z, i 0, c 0, i 0, x [], z, i 0, f, i 0, n 5289 0 1], t], .func (.func 134) [p 4329 0] [], a [i 1, i 0], u [a [i 1, i 0, c 2, x [120], x [], c 3, i 0,
  x [], z, i 0, c 0, i 0, x [], z, i 0, f, i 0, n 5289 0 1], t], a [i 1, i 0, c 2, x [120], x [], c 3, i 0, x [], z, i 0, c 0, i 0, x [], z, i 0, f, i 0, n 5289 0 1],
  t, t, f, o, p 4329 0, p 4329 0, p 4329 0, p 4329 4, n 4891 0 1, p 4329 0, p 4329 0, p 4329 4, n 4891 0 1, i 1, p 4329 0, p 4329 0, p 4329 4, n 4891 0 1,
  i 1, s 4891 0 1 1, a [i 1, i 0, c 2, x [120], x [], c 3, i 0, x [], z, i 0, c 0, i 0, x [], z, i 0, f, i 0, n 5289 0 1], s 5395 0 1 1, n 5396 0 2, p 4329 0,
  p 4329 4, a [i 1, i 0, c 2, x [120], x [], c 3, i 0, x [], z, i 0, c 0, i 0, x [], z, i 0, f, i 0, n 5289 0 1], o],  [.inRegion (ops 94 383) [1, 2, 3, 4],
  .code (cd 94 53)],  [],  .run,  .normal,  none⟩, u144, u132, u93, u64, u13], 5421, [(0,  q [y, y] 24), b0, (2,  q [zp, p 1 0] 31), (3,  q [i 0] 22), (4,
   q [f, f] 4), (5,  q [i 0, i 0] 3), (6,  .map [] 0), (7,  .map [] 0), (9,  q [i 0] 22), b1, (11,  .map [] 0), (12,  .map [] 0), (14,  q [i 0] 22), (16,  q [f,
  f] 4), (18,  q [i 0, i 0] 3), b2, (21,  .map [] 0), (22,  .map [] 0), (24,  q [i 0] 22), (26,  q [f, f] 4), (28,  q [i 0, i 0] 3), b3, b4, (50,  q [y, y] 24),
  (52,  q [y, y] 24), (53,  q [y, y] 24), (64,  q [y, y] 24), b5, (74,  .map [] 0), (75,  .map [] 0), (77,  q [i 0] 22), (79,  q [f, f] 4), (81,  q [i 0, i 0] 3),
  b6, (84,  .map [] 0), (85,  .map [] 0), (87,  q [i 0] 22), (89,  q [f, f] 4), (91,  q [i 0, i 0] 3), b7, b8, b9, b10, b11, b12, (2135,  q [i 0] 22), (2136,
   q [f, f] 4), (2137,  q [i 0, i 1] 3), b14, (2139,  .map [] 0), (2141,  q [i 0] 22), b15, b16, b17, b18, (2197,  q [i 1] 60), (2198,  q [i 1] 60), b19, b20,
  (2301,  .map [] 0), (2303,  q [i 0] 22), (2305,  q [f, f] 4), (2307,  q [i 0, i 1] 3), b21, b22, b26, (2326,  .map [] 0), (2328,  q [i 0] 22), (2330,  q [f,
  f] 4), (2332,  q [i 0, i 1] 3), b23, b27, b28, b29, (2401,  q [i 1] 60), b30, b31, (2455,  q [i 1] 60), b32, b33, b34, (2509,  q [i 1] 60), b35, b36, (2563,
   q [i 1] 60), b37, b38, b58, (2976,  .map [] 0), (2978,  q [f] 4), (2980,  q [i 1] 3), b59, b60, b61, (2999,  .map [] 0), (3001,  q [f] 4), (3003,  q [i 1] 3),
  b62, b63, b65, b66, (3072,  q [i 1] 60), b67, b68, (3126,  q [i 1] 60), b69, b70, b71, (3180,  q [i 1] 60), b72, b73, (3234,  q [i 1] 60), b74, b75, (3239,
   q [i 1] 22), b76, b79, (3242,  .map [] 0), (3244,  q [i 0] 22), (3246,  q [f, f] 4), (3248,  q [i 0, i 1] 3), b77, b80, b81, (3267,  .map [] 0), (3269,
   q [f] 4), (3271,  q [i 1] 3), b82, b83, b84, b85, (3340,  q [i 1] 60), b86, b87, (3394,  q [i 1] 60), b88, b89, b90, (3448,  q [i 1] 60), b91, b94, (3502,
   q [i 1] 60), b95, b96, b97, b98, b112, (4064,  .map [] 0), (4066,  q [i 0] 22), (4068,  q [f, f] 4), (4070,  q [i 0, i 1] 3), b113, b114, b115, (4089,  .map [] 0),
  (4091,  q [i 0] 22), (4093,  q [f, f] 4), (4095,  q [i 0, i 1] 3), b116, b117, b118, b119, (4164,  q [i 1] 60), b120, b121, (4218,  q [i 1] 60), b122, b149,
  b129, b130, (4381,  q [i 1] 60), b133, b134, (4435,  q [i 1] 60), b135, b136, b140, (4863,  q [] 109), b141, (4887,  q [i 1] 60), b143, b145, b146, b147,
  b148, (4950,  q [i 1, i 0, c 2, x [120], x [], c 3, i 0, x [], z, i 0, c 0, i 0, x [], z, i 0, f, i 0, n 5289 0 1] 166), b150, (5368,  q [] 109), b151, (5392,
   q [i 1] 60), b152, (5395,  q [i 1, i 0, c 2, x [120], x [], c 3, i 0, x [], z, i 0, c 0, i 0, x [], z, i 0, f, i 0, n 5289 0 1] 166), b153, (5397,  q [i 1,
  i 0, c 2, x [120], x [], c 3, i 0, x [], z, i 0, c 0, i 0, x [], z, i 0, f, i 0, n 5289 0 1] 166), (5398,  q [i 0, i 0, c 0, x [], x [], c 0, i 0, x [],
  z, i 0, c 0, i 0, x [], z, i 0, f, i 0, z] 166), (5399,  q [c 2, x [120], x [], c 3, i 0, x [], z, i 0, c 0, i 0, x [], z, i 0, f, i 0] 163), (5400,  q [c 0,
  x [], x [], c 0, i 0, x [], z, i 0, c 0, i 0, x [], z, i 0, f, i 0] 163), (5413,  q [c 0, i 0, x [], z, i 0] 77), (5414,  q [c 0, i 0, x [], z, i 0] 77),
  (5415,  q [c 0, i 0, x [], z, i 0] 77), (5416,  q [c 0, i 0, x [], z, i 0] 77), (5417,  q [c 0, i 0, x [], z, i 0] 77), (5418,  q [c 0, i 0, x [], z, i 0] 77),
  (5419,  q [i 512, i 16] 229), (5420,  q [c 0, i 0, x [], z, i 0] 77)]⟩

noncomputable def b154 : Nat × BObj := (5652,  q [x [120, 32, 61, 32, 91, 93]] 9)
noncomputable def S23 : CState :=
  ⟨⟨152,  [p 5764 0, a [c 3, i 0, x [], z, i 0], o, p 5765 0, f, p 5766 0, o, o, p 5764 0, p 5764 0, p 5764 0, i 512, f, p 5764 0, p 5764 0, p 5764 0, i 512,
  i 511, p 5764 0, p 5764 0, a [c 3, i 0, x [], z, i 0], p 5765 0, c 3, f, f, f, f, o, f, f, o, o, o, o, o, f, f, o, o, o, o, t, t, p 5764 0, p 5764 0, p 5764 1,
  i 16, f, f, p 5765 3, z, i 0, p 5764 0, p 5764 0, p 5764 0, i 511, f, f, p 5764 0, p 5764 0, p 5764 1, o, o, o, o, o, o, o, o, o, o, o, o, o, o, o, o, o,
  o, o, o, o, o, o, o, o, o, o, o, o, o, o, o, o, o, o, o, o, o, o, o, o, o, o],  [.inRegion (ops 152 720815) [3, 4, 5, 6, 7], .code (cd 152 982959), .inBlock 0,
  .code (cd 152 63)],  [],  .run,  .normal,  none⟩, [⟨114,  [a [c 3, i 0, x [], z, i 0], p 5763 0, i 0, p 5764 0, a [i 512, i 16], p 5764 0, p 5764 0, a [c 3,
  i 0, x [], z, i 0], o, o, o, o, o, o, o],  [.inRegion (ops 114 19) [2, 3], .code (cd 114 27), .code (cd 114 15)],  [],  .run,  .normal,  none⟩, ⟨76,  [a [c 3,
  i 0, x [], z, i 0], p 5762 0, f, a [c 3, i 0, x [], z, i 0], o, o],  [.inRegion (ops 76 5) [1, 2, 3], .code (cd 76 7)],  [],  .run,  .normal,  none⟩, ⟨116,
   [a [c 3, i 0, x [], z, i 0], p 5760 0, p 5761 0, i 0, a [c 3, i 0, x [], z, i 0], o, o, o, o, o],  [.inRegion (ops 116 9) [1, 2], .code (cd 116 13), .code (cd 116 7)],
   [],  .run,  .normal,  none⟩, ⟨85,  [a [c 3, i 0, x [], z, i 0], p 5758 0, p 5759 0, o, o, o, a [c 3, i 0, x [], z, i 0], o, o, o, o, o, o, o],  [.inRegion (ops 85 9) [1,
  2, 3, 4, 5, 6, 7], .code (cd 85 13), .code (cd 85 7)],  [],  .run,  .normal,  none⟩, ⟨136,  [a [i 1, i 0, c 2, x [120], x [], c 3, i 0, x [], z, i 0, c 0,
  i 0, x [], z, i 0, f, i 0, n 5289 0 1], p 5717 0, p 5718 0, z, o, p 5745 0, p 5717 2, a [c 2, x [120], x [], c 3, i 0, x [], z, i 0, c 0, i 0, x [], z, i 0,
  f, i 0], a [c 2, x [120], x [], c 3, i 0, x [], z, i 0, c 0, i 0, x [], z, i 0, f, i 0], p 5717 2, p 5717 17, n 5289 0 1, i 1, i 0, t, p 5289 0, a [c 1,
  i 0, i 1, i 1, c 1, c 0, i 0, x [], z, i 0, c 3, i 0, x [], z, i 0, c 0, z, z], o, o, o, o, o, o, o, o, o, o, o, o, o, o, o, o, o, o, o, o, o, o, o, o],
   [.inDraw ⟨opsOf (cd 136 10647),  [a [i 1, i 0, c 2, x [120], x [], c 3, i 0, x [], z, i 0, c 0, i 0, x [], z, i 0, f, i 0, n 5289 0 1], p 5717 0, p 5718 0,
  z, o, p 5745 0, p 5717 2, a [c 2, x [120], x [], c 3, i 0, x [], z, i 0, c 0, i 0, x [], z, i 0, f, i 0], a [c 2, x [120], x [], c 3, i 0, x [], z, i 0,
  c 0, i 0, x [], z, i 0, f, i 0], p 5717 2, p 5717 17, n 5289 0 1, i 1, i 0, t, p 5289 0, a [c 1, i 0, i 1, i 1, c 1, c 0, i 0, x [], z, i 0, c 3, i 0, x [],
  z, i 0, c 0, z, z], o, o, o, o, o, o, o, o, o, o, o, o, o, o, o, o, o, o, o, o, o, o, o, o],  [some (p 5745 5), some (a [c 0, i 0, x [], z, i 0]), some (a [c 0,
  i 0, x [], z, i 0]), some (p 5745 10), some (a [c 3, i 0, x [], z, i 0]), none, some (p 5745 5), none, none, none],  [5, 7, 9]⟩, .code (cd 136 14743), .inBlock 1,
  .code (cd 136 1943), .inLoop (cd 136 151), .inBlock 0, .code (cd 136 31)],  [],  .run,  .normal,  none⟩, ⟨175,  [.yield 5658, p 5656 0, o, i 1, p 5716 0,
  n 5396 0 2, i 2, i 1, t, i 1, p 5396 18, a [i 1, i 0, c 2, x [120], x [], c 3, i 0, x [], z, i 0, c 0, i 0, x [], z, i 0, f, i 0, n 5289 0 1], .yield 5658,
  i 1, a [i 1, i 0, c 2, x [120], x [], c 3, i 0, x [], z, i 0, c 0, i 0, x [], z, i 0, f, i 0, n 5289 0 1], a [i 0, i 0, c 2, x [120], x [], c 3, i 0, x [],
  z, i 0, c 0, i 0, x [], z, i 0, f, i 0, n 5714 0 1], t, f, i 1],  [.inRegion (ops 175 665) [3, 4, 5], .code (cd 175 921), .inBlock 1, .code (cd 175 121),
  .inLoop (cd 175 9), .inBlock 0],  [],  .run,  .normal,  none⟩, ⟨95,  [p 4329 0, i 1, o, p 5654 0, z, i 0, p 5655 0, o, o, p 4329 0, t, f, i 1, f, f, i 1,
  p 4329 0, p 4329 0, p 4329 3, n 5394 0 2, i 2, f, f, p 4329 0, kc 175 [p 5656 0], o, o, o, o, o, o, o, o, o, o, o, o, o, o, o, o, o, o, o],  [.inRangeFunc 5658,
  .inBlock 0, .code (cd 95 63)],  [⟨.collected 5657,  []⟩],  .run,  .normal,  none⟩, ⟨64,  [p 4329 0, i 1, o, o, z, i 0, p 4329 0, i 1, o, o, o],  [.inRegion (ops 64 5) [2,
  3, 4, 5, 6], .code (cd 64 7)],  [],  .run,  .normal,  none⟩, ⟨31,  [p 4329 0, s 3240 0 2 2, o, o, z, n 4437 0 2, s 5453 0 2 2, i 1, p 5653 0, n 5518 0 1,
  i 0, p 2566 0, p 4329 0, p 4329 0, n 4437 0 2, p 4329 0, s 3240 0 2 2, u [i 2, i 0], n 4437 0 2, i 2, s 5453 0 2 2, n 4437 0 2, i 2, i 1, t, i 1, p 4437 4,
  a [i 1, n 4411 0 1, n 4433 0 1, n 4435 0 1], u [n 5518 0 1, i 0], p 4329 0, i 1, u [n 5518 0 1, i 0], n 5518 0 1, i 0, u [n 5652 0 1, i 0], s 5453 0 2 2,
  i 0, a [i 0, n 4357 0 1, n 4379 0 1, n 4381 0 1], n 5518 0 1, u [n 5652 0 1, i 0], n 5652 0 1, i 0, p 5453 0, i 1, o],  [.inRegion (ops 31 42591) [2, 3,
  4, 5, 6, 7], .code (cd 31 58975), .inBlock 1, .code (cd 31 7775), .inLoop (cd 31 607), .inBlock 0, .code (cd 31 127)],  [],  .run,  .normal,  none⟩, u93,
  u64, u13], 5767, [(0,  q [y, y] 24), b0, (2,  q [zp, p 1 0] 31), (3,  q [i 0] 22), (4,  q [f, f] 4), (5,  q [i 0, i 0] 3), (6,  .map [] 0), (7,  .map [] 0),
  (9,  q [i 0] 22), b1, (11,  .map [] 0), (12,  .map [] 0), (14,  q [i 0] 22), (16,  q [f, f] 4), (18,  q [i 0, i 0] 3), b2, (21,  .map [] 0), (22,  .map [] 0),
  (24,  q [i 0] 22), (26,  q [f, f] 4), (28,  q [i 0, i 0] 3), b3, b4, (50,  q [y, y] 24), (52,  q [y, y] 24), (53,  q [y, y] 24), (64,  q [y, y] 24), b5,
  (74,  .map [] 0), (75,  .map [] 0), (77,  q [i 0] 22), (79,  q [f, f] 4), (81,  q [i 0, i 0] 3), b6, (84,  .map [] 0), (85,  .map [] 0), (87,  q [i 0] 22),
  (89,  q [f, f] 4), (91,  q [i 0, i 0] 3), b7, b8, b9, b10, b11, b12, (2135,  q [i 0] 22), (2136,  q [f, f] 4), (2137,  q [i 0, i 1] 3), b14, (2139,  .map [] 0),
  (2141,  q [i 0] 22), b15, b16, b17, b18, (2197,  q [i 1] 60), (2198,  q [i 1] 60), b19, b20, (2301,  .map [] 0), (2303,  q [i 0] 22), (2305,  q [f, f] 4),
  (2307,  q [i 0, i 1] 3), b21, b22, b26, (2326,  .map [] 0), (2328,  q [i 0] 22), (2330,  q [f, f] 4), (2332,  q [i 0, i 1] 3), b23, b27, b28, b29, (2401,
   q [i 1] 60), b30, b31, (2455,  q [i 1] 60), b32, b33, b34, (2509,  q [i 1] 60), b35, b36, (2563,  q [i 1] 60), b37, b38, b58, (2976,  .map [] 0), (2978,
   q [f] 4), (2980,  q [i 1] 3), b59, b60, b61, (2999,  .map [] 0), (3001,  q [f] 4), (3003,  q [i 1] 3), b62, b63, b65, b66, (3072,  q [i 1] 60), b67, b68,
  (3126,  q [i 1] 60), b69, b70, b71, (3180,  q [i 1] 60), b72, b73, (3234,  q [i 1] 60), b74, b75, (3239,  q [i 1] 22), b76, b79, (3242,  .map [] 0), (3244,
   q [i 0] 22), (3246,  q [f, f] 4), (3248,  q [i 0, i 1] 3), b77, b80, b81, (3267,  .map [] 0), (3269,  q [f] 4), (3271,  q [i 1] 3), b82, b83, b84, b85,
  (3340,  q [i 1] 60), b86, b87, (3394,  q [i 1] 60), b88, b89, b90, (3448,  q [i 1] 60), b91, b94, (3502,  q [i 1] 60), b95, b96, b97, b98, b112, (4064,  .map [] 0),
  (4066,  q [i 0] 22), (4068,  q [f, f] 4), (4070,  q [i 0, i 1] 3), b113, b114, b115, (4089,  .map [] 0), (4091,  q [i 0] 22), (4093,  q [f, f] 4), (4095,
   q [i 0, i 1] 3), b116, b117, b118, b119, (4164,  q [i 1] 60), b120, b121, (4218,  q [i 1] 60), b122, b149, b129, b130, (4381,  q [i 1] 60), b133, b134,
  (4435,  q [i 1] 60), b135, b140, (4863,  q [] 109), b141, (4887,  q [i 1] 60), b150, (5368,  q [] 109), b151, (5392,  q [i 1] 60), b152, b153, (5453,  q [n 5652 0 1,
  z] 107), (5518,  q [c 2, x [120], x [], c 3, i 0, x [], z, i 0, c 0, i 0, x [], z, i 0, f, i 0] 163), b154, (5653,  q [i 1, n 4411 0 1, n 4433 0 1, n 4435 0 1] 52),
  (5654,  q [i 1] 3), (5655,  q [z] 135), (5656,  q [n 5396 0 2] 28), (5657,  .deferred (some [])), (5658,  .loop ⟨.ready,  none,  95,  [p 4329 0, i 1, o,
  p 5654 0, z, i 0, p 5655 0, o, o, p 4329 0, t, f, i 1, f, f, i 1, p 4329 0, p 4329 0, p 4329 3, n 5394 0 2, i 2, f, f, p 4329 0, kc 175 [p 5656 0], o, o,
  o, o, o, o, o, o, o, o, o, o, o, o, o, o, o, o, o],  paramsOf (cd 95 175),  cd 95 303,  cd 95 431,  5657⟩), (5714,  q [c 1, i 0, i 1, i 1, c 1, c 0, i 0,
  x [], z, i 0, c 3, i 0, x [], z, i 0, c 0, z, z] 248), (5716,  q [i 1, i 0, c 2, x [120], x [], c 3, i 0, x [], z, i 0, c 0, i 0, x [], z, i 0, f, i 0, n 5289 0 1] 166),
  (5717,  q [i 1, i 0, c 2, x [120], x [], c 3, i 0, x [], z, i 0, c 0, i 0, x [], z, i 0, f, i 0, n 5289 0 1] 166), (5718,  q [i 0, i 0, c 0, x [], x [],
  c 0, i 0, x [], z, i 0, c 0, i 0, x [], z, i 0, f, i 0, z] 166), (5745,  q [c 1, i 0, i 1, i 1, c 1, c 0, i 0, x [], z, i 0, c 3, i 0, x [], z, i 0, c 0,
  z, z] 248), (5758,  q [c 3, i 0, x [], z, i 0] 77), (5759,  q [c 0, i 0, x [], z, i 0] 77), (5760,  q [c 3, i 0, x [], z, i 0] 77), (5761,  q [c 0, i 0,
  x [], z, i 0] 77), (5762,  q [c 3, i 0, x [], z, i 0] 77), (5763,  q [c 3, i 0, x [], z, i 0] 77), (5764,  q [i 511, i 16] 229), (5765,  q [c 3, i 0, x [],
  z, i 0] 77), (5766,  q [c 3, i 0, x [], z, i 0] 77)]⟩

noncomputable def u155 : BFrame := ⟨31,  [p 3237 0, n 3728 0 2, o, o, z, o, o, o, o, o, o, p 3237 0, o, o, o, o, o, o, o, o, o, o, o, o, o, o, o, o, o, o, o, o, o, o, o, o, o, o, o, o, o,
  o, o, o, o],  [.inRegion (ops 31 5) [1, 2], .code (cd 31 7)],  [],  .run,  .normal,  none⟩
noncomputable def u156 : BFrame := ⟨9,  [p 2566 0, p 3237 0, s 3240 0 2 2, o, o, o, i 0, i 0, f, i 0, n 3728 0 2, o, p 3617 0, p 2566 0, p 3249 0, f, f, p 3237 0, p 3272 0, f, f, p 2566 0,
  n 3396 0 2, i 2, p 3237 0, n 3504 0 2, i 2, f, s 3240 0 2 2, i 2, i 2, f, p 3240 2, a [i 1, i 0], p 2566 0, a [i 1, i 0], t, f, p 3617 1, i 0, t, t, o, o,
  o, t, n 3616 0 1, a [i 1, i 0], s 3727 0 1 1, n 3728 0 2, i 2, s 3240 0 2 2, i 2, f, o, p 2566 0, s 3240 0 2 2, s 5453 0 2 2, p 3237 0, n 3728 0 2, o, o,
  o, o, o, o, o, o],  [.inRegion (ops 9 191) [5, 6, 7, 8, 9, 10, 11, 12, 13], .code (cd 9 255)],  [],  .run,  .normal,  none⟩
noncomputable def b157 : Nat × BObj := (5453,  q [n 5652 0 1, n 5851 0 1] 107)
noncomputable def b158 : Nat × BObj := (5851,  q [x [120, 32, 61, 32, 91, 93]] 9)
noncomputable def b159 : Nat × BObj := (5852,  .map [⟨i 1,  p 5874 0,  0⟩] 1)
noncomputable def b160 : Nat × BObj := (5858,  q [z, n 5855 0 1, m 5852, m 5853, i 1, n 5857 0 1] 62)
noncomputable def b161 : Nat × BObj := (5874,  q [c 2, i 0, c 0, i 0, x [], z, i 0, z, i 0, i 0, i 0, i 0, c 0, f, z, z] 80)
noncomputable def b162 : Nat × BObj := (5897,  q [i 1, c 2, i 0, c 0, i 0, x [], z, i 0, z, i 0, i 0, i 0, i 0, c 0, f, z, z] 82)
noncomputable def b163 : Nat × BObj := (5898,  q [z, z, n 5897 0 1, i 1, n 5878 0 1] 69)
noncomputable def b164 : Nat × BObj := (5902,  .map [⟨i 1,  p 5943 0,  0⟩] 1)
noncomputable def b165 : Nat × BObj := (5904,  q [z, s 5900 0 1 1, m 5902, m 5903, i 1, n 5965 0 1] 62)
noncomputable def b166 : Nat × BObj := (5943,  q [c 2, i 0, c 0, i 0, x [], z, i 0, z, i 0, i 0, i 0, i 0, c 0, f, z, z] 80)
noncomputable def S24 : CState :=
  ⟨⟨149,  [n 3156 0 1, i 0, p 5969 0, kc 150 [p 5967 0, p 5968 0], o, o, o, o, f, o, p 5970 0, i 0, o, z, n 3156 0 1, i 1, i 0, t, p 3156 0, a [c 2, x [120],
  x [], c 1, c 0, c 4, i 0, x [108], z, c 0, i 0, x [], z, z, z, z, z], p 5969 0, p 5969 0, i 0, p 5969 0, p 5969 0, i 0, i 1, p 5969 0, i 0, f, f, kc 150 [p 5967 0,
  p 5968 0], i 0, i 0, a [c 2, x [120], x [], c 1, c 0, c 4, i 0, x [108], z, c 0, i 0, x [], z, z, z, z, z], t, f, f, p 5970 13, z, p 5970 14, z, p 5970 15,
  z, s 5991 0 3 3, i 3, i 2, t, p 5991 1, z, z, i 0, i 1, p 5969 0, kc 150 [p 5967 0, p 5968 0], t, f, i 2, o],  [.code (cd 149 212581), .inLoop (cd 149 81509),
  .inBlock 2, .inBlock 1, .code (cd 149 485), .inLoop (cd 149 37), .inBlock 0, .code (cd 149 7)],  [],  .run,  .normal,  none⟩, [⟨113,  [n 3156 0 1, o, p 5967 0,
  p 5968 0, p 5969 0, n 3156 0 1, kc 150 [p 5967 0, p 5968 0], o, o, o],  [.inRegion (ops 113 11) [2], .code (cd 113 15)],  [],  .run,  .normal,  none⟩, ⟨74,
   [n 3156 0 1, o, i 0, o, o, o, n 3156 0 1, o, o, o, o],  [.inRegion (ops 74 5) [1, 2, 3, 4, 5, 6], .code (cd 74 7)],  [],  .run,  .normal,  none⟩, ⟨50,  [n 3156 0 1,
  o, z, i 0, o, n 3156 0 1, o, o, o, o, o, o],  [.inRegion (ops 50 9) [1, 2], .code (cd 50 13), .code (cd 50 7)],  [],  .run,  .normal,  none⟩, ⟨17,  [n 3236 0 2,
  o, z, z, o, p 5966 0, n 3236 0 2, i 2, i 0, t, p 3236 0, a [i 0, n 3156 0 1, n 3178 0 1, n 3180 0 1], o, p 5966 1, n 3156 0 1, o, o, o, o, o, o, o, o, o,
  o, o, o, o, o, o, o, o, o],  [.inRegion (ops 17 5323) [2, 3, 4, 5, 6, 7], .code (cd 17 7371), .inBlock 1, .code (cd 17 971), .inLoop (cd 17 75), .inBlock 0,
  .code (cd 17 15)],  [],  .run,  .normal,  none⟩, u78, ⟨20,  [p 3237 0, k 61, k 62, o, o, o, zp, p 5858 0, p 5898 0, p 5904 0, i 0, o, o, o, o, o, p 3237 0,
  p 5858 0, p 5858 0, f, p 5858 0, a [z, z, n 5897 0 1, i 1, n 5878 0 1], k 61, o, u [p 5904 0, i 0], a [z, z, n 5897 0 1, i 1, n 5878 0 1], u [p 5904 0, i 0],
  p 5904 0, i 0, i 0, f, p 3237 0, o, o, o, o, o, o, o, o, o, o, o, o, o, o, o, o, o, o, o, o, o, o],  [.inRegion (ops 20 383) [1, 2], .code (cd 20 511)],
   [],  .run,  .normal,  none⟩, u155, u156, u64, u13], 5992, [(0,  q [y, y] 24), b0, (2,  q [zp, p 1 0] 31), (3,  q [i 0] 22), (4,  q [f, f] 4), (5,  q [i 0,
  i 0] 3), (6,  .map [] 0), (7,  .map [] 0), (9,  q [i 0] 22), b1, (11,  .map [] 0), (12,  .map [] 0), (14,  q [i 0] 22), (16,  q [f, f] 4), (18,  q [i 0,
  i 0] 3), b2, (21,  .map [] 0), (22,  .map [] 0), (24,  q [i 0] 22), (26,  q [f, f] 4), (28,  q [i 0, i 0] 3), b3, b4, (50,  q [y, y] 24), (52,  q [y, y] 24),
  (53,  q [y, y] 24), (64,  q [y, y] 24), b5, (74,  .map [] 0), (75,  .map [] 0), (77,  q [i 0] 22), (79,  q [f, f] 4), (81,  q [i 0, i 0] 3), b6, (84,  .map [] 0),
  (85,  .map [] 0), (87,  q [i 0] 22), (89,  q [f, f] 4), (91,  q [i 0, i 0] 3), b7, b8, b9, b10, b11, b12, (2135,  q [i 0] 22), (2136,  q [f, f] 4), (2137,
   q [i 0, i 1] 3), b14, (2139,  .map [] 0), (2141,  q [i 0] 22), b15, b16, b17, b18, (2197,  q [i 1] 60), (2198,  q [i 1] 60), b19, b20, (2301,  .map [] 0),
  (2303,  q [i 0] 22), (2305,  q [f, f] 4), (2307,  q [i 0, i 1] 3), b21, b22, b26, (2326,  .map [] 0), (2328,  q [i 0] 22), (2330,  q [f, f] 4), (2332,  q [i 0,
  i 1] 3), b23, b27, b28, b29, (2401,  q [i 1] 60), b30, b31, (2455,  q [i 1] 60), b32, b33, b34, (2509,  q [i 1] 60), b35, b36, (2563,  q [i 1] 60), b37,
  b38, b58, (2976,  .map [] 0), (2978,  q [f] 4), (2980,  q [i 1] 3), b59, b60, b61, (2999,  .map [] 0), (3001,  q [f] 4), (3003,  q [i 1] 3), b62, b63, b65,
  b66, (3072,  q [i 1] 60), b67, b68, (3126,  q [i 1] 60), b69, b70, b71, (3180,  q [i 1] 60), b72, b73, (3234,  q [i 1] 60), b74, b75, (3239,  q [i 1] 22),
  b76, b79, (3242,  .map [] 0), (3244,  q [i 0] 22), (3246,  q [f, f] 4), (3248,  q [i 0, i 1] 3), b77, b80, b81, (3267,  .map [] 0), (3269,  q [f] 4), (3271,
   q [i 1] 3), b82, b83, b84, b85, (3340,  q [i 1] 60), b86, b87, (3394,  q [i 1] 60), b88, b89, b90, (3448,  q [i 1] 60), b91, b94, (3502,  q [i 1] 60), b95,
  b96, b97, b98, b157, b154, b158, b159, (5853,  .map [] 0), (5855,  q [f] 4), (5857,  q [i 1] 3), b160, b161, (5878,  q [i 1] 3), b162, b163, (5900,  q [f] 4),
  b164, (5903,  .map [] 0), b165, b166, (5965,  q [i 1] 3), (5966,  q [i 0, n 3156 0 1, n 3178 0 1, n 3180 0 1] 52), (5967,  q [i 0] 3), (5968,  q [i 0] 32),
  (5969,  q [i 1] 3), (5970,  q [c 2, x [120], x [], c 1, c 0, c 4, i 0, x [108], z, c 0, i 0, x [], z, z, z, z, z] 109), (5991,  q [z, z, z] 48)]⟩

noncomputable def b167 : Nat × BObj := (6180,  .map [⟨i 1,  p 6202 0,  0⟩] 1)
noncomputable def b168 : Nat × BObj := (6186,  q [z, n 6183 0 1, m 6180, m 6181, i 1, n 6185 0 1] 62)
noncomputable def b169 : Nat × BObj := (6202,  q [c 2, i 0, c 0, i 0, x [], z, i 0, z, i 0, i 0, i 0, i 0, c 0, f, z, z] 80)
noncomputable def b170 : Nat × BObj := (6209,  q [z, n 6206 0 1, m 6203, m 6204, i 1, n 6208 0 1] 62)
noncomputable def S25 : CState :=
  ⟨⟨152,  [p 6219 0, a [c 0, i 0, x [], z, i 0], o, p 6220 0, f, o, o, o, p 6219 0, p 6219 0, p 6219 0, i 512, f, p 6219 0, p 6219 0, p 6219 0, i 512, i 511,
  p 6219 0, p 6219 0, o, o, o, o, o, o, o, o, o, o, o, o, o, o, o, o, o, o, o, o, o, o, o, o, o, o, o, o, o, o, o, o, o, o, o, o, o, o, o, o, o, o, o, o, o,
  o, o, o, o, o, o, o, o, o, o, o, o, o, o, o, o, o, o, o, o, o, o, o, o, o, o, o, o, o, o, o, o, o, o, o, o, o, o, o],  [.code (cd 152 23), .code (cd 152 31)],
   [],  .run,  .normal,  none⟩, [⟨114,  [a [c 0, i 0, x [], z, i 0], p 6218 0, i 0, p 6219 0, a [i 512, i 16], p 6219 0, p 6219 0, a [c 0, i 0, x [], z, i 0],
  o, o, o, o, o, o, o],  [.inRegion (ops 114 19) [2, 3], .code (cd 114 27), .code (cd 114 15)],  [],  .run,  .normal,  none⟩, ⟨76,  [a [c 0, i 0, x [], z,
  i 0], p 6217 0, f, a [c 0, i 0, x [], z, i 0], o, o],  [.inRegion (ops 76 5) [1, 2, 3], .code (cd 76 7)],  [],  .run,  .normal,  none⟩, ⟨116,  [a [c 0, i 0,
  x [], z, i 0], p 6215 0, p 6216 0, i 0, a [c 0, i 0, x [], z, i 0], o, o, o, o, o],  [.inRegion (ops 116 9) [1, 2], .code (cd 116 13), .code (cd 116 7)],
   [],  .run,  .normal,  none⟩, ⟨80,  [a [c 0, i 0, x [], z, i 0], p 6213 0, p 6214 0, o, o, o, a [c 0, i 0, x [], z, i 0], o, o, o, o],  [.inRegion (ops 80 5) [1,
  2, 3, 4, 5, 6, 7], .code (cd 80 7)],  [],  .run,  .normal,  none⟩, ⟨48,  [a [c 2, i 0, c 0, i 0, x [], z, i 0, z, i 0, i 0, i 0, i 0, c 0, f, z, z], p 6211 0,
  p 6212 0, o, o, o, o, p 6211 2, a [c 0, i 0, x [], z, i 0], o, o, o, o, o, o, o, o, o, o, o, o, o, o, o, o, o, o, o, o, o, o, o, o, o, o, o, o, o, o, o,
  o, o, o, o, o, o, o, o, o, o, o, o, o, o, o, o],  [.inRegion (ops 48 5) [2, 3, 4], .code (cd 48 7)],  [],  .run,  .normal,  none⟩, ⟨16,  [p 5904 0, o, zp,
  p 6209 0, i 1, p 5943 0, o, p 5904 0, f, p 5904 0, p 5904 0, p 5904 0, z, z, p 5904 0, p 5904 0, p 5904 1, s 5900 0 1 1, n 6206 0 1, p 5904 0, p 5904 0,
  p 5904 5, n 5965 0 1, n 6208 0 1, p 5904 0, p 5904 0, p 5904 4, i 1, m 6203, m 6204, a [z, n 6206 0 1, m 6203, m 6204, i 1, n 6208 0 1], p 6209 0, p 5904 0,
  p 5904 0, p 5904 2, m 5902, p 6210 0, u [t, i 1, p 5943 0], t, u [i 1, p 5943 0], i 1, p 5943 0, p 5943 0, p 5943 0, a [c 2, i 0, c 0, i 0, x [], z, i 0,
  z, i 0, i 0, i 0, i 0, c 0, f, z, z], o, o, o, o, o, o, o, o, o, o],  [.inRegion (ops 16 5527) [3, 4, 5], .code (cd 16 7575), .inBlock 1, .inLoop (cd 16 151),
  .inBlock 0, .code (cd 16 31)],  [],  .run,  .normal,  none⟩, ⟨5,  [p 5904 0, n 6073 0 2, o, o, zp, i 0, o, p 6130 0, i 0, p 5904 0, f, f, p 5904 0, i 1,
  f, f, n 6073 0 2, i 2, f, n 6073 0 2, i 2, i 2, f, p 6073 4, a [i 0, n 6047 0 1, n 6069 0 1, n 6071 0 1], p 5904 0, a [i 0, n 6047 0 1, n 6069 0 1, n 6071 0 1],
  i 0, i 0, f, o, i 2, p 5904 0, p 6186 0, p 5904 0, o, o, o, o, o, o, o],  [.inRegion (ops 5 47) [3, 4, 5, 6, 7, 8, 9, 10, 11], .code (cd 5 53)],  [],  .run,
   .normal,  none⟩, ⟨20,  [p 3237 0, k 61, k 62, o, o, o, zp, p 5858 0, p 5898 0, p 5904 0, i 0, n 6073 0 2, i 1, p 6077 0, o, o, p 3237 0, p 5858 0, p 5858 0,
  f, p 5858 0, a [z, z, n 5897 0 1, i 1, n 5878 0 1], k 61, o, u [p 5904 0, i 0], a [z, z, n 5897 0 1, i 1, n 5878 0 1], u [p 5904 0, i 0], p 5904 0, i 0,
  i 0, f, p 3237 0, n 6073 0 2, n 6073 0 2, i 2, i 2, f, i 1, p 6073 4, a [i 0, n 6047 0 1, n 6069 0 1, n 6071 0 1], n 6073 0 2, i 1, k 62, a [i 0, n 6047 0 1,
  n 6069 0 1, n 6071 0 1], a [i 0, n 6047 0 1, n 6069 0 1, n 6071 0 1], p 6073 4, i 2, o, p 5904 0, n 6073 0 2, o, o, o, o],  [.inRegion (ops 20 1535) [2,
  3, 4, 5, 6, 7], .code (cd 20 2047)],  [],  .run,  .normal,  none⟩, u155, u156, u64, u13], 6221, [(0,  q [y, y] 24), b0, (2,  q [zp, p 1 0] 31), (3,  q [i 0] 22),
  (4,  q [f, f] 4), (5,  q [i 0, i 0] 3), (6,  .map [] 0), (7,  .map [] 0), (9,  q [i 0] 22), b1, (11,  .map [] 0), (12,  .map [] 0), (14,  q [i 0] 22), (16,
   q [f, f] 4), (18,  q [i 0, i 0] 3), b2, (21,  .map [] 0), (22,  .map [] 0), (24,  q [i 0] 22), (26,  q [f, f] 4), (28,  q [i 0, i 0] 3), b3, b4, (50,  q [y,
  y] 24), (52,  q [y, y] 24), (53,  q [y, y] 24), (64,  q [y, y] 24), b5, (74,  .map [] 0), (75,  .map [] 0), (77,  q [i 0] 22), (79,  q [f, f] 4), (81,  q [i 0,
  i 0] 3), b6, (84,  .map [] 0), (85,  .map [] 0), (87,  q [i 0] 22), (89,  q [f, f] 4), (91,  q [i 0, i 0] 3), b7, b8, b9, b10, b11, b12, (2135,  q [i 0] 22),
  (2136,  q [f, f] 4), (2137,  q [i 0, i 1] 3), b14, (2139,  .map [] 0), (2141,  q [i 0] 22), b15, b16, b17, b18, (2197,  q [i 1] 60), (2198,  q [i 1] 60),
  b19, b20, (2301,  .map [] 0), (2303,  q [i 0] 22), (2305,  q [f, f] 4), (2307,  q [i 0, i 1] 3), b21, b22, b26, (2326,  .map [] 0), (2328,  q [i 0] 22),
  (2330,  q [f, f] 4), (2332,  q [i 0, i 1] 3), b23, b27, b28, b29, (2401,  q [i 1] 60), b30, b31, (2455,  q [i 1] 60), b32, b33, b34, (2509,  q [i 1] 60),
  b35, b36, (2563,  q [i 1] 60), b37, b38, b58, (2976,  .map [] 0), (2978,  q [f] 4), (2980,  q [i 1] 3), b59, b60, b61, (2999,  .map [] 0), (3001,  q [f] 4),
  (3003,  q [i 1] 3), b62, b63, b65, b66, (3072,  q [i 1] 60), b67, b68, (3126,  q [i 1] 60), b69, b70, b71, (3180,  q [i 1] 60), b72, b73, (3234,  q [i 1] 60),
  b74, b75, (3239,  q [i 1] 22), b76, b79, (3242,  .map [] 0), (3244,  q [i 0] 22), (3246,  q [f, f] 4), (3248,  q [i 0, i 1] 3), b77, b80, b81, (3267,  .map [] 0),
  (3269,  q [f] 4), (3271,  q [i 1] 3), b82, b83, b84, b85, (3340,  q [i 1] 60), b86, b87, (3394,  q [i 1] 60), b88, b89, b90, (3448,  q [i 1] 60), b91, b94,
  (3502,  q [i 1] 60), b95, b96, b97, b98, b157, b154, b158, b159, (5853,  .map [] 0), (5855,  q [f] 4), (5857,  q [i 1] 3), b160, b161, (5878,  q [i 1] 3),
  b162, b163, (5900,  q [f] 4), b164, (5903,  .map [] 0), b165, b166, (5965,  q [i 1] 3), (5993,  q [c 2, x [120], x [], c 1, c 0, c 4, i 0, x [108], z, c 0,
  i 0, x [], z, z, z, z, z] 109), (6015,  q [x [108], c 4, i 0, x [], z, i 1] 101), (6017,  q [i 1] 60), (6047,  q [c 2, x [120], x [], c 1, c 0, c 4, i 0,
  x [108], z, c 0, i 0, x [], z, z, z, z, z] 109), (6069,  q [x [108], c 4, i 0, x [], z, i 1] 101), (6071,  q [i 1] 60), (6073,  q [i 0, n 5993 0 1, n 6015 0 1,
  n 6017 0 1, i 0, n 6047 0 1, n 6069 0 1, n 6071 0 1] 52), (6077,  q [i 0, n 6047 0 1, n 6069 0 1, n 6071 0 1] 52), (6130,  q [i 0, n 6047 0 1, n 6069 0 1,
  n 6071 0 1] 52), b167, (6181,  .map [] 0), (6183,  q [f] 4), (6185,  q [i 1] 3), b168, b169, (6203,  .map [] 0), (6204,  .map [] 0), (6206,  q [f] 4), (6208,
   q [i 1] 3), b170, (6210,  .mapIter (some 5902) 1 [0] 1), (6211,  q [c 2, i 0, c 0, i 0, x [], z, i 0, z, i 0, i 0, i 0, i 0, c 0, f, z, z] 80), (6212,  q [c 0,
  i 0, c 0, i 0, x [], z, i 0, z, i 0, i 0, i 0, i 0, c 0, f, z, z] 80), (6213,  q [c 0, i 0, x [], z, i 0] 77), (6214,  q [c 0, i 0, x [], z, i 0] 77), (6215,
   q [c 0, i 0, x [], z, i 0] 77), (6216,  q [c 0, i 0, x [], z, i 0] 77), (6217,  q [c 0, i 0, x [], z, i 0] 77), (6218,  q [c 0, i 0, x [], z, i 0] 77),
  (6219,  q [i 511, i 16] 229), (6220,  q [c 0, i 0, x [], z, i 0] 77)]⟩

noncomputable def b171 : Nat × BObj := (6203,  .map [⟨i 1,  p 6225 0,  0⟩] 1)
noncomputable def b172 : Nat × BObj := (6225,  q [c 2, i 0, c 0, i 0, x [], z, i 0, z, i 0, i 0, i 0, i 0, c 0, f, z, z] 80)
noncomputable def b173 : Nat × BObj := (6253,  q [c 2, x [120], x [], c 1, c 0, c 4, i 0, x [108], z, c 0, i 0, x [], z, z, z, z, z] 109)
noncomputable def b174 : Nat × BObj := (6275,  q [x [108], c 4, i 0, x [], z, i 1] 101)
noncomputable def b175 : Nat × BObj := (6307,  q [c 2, x [120], x [], c 1, c 0, c 4, i 0, x [108], z, c 0, i 0, x [], z, z, z, z, z] 109)
noncomputable def b176 : Nat × BObj := (6329,  q [x [108], c 4, i 0, x [], z, i 1] 101)
noncomputable def b177 : Nat × BObj := (6333,  q [i 0, n 6253 0 1, n 6275 0 1, n 6277 0 1, i 0, n 6307 0 1, n 6329 0 1, n 6331 0 1] 52)
noncomputable def b178 : Nat × BObj := (6361,  q [c 2, x [120], x [], c 1, c 0, c 4, i 0, x [108], z, c 0, i 0, x [], z, z, z, z, z] 109)
noncomputable def b179 : Nat × BObj := (6383,  q [x [108], c 4, i 0, x [], z, i 1] 101)
noncomputable def b180 : Nat × BObj := (6415,  q [c 2, x [120], x [], c 1, c 0, c 4, i 0, x [108], z, c 0, i 0, x [], z, z, z, z, z] 109)
noncomputable def b181 : Nat × BObj := (6437,  q [x [108], c 4, i 0, x [], z, i 1] 101)
noncomputable def b182 : Nat × BObj := (6441,  q [i 0, n 6361 0 1, n 6383 0 1, n 6385 0 1, i 0, n 6415 0 1, n 6437 0 1, n 6439 0 1] 52)
noncomputable def b183 : Nat × BObj := (6442,  q [p 6186 0, p 6209 0, n 6333 0 2, n 6441 0 2, z] 30)
noncomputable def S26 : CState :=
  ⟨⟨184,  [o, o, o],  [.inRegion (ops 184 2) [0], .code (cd 184 3)],  [],  .run,  .normal,  none⟩, [⟨151,  [a [c 2, x [120], x [], c 1, c 0, c 4, i 0, x [108],
  z, c 0, i 0, x [], z, z, z, z, z], p 6449 0, f, o, o, o, o, o, o, o, o, o, o, o, o, o, o, o, o, o, o, o, o, o, o, o, o, o, o, o, o, o, o, o, o, o, o, o,
  o, o, o, o, o, o, o, o, o, o, o, o, o, o, o, o, o, o, o, o, o, o, o, o, o, o, o, o, o, o, o, o, o, o, o, o, o, o, o, o, o, o, o, o, o, o, o, o, o, o, o,
  o, o, o, o, o, o, o, o, o, o, o, o],  [.inDraw ⟨opsOf (cd 151 5),  [a [c 2, x [120], x [], c 1, c 0, c 4, i 0, x [108], z, c 0, i 0, x [], z, z, z, z, z],
  p 6449 0, f, o, o, o, o, o, o, o, o, o, o, o, o, o, o, o, o, o, o, o, o, o, o, o, o, o, o, o, o, o, o, o, o, o, o, o, o, o, o, o, o, o, o, o, o, o, o, o,
  o, o, o, o, o, o, o, o, o, o, o, o, o, o, o, o, o, o, o, o, o, o, o, o, o, o, o, o, o, o, o, o, o, o, o, o, o, o, o, o, o, o, o, o, o, o, o, o, o, o, o],
   [none, some (p 6449 0), some (c 2), none, none, none, none, none, none],  [0]⟩, .code (cd 151 7)],  [],  .run,  .normal,  none⟩, ⟨150,  [i 0, i 0, a [c 2,
  x [120], x [], c 1, c 0, c 4, i 0, x [108], z, c 0, i 0, x [], z, z, z, z, z], p 6444 0, p 6445 0, o, o, p 6448 0, f, f, i 0, f, o, o, a [c 2, x [120], x [],
  c 1, c 0, c 4, i 0, x [108], z, c 0, i 0, x [], z, z, z, z, z], o, o, o, o, o],  [.inRegion (ops 150 89) [1, 2, 3], .code (cd 150 121), .inBlock 0, .code (cd 150 7)],
   [],  .run,  .normal,  none⟩, ⟨149,  [n 6361 0 1, i 0, p 6446 0, kc 150 [p 6444 0, p 6445 0], o, o, o, o, f, o, p 6447 0, i 0, o, o, n 6361 0 1, i 1, i 0,
  t, p 6361 0, a [c 2, x [120], x [], c 1, c 0, c 4, i 0, x [108], z, c 0, i 0, x [], z, z, z, z, z], p 6446 0, p 6446 0, i 0, p 6446 0, p 6446 0, i 0, i 1,
  p 6446 0, i 0, f, f, kc 150 [p 6444 0, p 6445 0], i 0, i 0, a [c 2, x [120], x [], c 1, c 0, c 4, i 0, x [108], z, c 0, i 0, x [], z, z, z, z, z], o, o,
  o, o, o, o, o, o, o, o, o, o, o, o, o, o, o, o, o, o, o, o, o, o],  [.inRegion (ops 149 20069) [7, 8, 9], .code (cd 149 28261), .code (cd 149 15973), .inBlock 1,
  .code (cd 149 485), .inLoop (cd 149 37), .inBlock 0, .code (cd 149 7)],  [],  .run,  .normal,  none⟩, ⟨113,  [n 6361 0 1, o, p 6444 0, p 6445 0, p 6446 0,
  n 6361 0 1, kc 150 [p 6444 0, p 6445 0], o, o, o],  [.inRegion (ops 113 11) [2], .code (cd 113 15)],  [],  .run,  .normal,  none⟩, ⟨74,  [n 6361 0 1, o,
  i 0, o, o, o, n 6361 0 1, o, o, o, o],  [.inRegion (ops 74 5) [1, 2, 3, 4, 5, 6], .code (cd 74 7)],  [],  .run,  .normal,  none⟩, ⟨50,  [n 6361 0 1, o, z,
  i 0, o, n 6361 0 1, o, o, o, o, o, o],  [.inRegion (ops 50 9) [1, 2], .code (cd 50 13), .code (cd 50 7)],  [],  .run,  .normal,  none⟩, ⟨17,  [n 6441 0 2,
  o, z, z, o, p 6443 0, n 6441 0 2, i 2, i 0, t, p 6441 0, a [i 0, n 6361 0 1, n 6383 0 1, n 6385 0 1], o, p 6443 1, n 6361 0 1, o, o, o, o, o, o, o, o, o,
  o, o, o, o, o, o, o, o, o],  [.inRegion (ops 17 5323) [2, 3, 4, 5, 6, 7], .code (cd 17 7371), .inBlock 1, .code (cd 17 971), .inLoop (cd 17 75), .inBlock 0,
  .code (cd 17 15)],  [],  .run,  .normal,  none⟩, ⟨29,  [p 6442 0, o, z, p 6442 0, t, f, p 6442 0, p 6442 0, p 6442 3, n 6441 0 2, o],  [.inRegion (ops 29 11) [4,
  5], .code (cd 29 53)],  [],  .run,  .normal,  none⟩, ⟨31,  [p 6442 0, n 3728 0 2, o, o, z, o, o, o, o, o, o, p 3237 0, p 6442 0, p 6442 0, o, o, o, o, o,
  o, o, o, o, o, o, o, o, o, o, o, o, o, o, o, o, o, o, o, o, o, o, o, o, o, o],  [.inRegion (ops 31 11) [1, 2], .code (cd 31 15)],  [],  .run,  .normal,  none⟩,
  u156, u64, u13], 6450, [(0,  q [y, y] 24), b0, (2,  q [zp, p 1 0] 31), (3,  q [i 0] 22), (4,  q [f, f] 4), (5,  q [i 0, i 0] 3), (6,  .map [] 0), (7,  .map [] 0),
  (9,  q [i 0] 22), b1, (11,  .map [] 0), (12,  .map [] 0), (14,  q [i 0] 22), (16,  q [f, f] 4), (18,  q [i 0, i 0] 3), b2, (21,  .map [] 0), (22,  .map [] 0),
  (24,  q [i 0] 22), (26,  q [f, f] 4), (28,  q [i 0, i 0] 3), b3, b4, (50,  q [y, y] 24), (52,  q [y, y] 24), (53,  q [y, y] 24), (64,  q [y, y] 24), b5,
  (74,  .map [] 0), (75,  .map [] 0), (77,  q [i 0] 22), (79,  q [f, f] 4), (81,  q [i 0, i 0] 3), b6, (84,  .map [] 0), (85,  .map [] 0), (87,  q [i 0] 22),
  (89,  q [f, f] 4), (91,  q [i 0, i 0] 3), b7, b8, b9, b10, b11, b12, (2135,  q [i 0] 22), (2136,  q [f, f] 4), (2137,  q [i 0, i 1] 3), b14, (2139,  .map [] 0),
  (2141,  q [i 0] 22), b15, b16, b17, b18, (2197,  q [i 1] 60), (2198,  q [i 1] 60), b19, b20, (2301,  .map [] 0), (2303,  q [i 0] 22), (2305,  q [f, f] 4),
  (2307,  q [i 0, i 1] 3), b21, b22, b26, (2326,  .map [] 0), (2328,  q [i 0] 22), (2330,  q [f, f] 4), (2332,  q [i 0, i 1] 3), b23, b27, b28, b29, (2401,
   q [i 1] 60), b30, b31, (2455,  q [i 1] 60), b32, b33, b34, (2509,  q [i 1] 60), b35, b36, (2563,  q [i 1] 60), b37, b38, b58, (2976,  .map [] 0), (2978,
   q [f] 4), (2980,  q [i 1] 3), b59, b60, b61, (2999,  .map [] 0), (3001,  q [f] 4), (3003,  q [i 1] 3), b62, b63, b65, b66, (3072,  q [i 1] 60), b67, b68,
  (3126,  q [i 1] 60), b69, b70, b71, (3180,  q [i 1] 60), b72, b73, (3234,  q [i 1] 60), b74, b75, (3239,  q [i 1] 22), b76, b79, (3242,  .map [] 0), (3244,
   q [i 0] 22), (3246,  q [f, f] 4), (3248,  q [i 0, i 1] 3), b77, b80, b81, (3267,  .map [] 0), (3269,  q [f] 4), (3271,  q [i 1] 3), b82, b83, b84, b85,
  (3340,  q [i 1] 60), b86, b87, (3394,  q [i 1] 60), b88, b89, b90, (3448,  q [i 1] 60), b91, b94, (3502,  q [i 1] 60), b95, b96, b97, b98, b157, b154, b158,
  b167, (6181,  .map [] 0), (6183,  q [f] 4), (6185,  q [i 1] 3), b168, b169, b171, (6204,  .map [] 0), (6206,  q [f] 4), (6208,  q [i 1] 3), b170, b172, b173,
  b174, (6277,  q [i 1] 60), b175, b176, (6331,  q [i 1] 60), b177, b178, b179, (6385,  q [i 1] 60), b180, b181, (6439,  q [i 1] 60), b182, b183, (6443,  q [i 0,
  n 6361 0 1, n 6383 0 1, n 6385 0 1] 52), (6444,  q [i 0] 3), (6445,  q [i 0] 32), (6446,  q [i 1] 3), (6447,  q [c 2, x [120], x [], c 1, c 0, c 4, i 0,
  x [108], z, c 0, i 0, x [], z, z, z, z, z] 109), (6448,  q [c 2, x [120], x [], c 1, c 0, c 4, i 0, x [108], z, c 0, i 0, x [], z, z, z, z, z] 109), (6449,
   q [c 2, x [120], x [], c 1, c 0, c 4, i 0, x [108], z, c 0, i 0, x [], z, z, z, z, z] 109)]⟩

noncomputable def u184 : BFrame := ⟨134,  [p 6442 0, a [i 0, i 0], o, p 6560 0, p 6561 0, f, o, o, o, o, o, o, o, o, o, o, o, o, o, o, o, o, o, o, o, o, o, o, o, o, o, o, o, o, o, o, o, o,
  o, o, o, o, o, o, o, o, o, o, o, o, o, o, o, o, o, o, o],  [.inDraw ⟨opsOf (cd 134 5),  [p 6442 0, a [i 0, i 0], o, p 6560 0, p 6561 0, f, o, o, o, o, o,
  o, o, o, o, o, o, o, o, o, o, o, o, o, o, o, o, o, o, o, o, o, o, o, o, o, o, o, o, o, o, o, o, o, o, o, o, o, o, o, o, o, o, o, o, o, o],  [some (p 6442 0),
  some (p 6442 0), some (p 6442 1), some (p 6209 0), some (p 6442 0), some (p 6442 0), some (p 6442 3), some (n 6441 0 2), some (p 6560 0), some (i 0), some (p 6441 0),
  some (a [i 0, n 6361 0 1, n 6383 0 1, n 6385 0 1]), none, none, none, none, none, none, none, some (p 6562 0), some (p 6563 0), none, none, none, none, none],
   [12, 21, 22]⟩, .code (cd 134 7)],  [],  .run,  .normal,  none⟩
noncomputable def u185 : BFrame := ⟨94,  [p 6442 0, a [i 0, i 0], o, p 6557 0, p 6558 0, f, i 0, .func (.func 134) [p 6442 0] [], p 6442 0, t, f, o, p 6442 0, a [i 0, i 0], t, f, o, p 6442 0,
  .func (.func 134) [p 6442 0] [], p 6557 1, i 0, f, o, o, o, .func (.func 134) [p 6442 0] [], a [i 0, i 0], o, o, o, o, o, o, o, o, o, o, o, o, o, o, o, o,
  o, o, o, o, o, o, o, o, o, o, o, o, o],  [.inRegion (ops 94 159) [2, 3, 4, 5, 6, 7], .code (cd 94 223), .code (cd 94 127)],  [],  .run,  .normal,  none⟩
noncomputable def u186 : BFrame := ⟨63,  [p 6442 0, n 3728 0 2, p 6551 0, o, i 0, i 0, o, p 6556 0, o, o, o, f, p 6442 0, t, f, f, n 3728 0 2, i 2, f, f, n 3728 0 2, kc 92 [p 6551 0], f, n 3728 0 2,
  i 2, i 0, t, p 3728 0, a [i 0, i 0], o, p 6442 0, a [i 0, i 0], o, o, o, o, o, o, o, o, o],  [.inRegion (ops 63 5323) [2, 3, 4, 5, 6, 7, 8, 9, 10], .code (cd 63 7371),
  .inBlock 2, .code (cd 63 971), .inLoop (cd 63 75), .inBlock 1, .code (cd 63 15)],  [],  .run,  .normal,  none⟩
noncomputable def u187 : BFrame := ⟨31,  [p 6442 0, n 3728 0 2, o, o, z, n 6550 0 2, o, o, o, o, o, p 3237 0, p 6442 0, p 6442 0, n 6550 0 2, p 6442 0, n 3728 0 2, o, o, o, o, o, o, o, o,
  o, o, o, o, o, o, o, o, o, o, o, o, o, o, o, o, o, o, o, o],  [.inRegion (ops 31 23) [2], .code (cd 31 31)],  [],  .run,  .normal,  none⟩
noncomputable def b188 : Nat × BObj := (6470,  q [c 2, x [120], x [], c 1, c 0, c 4, i 0, x [108], z, c 0, i 0, x [], z, z, z, z, z] 109)
noncomputable def b189 : Nat × BObj := (6492,  q [x [108], c 4, i 0, x [], z, i 1] 101)
noncomputable def b190 : Nat × BObj := (6524,  q [c 2, x [120], x [], c 1, c 0, c 4, i 0, x [108], z, c 0, i 0, x [], z, z, z, z, z] 109)
noncomputable def b191 : Nat × BObj := (6546,  q [x [108], c 4, i 0, x [], z, i 1] 101)
noncomputable def b192 : Nat × BObj := (6550,  q [i 0, n 6470 0 1, n 6492 0 1, n 6494 0 1, i 0, n 6524 0 1, n 6546 0 1, n 6548 0 1] 52)
noncomputable def b193 : Nat × BObj := (6551,  q [p 6442 0] 25)
noncomputable def b194 : Nat × BObj := (6556,  q [i 0, i 0] 24)
noncomputable def b195 : Nat × BObj := (6557,  q [i 0, i 0] 24)
noncomputable def b196 : Nat × BObj := (6558,  q [i 0, i 0, c 0, x [], x [], c 0, i 0, x [], z, i 0, c 0, i 0, x [], z, i 0, f, i 0, z] 166)
noncomputable def b197 : Nat × BObj := (6560,  q [i 0, i 0] 24)
noncomputable def b198 : Nat × BObj := (6561,  q [i 0, i 0, c 0, x [], x [], c 0, i 0, x [], z, i 0, c 0, i 0, x [], z, i 0, f, i 0, z] 166)
noncomputable def b199 : Nat × BObj := (6562,  q [i 0, z, z, z] 52)
noncomputable def b200 : Nat × BObj := (6563,  q [c 0, x [], x [], c 0, i 0, x [], z, i 0, c 0, i 0, x [], z, i 0, f, i 0] 163)
noncomputable def b201 : Nat × BObj := (6564,  q [i 0, n 6361 0 1, n 6383 0 1, n 6385 0 1] 52)
noncomputable def b202 : Nat × BObj := (6565,  q [i 0, z, z, z] 52)
noncomputable def b203 : Nat × BObj := (6566,  q [c 0, x [], x [], c 0, i 0, x [], z, i 0, c 0, i 0, x [], z, i 0, f, i 0] 163)
noncomputable def b204 : Nat × BObj := (6646,  q [c 2, x [120], x [], c 1, c 0, c 4, i 0, x [108], z, c 0, i 0, x [], z, z, z, z, z] 109)
noncomputable def b205 : Nat × BObj := (6655,  q [x [108], c 4, i 0, x [], z, i 1] 101)
noncomputable def b206 : Nat × BObj := (6669,  q [c 2, x [120], x [], c 1, c 0, c 4, i 0, x [108], z, c 0, i 0, x [], z, z, z, z, z] 109)
noncomputable def S27 : CState :=
  ⟨⟨170,  [p 6209 0, a [i 0, n 6361 0 1, n 6383 0 1, n 6385 0 1], o, p 6564 0, p 6565 0, p 6566 0, z, f, i 0, t, p 6668 0, p 6669 0, o, u [t, i 0], p 6209 0,
  a [i 0, n 6361 0 1, n 6383 0 1, n 6385 0 1], u [t, i 0], t, i 0, i 0, f, o, o, o, a [i 0, n 6361 0 1, n 6383 0 1, n 6385 0 1], a [i 0, n 6646 0 1, n 6655 0 1,
  n 6667 0 1], p 6209 0, a [i 0, n 6646 0 1, n 6655 0 1, n 6667 0 1, p 6209 0, c 0, x [], x [], c 0, i 0, x [], z, i 0, c 0, i 0, x [], z, i 0, f, i 0, z],
  p 6668 0, t, f, o, o, o, o, o, p 6668 0, p 6668 0, p 6668 0, p 6668 1, n 6646 0 1, p 6646 0, a [c 2, x [120], x [], c 1, c 0, c 4, i 0, x [108], z, c 0,
  i 0, x [], z, z, z, z, z], o, o, o, o, o, o, o, o, o, o, o, o, o, o, o, o, o, o, o, o, o, o, o, o, o, o, o, o, o, o, o, o, o, o, o, o, o, o, o, o, o, o,
  o, o, o, o, o, o, o, o, o, o, o, o, o, o, o, o, o, o, o, o, o, o, o, o, o, o, o, o, o, o, o, o, o, o, o, o, o, o, o, o, o, o, o, o, o, o, o, o, o, o, o,
  o],  [.code (cd 170 191), .code (cd 170 255)],  [],  .run,  .normal,  none⟩, [u184, u185, u186, u187, u156, u64, u13], 6670, [(0,  q [y, y] 24), b0, (2,
   q [zp, p 1 0] 31), (3,  q [i 0] 22), (4,  q [f, f] 4), (5,  q [i 0, i 0] 3), (6,  .map [] 0), (7,  .map [] 0), (9,  q [i 0] 22), b1, (11,  .map [] 0), (12,
   .map [] 0), (14,  q [i 0] 22), (16,  q [f, f] 4), (18,  q [i 0, i 0] 3), b2, (21,  .map [] 0), (22,  .map [] 0), (24,  q [i 0] 22), (26,  q [f, f] 4), (28,
   q [i 0, i 0] 3), b3, b4, (50,  q [y, y] 24), (52,  q [y, y] 24), (53,  q [y, y] 24), (64,  q [y, y] 24), b5, (74,  .map [] 0), (75,  .map [] 0), (77,  q [i 0] 22),
  (79,  q [f, f] 4), (81,  q [i 0, i 0] 3), b6, (84,  .map [] 0), (85,  .map [] 0), (87,  q [i 0] 22), (89,  q [f, f] 4), (91,  q [i 0, i 0] 3), b7, b8, b9,
  b10, b11, b12, (2135,  q [i 0] 22), (2136,  q [f, f] 4), (2137,  q [i 0, i 1] 3), b14, (2139,  .map [] 0), (2141,  q [i 0] 22), b15, b16, b17, b18, (2197,
   q [i 1] 60), (2198,  q [i 1] 60), b19, b20, (2301,  .map [] 0), (2303,  q [i 0] 22), (2305,  q [f, f] 4), (2307,  q [i 0, i 1] 3), b21, b22, b26, (2326,
   .map [] 0), (2328,  q [i 0] 22), (2330,  q [f, f] 4), (2332,  q [i 0, i 1] 3), b23, b27, b28, b29, (2401,  q [i 1] 60), b30, b31, (2455,  q [i 1] 60), b32,
  b33, b34, (2509,  q [i 1] 60), b35, b36, (2563,  q [i 1] 60), b37, b38, b58, (2976,  .map [] 0), (2978,  q [f] 4), (2980,  q [i 1] 3), b59, b60, b61, (2999,
   .map [] 0), (3001,  q [f] 4), (3003,  q [i 1] 3), b62, b63, b65, b66, (3072,  q [i 1] 60), b67, b68, (3126,  q [i 1] 60), b69, b70, b71, (3180,  q [i 1] 60),
  b72, b73, (3234,  q [i 1] 60), b74, b75, (3239,  q [i 1] 22), b76, b79, (3242,  .map [] 0), (3244,  q [i 0] 22), (3246,  q [f, f] 4), (3248,  q [i 0, i 1] 3),
  b77, b80, b81, (3267,  .map [] 0), (3269,  q [f] 4), (3271,  q [i 1] 3), b82, b83, b84, b85, (3340,  q [i 1] 60), b86, b87, (3394,  q [i 1] 60), b88, b89,
  b90, (3448,  q [i 1] 60), b91, b94, (3502,  q [i 1] 60), b95, b96, b97, b98, b157, b154, b158, b167, (6181,  .map [] 0), (6183,  q [f] 4), (6185,  q [i 1] 3),
  b168, b169, b171, (6204,  .map [] 0), (6206,  q [f] 4), (6208,  q [i 1] 3), b170, b172, b173, b174, (6277,  q [i 1] 60), b175, b176, (6331,  q [i 1] 60),
  b177, b178, b179, (6385,  q [i 1] 60), b180, b181, (6439,  q [i 1] 60), b182, b183, b188, b189, (6494,  q [i 1] 60), b190, b191, (6548,  q [i 1] 60), b192,
  b193, b194, b195, b196, b197, b198, b199, b200, b201, b202, b203, b204, b205, (6667,  q [i 1] 60), (6668,  q [i 0, n 6646 0 1, n 6655 0 1, n 6667 0 1, p 6209 0,
  c 0, x [], x [], c 0, i 0, x [], z, i 0, c 0, i 0, x [], z, i 0, f, i 0, z] 272), b206]⟩

noncomputable def b207 : Nat × BObj := (6895,  q [c 1, i 0, i 1, i 1, c 1, c 0, i 0, x [], z, i 0, c 3, i 0, x [], z, i 0, c 0, z, z] 248)
noncomputable def S28 : CState :=
  ⟨⟨152,  [p 6914 0, a [c 4, i 0, x [], z, i 1], o, p 6915 0, f, p 6916 0, o, o, p 6914 0, p 6914 0, p 6914 0, i 512, f, p 6914 0, p 6914 0, p 6914 0, i 512,
  i 511, p 6914 0, p 6914 0, a [c 4, i 0, x [], z, i 1], p 6915 0, c 4, f, f, f, f, o, f, f, o, o, o, o, o, t, t, p 6915 4, i 1, f, p 6916 4, o, o, o, o, o,
  o, o, o, o, o, o, o, o, o, o, o, o, o, o, o, o, o, o, o, o, o, o, o, o, o, o, o, o, o, o, o, o, o, o, o, o, o, o, o, p 6916 1, i 0, o, o, o, o, o, o, o,
  o, o, o, o, o, o, o, o, o, o],  [.inRegion (ops 152 95) [2, 3, 4, 5, 6, 7, 8, 9, 10, 11, 12, 13, 14, 15, 16, 17, 18, 19], .code (cd 152 53)],  [],  .run,
   .normal,  none⟩, [⟨114,  [a [c 4, i 0, x [], z, i 1], p 6913 0, i 0, p 6914 0, a [i 512, i 16], p 6914 0, p 6914 0, a [c 4, i 0, x [], z, i 1], o, o, o,
  o, o, o, o],  [.inRegion (ops 114 19) [2, 3], .code (cd 114 27), .code (cd 114 15)],  [],  .run,  .normal,  none⟩, ⟨76,  [a [c 4, i 0, x [], z, i 1], p 6912 0,
  f, a [c 4, i 0, x [], z, i 1], o, o],  [.inRegion (ops 76 5) [1, 2, 3], .code (cd 76 7)],  [],  .run,  .normal,  none⟩, ⟨43,  [n 6655 0 1, o, f, z, o, p 6910 0,
  n 6655 0 1, i 1, f, n 6655 0 1, i 1, i 0, t, p 6655 0, a [x [108], c 4, i 0, x [], z, i 1], p 6910 0, x [108], t, f, f, p 6910 1, a [c 4, i 0, x [], z, i 1],
  o, o, o, o, o, o, o, o, o, o, o, o],  [.inRegion (ops 43 18839) [7, 8, 9], .code (cd 43 27031), .code (cd 43 14743), .inBlock 1, .code (cd 43 1943), .inLoop (cd 43 151),
  .inBlock 0, .code (cd 43 31)],  [],  .run,  .normal,  none⟩, ⟨227,  [n 6655 0 1, x [120], a [c 3, i 0, x [], z, i 0], o, o, p 6909 0, z, i 0, o, o, n 6655 0 1,
  o, o, o, o, o, o, o, o, o, o, o, o, o, o, o, o, o, o, o, o, o, o, o, o, o, o, o, o, o, o, o, o, o, o, o, o, o, o, o, o, o, o, o, o, o, o, o],  [.inRegion (ops 227 9) [1,
  2, 3, 4, 5, 6, 7, 8, 9, 10, 11, 12], .code (cd 227 13), .code (cd 227 7)],  [],  .run,  .normal,  none⟩, ⟨195,  [p 6668 0, x [120], a [c 3, i 0, x [], z,
  i 0], o, o, p 6908 0, o, o, o, o, o, o, o, o, o, o, o, o, o, o, o, o, o, o, o, o],  [.inDraw ⟨opsOf (cd 195 5),  [p 6668 0, x [120], a [c 3, i 0, x [], z,
  i 0], o, o, p 6908 0, o, o, o, o, o, o, o, o, o, o, o, o, o, o, o, o, o, o, o, o],  [some (p 6668 0), some (p 6668 0), some (p 6668 0), some (p 6668 2),
  some (n 6655 0 1), some (x [120]), some (a [c 3, i 0, x [], z, i 0]), none, none, none, none, none, none],  [7]⟩, .code (cd 195 7)],  [],  .run,  .normal,
   none⟩, ⟨241,  [p 6668 0, a [c 2, x [120], x [], c 1, c 0, c 4, i 0, x [108], z, c 0, i 0, x [], z, z, z, z, z], a [c 3, i 0, x [], z, i 0], o, p 6897 0,
  p 6898 0, i 0, u [a [c 3, i 0, x [], z, i 0], i 0], p 6668 0, a [c 3, i 0, x [], z, i 0], u [a [c 3, i 0, x [], z, i 0], i 0], a [c 3, i 0, x [], z, i 0],
  i 0, p 6668 0, p 6668 5, p 6668 8, p 6668 0, p 6897 1, x [120], a [c 3, i 0, x [], z, i 0], o],  [.inRegion (ops 241 11) [4], .code (cd 241 15)],  [],  .run,
   .normal,  none⟩, ⟨242,  [p 6668 0, a [c 2, x [120], x [], c 1, c 0, c 4, i 0, x [108], z, c 0, i 0, x [], z, z, z, z, z], c 1, o, p 6679 0, o, i 0, p 6754 0,
  p 6755 0, i 0, p 6756 0, n 6895 0 1, zi, u [a [c 4, i 0, x [], z, i 1], a [c 0, i 0, x [], z, i 0], i 0], p 6668 0, a [c 2, x [120], x [], c 1, c 0, c 4,
  i 0, x [108], z, c 0, i 0, x [], z, z, z, z, z], u [a [c 4, i 0, x [], z, i 1], a [c 0, i 0, x [], z, i 0], i 0], a [c 4, i 0, x [], z, i 1], a [c 0, i 0,
  x [], z, i 0], i 0, i 0, f, o, p 6754 0, c 4, f, u [a [c 3, i 0, x [], z, i 0], n 6895 0 1, zi], p 6668 0, p 6668 0, p 6668 4, p 6209 0, p 6668 0, p 6668 0,
  p 6668 0, p 6668 0, i 0, p 6754 4, i 1, c 1, a [c 0, i 0, x [], z, i 0], u [a [c 3, i 0, x [], z, i 0], n 6895 0 1, zi], a [c 3, i 0, x [], z, i 0], n 6895 0 1,
  zi, zi, f, o, o, p 6668 0, n 6895 0 1, p 6668 0, p 6668 20, p 6668 0, a [c 2, x [120], x [], c 1, c 0, c 4, i 0, x [108], z, c 0, i 0, x [], z, z, z, z,
  z], a [c 3, i 0, x [], z, i 0], o],  [.inRegion (ops 242 383) [3, 4], .code (cd 242 107)],  [],  .run,  .normal,  none⟩, ⟨219,  [p 6668 0, a [c 2, x [120],
  x [], c 1, c 0, c 4, i 0, x [108], z, c 0, i 0, x [], z, z, z, z, z], o, p 6678 0, i 0, p 6668 0, a [c 2, x [120], x [], c 1, c 0, c 4, i 0, x [108], z,
  c 0, i 0, x [], z, z, z, z, z], p 6678 3, c 1, o],  [.inRegion (ops 219 5) [4, 5], .code (cd 219 7)],  [],  .run,  .normal,  none⟩, ⟨170,  [p 6209 0, a [i 0,
  n 6361 0 1, n 6383 0 1, n 6385 0 1], o, p 6564 0, p 6565 0, p 6566 0, z, f, i 0, t, p 6668 0, p 6669 0, i 8, u [t, i 0], p 6209 0, a [i 0, n 6361 0 1, n 6383 0 1,
  n 6385 0 1], u [t, i 0], t, i 0, i 0, f, o, o, o, a [i 0, n 6361 0 1, n 6383 0 1, n 6385 0 1], a [i 0, n 6646 0 1, n 6655 0 1, n 6667 0 1], p 6209 0, a [i 0,
  n 6646 0 1, n 6655 0 1, n 6667 0 1, p 6209 0, c 0, x [], x [], c 0, i 0, x [], z, i 0, c 0, i 0, x [], z, i 0, f, i 0, z], p 6668 0, t, f, o, o, o, o, o,
  p 6668 0, p 6668 0, p 6668 0, p 6668 1, n 6646 0 1, p 6646 0, a [c 2, x [120], x [], c 1, c 0, c 4, i 0, x [108], z, c 0, i 0, x [], z, z, z, z, z], p 6668 0,
  p 6668 0, p 6668 0, p 6668 0, p 6668 1, n 6646 0 1, .eslice, p 6668 0, p 6668 0, p 6668 1, p 6668 0, p 6669 0, c 2, p 6669 1, x [120], p 6669 2, x [], a [c 2,
  x [120], x [], c 0, i 0, x [], z, i 0, c 0, i 0, x [], z, i 0, f, i 0], p 6668 0, p 6668 5, p 6668 0, p 6669 1, x [120], p 6669 2, x [], s 6670 0 2 2, t,
  o, o, o, o, o, o, o, o, o, o, o, o, o, o, o, o, o, o, o, o, o, o, o, o, o, o, o, o, o, o, o, o, o, o, o, o, o, o, o, o, o, o, o, o, o, o, o, o, o, o, o,
  o, o, o, o, o, o, o, o, o, o, o, o, o, o, o, o],  [.inDraw ⟨opsOf (cd 170 5631),  [p 6209 0, a [i 0, n 6361 0 1, n 6383 0 1, n 6385 0 1], o, p 6564 0, p 6565 0,
  p 6566 0, z, f, i 0, t, p 6668 0, p 6669 0, i 8, u [t, i 0], p 6209 0, a [i 0, n 6361 0 1, n 6383 0 1, n 6385 0 1], u [t, i 0], t, i 0, i 0, f, o, o, o,
  a [i 0, n 6361 0 1, n 6383 0 1, n 6385 0 1], a [i 0, n 6646 0 1, n 6655 0 1, n 6667 0 1], p 6209 0, a [i 0, n 6646 0 1, n 6655 0 1, n 6667 0 1, p 6209 0,
  c 0, x [], x [], c 0, i 0, x [], z, i 0, c 0, i 0, x [], z, i 0, f, i 0, z], p 6668 0, t, f, o, o, o, o, o, p 6668 0, p 6668 0, p 6668 0, p 6668 1, n 6646 0 1,
  p 6646 0, a [c 2, x [120], x [], c 1, c 0, c 4, i 0, x [108], z, c 0, i 0, x [], z, z, z, z, z], p 6668 0, p 6668 0, p 6668 0, p 6668 0, p 6668 1, n 6646 0 1,
  .eslice, p 6668 0, p 6668 0, p 6668 1, p 6668 0, p 6669 0, c 2, p 6669 1, x [120], p 6669 2, x [], a [c 2, x [120], x [], c 0, i 0, x [], z, i 0, c 0, i 0,
  x [], z, i 0, f, i 0], p 6668 0, p 6668 5, p 6668 0, p 6669 1, x [120], p 6669 2, x [], s 6670 0 2 2, t, o, o, o, o, o, o, o, o, o, o, o, o, o, o, o, o,
  o, o, o, o, o, o, o, o, o, o, o, o, o, o, o, o, o, o, o, o, o, o, o, o, o, o, o, o, o, o, o, o, o, o, o, o, o, o, o, o, o, o, o, o, o, o, o, o, o, o, o],
   [some (m 6677), some (p 6669 0), some (c 2), some (k 219), some (p 6668 0), some (a [c 2, x [120], x [], c 1, c 0, c 4, i 0, x [108], z, c 0, i 0, x [],
  z, z, z, z, z]), none, none],  [6]⟩, .code (cd 170 2047)],  [],  .run,  .normal,  none⟩, u184, u185, u186, u187, u156, u64, u13], 6917, [(0,  q [y, y] 24),
  b0, (2,  q [zp, p 1 0] 31), (3,  q [i 0] 22), (4,  q [f, f] 4), (5,  q [i 0, i 0] 3), (6,  .map [] 0), (7,  .map [] 0), (9,  q [i 0] 22), b1, (11,  .map [] 0),
  (12,  .map [] 0), (14,  q [i 0] 22), (16,  q [f, f] 4), (18,  q [i 0, i 0] 3), b2, (21,  .map [] 0), (22,  .map [] 0), (24,  q [i 0] 22), (26,  q [f, f] 4),
  (28,  q [i 0, i 0] 3), b3, b4, (50,  q [y, y] 24), (52,  q [y, y] 24), (53,  q [y, y] 24), (64,  q [y, y] 24), b5, (74,  .map [] 0), (75,  .map [] 0), (77,
   q [i 0] 22), (79,  q [f, f] 4), (81,  q [i 0, i 0] 3), b6, (84,  .map [] 0), (85,  .map [] 0), (87,  q [i 0] 22), (89,  q [f, f] 4), (91,  q [i 0, i 0] 3),
  b7, b8, b9, b10, b11, b12, (2135,  q [i 0] 22), (2136,  q [f, f] 4), (2137,  q [i 0, i 1] 3), b14, (2139,  .map [] 0), (2141,  q [i 0] 22), b15, b16, b17,
  b18, (2197,  q [i 1] 60), (2198,  q [i 1] 60), b19, b20, (2301,  .map [] 0), (2303,  q [i 0] 22), (2305,  q [f, f] 4), (2307,  q [i 0, i 1] 3), b21, b22,
  b26, (2326,  .map [] 0), (2328,  q [i 0] 22), (2330,  q [f, f] 4), (2332,  q [i 0, i 1] 3), b23, b27, b28, b29, (2401,  q [i 1] 60), b30, b31, (2455,  q [i 1] 60),
  b32, b33, b34, (2509,  q [i 1] 60), b35, b36, (2563,  q [i 1] 60), b37, b38, b58, (2976,  .map [] 0), (2978,  q [f] 4), (2980,  q [i 1] 3), b59, b60, b61,
  (2999,  .map [] 0), (3001,  q [f] 4), (3003,  q [i 1] 3), b62, b63, b65, b66, (3072,  q [i 1] 60), b67, b68, (3126,  q [i 1] 60), b69, b70, b71, (3180,  q [i 1] 60),
  b72, b73, (3234,  q [i 1] 60), b74, b75, (3239,  q [i 1] 22), b76, b79, (3242,  .map [] 0), (3244,  q [i 0] 22), (3246,  q [f, f] 4), (3248,  q [i 0, i 1] 3),
  b77, b80, b81, (3267,  .map [] 0), (3269,  q [f] 4), (3271,  q [i 1] 3), b82, b83, b84, b85, (3340,  q [i 1] 60), b86, b87, (3394,  q [i 1] 60), b88, b89,
  b90, (3448,  q [i 1] 60), b91, b94, (3502,  q [i 1] 60), b95, b96, b97, b98, b157, b154, b158, b167, (6181,  .map [] 0), (6183,  q [f] 4), (6185,  q [i 1] 3),
  b168, b169, b171, (6204,  .map [] 0), (6206,  q [f] 4), (6208,  q [i 1] 3), b170, b172, b173, b174, (6277,  q [i 1] 60), b175, b176, (6331,  q [i 1] 60),
  b177, b178, b179, (6385,  q [i 1] 60), b180, b181, (6439,  q [i 1] 60), b182, b183, b188, b189, (6494,  q [i 1] 60), b190, b191, (6548,  q [i 1] 60), b192,
  b193, b194, b195, b196, b197, b198, b199, b200, b201, b202, b203, b204, b205, (6667,  q [i 1] 60), (6668,  q [i 0, .eslice, n 6655 0 1, n 6667 0 1, p 6209 0,
  c 2, x [120], x [], c 3, i 0, x [], z, i 0, c 0, i 0, x [], z, i 0, f, i 0, n 6895 0 1] 272), b206, (6670,  q [x [120], x []] 9), (6677,  .map [⟨c 1,  k 218,
   0⟩, ⟨c 2,  k 219,  1⟩, ⟨c 3,  k 220,  2⟩, ⟨c 4,  k 221,  3⟩, ⟨c 5,  k 222,  4⟩, ⟨c 6,  k 223,  5⟩, ⟨c 7,  k 224,  6⟩, ⟨c 8,  k 225,  7⟩, ⟨c 9,  k 226,  8⟩] 9),
  (6678,  q [c 2, x [120], x [], c 1, c 0, c 4, i 0, x [108], z, c 0, i 0, x [], z, z, z, z, z] 109), (6679,  q [c 2, x [120], x [], c 1, c 0, c 4, i 0, x [108],
  z, c 0, i 0, x [], z, z, z, z, z] 109), (6754,  q [c 4, i 0, x [], z, i 1] 77), (6755,  q [c 0, i 0, x [], z, i 0] 77), (6756,  q [c 3, i 0, x [], z, i 0] 77),
  b207, (6897,  q [c 2, x [120], x [], c 1, c 0, c 4, i 0, x [108], z, c 0, i 0, x [], z, z, z, z, z] 109), (6898,  q [c 3, i 0, x [], z, i 0] 77), (6908,
   q [c 3, i 0, x [], z, i 0] 77), (6909,  q [c 3, i 0, x [], z, i 0] 77), (6910,  q [x [108], c 4, i 0, x [], z, i 1] 101), (6912,  q [c 4, i 0, x [], z,
  i 1] 77), (6913,  q [c 4, i 0, x [], z, i 1] 77), (6914,  q [i 511, i 16] 229), (6915,  q [c 4, i 0, x [], z, i 1] 77), (6916,  q [c 4, i 0, x [], z, i 0] 77)]⟩

noncomputable def u208 : BFrame := ⟨134,  [p 6442 0, a [i 1, i 0], o, p 7063 0, p 7064 0, f, o, o, o, o, o, o, o, o, o, o, o, o, o, o, o, o, o, o, o, o, o, o, o, o, o, o, o, o, o, o, o, o,
  o, o, o, o, o, o, o, o, o, o, o, o, o, o, o, o, o, o, o],  [.inDraw ⟨opsOf (cd 134 5),  [p 6442 0, a [i 1, i 0], o, p 7063 0, p 7064 0, f, o, o, o, o, o,
  o, o, o, o, o, o, o, o, o, o, o, o, o, o, o, o, o, o, o, o, o, o, o, o, o, o, o, o, o, o, o, o, o, o, o, o, o, o, o, o, o, o, o, o, o, o],  [some (p 6442 0),
  some (p 6442 0), some (p 6442 1), some (p 6209 0), some (p 6442 0), some (p 6442 0), some (p 6442 3), some (n 7000 0 2), some (p 7063 0), some (i 1), some (p 7000 4),
  some (a [i 0, n 6415 0 1, n 6437 0 1, n 6439 0 1]), none, none, none, none, none, none, none, some (p 7065 0), some (p 7066 0), none, none, none, none, none],
   [12, 21, 22]⟩, .code (cd 134 7)],  [],  .run,  .normal,  none⟩
noncomputable def u209 : BFrame := ⟨94,  [p 6442 0, a [i 1, i 0], o, p 7060 0, p 7061 0, f, i 0, .func (.func 134) [p 6442 0] [], p 6442 0, t, f, o, p 6442 0, a [i 1, i 0], t, f, o, p 6442 0,
  .func (.func 134) [p 6442 0] [], p 7060 1, i 0, f, o, o, o, .func (.func 134) [p 6442 0] [], a [i 1, i 0], o, o, o, o, o, o, o, o, o, o, o, o, o, o, o, o,
  o, o, o, o, o, o, o, o, o, o, o, o, o],  [.inRegion (ops 94 159) [2, 3, 4, 5, 6, 7], .code (cd 94 223), .code (cd 94 127)],  [],  .run,  .normal,  none⟩
noncomputable def u210 : BFrame := ⟨63,  [p 6442 0, n 3728 0 2, p 6551 0, o, i 1, i 0, o, p 7059 0, p 7058 0, t, i 0, f, p 6442 0, t, f, f, n 3728 0 2, i 2, f, f, n 3728 0 2, kc 92 [p 6551 0],
  f, n 3728 0 2, i 2, i 1, t, p 3728 2, a [i 1, i 0], u [a [i 0, i 0, c 2, x [120], x [], c 3, i 0, x [], z, i 0, c 0, i 0, x [], z, i 0, f, i 0, n 7057 0 1],
  t, i 0], p 6442 0, a [i 1, i 0], u [a [i 0, i 0, c 2, x [120], x [], c 3, i 0, x [], z, i 0, c 0, i 0, x [], z, i 0, f, i 0, n 7057 0 1], t, i 0], a [i 0,
  i 0, c 2, x [120], x [], c 3, i 0, x [], z, i 0, c 0, i 0, x [], z, i 0, f, i 0, n 7057 0 1], t, i 0, t, i 0, i 1, i 1, o],  [.inRegion (ops 63 5323) [2,
  3, 4, 5, 6, 7, 8, 9, 10], .code (cd 63 7371), .inBlock 2, .code (cd 63 971), .inLoop (cd 63 75), .inBlock 1, .code (cd 63 15)],  [],  .run,  .normal,  none⟩
noncomputable def b211 : Nat × BObj := (6442,  q [p 6186 0, p 6209 0, n 6333 0 2, n 7000 0 2, n 7002 0 1] 30)
noncomputable def b212 : Nat × BObj := (6976,  q [x [108], c 4, i 0, x [], z, i 1, x [120], c 3, i 0, x [], z, i 0] 101)
noncomputable def b213 : Nat × BObj := (7000,  q [i 0, s 6974 0 0 0, n 6976 0 2, n 6998 0 1, i 0, n 6415 0 1, n 6437 0 1, n 6439 0 1] 52)
noncomputable def b214 : Nat × BObj := (7002,  q [i 0, i 0, c 2, x [120], x [], c 3, i 0, x [], z, i 0, c 0, i 0, x [], z, i 0, f, i 0, n 6895 0 1] 166)
noncomputable def b215 : Nat × BObj := (7057,  q [c 1, i 0, i 1, i 1, c 1, c 0, i 0, x [], z, i 0, c 3, i 0, x [], z, i 0, c 0, z, z] 248)
noncomputable def b216 : Nat × BObj := (7058,  q [i 0, i 0, c 2, x [120], x [], c 3, i 0, x [], z, i 0, c 0, i 0, x [], z, i 0, f, i 0, n 7057 0 1] 166)
noncomputable def b217 : Nat × BObj := (7059,  q [i 1, i 0] 24)
noncomputable def b218 : Nat × BObj := (7060,  q [i 1, i 0] 24)
noncomputable def b219 : Nat × BObj := (7061,  q [i 0, i 0, c 0, x [], x [], c 0, i 0, x [], z, i 0, c 0, i 0, x [], z, i 0, f, i 0, z] 166)
noncomputable def b220 : Nat × BObj := (7063,  q [i 1, i 0] 24)
noncomputable def b221 : Nat × BObj := (7064,  q [i 0, i 0, c 0, x [], x [], c 0, i 0, x [], z, i 0, c 0, i 0, x [], z, i 0, f, i 0, z] 166)
noncomputable def b222 : Nat × BObj := (7065,  q [i 0, z, z, z] 52)
noncomputable def b223 : Nat × BObj := (7066,  q [c 0, x [], x [], c 0, i 0, x [], z, i 0, c 0, i 0, x [], z, i 0, f, i 0] 163)
noncomputable def b224 : Nat × BObj := (7067,  q [i 0, n 6415 0 1, n 6437 0 1, n 6439 0 1] 52)
noncomputable def b225 : Nat × BObj := (7068,  q [i 0, z, z, z] 52)
noncomputable def b226 : Nat × BObj := (7069,  q [c 0, x [], x [], c 0, i 0, x [], z, i 0, c 0, i 0, x [], z, i 0, f, i 0] 163)
noncomputable def b227 : Nat × BObj := (7149,  q [c 2, x [120], x [], c 1, c 0, c 4, i 0, x [108], z, c 0, i 0, x [], z, z, z, z, z] 109)
noncomputable def b228 : Nat × BObj := (7158,  q [x [108], c 4, i 0, x [], z, i 1] 101)
noncomputable def b229 : Nat × BObj := (7172,  q [c 2, x [120], x [], c 1, c 0, c 4, i 0, x [108], z, c 0, i 0, x [], z, z, z, z, z] 109)
noncomputable def b230 : Nat × BObj := (7173,  q [x [120], x []] 9)
noncomputable def S29 : CState :=
  ⟨⟨193,  [p 7171 0, s 7173 0 2 2, o, o, f, i 1, o, x [120], p 7176 0, f, p 7171 0, p 7171 0, p 7171 0, p 7171 2, n 7158 0 1, i 1, s 7173 0 2 2, i 2, i 0, t,
  p 7173 0, x [120], u [a [c 0, i 0, x [], z, i 0], f], p 7171 0, p 7171 0, p 7171 0, p 7171 2, n 7158 0 1, x [120], u [a [c 0, i 0, x [], z, i 0], f], a [c 0,
  i 0, x [], z, i 0], f, o, o, o, o, o, o, o, o, o, o, o],  [.code (cd 193 11467), .code (cd 193 15563), .inBlock 1, .code (cd 193 971), .inLoop (cd 193 75),
  .inBlock 0, .code (cd 193 15)],  [],  .run,  .normal,  none⟩, [⟨170,  [p 6209 0, a [i 0, n 6415 0 1, n 6437 0 1, n 6439 0 1], o, p 7067 0, p 7068 0, p 7069 0,
  z, f, i 0, t, p 7171 0, p 7172 0, i 8, u [t, i 0], p 6209 0, a [i 0, n 6415 0 1, n 6437 0 1, n 6439 0 1], u [t, i 0], t, i 0, i 0, f, o, o, o, a [i 0, n 6415 0 1,
  n 6437 0 1, n 6439 0 1], a [i 0, n 7149 0 1, n 7158 0 1, n 7170 0 1], p 6209 0, a [i 0, n 7149 0 1, n 7158 0 1, n 7170 0 1, p 6209 0, c 0, x [], x [], c 0,
  i 0, x [], z, i 0, c 0, i 0, x [], z, i 0, f, i 0, z], p 7171 0, t, f, o, o, o, o, o, p 7171 0, p 7171 0, p 7171 0, p 7171 1, n 7149 0 1, p 7149 0, a [c 2,
  x [120], x [], c 1, c 0, c 4, i 0, x [108], z, c 0, i 0, x [], z, z, z, z, z], p 7171 0, p 7171 0, p 7171 0, p 7171 0, p 7171 1, n 7149 0 1, .eslice, p 7171 0,
  p 7171 0, p 7171 1, p 7171 0, p 7172 0, c 2, p 7172 1, x [120], p 7172 2, x [], a [c 2, x [120], x [], c 0, i 0, x [], z, i 0, c 0, i 0, x [], z, i 0, f,
  i 0], p 7171 0, p 7171 5, p 7171 0, p 7172 1, x [120], p 7172 2, x [], s 7173 0 2 2, o, o, o, o, o, o, o, o, o, o, o, o, o, o, o, o, o, o, o, o, o, o, o,
  o, o, o, o, o, o, o, o, o, o, o, o, o, o, o, o, o, o, o, o, o, o, o, o, o, o, o, o, o, o, o, o, o, o, o, o, o, o, o, o, o, o, o, o, o],  [.inRegion (ops 170 2559) [6],
  .code (cd 170 3583), .code (cd 170 2047)],  [],  .run,  .normal,  none⟩, u208, u209, u210, u187, u156, u64, u13], 7177, [(0,  q [y, y] 24), b0, (2,  q [zp,
  p 1 0] 31), (3,  q [i 0] 22), (4,  q [f, f] 4), (5,  q [i 0, i 0] 3), (6,  .map [] 0), (7,  .map [] 0), (9,  q [i 0] 22), b1, (11,  .map [] 0), (12,  .map [] 0),
  (14,  q [i 0] 22), (16,  q [f, f] 4), (18,  q [i 0, i 0] 3), b2, (21,  .map [] 0), (22,  .map [] 0), (24,  q [i 0] 22), (26,  q [f, f] 4), (28,  q [i 0,
  i 0] 3), b3, b4, (50,  q [y, y] 24), (52,  q [y, y] 24), (53,  q [y, y] 24), (64,  q [y, y] 24), b5, (74,  .map [] 0), (75,  .map [] 0), (77,  q [i 0] 22),
  (79,  q [f, f] 4), (81,  q [i 0, i 0] 3), b6, (84,  .map [] 0), (85,  .map [] 0), (87,  q [i 0] 22), (89,  q [f, f] 4), (91,  q [i 0, i 0] 3), b7, b8, b9,
  b10, b11, b12, (2135,  q [i 0] 22), (2136,  q [f, f] 4), (2137,  q [i 0, i 1] 3), b14, (2139,  .map [] 0), (2141,  q [i 0] 22), b15, b16, b17, b18, (2197,
   q [i 1] 60), (2198,  q [i 1] 60), b19, b20, (2301,  .map [] 0), (2303,  q [i 0] 22), (2305,  q [f, f] 4), (2307,  q [i 0, i 1] 3), b21, b22, b26, (2326,
   .map [] 0), (2328,  q [i 0] 22), (2330,  q [f, f] 4), (2332,  q [i 0, i 1] 3), b23, b27, b28, b29, (2401,  q [i 1] 60), b30, b31, (2455,  q [i 1] 60), b32,
  b33, b34, (2509,  q [i 1] 60), b35, b36, (2563,  q [i 1] 60), b37, b38, b58, (2976,  .map [] 0), (2978,  q [f] 4), (2980,  q [i 1] 3), b59, b60, b61, (2999,
   .map [] 0), (3001,  q [f] 4), (3003,  q [i 1] 3), b62, b63, b65, b66, (3072,  q [i 1] 60), b67, b68, (3126,  q [i 1] 60), b69, b70, b71, (3180,  q [i 1] 60),
  b72, b73, (3234,  q [i 1] 60), b74, b75, (3239,  q [i 1] 22), b76, b79, (3242,  .map [] 0), (3244,  q [i 0] 22), (3246,  q [f, f] 4), (3248,  q [i 0, i 1] 3),
  b77, b80, b81, (3267,  .map [] 0), (3269,  q [f] 4), (3271,  q [i 1] 3), b82, b83, b84, b85, (3340,  q [i 1] 60), b86, b87, (3394,  q [i 1] 60), b88, b89,
  b90, (3448,  q [i 1] 60), b91, b94, (3502,  q [i 1] 60), b95, b96, b97, b98, b157, b154, b158, b167, (6181,  .map [] 0), (6183,  q [f] 4), (6185,  q [i 1] 3),
  b168, b169, b171, (6204,  .map [] 0), (6206,  q [f] 4), (6208,  q [i 1] 3), b170, b172, b173, b174, (6277,  q [i 1] 60), b175, b176, (6331,  q [i 1] 60),
  b177, b180, b181, (6439,  q [i 1] 60), b211, b188, b189, (6494,  q [i 1] 60), b190, b191, (6548,  q [i 1] 60), b192, b193, b207, (6974,  q [] 109), b212,
  (6998,  q [i 1] 60), b213, b214, b215, b216, b217, b218, b219, b220, b221, b222, b223, b224, b225, b226, b227, b228, (7170,  q [i 1] 60), (7171,  q [i 0,
  .eslice, n 7158 0 1, n 7170 0 1, p 6209 0, c 2, x [120], x [], c 0, i 0, x [], z, i 0, c 0, i 0, x [], z, i 0, f, i 0, z] 272), b229, b230, (7176,  q [c 0,
  i 0, x [], z, i 0] 77)]⟩

noncomputable def b231 : Nat × BObj := (7398,  q [c 1, i 0, i 1, i 1, c 1, c 0, i 0, x [], z, i 0, c 3, i 0, x [], z, i 0, c 0, z, z] 248)
noncomputable def S30 : CState :=
  ⟨⟨75,  [x [120], o, f, o, o, o, o, o, o, o, o, o, o, o, o, o, o, o, o, o, o, o, o, o, o, o, o, o, o, o, o, o, o, o, o, o, o, o, o, o, o, o, o, o],  [.inRegion (ops 75 9) [0,
  1, 2, 3, 4, 5, 6, 7, 8, 9, 10, 11, 12, 13, 14, 15, 16], .code (cd 75 13), .code (cd 75 7)],  [],  .run,  .normal,  none⟩, [⟨227,  [n 7158 0 1, x [120], a [c 3,
  i 0, x [], z, i 0], o, o, p 7412 0, z, i 0, o, o, n 7158 0 1, t, f, f, x [120], o, o, o, o, o, o, o, o, o, o, o, o, o, o, o, o, o, o, o, o, o, o, o, o, o,
  o, o, o, o, o, o, o, o, o, o, o, o, o, o, o, o, o, o],  [.inRegion (ops 227 9) [5, 6, 7, 8, 9, 10, 11, 12], .code (cd 227 13), .code (cd 227 7)],  [],  .run,
   .normal,  none⟩, ⟨195,  [p 7171 0, x [120], a [c 3, i 0, x [], z, i 0], o, o, p 7411 0, o, o, o, o, o, o, o, o, o, o, o, o, o, o, o, o, o, o, o, o],  [.inDraw ⟨opsOf (cd 195 5),
   [p 7171 0, x [120], a [c 3, i 0, x [], z, i 0], o, o, p 7411 0, o, o, o, o, o, o, o, o, o, o, o, o, o, o, o, o, o, o, o, o],  [some (p 7171 0), some (p 7171 0),
  some (p 7171 0), some (p 7171 2), some (n 7158 0 1), some (x [120]), some (a [c 3, i 0, x [], z, i 0]), none, none, none, none, none, none],  [7]⟩, .code (cd 195 7)],
   [],  .run,  .normal,  none⟩, ⟨241,  [p 7171 0, a [c 2, x [120], x [], c 1, c 0, c 4, i 0, x [108], z, c 0, i 0, x [], z, z, z, z, z], a [c 3, i 0, x [],
  z, i 0], o, p 7400 0, p 7401 0, i 0, u [a [c 3, i 0, x [], z, i 0], i 0], p 7171 0, a [c 3, i 0, x [], z, i 0], u [a [c 3, i 0, x [], z, i 0], i 0], a [c 3,
  i 0, x [], z, i 0], i 0, p 7171 0, p 7171 5, p 7171 8, p 7171 0, p 7400 1, x [120], a [c 3, i 0, x [], z, i 0], o],  [.inRegion (ops 241 11) [4], .code (cd 241 15)],
   [],  .run,  .normal,  none⟩, ⟨242,  [p 7171 0, a [c 2, x [120], x [], c 1, c 0, c 4, i 0, x [108], z, c 0, i 0, x [], z, z, z, z, z], c 1, o, p 7182 0,
  o, i 0, p 7257 0, p 7258 0, i 0, p 7259 0, n 7398 0 1, zi, u [a [c 4, i 0, x [], z, i 1], a [c 0, i 0, x [], z, i 0], i 0], p 7171 0, a [c 2, x [120], x [],
  c 1, c 0, c 4, i 0, x [108], z, c 0, i 0, x [], z, z, z, z, z], u [a [c 4, i 0, x [], z, i 1], a [c 0, i 0, x [], z, i 0], i 0], a [c 4, i 0, x [], z, i 1],
  a [c 0, i 0, x [], z, i 0], i 0, i 0, f, o, p 7257 0, c 4, f, u [a [c 3, i 0, x [], z, i 0], n 7398 0 1, zi], p 7171 0, p 7171 0, p 7171 4, p 6209 0, p 7171 0,
  p 7171 0, p 7171 0, p 7171 0, i 0, p 7257 4, i 1, c 1, a [c 0, i 0, x [], z, i 0], u [a [c 3, i 0, x [], z, i 0], n 7398 0 1, zi], a [c 3, i 0, x [], z,
  i 0], n 7398 0 1, zi, zi, f, o, o, p 7171 0, n 7398 0 1, p 7171 0, p 7171 20, p 7171 0, a [c 2, x [120], x [], c 1, c 0, c 4, i 0, x [108], z, c 0, i 0,
  x [], z, z, z, z, z], a [c 3, i 0, x [], z, i 0], o],  [.inRegion (ops 242 383) [3, 4], .code (cd 242 107)],  [],  .run,  .normal,  none⟩, ⟨219,  [p 7171 0,
  a [c 2, x [120], x [], c 1, c 0, c 4, i 0, x [108], z, c 0, i 0, x [], z, z, z, z, z], o, p 7181 0, i 0, p 7171 0, a [c 2, x [120], x [], c 1, c 0, c 4,
  i 0, x [108], z, c 0, i 0, x [], z, z, z, z, z], p 7181 3, c 1, o],  [.inRegion (ops 219 5) [4, 5], .code (cd 219 7)],  [],  .run,  .normal,  none⟩, ⟨170,
   [p 6209 0, a [i 0, n 6415 0 1, n 6437 0 1, n 6439 0 1], o, p 7067 0, p 7068 0, p 7069 0, z, f, i 0, t, p 7171 0, p 7172 0, i 8, u [t, i 0], p 6209 0, a [i 0,
  n 6415 0 1, n 6437 0 1, n 6439 0 1], u [t, i 0], t, i 0, i 0, f, o, o, o, a [i 0, n 6415 0 1, n 6437 0 1, n 6439 0 1], a [i 0, n 7149 0 1, n 7158 0 1, n 7170 0 1],
  p 6209 0, a [i 0, n 7149 0 1, n 7158 0 1, n 7170 0 1, p 6209 0, c 0, x [], x [], c 0, i 0, x [], z, i 0, c 0, i 0, x [], z, i 0, f, i 0, z], p 7171 0, t,
  f, o, o, o, o, o, p 7171 0, p 7171 0, p 7171 0, p 7171 1, n 7149 0 1, p 7149 0, a [c 2, x [120], x [], c 1, c 0, c 4, i 0, x [108], z, c 0, i 0, x [], z,
  z, z, z, z], p 7171 0, p 7171 0, p 7171 0, p 7171 0, p 7171 1, n 7149 0 1, .eslice, p 7171 0, p 7171 0, p 7171 1, p 7171 0, p 7172 0, c 2, p 7172 1, x [120],
  p 7172 2, x [], a [c 2, x [120], x [], c 0, i 0, x [], z, i 0, c 0, i 0, x [], z, i 0, f, i 0], p 7171 0, p 7171 5, p 7171 0, p 7172 1, x [120], p 7172 2,
  x [], s 7173 0 2 2, t, o, o, o, o, o, o, o, o, o, o, o, o, o, o, o, o, o, o, o, o, o, o, o, o, o, o, o, o, o, o, o, o, o, o, o, o, o, o, o, o, o, o, o, o,
  o, o, o, o, o, o, o, o, o, o, o, o, o, o, o, o, o, o, o, o, o, o, o],  [.inDraw ⟨opsOf (cd 170 5631),  [p 6209 0, a [i 0, n 6415 0 1, n 6437 0 1, n 6439 0 1],
  o, p 7067 0, p 7068 0, p 7069 0, z, f, i 0, t, p 7171 0, p 7172 0, i 8, u [t, i 0], p 6209 0, a [i 0, n 6415 0 1, n 6437 0 1, n 6439 0 1], u [t, i 0], t,
  i 0, i 0, f, o, o, o, a [i 0, n 6415 0 1, n 6437 0 1, n 6439 0 1], a [i 0, n 7149 0 1, n 7158 0 1, n 7170 0 1], p 6209 0, a [i 0, n 7149 0 1, n 7158 0 1,
  n 7170 0 1, p 6209 0, c 0, x [], x [], c 0, i 0, x [], z, i 0, c 0, i 0, x [], z, i 0, f, i 0, z], p 7171 0, t, f, o, o, o, o, o, p 7171 0, p 7171 0, p 7171 0,
  p 7171 1, n 7149 0 1, p 7149 0, a [c 2, x [120], x [], c 1, c 0, c 4, i 0, x [108], z, c 0, i 0, x [], z, z, z, z, z], p 7171 0, p 7171 0, p 7171 0, p 7171 0,
  p 7171 1, n 7149 0 1, .eslice, p 7171 0, p 7171 0, p 7171 1, p 7171 0, p 7172 0, c 2, p 7172 1, x [120], p 7172 2, x [], a [c 2, x [120], x [], c 0, i 0,
  x [], z, i 0, c 0, i 0, x [], z, i 0, f, i 0], p 7171 0, p 7171 5, p 7171 0, p 7172 1, x [120], p 7172 2, x [], s 7173 0 2 2, t, o, o, o, o, o, o, o, o,
  o, o, o, o, o, o, o, o, o, o, o, o, o, o, o, o, o, o, o, o, o, o, o, o, o, o, o, o, o, o, o, o, o, o, o, o, o, o, o, o, o, o, o, o, o, o, o, o, o, o, o,
  o, o, o, o, o, o, o, o],  [some (m 7180), some (p 7172 0), some (c 2), some (k 219), some (p 7171 0), some (a [c 2, x [120], x [], c 1, c 0, c 4, i 0, x [108],
  z, c 0, i 0, x [], z, z, z, z, z]), none, none],  [6]⟩, .code (cd 170 2047)],  [],  .run,  .normal,  none⟩, u208, u209, u210, u187, u156, u64, u13], 7423,
  [(0,  q [y, y] 24), b0, (2,  q [zp, p 1 0] 31), (3,  q [i 0] 22), (4,  q [f, f] 4), (5,  q [i 0, i 0] 3), (6,  .map [] 0), (7,  .map [] 0), (9,  q [i 0] 22),
  b1, (11,  .map [] 0), (12,  .map [] 0), (14,  q [i 0] 22), (16,  q [f, f] 4), (18,  q [i 0, i 0] 3), b2, (21,  .map [] 0), (22,  .map [] 0), (24,  q [i 0] 22),
  (26,  q [f, f] 4), (28,  q [i 0, i 0] 3), b3, b4, (50,  q [y, y] 24), (52,  q [y, y] 24), (53,  q [y, y] 24), (64,  q [y, y] 24), b5, (74,  .map [] 0), (75,
   .map [] 0), (77,  q [i 0] 22), (79,  q [f, f] 4), (81,  q [i 0, i 0] 3), b6, (84,  .map [] 0), (85,  .map [] 0), (87,  q [i 0] 22), (89,  q [f, f] 4), (91,
   q [i 0, i 0] 3), b7, b8, b9, b10, b11, b12, (2135,  q [i 0] 22), (2136,  q [f, f] 4), (2137,  q [i 0, i 1] 3), b14, (2139,  .map [] 0), (2141,  q [i 0] 22),
  b15, b16, b17, b18, (2197,  q [i 1] 60), (2198,  q [i 1] 60), b19, b20, (2301,  .map [] 0), (2303,  q [i 0] 22), (2305,  q [f, f] 4), (2307,  q [i 0, i 1] 3),
  b21, b22, b26, (2326,  .map [] 0), (2328,  q [i 0] 22), (2330,  q [f, f] 4), (2332,  q [i 0, i 1] 3), b23, b27, b28, b29, (2401,  q [i 1] 60), b30, b31,
  (2455,  q [i 1] 60), b32, b33, b34, (2509,  q [i 1] 60), b35, b36, (2563,  q [i 1] 60), b37, b38, b58, (2976,  .map [] 0), (2978,  q [f] 4), (2980,  q [i 1] 3),
  b59, b60, b61, (2999,  .map [] 0), (3001,  q [f] 4), (3003,  q [i 1] 3), b62, b63, b65, b66, (3072,  q [i 1] 60), b67, b68, (3126,  q [i 1] 60), b69, b70,
  b71, (3180,  q [i 1] 60), b72, b73, (3234,  q [i 1] 60), b74, b75, (3239,  q [i 1] 22), b76, b79, (3242,  .map [] 0), (3244,  q [i 0] 22), (3246,  q [f,
  f] 4), (3248,  q [i 0, i 1] 3), b77, b80, b81, (3267,  .map [] 0), (3269,  q [f] 4), (3271,  q [i 1] 3), b82, b83, b84, b85, (3340,  q [i 1] 60), b86, b87,
  (3394,  q [i 1] 60), b88, b89, b90, (3448,  q [i 1] 60), b91, b94, (3502,  q [i 1] 60), b95, b96, b97, b98, b157, b154, b158, b167, (6181,  .map [] 0), (6183,
   q [f] 4), (6185,  q [i 1] 3), b168, b169, b171, (6204,  .map [] 0), (6206,  q [f] 4), (6208,  q [i 1] 3), b170, b172, b173, b174, (6277,  q [i 1] 60), b175,
  b176, (6331,  q [i 1] 60), b177, b180, b181, (6439,  q [i 1] 60), b211, b188, b189, (6494,  q [i 1] 60), b190, b191, (6548,  q [i 1] 60), b192, b193, b207,
  (6974,  q [] 109), b212, (6998,  q [i 1] 60), b213, b214, b215, b216, b217, b218, b219, b220, b221, b222, b223, b224, b225, b226, b227, b228, (7170,  q [i 1] 60),
  (7171,  q [i 0, .eslice, n 7158 0 1, n 7170 0 1, p 6209 0, c 2, x [120], x [], c 3, i 0, x [], z, i 0, c 0, i 0, x [], z, i 0, f, i 0, n 7398 0 1] 272),
  b229, b230, (7180,  .map [⟨c 1,  k 218,  0⟩, ⟨c 2,  k 219,  1⟩, ⟨c 3,  k 220,  2⟩, ⟨c 4,  k 221,  3⟩, ⟨c 5,  k 222,  4⟩, ⟨c 6,  k 223,  5⟩, ⟨c 7,  k 224,
   6⟩, ⟨c 8,  k 225,  7⟩, ⟨c 9,  k 226,  8⟩] 9), (7181,  q [c 2, x [120], x [], c 1, c 0, c 4, i 0, x [108], z, c 0, i 0, x [], z, z, z, z, z] 109), (7182,
   q [c 2, x [120], x [], c 1, c 0, c 4, i 0, x [108], z, c 0, i 0, x [], z, z, z, z, z] 109), (7257,  q [c 4, i 0, x [], z, i 1] 77), (7258,  q [c 0, i 0,
  x [], z, i 0] 77), (7259,  q [c 3, i 0, x [], z, i 0] 77), b231, (7400,  q [c 2, x [120], x [], c 1, c 0, c 4, i 0, x [108], z, c 0, i 0, x [], z, z, z,
  z, z] 109), (7401,  q [c 3, i 0, x [], z, i 0] 77), (7411,  q [c 3, i 0, x [], z, i 0] 77), (7412,  q [c 3, i 0, x [], z, i 0] 77)]⟩

noncomputable def S31 : CState :=
  ⟨⟨96,  [a [c 2, x [120], x [], c 3, i 0, x [], z, i 0, c 0, i 0, x [], z, i 0, f, i 0], p 7728 0, f, f, t, f, t, f, p 7728 2, x [], f, p 7728 1, x [120],
  t, t, f, t, t, o, o, o, o, o, o, o, o, o, o, t, t, p 7728 3, p 7728 3, c 3, f, f, o, o, o, f, p 7728 8, p 7728 8, c 0, t, t, p 7728 8, a [c 0, i 0, x [],
  z, i 0], t, t, p 7728 14, i 0, f, p 7728 3, a [c 3, i 0, x [], z, i 0], t, f, f, p 7728 8, a [c 0, i 0, x [], z, i 0], t, f, f, f, f, f, o, o, o, o, o, o,
  o, o, o, o, o, o, o, o, o, f, f, p 7728 0, c 2, t, f, t, o, o, t, t, f, t, t, o, o, o, o, o, o, o, o, o, o, o, o, o, o, o, o, o, o, o, o, o, o, o, o, o,
  o, o, o, o, o, o, o, o, o, o, o, o, o, o, o, o, o, o, o, o, o, o, o, o, o, o, o, o, o, o, o, o, o, o, o, o, o, o, o, o, o, o, o, o, o, o, o, o, o, o, o,
  o, o, o, o, o, o, o, o, o],  [.inRegion (ops 96 9599) [5, 6, 7, 8, 9, 10, 11, 12, 13], .code (cd 96 1727), .inBlock 0, .code (cd 96 511)],  [],  .run,  .normal,
   none⟩, [⟨98,  [n 7687 0 1, a [c 2, x [120], x [], c 3, i 0, x [], z, i 0, c 0, i 0, x [], z, i 0, f, i 0], p 7726 0, p 7727 0, x [], i 0, o, o, o, a [c 2,
  x [120], x [], c 3, i 0, x [], z, i 0, c 0, i 0, x [], z, i 0, f, i 0], o, o, o, o, o, o, o, o, o, o, o, o, o, o, o, o, o, o, o, o, o, o, o, o, o, o, o,
  o, o, o, o, o, o, o, o, o, o, o, o, o, o, o, o, o, o, o, o, o, o, o, o, o, o, o, o, o, o],  [.inRegion (ops 98 9) [1, 2], .code (cd 98 13), .code (cd 98 7)],
   [],  .run,  .normal,  none⟩, ⟨65,  [a [i 0, n 6470 0 1, n 6492 0 1, n 6494 0 1], n 7627 0 1, p 7685 0, o, z, i 0, n 7687 0 1, z, o, p 7688 0, o, o, p 7685 3,
  n 6494 0 1, n 7687 0 1, n 7627 0 1, i 1, i 0, t, p 7627 0, a [c 2, x [120], x [], c 3, i 0, x [], z, i 0, c 0, i 0, x [], z, i 0, f, i 0], a [c 2, x [120],
  x [], c 3, i 0, x [], z, i 0, c 0, i 0, x [], z, i 0, f, i 0], t, f, n 7687 0 1, p 7688 3, a [c 3, i 0, x [], z, i 0], n 7687 0 1, p 7688 8, a [c 0, i 0,
  x [], z, i 0], n 7687 0 1, o, n 7687 0 1, a [c 2, x [120], x [], c 3, i 0, x [], z, i 0, c 0, i 0, x [], z, i 0, f, i 0], o, o, o, o, o, o, o, o, o, o, o,
  o],  [.inRegion (ops 65 47511) [2, 3, 4, 5, 6, 7], .code (cd 65 63895), .inBlock 1, .code (cd 65 1943), .inLoop (cd 65 151), .inBlock 0, .code (cd 65 31)],
   [],  .run,  .normal,  none⟩, ⟨31,  [p 6442 0, n 3728 0 2, o, o, z, n 6550 0 2, s 7562 0 2 2, i 0, p 7563 0, n 7627 0 1, i 0, p 3237 0, p 6442 0, p 6442 0,
  n 6550 0 2, p 6442 0, n 3728 0 2, u [i 2, i 0], n 6550 0 2, i 2, s 7562 0 2 2, n 6550 0 2, i 2, i 0, t, i 0, p 6550 0, a [i 0, n 6470 0 1, n 6492 0 1, n 6494 0 1],
  u [n 7627 0 1, i 0], p 6442 0, i 0, u [n 7627 0 1, i 0], n 7627 0 1, i 0, o, s 7562 0 2 2, i 0, a [i 0, n 6470 0 1, n 6492 0 1, n 6494 0 1], n 7627 0 1,
  o, o, o, o, o, o],  [.inRegion (ops 31 58975) [4, 5, 6, 7, 8, 9], .inBlock 1, .code (cd 31 7775), .inLoop (cd 31 607), .inBlock 0, .code (cd 31 127)],  [],
   .run,  .normal,  none⟩, u156, u64, u13], 7745, [(0,  q [y, y] 24), b0, (2,  q [zp, p 1 0] 31), (3,  q [i 0] 22), (4,  q [f, f] 4), (5,  q [i 0, i 0] 3),
  (6,  .map [] 0), (7,  .map [] 0), (9,  q [i 0] 22), b1, (11,  .map [] 0), (12,  .map [] 0), (14,  q [i 0] 22), (16,  q [f, f] 4), (18,  q [i 0, i 0] 3),
  b2, (21,  .map [] 0), (22,  .map [] 0), (24,  q [i 0] 22), (26,  q [f, f] 4), (28,  q [i 0, i 0] 3), b3, b4, (50,  q [y, y] 24), (52,  q [y, y] 24), (53,
   q [y, y] 24), (64,  q [y, y] 24), b5, (74,  .map [] 0), (75,  .map [] 0), (77,  q [i 0] 22), (79,  q [f, f] 4), (81,  q [i 0, i 0] 3), b6, (84,  .map [] 0),
  (85,  .map [] 0), (87,  q [i 0] 22), (89,  q [f, f] 4), (91,  q [i 0, i 0] 3), b7, b8, b9, b10, b11, b12, (2135,  q [i 0] 22), (2136,  q [f, f] 4), (2137,
   q [i 0, i 1] 3), b14, (2139,  .map [] 0), (2141,  q [i 0] 22), b15, b16, b17, b18, (2197,  q [i 1] 60), (2198,  q [i 1] 60), b19, b20, (2301,  .map [] 0),
  (2303,  q [i 0] 22), (2305,  q [f, f] 4), (2307,  q [i 0, i 1] 3), b21, b22, b26, (2326,  .map [] 0), (2328,  q [i 0] 22), (2330,  q [f, f] 4), (2332,  q [i 0,
  i 1] 3), b23, b27, b28, b29, (2401,  q [i 1] 60), b30, b31, (2455,  q [i 1] 60), b32, b33, b34, (2509,  q [i 1] 60), b35, b36, (2563,  q [i 1] 60), b37,
  b38, b58, (2976,  .map [] 0), (2978,  q [f] 4), (2980,  q [i 1] 3), b59, b60, b61, (2999,  .map [] 0), (3001,  q [f] 4), (3003,  q [i 1] 3), b62, b63, b65,
  b66, (3072,  q [i 1] 60), b67, b68, (3126,  q [i 1] 60), b69, b70, b71, (3180,  q [i 1] 60), b72, b73, (3234,  q [i 1] 60), b74, b75, (3239,  q [i 1] 22),
  b76, b79, (3242,  .map [] 0), (3244,  q [i 0] 22), (3246,  q [f, f] 4), (3248,  q [i 0, i 1] 3), b77, b80, b81, (3267,  .map [] 0), (3269,  q [f] 4), (3271,
   q [i 1] 3), b82, b83, b84, b85, (3340,  q [i 1] 60), b86, b87, (3394,  q [i 1] 60), b88, b89, b90, (3448,  q [i 1] 60), b91, b94, (3502,  q [i 1] 60), b95,
  b96, b97, b98, b157, b154, b158, b167, (6181,  .map [] 0), (6183,  q [f] 4), (6185,  q [i 1] 3), b168, b169, b171, (6204,  .map [] 0), (6206,  q [f] 4),
  (6208,  q [i 1] 3), b170, b172, b173, b174, (6277,  q [i 1] 60), b175, b176, (6331,  q [i 1] 60), b177, (6442,  q [p 6186 0, p 6209 0, n 6333 0 2, n 7503 0 2,
  n 7505 0 2] 30), b188, b189, (6494,  q [i 1] 60), b190, b191, (6548,  q [i 1] 60), b192, b207, (6974,  q [] 109), b212, (6998,  q [i 1] 60), b231, (7477,
   q [] 109), (7479,  q [x [108], c 4, i 0, x [], z, i 1, x [120], c 3, i 0, x [], z, i 0] 101), (7501,  q [i 1] 60), (7503,  q [i 0, s 6974 0 0 0, n 6976 0 2,
  n 6998 0 1, i 0, s 7477 0 0 0, n 7479 0 2, n 7501 0 1] 52), (7505,  q [i 0, i 0, c 2, x [120], x [], c 3, i 0, x [], z, i 0, c 0, i 0, x [], z, i 0, f, i 0,
  n 6895 0 1, i 1, i 0, c 2, x [120], x [], c 3, i 0, x [], z, i 0, c 0, i 0, x [], z, i 0, f, i 0, n 7398 0 1] 166), (7562,  q [z, z] 107), (7563,  q [i 0,
  n 6470 0 1, n 6492 0 1, n 6494 0 1] 52), (7627,  q [c 2, x [120], x [], c 3, i 0, x [], z, i 0, c 0, i 0, x [], z, i 0, f, i 0] 163), (7685,  q [i 0, n 6470 0 1,
  n 6492 0 1, n 6494 0 1] 52), (7687,  q [i 1] 60), (7688,  q [c 2, x [120], x [], c 3, i 0, x [], z, i 0, c 0, i 0, x [], z, i 0, f, i 0] 163), (7726,  q [n 7687 0 1] 50),
  (7727,  q [c 2, x [120], x [], c 3, i 0, x [], z, i 0, c 0, i 0, x [], z, i 0, f, i 0] 163), (7728,  q [c 2, x [120], x [], c 3, i 0, x [], z, i 0, c 0,
  i 0, x [], z, i 0, f, i 0] 163)]⟩

noncomputable def u232 : BFrame := ⟨10,  [p 2566 0, i 1, i 1, s 3240 0 2 2, o, o, o, o, i 0, i 0, f, i 0, o, o, o, o, o, o, o, o, p 2566 0, i 1, i 1, s 3240 0 2 2, o, o, o, o, o, o, o, o,
  o, o, o, o, o, o, o, o, o, o, o, o, o, o, o, o, o, o, o, o, o, o, o, o, o, o, o, o, o, o, o, o, o, o, o, o, o],  [.inRegion (ops 10 5) [4, 5, 6, 7, 8, 9],
  .code (cd 10 7)],  [],  .run,  .normal,  none⟩
noncomputable def u233 : BFrame := ⟨12,  [f, p 2142 0, i 0, s 2195 0 1 1, s 2196 0 1 1, p 2566 0, p 3237 0, n 3239 0 1, i 0, s 3240 0 2 2, i 0, i 0, t, i 0, o, o, o, o, o, o, o, o, u [p 2142 0,
  i 0], s 2135 0 1 1, u [p 2142 0, i 0], p 2142 0, i 0, p 2142 0, f, f, i 0, f, f, p 2142 0, a [c 2, i 1, c 0, i 0, x [], z, i 0, z, i 0, i 0, i 0, i 0, c 0,
  f, z, z], u [i 1, i 0], a [c 4, i 0, x [], z, i 1], a [x [108], c 4, i 0, x [], z, i 1], s 2195 0 1 1, a [c 4, i 0, x [108], z], a [c 2, x [120], x [], c 1,
  c 0, c 4, i 0, x [108], z, c 0, i 0, x [], z, z, z, z, z], s 2196 0 1 1, u [p 2566 0, i 0], p 2142 0, s 2196 0 1 1, s 2195 0 1 1, s 2197 0 1 1, a [i 0, s 2196 0 1 1,
  s 2195 0 1 1, s 2197 0 1 1], s 2196 0 1 1, s 2195 0 1 1, s 2198 0 1 1, a [i 1, s 2196 0 1 1, s 2195 0 1 1, s 2198 0 1 1], s 2199 0 2 2, u [p 2566 0, i 0],
  p 2566 0, i 0, p 2566 0, f, f, i 0, f, f, u [p 3237 0, i 0], p 2566 0, u [p 3237 0, i 0], p 3237 0, i 0, u [n 3239 0 1, i 0], p 2142 0, u [n 3239 0 1, i 0],
  n 3239 0 1, i 0, a [i 0, i 0], a [i 1, i 0], s 3240 0 2 2, u [i 0, i 0, t, i 0], p 2566 0, p 3237 0, s 3240 0 2 2, u [i 0, i 0, t, i 0], i 0, i 0, t, i 0,
  o, p 2566 0, s 3240 0 2 2, o, o, o, o, o, o, o, o, o, o, o, o, o, o, o, o, o, o, o, o, o, o, o, o, o, o, o, o, o, o, o, o, o, o, o, o, o, o, o, o, o, o,
  o, o, o, o, o, o, o, o, o, o, o, o, o, o, o, o],  [.inRegion (ops 12 12287) [2, 3, 4, 5, 6, 7, 8, 9, 10, 11], .code (cd 12 16383)],  [],  .run,  .normal,
   none⟩
noncomputable def b234 : Nat × BObj := (7961,  q [p 2566 0] 25)
noncomputable def b235 : Nat × BObj := (7962,  .map [⟨i 1,  p 7986 0,  0⟩] 1)
noncomputable def b236 : Nat × BObj := (7970,  q [n 7965 0 1, n 7967 0 2, m 7962, m 7963, i 1, n 7969 0 2] 62)
noncomputable def b237 : Nat × BObj := (7986,  q [c 2, i 1, c 0, i 0, x [], z, i 0, z, i 0, i 0, i 0, i 0, c 0, f, z, z] 80)
noncomputable def S32 : CState :=
  ⟨⟨149,  [n 2485 0 1, i 0, p 7994 0, kc 150 [p 7992 0, p 7993 0], o, o, o, o, f, o, p 7995 0, i 0, o, z, n 2485 0 1, i 1, i 0, t, p 2485 0, a [c 2, x [120],
  x [], c 1, c 0, c 4, i 0, x [108], z, c 0, i 0, x [], z, z, z, z, z], p 7994 0, p 7994 0, i 0, p 7994 0, p 7994 0, i 0, i 1, p 7994 0, i 0, f, f, kc 150 [p 7992 0,
  p 7993 0], i 0, i 0, a [c 2, x [120], x [], c 1, c 0, c 4, i 0, x [108], z, c 0, i 0, x [], z, z, z, z, z], t, f, f, p 7995 13, z, p 7995 14, z, p 7995 15,
  z, s 8016 0 3 3, i 3, i 2, t, p 8016 1, z, z, i 0, i 1, p 7994 0, kc 150 [p 7992 0, p 7993 0], t, f, i 2, o],  [.inRegion (ops 149 147045) [], .code (cd 149 212581),
  .inLoop (cd 149 81509), .inBlock 2, .inBlock 1, .code (cd 149 485), .inLoop (cd 149 37), .inBlock 0, .code (cd 149 7)],  [],  .run,  .normal,  none⟩, [⟨113,
   [n 2485 0 1, o, p 7992 0, p 7993 0, p 7994 0, n 2485 0 1, kc 150 [p 7992 0, p 7993 0], o, o, o],  [.inRegion (ops 113 11) [2], .code (cd 113 15)],  [],
   .run,  .normal,  none⟩, ⟨74,  [n 2485 0 1, o, i 0, o, o, o, n 2485 0 1, o, o, o, o],  [.inRegion (ops 74 5) [1, 2, 3, 4, 5, 6], .code (cd 74 7)],  [],  .run,
   .normal,  none⟩, ⟨50,  [n 2485 0 1, o, z, i 0, o, n 2485 0 1, o, o, o, o, o, o],  [.inRegion (ops 50 9) [1, 2], .code (cd 50 13), .code (cd 50 7)],  [],
   .run,  .normal,  none⟩, ⟨17,  [n 2565 0 2, o, z, z, o, p 7991 0, n 2565 0 2, i 2, i 0, t, p 2565 0, a [i 0, n 2485 0 1, n 2507 0 1, n 2509 0 1], o, p 7991 1,
  n 2485 0 1, o, o, o, o, o, o, o, o, o, o, o, o, o, o, o, o, o, o],  [.inRegion (ops 17 5323) [2, 3, 4, 5, 6, 7], .code (cd 17 7371), .inBlock 1, .code (cd 17 971),
  .inLoop (cd 17 75), .inBlock 0, .code (cd 17 15)],  [],  .run,  .normal,  none⟩, u40, ⟨28,  [p 2566 0, a [i 0, i 0], o, p 7990 0, f, p 7990 1, i 0, f, o,
  o, o, o, o, o, o, o, o, o, o, o, o, o, o, o, o, o, o, o, o, o, o, o, o, o, o],  [.inDraw ⟨opsOf (cd 28 11),  [p 2566 0, a [i 0, i 0], o, p 7990 0, f, p 7990 1,
  i 0, f, o, o, o, o, o, o, o, o, o, o, o, o, o, o, o, o, o, o, o, o, o, o, o, o, o, o, o],  [some (p 7990 0), some (i 0), some (t), some (t), some (p 7990 0),
  some (i 0), some (p 2566 0), none, none, none, none, none],  [7]⟩, .code (cd 28 53)],  [],  .run,  .normal,  none⟩, ⟨27,  [a [i 0, i 0], p 7961 0, p 7989 0,
  f, p 2566 0, a [i 0, i 0], o, o],  [.inRegion (ops 27 5) [2, 3, 4], .code (cd 27 7)],  [],  .run,  .normal,  none⟩, ⟨60,  [s 3240 0 2 2, kc 27 [p 7961 0],
  o, o, i 0, i 0, s 3240 0 2 2, i 2, i 0, t, i 0, kc 27 [p 7961 0], s 3240 0 2 2, i 0, p 3240 0, a [i 0, i 0], o, o, o],  [.inRegion (ops 60 2661) [5], .code (cd 60 3685),
  .inBlock 1, .code (cd 60 485), .inLoop (cd 60 37), .inBlock 0, .code (cd 60 7)],  [],  .run,  .normal,  none⟩, ⟨26,  [s 3240 0 2 2, kc 27 [p 7961 0], o,
  o, f, s 3240 0 2 2, kc 27 [p 7961 0], o, o],  [.inRegion (ops 26 5) [2, 3, 4], .code (cd 26 7)],  [],  .run,  .normal,  none⟩, ⟨8,  [p 2566 0, i 1, i 1,
  s 3240 0 2 2, p 7961 0, o, o, o, z, i 0, n 7988 0 1, i 0, o, o, o, o, u [n 7988 0 1, i 0], p 2566 0, p 7970 0, i 1, i 1, u [n 7988 0 1, i 0], n 7988 0 1,
  i 0, i 0, f, o, s 3240 0 2 2, kc 27 [p 7961 0], o, o, o, o, o, o, o, o, o, o, o, o, o, o, o, o, o, o, o, o, o, o, o, o, o, o, o, o],  [.inRegion (ops 8 39) [2],
  .code (cd 8 55), .code (cd 8 31)],  [],  .run,  .normal,  none⟩, u232, u233, u13], 8017, [(0,  q [y, y] 24), b0, (2,  q [zp, p 1 0] 31), (3,  q [i 0] 22),
  (4,  q [f, f] 4), (5,  q [i 0, i 0] 3), (6,  .map [] 0), (7,  .map [] 0), (9,  q [i 0] 22), b1, (11,  .map [] 0), (12,  .map [] 0), (14,  q [i 0] 22), (16,
   q [f, f] 4), (18,  q [i 0, i 0] 3), b2, (21,  .map [] 0), (22,  .map [] 0), (24,  q [i 0] 22), (26,  q [f, f] 4), (28,  q [i 0, i 0] 3), b3, b4, (50,  q [y,
  y] 24), (52,  q [y, y] 24), (53,  q [y, y] 24), (64,  q [y, y] 24), b5, (74,  .map [] 0), (75,  .map [] 0), (77,  q [i 0] 22), (79,  q [f, f] 4), (81,  q [i 0,
  i 0] 3), b6, (84,  .map [] 0), (85,  .map [] 0), (87,  q [i 0] 22), (89,  q [f, f] 4), (91,  q [i 0, i 0] 3), b7, b8, b9, b10, b11, b12, (2135,  q [i 0] 22),
  (2136,  q [f, f] 4), (2137,  q [i 0, i 1] 3), b14, (2139,  .map [] 0), (2141,  q [i 0] 22), b15, b16, b17, b18, (2197,  q [i 1] 60), (2198,  q [i 1] 60),
  b19, b20, (2301,  .map [] 0), (2303,  q [i 0] 22), (2305,  q [f, f] 4), (2307,  q [i 0, i 1] 3), b21, b22, b26, (2326,  .map [] 0), (2328,  q [i 0] 22),
  (2330,  q [f, f] 4), (2332,  q [i 0, i 1] 3), b23, b27, b28, b29, (2401,  q [i 1] 60), b30, b31, (2455,  q [i 1] 60), b32, b33, b34, (2509,  q [i 1] 60),
  b35, b36, (2563,  q [i 1] 60), b37, b38, b58, (2976,  .map [] 0), (2978,  q [f] 4), (2980,  q [i 1] 3), b59, b60, b61, (2999,  .map [] 0), (3001,  q [f] 4),
  (3003,  q [i 1] 3), b62, b63, b65, b66, (3072,  q [i 1] 60), b67, b68, (3126,  q [i 1] 60), b69, b70, b71, (3180,  q [i 1] 60), b72, b73, (3234,  q [i 1] 60),
  b74, b75, (3239,  q [i 1] 22), b76, b234, b235, (7963,  .map [] 0), (7965,  q [i 0] 22), (7967,  q [f, f] 4), (7969,  q [i 0, i 1] 3), b236, b237, (7988,
   q [i 1] 22), (7989,  q [i 0, i 0] 24), (7990,  q [i 0, i 0] 24), (7991,  q [i 0, n 2485 0 1, n 2507 0 1, n 2509 0 1] 52), (7992,  q [i 0] 3), (7993,  q [i 0] 32),
  (7994,  q [i 1] 3), (7995,  q [c 2, x [120], x [], c 1, c 0, c 4, i 0, x [108], z, c 0, i 0, x [], z, z, z, z, z] 109), (8016,  q [z, z, z] 48)]⟩

noncomputable def S33 : CState :=
  ⟨⟨84,  [z, o, z, o, o, o, o, o, o, o, o, o, o, o, o, o, o, o, o, o, o],  [.inRegion (ops 84 2) [], .code (cd 84 3)],  [],  .run,  .normal,  none⟩, [⟨120,
   [a [c 2, x [120], x [], c 1, c 0, c 4, i 0, x [108], z, c 0, i 0, x [], z, z, z, z, z], p 8238 0, p 8239 0, p 8238 5, a [c 4, i 0, x [108], z], a [c 4,
  i 0, x [108], z], p 8238 9, a [c 0, i 0, x [], z], a [c 0, i 0, x [], z], p 8238 5, p 8238 9, o, o, o, o, o, o, o, o, o, o, o, o, o, o, o, o, o],  [.inDraw ⟨opsOf (cd 120 11),
   [a [c 2, x [120], x [], c 1, c 0, c 4, i 0, x [108], z, c 0, i 0, x [], z, z, z, z, z], p 8238 0, p 8239 0, p 8238 5, a [c 4, i 0, x [108], z], a [c 4,
  i 0, x [108], z], p 8238 9, a [c 0, i 0, x [], z], a [c 0, i 0, x [], z], p 8238 5, p 8238 9, o, o, o, o, o, o, o, o, o, o, o, o, o, o, o, o, o],  [some (p 8238 13),
  some (z), some (z), some (p 8238 14), some (z), none, some (p 8238 15), some (z), none, some (p 8238 13), none, none, none, none, none],  [5, 8, 10, 12,
  14]⟩, .code (cd 120 15)],  [],  .run,  .normal,  none⟩, ⟨84,  [n 8236 0 1, o, z, i 0, p 8237 0, n 2485 0 1, n 8236 0 1, n 8236 0 1, i 1, i 0, t, i 0, p 8236 0,
  a [c 2, x [120], x [], c 1, c 0, c 4, i 0, x [108], z, c 0, i 0, x [], z, z, z, z, z], n 8236 0 1, i 0, a [c 2, x [120], x [], c 1, c 0, c 4, i 0, x [108],
  z, c 0, i 0, x [], z, z, z, z, z], o, o, o, o],  [.inRegion (ops 84 3275) [3, 4, 5], .inBlock 1, .code (cd 84 971), .inLoop (cd 84 75), .inBlock 0, .code (cd 84 15)],
   [],  .run,  .normal,  none⟩, ⟨50,  [n 2485 0 1, o, z, i 0, i 0, n 2485 0 1, i 0, i 0, f, o, n 2485 0 1, o],  [.inRegion (ops 50 11) [1, 2, 3], .code (cd 50 109)],
   [],  .run,  .normal,  none⟩, ⟨17,  [n 2565 0 2, o, z, z, o, p 8209 0, n 2565 0 2, i 2, i 0, t, p 2565 0, a [i 0, n 2485 0 1, n 2507 0 1, n 2509 0 1], o,
  p 8209 1, n 2485 0 1, o, o, o, o, o, o, o, o, o, o, o, o, o, o, o, o, o, o],  [.inRegion (ops 17 5323) [2, 3, 4, 5, 6, 7], .code (cd 17 7371), .inBlock 1,
  .code (cd 17 971), .inLoop (cd 17 75), .inBlock 0, .code (cd 17 15)],  [],  .run,  .normal,  none⟩, u40, ⟨8,  [p 2566 0, i 1, i 1, s 3240 0 2 2, p 7961 0,
  o, o, o, z, i 0, n 7988 0 1, i 0, o, o, o, o, u [n 7988 0 1, i 0], p 2566 0, p 7970 0, i 1, i 1, u [n 7988 0 1, i 0], n 7988 0 1, i 0, i 0, f, o, s 3240 0 2 2,
  kc 27 [p 7961 0], f, p 2566 0, o, o, o, o, o, o, o, o, o, o, o, o, o, o, o, o, o, o, o, o, o, o, o, o, o, o],  [.inRegion (ops 8 47) [1, 2], .code (cd 8 63)],
   [],  .run,  .normal,  none⟩, u232, u233, u13], 8244, [(0,  q [y, y] 24), b0, (2,  q [zp, p 1 0] 31), (3,  q [i 0] 22), (4,  q [f, f] 4), (5,  q [i 0, i 0] 3),
  (6,  .map [] 0), (7,  .map [] 0), (9,  q [i 0] 22), b1, (11,  .map [] 0), (12,  .map [] 0), (14,  q [i 0] 22), (16,  q [f, f] 4), (18,  q [i 0, i 0] 3),
  b2, (21,  .map [] 0), (22,  .map [] 0), (24,  q [i 0] 22), (26,  q [f, f] 4), (28,  q [i 0, i 0] 3), b3, b4, (50,  q [y, y] 24), (52,  q [y, y] 24), (53,
   q [y, y] 24), (64,  q [y, y] 24), b5, (74,  .map [] 0), (75,  .map [] 0), (77,  q [i 0] 22), (79,  q [f, f] 4), (81,  q [i 0, i 0] 3), b6, (84,  .map [] 0),
  (85,  .map [] 0), (87,  q [i 0] 22), (89,  q [f, f] 4), (91,  q [i 0, i 0] 3), b7, b8, b9, b10, b11, b12, (2135,  q [i 0] 22), (2136,  q [f, f] 4), (2137,
   q [i 0, i 1] 3), b14, (2139,  .map [] 0), (2141,  q [i 0] 22), b15, b16, b17, b18, (2197,  q [i 1] 60), (2198,  q [i 1] 60), b19, b20, (2301,  .map [] 0),
  (2303,  q [i 0] 22), (2305,  q [f, f] 4), (2307,  q [i 0, i 1] 3), b21, b22, b26, (2326,  .map [] 0), (2328,  q [i 0] 22), (2330,  q [f, f] 4), (2332,  q [i 0,
  i 1] 3), b23, b27, b28, b29, (2401,  q [i 1] 60), b30, b31, (2455,  q [i 1] 60), b32, b33, b34, (2509,  q [i 1] 60), b35, b36, (2563,  q [i 1] 60), b37,
  b38, b58, (2976,  .map [] 0), (2978,  q [f] 4), (2980,  q [i 1] 3), b59, b60, b61, (2999,  .map [] 0), (3001,  q [f] 4), (3003,  q [i 1] 3), b62, b63, b65,
  b66, (3072,  q [i 1] 60), b67, b68, (3126,  q [i 1] 60), b69, b70, b71, (3180,  q [i 1] 60), b72, b73, (3234,  q [i 1] 60), b74, b75, (3239,  q [i 1] 22),
  b76, b234, b235, (7963,  .map [] 0), (7965,  q [i 0] 22), (7967,  q [f, f] 4), (7969,  q [i 0, i 1] 3), b236, b237, (7988,  q [i 1] 22), (8209,  q [i 0,
  n 2485 0 1, n 2507 0 1, n 2509 0 1] 52), (8236,  q [c 2, x [120], x [], c 1, c 0, c 4, i 0, x [108], z, c 0, i 0, x [], z, z, z, z, z] 109), (8237,  q [c 2,
  x [120], x [], c 1, c 0, c 4, i 0, x [108], z, c 0, i 0, x [], z, z, z, z, z] 109), (8238,  q [c 2, x [120], x [], c 1, c 0, c 4, i 0, x [108], z, c 0, i 0,
  x [], z, z, z, z, z] 109), (8239,  q [c 0, x [], x [], c 0, c 0, c 0, i 0, x [], z, c 0, i 0, x [], z, z, z, z, z] 109)]⟩

noncomputable def u238 : BFrame := ⟨7,  [p 2566 0, i 1, i 1, o, o, o, zp, i 0, p 8348 0, i 0, u [n 8347 0 1, i 0], p 2566 0, p 8329 0, i 1, i 1, u [n 8347 0 1, i 0], n 8347 0 1, i 0, i 0,
  f, o, p 2566 0, i 1, kc 56 [p 8349 0], kc 24 [p 8348 0], o],  [.inRegion (ops 7 23) [4, 5, 6], .code (cd 7 107)],  [],  .run,  .normal,  none⟩
noncomputable def u239 : BFrame := ⟨10,  [p 2566 0, i 1, i 1, s 3240 0 2 2, o, o, o, o, i 0, i 0, f, i 0, n 8320 0 1, o, o, o, o, o, o, u [n 8320 0 1, i 0], p 2566 0, i 1, i 1, s 3240 0 2 2,
  u [n 8320 0 1, i 0], n 8320 0 1, i 0, i 0, f, o, s 3240 0 2 2, i 2, f, o, p 2566 0, i 1, i 1, o, o, o, o, o, o, o, o, o, o, o, o, o, o, o, o, o, o, o, o,
  o, o, o, o, o, o, o, o, o, o, o, o],  [.inRegion (ops 10 47) [3, 4, 5, 6, 7, 8], .code (cd 10 63)],  [],  .run,  .normal,  none⟩
noncomputable def b240 : Nat × BObj := (8320,  q [i 1, i 0] 24)
noncomputable def b241 : Nat × BObj := (8321,  .map [⟨i 1,  p 8345 0,  0⟩] 1)
noncomputable def b242 : Nat × BObj := (8329,  q [n 8324 0 1, n 8326 0 2, m 8321, m 8322, i 1, n 8328 0 2] 62)
noncomputable def b243 : Nat × BObj := (8345,  q [c 2, i 1, c 0, i 0, x [], z, i 0, z, i 0, i 0, i 0, i 0, c 0, f, z, z] 80)
noncomputable def b244 : Nat × BObj := (8348,  q [n 8347 0 1] 45)
noncomputable def b245 : Nat × BObj := (8350,  .map [⟨i 1,  p 8374 0,  0⟩] 1)
noncomputable def b246 : Nat × BObj := (8358,  q [n 8353 0 1, n 8355 0 2, m 8350, m 8351, i 1, n 8357 0 2] 62)
noncomputable def b247 : Nat × BObj := (8374,  q [c 2, i 1, c 0, i 0, x [], z, i 0, z, i 0, i 0, i 0, i 0, c 0, f, z, z] 80)
noncomputable def b248 : Nat × BObj := (8399,  q [i 1, c 2, i 1, c 0, i 0, x [], z, i 0, z, i 0, i 0, i 0, i 0, c 0, f, z, z] 82)
noncomputable def b249 : Nat × BObj := (8400,  q [n 8378 0 1, n 8402 0 1, n 8399 0 1, i 1, n 8380 0 2] 69)
noncomputable def b250 : Nat × BObj := (8406,  .map [⟨i 1,  p 8449 0,  0⟩] 1)
noncomputable def b251 : Nat × BObj := (8449,  q [c 2, i 1, c 0, i 0, x [], z, i 0, z, i 0, i 0, i 0, i 0, c 0, f, z, z] 80)
noncomputable def S34 : CState :=
  ⟨⟨148,  [c 2, o, c 0, c 2, f, f, o, o, o, o, o, o, o, o, o, o, o, o, o, o, o, o, o, o, o, o, o, o, o, o, o, o, o, o],  [.code (cd 148 181), .code (cd 148 245),
  .inBlock 0, .code (cd 148 7)],  [],  .run,  .normal,  none⟩, [⟨112,  [p 8410 0, i 1, o, o, c 0, c 63, p 8449 0, p 8410 0, i 1, t, f, p 8410 0, p 8410 0,
  p 8410 2, m 8406, i 1, p 8449 0, p 8449 0, p 8449 0, p 8449 0, c 2, c 63, p 8449 0, p 8449 0, p 8449 0, c 2, o, o, o, f, f, o, o, o, o, o, o, o, f, f, f,
  o, o, o, o],  [.inRegion (ops 112 193933) [5, 6, 7, 8], .code (cd 112 3341), .inBlock 2, .code (cd 112 1933), .inBlock 1, .inLoop (cd 112 77), .inBlock 0,
  .inScope (cd 112 5)],  [],  .run,  .normal,  none⟩, ⟨88,  [p 8410 0, o, i 0, i 0, i 1, p 8449 0, p 8410 0, p 8410 0, p 8410 2, m 8406, p 8467 0, u [t, i 1,
  p 8449 0], t, u [i 1, p 8449 0], i 1, p 8449 0, p 8449 0, p 8449 0, p 8449 0, c 2, f, o, o, i 0, p 8410 0, i 1, o, o, o, o, o, o, o],  [.inRegion (ops 88 7883) [3,
  4, 5, 6, 7, 8, 9], .inBlock 1, .inLoop (cd 88 75), .inBlock 0, .code (cd 88 15)],  [],  .run,  .normal,  none⟩, ⟨55,  [a [n 8378 0 1, n 8402 0 1, n 8399 0 1,
  i 1, n 8380 0 2], p 8403 0, zp, i 0, p 8410 0, i 0, i 0, i 1, s 8411 0 2 2, i 1, o, p 8412 0, p 8449 0, i 1, i 1, i 1, u [p 8410 0, i 0], p 8403 0, n 8378 0 1,
  u [p 8410 0, i 0], p 8410 0, i 0, i 0, f, f, p 8403 4, n 8380 0 2, i 2, p 8410 0, i 2, f, f, p 8403 1, n 8402 0 1, i 1, i 1, f, i 0, p 8402 0, i 1, i 0,
  f, f, o, o, o, o, o, o, o, o, f, f, p 8410 0, i 1, i 0, f, f, i 1, p 8410 0, i 2, s 8411 0 2 2, p 8403 2, n 8399 0 1, i 1, i 1, f, p 8399 0, a [i 1, c 2,
  i 1, c 0, i 0, x [], z, i 0, z, i 0, i 0, i 0, i 0, c 0, f, z, z], p 8412 0, i 1, i 0, f, f, p 8412 0, i 1, p 8403 3, i 1, f, f, f, p 8410 0, p 8412 1, a [c 2,
  i 1, c 0, i 0, x [], z, i 0, z, i 0, i 0, i 0, i 0, c 0, f, z, z], t, f, f, p 8412 0, i 1, p 8412 1, a [c 2, i 1, c 0, i 0, x [], z, i 0, z, i 0, i 0, i 0,
  i 0, c 0, f, z, z], a [c 2, i 1, c 0, i 0, x [], z, i 0, z, i 0, i 0, i 0, i 0, c 0, f, z, z], p 8410 0, p 8410 0, p 8410 2, m 8406, p 8412 0, i 1, p 8449 0,
  c 2, t, s 8411 0 2 2, p 8449 1, i 1, p 8411 1, i 0, i 1, p 8411 1, i 1, p 8403 4, n 8380 0 2, i 2, i 2, f, i 1, p 8380 1, i 1, i 1, s 8411 0 2 2, i 1, p 8411 1,
  i 1, f, f, i 1, f, f, i 0, i 1, i 1, i 2, o, o, o, o, o, o, o, o, o, o, o, o, o, o, o, o, o, o, o, o, o, o, o, o, o, o, o, o, o, o, o, o, o, o, o, o, o],
   [.inDraw ⟨opsOf (cd 55 2559),  [a [n 8378 0 1, n 8402 0 1, n 8399 0 1, i 1, n 8380 0 2], p 8403 0, zp, i 0, p 8410 0, i 0, i 0, i 1, s 8411 0 2 2, i 1,
  o, p 8412 0, p 8449 0, i 1, i 1, i 1, u [p 8410 0, i 0], p 8403 0, n 8378 0 1, u [p 8410 0, i 0], p 8410 0, i 0, i 0, f, f, p 8403 4, n 8380 0 2, i 2, p 8410 0,
  i 2, f, f, p 8403 1, n 8402 0 1, i 1, i 1, f, i 0, p 8402 0, i 1, i 0, f, f, o, o, o, o, o, o, o, o, f, f, p 8410 0, i 1, i 0, f, f, i 1, p 8410 0, i 2,
  s 8411 0 2 2, p 8403 2, n 8399 0 1, i 1, i 1, f, p 8399 0, a [i 1, c 2, i 1, c 0, i 0, x [], z, i 0, z, i 0, i 0, i 0, i 0, c 0, f, z, z], p 8412 0, i 1,
  i 0, f, f, p 8412 0, i 1, p 8403 3, i 1, f, f, f, p 8410 0, p 8412 1, a [c 2, i 1, c 0, i 0, x [], z, i 0, z, i 0, i 0, i 0, i 0, c 0, f, z, z], t, f, f,
  p 8412 0, i 1, p 8412 1, a [c 2, i 1, c 0, i 0, x [], z, i 0, z, i 0, i 0, i 0, i 0, c 0, f, z, z], a [c 2, i 1, c 0, i 0, x [], z, i 0, z, i 0, i 0, i 0,
  i 0, c 0, f, z, z], p 8410 0, p 8410 0, p 8410 2, m 8406, p 8412 0, i 1, p 8449 0, c 2, t, s 8411 0 2 2, p 8449 1, i 1, p 8411 1, i 0, i 1, p 8411 1, i 1,
  p 8403 4, n 8380 0 2, i 2, i 2, f, i 1, p 8380 1, i 1, i 1, s 8411 0 2 2, i 1, p 8411 1, i 1, f, f, i 1, f, f, i 0, i 1, i 1, i 2, o, o, o, o, o, o, o, o,
  o, o, o, o, o, o, o, o, o, o, o, o, o, o, o, o, o, o, o, o, o, o, o, o, o, o, o, o, o],  [some (p 8403 3), some (i 1), some (f), some (f), some (p 8403 3),
  some (i 1), some (i 1), some (i 64), some (f), some (f), some (f), some (p 8410 0), some (t), some (f), some (f), some (f), some (p 8403 3), some (i 1),
  some (p 8410 0), none, none, some (i 1), some (i 64), none, none],  [19]⟩, .code (cd 55 3583), .code (cd 55 2047)],  [],  .run,  .normal,  none⟩, ⟨20,  [p 2566 0,
  kc 56 [p 8349 0], kc 24 [p 8348 0], o, o, o, zp, p 8358 0, p 8400 0, o, o, o, o, o, o, o, p 2566 0, p 8358 0, p 8358 0, f, p 8358 0, a [n 8378 0 1, z, n 8399 0 1,
  i 1, n 8380 0 2], kc 56 [p 8349 0], o, o, a [n 8378 0 1, n 8402 0 1, n 8399 0 1, i 1, n 8380 0 2], o, o, o, o, o, o, o, o, o, o, o, o, o, o, o, o, o, o,
  o, o, o, o, o, o, o, o, o, o],  [.inRegion (ops 20 95) [1, 2, 3, 4, 5, 6], .code (cd 20 127)],  [],  .run,  .normal,  none⟩, u238, u239, u233, u13], 8468,
  [(0,  q [y, y] 24), b0, (2,  q [zp, p 1 0] 31), (3,  q [i 0] 22), (4,  q [f, f] 4), (5,  q [i 0, i 0] 3), (6,  .map [] 0), (7,  .map [] 0), (9,  q [i 0] 22),
  b1, (11,  .map [] 0), (12,  .map [] 0), (14,  q [i 0] 22), (16,  q [f, f] 4), (18,  q [i 0, i 0] 3), b2, (21,  .map [] 0), (22,  .map [] 0), (24,  q [i 0] 22),
  (26,  q [f, f] 4), (28,  q [i 0, i 0] 3), b3, b4, (50,  q [y, y] 24), (52,  q [y, y] 24), (53,  q [y, y] 24), (64,  q [y, y] 24), b5, (74,  .map [] 0), (75,
   .map [] 0), (77,  q [i 0] 22), (79,  q [f, f] 4), (81,  q [i 0, i 0] 3), b6, (84,  .map [] 0), (85,  .map [] 0), (87,  q [i 0] 22), (89,  q [f, f] 4), (91,
   q [i 0, i 0] 3), b7, b8, b9, b10, b11, b12, (2135,  q [i 0] 22), (2136,  q [f, f] 4), (2137,  q [i 0, i 1] 3), b14, (2139,  .map [] 0), (2141,  q [i 0] 22),
  b15, b16, b17, b18, (2197,  q [i 1] 60), (2198,  q [i 1] 60), b19, b20, (2301,  .map [] 0), (2303,  q [i 0] 22), (2305,  q [f, f] 4), (2307,  q [i 0, i 1] 3),
  b21, b22, b26, (2326,  .map [] 0), (2328,  q [i 0] 22), (2330,  q [f, f] 4), (2332,  q [i 0, i 1] 3), b23, b27, b28, b29, (2401,  q [i 1] 60), b30, b31,
  (2455,  q [i 1] 60), b32, b33, b34, (2509,  q [i 1] 60), b35, b36, (2563,  q [i 1] 60), b37, b38, b58, (2976,  .map [] 0), (2978,  q [f] 4), (2980,  q [i 1] 3),
  b59, b60, b61, (2999,  .map [] 0), (3001,  q [f] 4), (3003,  q [i 1] 3), b62, b63, b65, b66, (3072,  q [i 1] 60), b67, b68, (3126,  q [i 1] 60), b69, b70,
  b71, (3180,  q [i 1] 60), b72, b73, (3234,  q [i 1] 60), b74, b75, (3239,  q [i 1] 22), b76, b240, b241, (8322,  .map [] 0), (8324,  q [i 0] 22), (8326,
   q [f, f] 4), (8328,  q [i 0, i 1] 3), b242, b243, (8347,  q [i 1] 22), b244, (8349,  q [i 1] 3), b245, (8351,  .map [] 0), (8353,  q [i 0] 22), (8355,  q [f,
  f] 4), (8357,  q [i 0, i 1] 3), b246, b247, (8378,  q [i 0] 22), (8380,  q [i 0, i 1] 3), b248, b249, (8402,  q [i 1] 3), (8403,  q [n 8378 0 1, n 8402 0 1,
  n 8399 0 1, i 1, n 8380 0 2] 69), (8404,  q [f, t] 4), (8405,  q [i 0, i 0] 3), b250, (8407,  .map [] 0), (8409,  q [i 0] 22), (8410,  q [n 8409 0 1, s 8404 0 2 2,
  m 8406, m 8407, i 0, s 8405 0 2 2] 62), (8411,  q [i 0, i 1] 3), (8412,  q [i 1, c 2, i 1, c 0, i 0, x [], z, i 0, z, i 0, i 0, i 0, i 0, c 0, f, z, z] 82),
  b251, (8467,  .mapIter (some 8406) 1 [0] 1)]⟩

noncomputable def b252 : Nat × BObj := (8672,  q [n 8667 0 1, n 8669 0 2, m 8664, m 8665, i 1, n 8671 0 2] 62)
noncomputable def S35 : CState :=
  ⟨⟨152,  [p 8682 0, a [c 0, i 0, x [], z, i 0], o, p 8683 0, f, o, o, o, p 8682 0, p 8682 0, p 8682 0, i 512, f, o, o, o, o, o, o, o, o, o, o, o, o, o, o,
  o, o, o, o, o, o, o, o, o, o, o, o, o, o, o, o, o, o, o, o, o, o, o, o, o, o, o, o, o, o, o, o, o, o, o, o, o, o, o, o, o, o, o, o, o, o, o, o, o, o, o,
  o, o, o, o, o, o, o, o, o, o, o, o, o, o, o, o, o, o, o, o, o, o, o, o, o, o],  [.code (cd 152 11), .code (cd 152 15)],  [],  .run,  .normal,  none⟩, [⟨114,
   [a [c 0, i 0, x [], z, i 0], p 8681 0, i 0, p 8682 0, a [i 512, i 16], p 8682 0, p 8682 0, a [c 0, i 0, x [], z, i 0], o, o, o, o, o, o, o],  [.inRegion (ops 114 19) [2,
  3], .code (cd 114 27), .code (cd 114 15)],  [],  .run,  .normal,  none⟩, ⟨76,  [a [c 0, i 0, x [], z, i 0], p 8680 0, f, a [c 0, i 0, x [], z, i 0], o, o],
   [.inRegion (ops 76 5) [1, 2, 3], .code (cd 76 7)],  [],  .run,  .normal,  none⟩, ⟨116,  [a [c 0, i 0, x [], z, i 0], p 8678 0, p 8679 0, i 0, a [c 0, i 0,
  x [], z, i 0], o, o, o, o, o],  [.inRegion (ops 116 9) [1, 2], .code (cd 116 13), .code (cd 116 7)],  [],  .run,  .normal,  none⟩, ⟨80,  [a [c 0, i 0, x [],
  z, i 0], p 8676 0, p 8677 0, o, o, o, a [c 0, i 0, x [], z, i 0], o, o, o, o],  [.inRegion (ops 80 5) [1, 2, 3, 4, 5, 6, 7], .code (cd 80 7)],  [],  .run,
   .normal,  none⟩, ⟨48,  [a [c 2, i 1, c 0, i 0, x [], z, i 0, z, i 0, i 0, i 0, i 0, c 0, f, z, z], p 8674 0, p 8675 0, o, o, o, o, p 8674 2, a [c 0, i 0,
  x [], z, i 0], o, o, o, o, o, o, o, o, o, o, o, o, o, o, o, o, o, o, o, o, o, o, o, o, o, o, o, o, o, o, o, o, o, o, o, o, o, o, o, o, o, o, o, o, o, o,
  o],  [.inRegion (ops 48 5) [2, 3, 4], .code (cd 48 7)],  [],  .run,  .normal,  none⟩, ⟨16,  [p 8410 0, o, zp, p 8672 0, i 1, p 8449 0, o, p 8410 0, f, p 8410 0,
  p 8410 0, p 8410 0, n 8409 0 1, n 8667 0 1, p 8410 0, p 8410 0, p 8410 1, s 8404 0 2 2, n 8669 0 2, p 8410 0, p 8410 0, p 8410 5, n 8471 0 2, n 8671 0 2,
  p 8410 0, p 8410 0, p 8410 4, i 1, m 8664, m 8665, a [n 8667 0 1, n 8669 0 2, m 8664, m 8665, i 1, n 8671 0 2], p 8672 0, p 8410 0, p 8410 0, p 8410 2, m 8406,
  p 8673 0, u [t, i 1, p 8449 0], t, u [i 1, p 8449 0], i 1, p 8449 0, p 8449 0, p 8449 0, a [c 2, i 1, c 0, i 0, x [], z, i 0, z, i 0, i 0, i 0, i 0, c 0,
  f, z, z], o, o, o, o, o, o, o, o, o, o],  [.inRegion (ops 16 5527) [3, 4, 5], .code (cd 16 7575), .inBlock 1, .inLoop (cd 16 151), .inBlock 0, .code (cd 16 31)],
   [],  .run,  .normal,  none⟩, ⟨5,  [p 8410 0, n 8579 0 2, o, o, zp, i 0, o, p 8614 0, i 0, p 8410 0, f, f, p 8410 0, i 2, f, f, n 8579 0 2, i 2, f, n 8579 0 2,
  i 2, i 2, f, p 8579 4, a [i 1, n 8553 0 1, n 8575 0 1, n 8577 0 1], p 8410 0, a [i 1, n 8553 0 1, n 8575 0 1, n 8577 0 1], i 0, i 0, f, o, i 2, p 8410 0,
  o, o, o, o, o, o, o, o, o],  [.inRegion (ops 5 47) [1, 2, 3, 4, 5, 6, 7, 8, 9, 10, 11], .code (cd 5 53)],  [],  .run,  .normal,  none⟩, ⟨20,  [p 2566 0,
  kc 56 [p 8349 0], kc 24 [p 8348 0], o, o, o, zp, p 8358 0, p 8400 0, p 8410 0, i 0, n 8579 0 2, i 1, p 8583 0, o, o, p 2566 0, p 8358 0, p 8358 0, f, p 8358 0,
  a [n 8378 0 1, z, n 8399 0 1, i 1, n 8380 0 2], kc 56 [p 8349 0], o, u [p 8410 0, i 0], a [n 8378 0 1, n 8402 0 1, n 8399 0 1, i 1, n 8380 0 2], u [p 8410 0,
  i 0], p 8410 0, i 0, i 0, f, p 2566 0, n 8579 0 2, n 8579 0 2, i 2, i 2, f, i 1, p 8579 4, a [i 1, n 8553 0 1, n 8575 0 1, n 8577 0 1], n 8579 0 2, i 1,
  kc 24 [p 8348 0], a [i 1, n 8553 0 1, n 8575 0 1, n 8577 0 1], a [i 1, n 8553 0 1, n 8575 0 1, n 8577 0 1], p 8579 4, i 2, o, p 8410 0, n 8579 0 2, o, o,
  o, o],  [.inRegion (ops 20 1535) [2, 3, 4, 5, 6, 7], .code (cd 20 2047)],  [],  .run,  .normal,  none⟩, u238, u239, u233, u13], 8684, [(0,  q [y, y] 24),
  b0, (2,  q [zp, p 1 0] 31), (3,  q [i 0] 22), (4,  q [f, f] 4), (5,  q [i 0, i 0] 3), (6,  .map [] 0), (7,  .map [] 0), (9,  q [i 0] 22), b1, (11,  .map [] 0),
  (12,  .map [] 0), (14,  q [i 0] 22), (16,  q [f, f] 4), (18,  q [i 0, i 0] 3), b2, (21,  .map [] 0), (22,  .map [] 0), (24,  q [i 0] 22), (26,  q [f, f] 4),
  (28,  q [i 0, i 0] 3), b3, b4, (50,  q [y, y] 24), (52,  q [y, y] 24), (53,  q [y, y] 24), (64,  q [y, y] 24), b5, (74,  .map [] 0), (75,  .map [] 0), (77,
   q [i 0] 22), (79,  q [f, f] 4), (81,  q [i 0, i 0] 3), b6, (84,  .map [] 0), (85,  .map [] 0), (87,  q [i 0] 22), (89,  q [f, f] 4), (91,  q [i 0, i 0] 3),
  b7, b8, b9, b10, b11, b12, (2135,  q [i 0] 22), (2136,  q [f, f] 4), (2137,  q [i 0, i 1] 3), b14, (2139,  .map [] 0), (2141,  q [i 0] 22), b15, b16, b17,
  b18, (2197,  q [i 1] 60), (2198,  q [i 1] 60), b19, b20, (2301,  .map [] 0), (2303,  q [i 0] 22), (2305,  q [f, f] 4), (2307,  q [i 0, i 1] 3), b21, b22,
  b26, (2326,  .map [] 0), (2328,  q [i 0] 22), (2330,  q [f, f] 4), (2332,  q [i 0, i 1] 3), b23, b27, b28, b29, (2401,  q [i 1] 60), b30, b31, (2455,  q [i 1] 60),
  b32, b33, b34, (2509,  q [i 1] 60), b35, b36, (2563,  q [i 1] 60), b37, b38, b58, (2976,  .map [] 0), (2978,  q [f] 4), (2980,  q [i 1] 3), b59, b60, b61,
  (2999,  .map [] 0), (3001,  q [f] 4), (3003,  q [i 1] 3), b62, b63, b65, b66, (3072,  q [i 1] 60), b67, b68, (3126,  q [i 1] 60), b69, b70, b71, (3180,  q [i 1] 60),
  b72, b73, (3234,  q [i 1] 60), b74, b75, (3239,  q [i 1] 22), b76, b240, b241, (8322,  .map [] 0), (8324,  q [i 0] 22), (8326,  q [f, f] 4), (8328,  q [i 0,
  i 1] 3), b242, b243, (8347,  q [i 1] 22), b244, (8349,  q [i 1] 3), b245, (8351,  .map [] 0), (8353,  q [i 0] 22), (8355,  q [f, f] 4), (8357,  q [i 0, i 1] 3),
  b246, b247, (8378,  q [i 0] 22), (8380,  q [i 0, i 1] 3), b248, b249, (8402,  q [i 1] 3), (8404,  q [f, t] 4), b250, (8407,  .map [] 0), (8409,  q [i 0] 22),
  (8410,  q [n 8409 0 1, s 8404 0 2 2, m 8406, m 8407, i 1, n 8471 0 2] 62), b251, (8471,  q [i 0, i 1] 3), (8521,  q [x [108], c 4, i 0, x [], z, i 1] 101),
  (8523,  q [i 1] 60), (8553,  q [c 2, x [120], x [], c 1, c 0, c 4, i 0, x [108], z, c 0, i 0, x [], z, z, z, z, z] 109), (8575,  q [x [108], c 4, i 0, x [],
  z, i 1] 101), (8577,  q [i 1] 60), (8579,  q [i 0, z, n 8521 0 1, n 8523 0 1, i 1, n 8553 0 1, n 8575 0 1, n 8577 0 1] 52), (8583,  q [i 1, n 8553 0 1, n 8575 0 1,
  n 8577 0 1] 52), (8614,  q [i 1, n 8553 0 1, n 8575 0 1, n 8577 0 1] 52), (8664,  .map [] 0), (8665,  .map [] 0), (8667,  q [i 0] 22), (8669,  q [f, t] 4),
  (8671,  q [i 0, i 1] 3), b252, (8673,  .mapIter (some 8406) 1 [0] 1), (8674,  q [c 2, i 1, c 0, i 0, x [], z, i 0, z, i 0, i 0, i 0, i 0, c 0, f, z, z] 80),
  (8675,  q [c 0, i 0, c 0, i 0, x [], z, i 0, z, i 0, i 0, i 0, i 0, c 0, f, z, z] 80), (8676,  q [c 0, i 0, x [], z, i 0] 77), (8677,  q [c 0, i 0, x [],
  z, i 0] 77), (8678,  q [c 0, i 0, x [], z, i 0] 77), (8679,  q [c 0, i 0, x [], z, i 0] 77), (8680,  q [c 0, i 0, x [], z, i 0] 77), (8681,  q [c 0, i 0,
  x [], z, i 0] 77), (8682,  q [i 512, i 16] 229), (8683,  q [c 0, i 0, x [], z, i 0] 77)]⟩

noncomputable def u253 : BFrame := ⟨10,  [p 2566 0, i 1, i 1, s 3240 0 2 2, o, o, o, o, i 0, i 0, f, i 0, n 8320 0 1, p 8868 0, i 0, p 8896 0, i 0, o, o, u [n 8320 0 1, i 0], p 2566 0, i 1,
  i 1, s 3240 0 2 2, u [n 8320 0 1, i 0], n 8320 0 1, i 0, i 0, f, o, s 3240 0 2 2, i 2, f, u [p 8868 0, i 0], p 2566 0, i 1, i 1, u [p 8868 0, i 0], p 8868 0,
  i 0, u [n 8895 0 1, i 0], p 2566 0, p 8877 0, i 1, i 1, u [n 8895 0 1, i 0], n 8895 0 1, i 0, p 2566 0, i 1, kc 56 [p 8897 0], o, o, o, o, o, o, o, o, o,
  o, o, o, o, o, o, o, o, o],  [.inRegion (ops 10 191) [3, 4], .code (cd 10 255)],  [],  .run,  .normal,  none⟩
noncomputable def b254 : Nat × BObj := (8664,  .map [⟨i 1,  p 8688 0,  0⟩] 1)
noncomputable def b255 : Nat × BObj := (8688,  q [c 2, i 1, c 0, i 0, x [], z, i 0, z, i 0, i 0, i 0, i 0, c 0, f, z, z] 80)
noncomputable def b256 : Nat × BObj := (8689,  .map [⟨i 1,  p 8713 0,  0⟩] 1)
noncomputable def b257 : Nat × BObj := (8697,  q [n 8692 0 1, n 8694 0 2, m 8689, m 8690, i 1, n 8696 0 2] 62)
noncomputable def b258 : Nat × BObj := (8713,  q [c 2, i 1, c 0, i 0, x [], z, i 0, z, i 0, i 0, i 0, i 0, c 0, f, z, z] 80)
noncomputable def b259 : Nat × BObj := (8732,  q [x [108], c 4, i 0, x [], z, i 1] 101)
noncomputable def b260 : Nat × BObj := (8764,  q [c 2, x [120], x [], c 1, c 0, c 4, i 0, x [108], z, c 0, i 0, x [], z, z, z, z, z] 109)
noncomputable def b261 : Nat × BObj := (8786,  q [x [108], c 4, i 0, x [], z, i 1] 101)
noncomputable def b262 : Nat × BObj := (8790,  q [i 0, z, n 8732 0 1, n 8734 0 1, i 1, n 8764 0 1, n 8786 0 1, n 8788 0 1] 52)
noncomputable def b263 : Nat × BObj := (8809,  q [x [108], c 4, i 0, x [], z, i 1] 101)
noncomputable def b264 : Nat × BObj := (8841,  q [c 2, x [120], x [], c 1, c 0, c 4, i 0, x [108], z, c 0, i 0, x [], z, z, z, z, z] 109)
noncomputable def b265 : Nat × BObj := (8863,  q [x [108], c 4, i 0, x [], z, i 1] 101)
noncomputable def b266 : Nat × BObj := (8867,  q [i 0, z, n 8809 0 1, n 8811 0 1, i 1, n 8841 0 1, n 8863 0 1, n 8865 0 1] 52)
noncomputable def b267 : Nat × BObj := (8868,  q [p 8672 0, p 8697 0, n 8790 0 2, n 8867 0 2, z] 30)
noncomputable def b268 : Nat × BObj := (8869,  .map [⟨i 1,  p 8893 0,  0⟩] 1)
noncomputable def b269 : Nat × BObj := (8877,  q [n 8872 0 1, n 8874 0 2, m 8869, m 8870, i 1, n 8876 0 2] 62)
noncomputable def b270 : Nat × BObj := (8893,  q [c 2, i 1, c 0, i 0, x [], z, i 0, z, i 0, i 0, i 0, i 0, c 0, f, z, z] 80)
noncomputable def b271 : Nat × BObj := (8896,  q [n 8895 0 1] 45)
noncomputable def b272 : Nat × BObj := (8898,  .map [⟨i 1,  p 8922 0,  0⟩] 1)
noncomputable def b273 : Nat × BObj := (8906,  q [n 8901 0 1, n 8903 0 2, m 8898, m 8899, i 1, n 8905 0 2] 62)
noncomputable def b274 : Nat × BObj := (8922,  q [c 2, i 1, c 0, i 0, x [], z, i 0, z, i 0, i 0, i 0, i 0, c 0, f, z, z] 80)
noncomputable def S36 : CState :=
  ⟨⟨48,  [a [c 2, i 1, c 0, i 0, x [], z, i 0, z, i 0, i 0, i 0, i 0, c 0, f, z, z], p 8932 0, p 8933 0, o, o, o, o, p 8932 2, a [c 0, i 0, x [], z, i 0], a [c 0,
  i 0, x [], z, i 0], p 8932 2, p 8932 7, z, z, p 8932 7, o, o, o, o, o, o, o, o, o, o, o, o, o, o, o, o, o, o, o, o, o, o, o, o, o, o, o, o, o, o, o, o, o,
  o, o, o, o, o, o, o, o],  [.code (cd 48 39), .code (cd 48 55), .code (cd 48 31)],  [],  .run,  .normal,  none⟩, [⟨19,  [p 8906 0, o, p 8923 0, p 8924 0,
  i 1, f, o, i 1, p 8906 0, f, o, p 8906 0, p 8906 0, p 8906 0, n 8901 0 1, n 8926 0 1, p 8906 0, p 8906 0, p 8906 4, i 1, p 8906 0, p 8906 0, p 8906 5, n 8905 0 2,
  n 8928 0 2, a [n 8926 0 1, z, z, i 1, n 8928 0 2], p 8906 0, p 8906 0, p 8906 1, n 8903 0 2, i 2, i 2, f, i 1, p 8903 1, f, f, o, o, o, o, o, o, i 2, p 8906 0,
  s 8929 0 1 1, i 1, i 0, t, p 8929 0, i 1, o, o, o, o, o, o, o, o, o, o, o, o, o, o, o, o, o, o],  [.inDraw ⟨opsOf (cd 19 13103),  [p 8906 0, o, p 8923 0,
  p 8924 0, i 1, f, o, i 1, p 8906 0, f, o, p 8906 0, p 8906 0, p 8906 0, n 8901 0 1, n 8926 0 1, p 8906 0, p 8906 0, p 8906 4, i 1, p 8906 0, p 8906 0, p 8906 5,
  n 8905 0 2, n 8928 0 2, a [n 8926 0 1, z, z, i 1, n 8928 0 2], p 8906 0, p 8906 0, p 8906 1, n 8903 0 2, i 2, i 2, f, i 1, p 8903 1, f, f, o, o, o, o, o,
  o, i 2, p 8906 0, s 8929 0 1 1, i 1, i 0, t, p 8929 0, i 1, o, o, o, o, o, o, o, o, o, o, o, o, o, o, o, o, o, o],  [some (p 8924 2), some (z), some (i 1),
  some (p 8906 0), some (p 8906 0), some (p 8906 2), some (m 8898), some (i 1), some (p 8922 0), some (p 8922 0), some (a [c 2, i 1, c 0, i 0, x [], z, i 0,
  z, i 0, i 0, i 0, i 0, c 0, f, z, z]), none, none, none, none, none, none],  [11, 14, 16]⟩, .inBlock 3, .code (cd 19 3887), .inLoop (cd 19 303), .inBlock 2,
  .code (cd 19 63)],  [],  .run,  .normal,  none⟩, ⟨20,  [p 2566 0, kc 56 [p 8897 0], k 33, o, o, o, zp, p 8906 0, o, o, o, o, o, o, o, o, p 2566 0, p 8906 0,
  p 8906 0, f, p 8906 0, o, o, o, o, o, o, o, o, o, o, o, o, o, o, o, o, o, o, o, o, o, o, o, o, o, o, o, o, o, o, o, o, o],  [.inRegion (ops 20 23) [1, 2,
  3], .code (cd 20 31)],  [],  .run,  .normal,  none⟩, u253, u233, u13], 8946, [(0,  q [y, y] 24), b0, (2,  q [zp, p 1 0] 31), (3,  q [i 0] 22), (4,  q [f,
  f] 4), (5,  q [i 0, i 0] 3), (6,  .map [] 0), (7,  .map [] 0), (9,  q [i 0] 22), b1, (11,  .map [] 0), (12,  .map [] 0), (14,  q [i 0] 22), (16,  q [f, f] 4),
  (18,  q [i 0, i 0] 3), b2, (21,  .map [] 0), (22,  .map [] 0), (24,  q [i 0] 22), (26,  q [f, f] 4), (28,  q [i 0, i 0] 3), b3, b4, (50,  q [y, y] 24), (52,
   q [y, y] 24), (53,  q [y, y] 24), (64,  q [y, y] 24), b5, (74,  .map [] 0), (75,  .map [] 0), (77,  q [i 0] 22), (79,  q [f, f] 4), (81,  q [i 0, i 0] 3),
  b6, (84,  .map [] 0), (85,  .map [] 0), (87,  q [i 0] 22), (89,  q [f, f] 4), (91,  q [i 0, i 0] 3), b7, b8, b9, b10, b11, b12, (2135,  q [i 0] 22), (2136,
   q [f, f] 4), (2137,  q [i 0, i 1] 3), b14, (2139,  .map [] 0), (2141,  q [i 0] 22), b15, b16, b17, b18, (2197,  q [i 1] 60), (2198,  q [i 1] 60), b19, b20,
  (2301,  .map [] 0), (2303,  q [i 0] 22), (2305,  q [f, f] 4), (2307,  q [i 0, i 1] 3), b21, b22, b26, (2326,  .map [] 0), (2328,  q [i 0] 22), (2330,  q [f,
  f] 4), (2332,  q [i 0, i 1] 3), b23, b27, b28, b29, (2401,  q [i 1] 60), b30, b31, (2455,  q [i 1] 60), b32, b33, b34, (2509,  q [i 1] 60), b35, b36, (2563,
   q [i 1] 60), b37, b38, b58, (2976,  .map [] 0), (2978,  q [f] 4), (2980,  q [i 1] 3), b59, b60, b61, (2999,  .map [] 0), (3001,  q [f] 4), (3003,  q [i 1] 3),
  b62, b63, b65, b66, (3072,  q [i 1] 60), b67, b68, (3126,  q [i 1] 60), b69, b70, b71, (3180,  q [i 1] 60), b72, b73, (3234,  q [i 1] 60), b74, b75, (3239,
   q [i 1] 22), b76, b240, b254, (8665,  .map [] 0), (8667,  q [i 0] 22), (8669,  q [f, t] 4), (8671,  q [i 0, i 1] 3), b252, b255, b256, (8690,  .map [] 0),
  (8692,  q [i 0] 22), (8694,  q [f, t] 4), (8696,  q [i 0, i 1] 3), b257, b258, b259, (8734,  q [i 1] 60), b260, b261, (8788,  q [i 1] 60), b262, b263, (8811,
   q [i 1] 60), b264, b265, (8865,  q [i 1] 60), b266, b267, b268, (8870,  .map [] 0), (8872,  q [i 0] 22), (8874,  q [f, f] 4), (8876,  q [i 0, i 1] 3), b269,
  b270, (8895,  q [i 1] 22), b271, (8897,  q [i 1] 3), b272, (8899,  .map [] 0), (8901,  q [i 0] 22), (8903,  q [f, f] 4), (8905,  q [i 0, i 1] 3), b273, b274,
  (8923,  q [z, z, z, i 0, z] 69), (8924,  q [n 8926 0 1, z, z, i 1, n 8928 0 2] 69), (8926,  q [i 0] 22), (8928,  q [i 0, i 1] 3), (8929,  q [i 1] 60), (8932,
   q [c 2, i 1, c 0, i 0, x [], z, i 0, z, i 0, i 0, i 0, i 0, c 0, f, z, z] 80), (8933,  q [c 0, i 0, c 0, i 0, x [], z, i 0, z, i 0, i 0, i 0, i 0, c 0,
  f, z, z] 80)]⟩

noncomputable def u275 : BFrame := ⟨20,  [p 2566 0, kc 56 [p 8897 0], k 33, o, o, o, zp, p 8906 0, p 8948 0, p 8958 0, i 0, n 9127 0 2, i 1, p 9131 0, o, o, p 2566 0, p 8906 0, p 8906 0, f,
  p 8906 0, a [n 8926 0 1, z, n 8947 0 1, i 1, n 8928 0 2], kc 56 [p 8897 0], o, u [p 8958 0, i 0], a [n 8926 0 1, n 8950 0 1, n 8947 0 1, i 1, n 8928 0 2],
  u [p 8958 0, i 0], p 8958 0, i 0, i 0, f, p 2566 0, n 9127 0 2, n 9127 0 2, i 2, i 2, f, i 1, p 9127 4, a [i 1, n 9101 0 1, n 9123 0 1, n 9125 0 1], n 9127 0 2,
  i 1, k 33, a [i 1, n 9101 0 1, n 9123 0 1, n 9125 0 1], a [i 1, n 9101 0 1, n 9123 0 1, n 9125 0 1], p 9127 4, i 2, o, p 8958 0, n 9127 0 2, o, o, o, o],
   [.inRegion (ops 20 1535) [2, 3, 4, 5, 6, 7], .code (cd 20 2047)],  [],  .run,  .normal,  none⟩
noncomputable def b276 : Nat × BObj := (8947,  q [i 1, c 2, i 1, c 0, i 0, x [], z, i 0, z, i 0, i 0, i 0, i 0, c 0, f, z, z] 82)
noncomputable def b277 : Nat × BObj := (8948,  q [n 8926 0 1, n 8950 0 1, n 8947 0 1, i 1, n 8928 0 2] 69)
noncomputable def b278 : Nat × BObj := (8954,  .map [⟨i 1,  p 8997 0,  0⟩] 1)
noncomputable def b279 : Nat × BObj := (8958,  q [n 8957 0 1, s 8952 0 2 2, m 8954, m 8955, i 1, n 9019 0 2] 62)
noncomputable def b280 : Nat × BObj := (8997,  q [c 2, i 1, c 0, i 0, x [], z, i 0, z, i 0, i 0, i 0, i 0, c 0, f, z, z] 80)
noncomputable def b281 : Nat × BObj := (9047,  q [c 2, x [120], x [], c 1, c 0, c 4, i 0, x [108], z, c 0, i 0, x [], z, z, z, z, z] 109)
noncomputable def b282 : Nat × BObj := (9069,  q [x [108], c 4, i 0, x [], z, i 1] 101)
noncomputable def b283 : Nat × BObj := (9101,  q [c 2, x [120], x [], c 1, c 0, c 4, i 0, x [108], z, c 0, i 0, x [], z, z, z, z, z] 109)
noncomputable def b284 : Nat × BObj := (9123,  q [x [108], c 4, i 0, x [], z, i 1] 101)
noncomputable def b285 : Nat × BObj := (9127,  q [i 0, n 9047 0 1, n 9069 0 1, n 9071 0 1, i 1, n 9101 0 1, n 9123 0 1, n 9125 0 1] 52)
noncomputable def b286 : Nat × BObj := (9131,  q [i 1, n 9101 0 1, n 9123 0 1, n 9125 0 1] 52)
noncomputable def S37 : CState :=
  ⟨⟨234,  [a [c 4, i 0, x [108], z], p 9147 0, i 16, p 9148 0, p 9149 0, p 9150 0, f, p 9147 0, p 9147 0, i 512, i 511, p 9147 0, p 9147 0, p 9147 0, i 511,
  f, f, p 9148 0, c 4, t, t, p 9148 1, i 0, f, f, f, f, p 9148 0, c 4, t, t, p 9148 3, z, i 0, f, f, f, f, p 9148 0, c 4, t, t, p 9148 0, c 4, f, f, f, o,
  o, o, f, f, p 9148 0, c 4, f, f, f, f, o, o, o, o, t, t, p 9148 2, x [108], t, o, o, o, o, o, o, o, o, o, o, o],  [.inRegion (ops 234 10199) [3], .code (cd 234 107),
  .inBlock 0, .code (cd 234 31)],  [],  .run,  .normal,  none⟩, [⟨206,  [a [c 4, i 0, x [108], z], p 9146 0, f, p 9147 0, a [c 4, i 0, x [108], z], o],  [.inRegion (ops 206 11) [1,
  2], .code (cd 206 15)],  [],  .run,  .normal,  none⟩, ⟨204,  [a [c 2, x [120], x [], c 1, c 0, c 4, i 0, x [108], z, c 0, i 0, x [], z, z, z, z, z], p 9143 0,
  p 9144 0, f, o, p 9143 1, x [120], t, t, p 9143 3, c 1, t, t, t, p 9143 5, a [c 4, i 0, x [108], z], o, o, o, o, o, o, o, o, o, o, o, o, o, o, o, o, o, o,
  o, o, o, o, o, o, o, o, o, o, o, o, o, o],  [.inRegion (ops 204 5) [11, 12, 13, 14, 15, 16, 17, 18], .code (cd 204 7)],  [],  .run,  .normal,  none⟩, ⟨151,
   [a [c 2, x [120], x [], c 1, c 0, c 4, i 0, x [108], z, c 0, i 0, x [], z, z, z, z, z], p 9141 0, f, k 204, t, o, u [k 204, t], m 9142, p 9141 0, c 2, u [k 204,
  t], k 204, t, t, f, o, k 204, a [c 2, x [120], x [], c 1, c 0, c 4, i 0, x [108], z, c 0, i 0, x [], z, z, z, z, z], o, o, o, o, o, o, o, o, o, o, o, o,
  o, o, o, o, o, o, o, o, o, o, o, o, o, o, o, o, o, o, o, o, o, o, o, o, o, o, o, o, o, o, o, o, o, o, o, o, o, o, o, o, o, o, o, o, o, o, o, o, o, o, o,
  o, o, o, o, o, o, o, o, o, o, o, o, o, o, o, o, o, o, o, o],  [.inRegion (ops 151 23) [2, 3, 4, 5, 6, 7, 8], .code (cd 151 31)],  [],  .run,  .normal,  none⟩,
  ⟨150,  [i 0, i 0, a [c 2, x [120], x [], c 1, c 0, c 4, i 0, x [108], z, c 0, i 0, x [], z, z, z, z, z], p 9136 0, p 9137 0, o, o, p 9140 0, f, f, i 0, f,
  o, o, a [c 2, x [120], x [], c 1, c 0, c 4, i 0, x [108], z, c 0, i 0, x [], z, z, z, z, z], o, o, o, o, o],  [.inRegion (ops 150 89) [1, 2, 3], .code (cd 150 121),
  .inBlock 0, .code (cd 150 7)],  [],  .run,  .normal,  none⟩, ⟨149,  [n 9047 0 1, i 0, p 9138 0, kc 150 [p 9136 0, p 9137 0], o, o, o, o, f, o, p 9139 0,
  i 0, o, o, n 9047 0 1, i 1, i 0, t, p 9047 0, a [c 2, x [120], x [], c 1, c 0, c 4, i 0, x [108], z, c 0, i 0, x [], z, z, z, z, z], p 9138 0, p 9138 0,
  i 0, p 9138 0, p 9138 0, i 0, i 1, p 9138 0, i 0, f, f, kc 150 [p 9136 0, p 9137 0], i 0, i 0, a [c 2, x [120], x [], c 1, c 0, c 4, i 0, x [108], z, c 0,
  i 0, x [], z, z, z, z, z], o, o, o, o, o, o, o, o, o, o, o, o, o, o, o, o, o, o, o, o, o, o, o, o],  [.inRegion (ops 149 20069) [7, 8, 9], .code (cd 149 28261),
  .code (cd 149 15973), .inBlock 1, .code (cd 149 485), .inLoop (cd 149 37), .inBlock 0, .code (cd 149 7)],  [],  .run,  .normal,  none⟩, ⟨113,  [n 9047 0 1,
  o, p 9136 0, p 9137 0, p 9138 0, n 9047 0 1, kc 150 [p 9136 0, p 9137 0], o, o, o],  [.inRegion (ops 113 11) [2], .code (cd 113 15)],  [],  .run,  .normal,
   none⟩, ⟨74,  [n 9047 0 1, o, i 0, o, o, o, n 9047 0 1, o, o, o, o],  [.inRegion (ops 74 5) [1, 2, 3, 4, 5, 6], .code (cd 74 7)],  [],  .run,  .normal,  none⟩,
  ⟨42,  [n 9047 0 1, o, f, n 9047 0 1, o, o],  [.inRegion (ops 42 5) [1, 2, 3], .code (cd 42 7)],  [],  .run,  .normal,  none⟩, ⟨15,  [p 8958 0, a [i 0, n 9047 0 1,
  n 9069 0 1, n 9071 0 1], o, p 9135 0, i 0, o, o, o, o, o, o, o, p 8958 0, f, p 8958 0, p 9135 0, i 0, t, f, f, p 9135 1, n 9047 0 1, o, o, o, o, o, o, o,
  o, o, o, o, o, o, o, o, o, o, o, o, o, o, o, o, o, o, o, o, o, o, o, o, o, o, o, o, o, o, o, o, o, o, o, o, o, o, o, o, o, o, o, o, o, o, o, o, o, o, o,
  o, o, o, o, o, o, o, o, o, o, o, o],  [.inRegion (ops 15 19) [8, 9, 10, 11, 12, 13, 14, 15, 16], .code (cd 15 27), .code (cd 15 15)],  [],  .run,  .normal,
   none⟩, ⟨5,  [p 8958 0, n 9127 0 2, o, o, zp, i 0, o, p 9134 0, o, p 8958 0, f, f, p 8958 0, i 2, f, f, n 9127 0 2, i 2, f, n 9127 0 2, i 2, i 0, t, p 9127 0,
  a [i 0, n 9047 0 1, n 9069 0 1, n 9071 0 1], p 8958 0, a [i 0, n 9047 0 1, n 9069 0 1, n 9071 0 1], o, o, o, o, o, o, o, o, o, o, o, o, o, o, o],  [.inRegion (ops 5 10647) [2,
  3], .code (cd 5 14743), .inBlock 1, .code (cd 5 1943), .inLoop (cd 5 151), .inBlock 0, .code (cd 5 31)],  [],  .run,  .normal,  none⟩, u275, u253, u233,
  u13], 9152, [(0,  q [y, y] 24), b0, (2,  q [zp, p 1 0] 31), (3,  q [i 0] 22), (4,  q [f, f] 4), (5,  q [i 0, i 0] 3), (6,  .map [] 0), (7,  .map [] 0), (9,
   q [i 0] 22), b1, (11,  .map [] 0), (12,  .map [] 0), (14,  q [i 0] 22), (16,  q [f, f] 4), (18,  q [i 0, i 0] 3), b2, (21,  .map [] 0), (22,  .map [] 0),
  (24,  q [i 0] 22), (26,  q [f, f] 4), (28,  q [i 0, i 0] 3), b3, b4, (50,  q [y, y] 24), (52,  q [y, y] 24), (53,  q [y, y] 24), (64,  q [y, y] 24), b5,
  (74,  .map [] 0), (75,  .map [] 0), (77,  q [i 0] 22), (79,  q [f, f] 4), (81,  q [i 0, i 0] 3), b6, (84,  .map [] 0), (85,  .map [] 0), (87,  q [i 0] 22),
  (89,  q [f, f] 4), (91,  q [i 0, i 0] 3), b7, b8, b9, b10, b11, b12, (2135,  q [i 0] 22), (2136,  q [f, f] 4), (2137,  q [i 0, i 1] 3), b14, (2139,  .map [] 0),
  (2141,  q [i 0] 22), b15, b16, b17, b18, (2197,  q [i 1] 60), (2198,  q [i 1] 60), b19, b20, (2301,  .map [] 0), (2303,  q [i 0] 22), (2305,  q [f, f] 4),
  (2307,  q [i 0, i 1] 3), b21, b22, b26, (2326,  .map [] 0), (2328,  q [i 0] 22), (2330,  q [f, f] 4), (2332,  q [i 0, i 1] 3), b23, b27, b28, b29, (2401,
   q [i 1] 60), b30, b31, (2455,  q [i 1] 60), b32, b33, b34, (2509,  q [i 1] 60), b35, b36, (2563,  q [i 1] 60), b37, b38, b58, (2976,  .map [] 0), (2978,
   q [f] 4), (2980,  q [i 1] 3), b59, b60, b61, (2999,  .map [] 0), (3001,  q [f] 4), (3003,  q [i 1] 3), b62, b63, b65, b66, (3072,  q [i 1] 60), b67, b68,
  (3126,  q [i 1] 60), b69, b70, b71, (3180,  q [i 1] 60), b72, b73, (3234,  q [i 1] 60), b74, b75, (3239,  q [i 1] 22), b76, b240, b254, (8665,  .map [] 0),
  (8667,  q [i 0] 22), (8669,  q [f, t] 4), (8671,  q [i 0, i 1] 3), b252, b255, b256, (8690,  .map [] 0), (8692,  q [i 0] 22), (8694,  q [f, t] 4), (8696,
   q [i 0, i 1] 3), b257, b258, b259, (8734,  q [i 1] 60), b260, b261, (8788,  q [i 1] 60), b262, b263, (8811,  q [i 1] 60), b264, b265, (8865,  q [i 1] 60),
  b266, b267, b268, (8870,  .map [] 0), (8872,  q [i 0] 22), (8874,  q [f, f] 4), (8876,  q [i 0, i 1] 3), b269, b270, (8895,  q [i 1] 22), b271, (8897,  q [i 1] 3),
  b272, (8899,  .map [] 0), (8901,  q [i 0] 22), (8903,  q [f, f] 4), (8905,  q [i 0, i 1] 3), b273, b274, (8926,  q [i 0] 22), (8928,  q [i 0, i 1] 3), b276,
  b277, (8950,  q [i 1] 3), (8952,  q [f, t] 4), b278, (8955,  .map [] 0), (8957,  q [i 0] 22), b279, b280, (9019,  q [i 0, i 1] 3), b281, b282, (9071,  q [i 1] 60),
  b283, b284, (9125,  q [i 1] 60), b285, b286, (9134,  q [i 0, n 9047 0 1, n 9069 0 1, n 9071 0 1] 52), (9135,  q [i 0, n 9047 0 1, n 9069 0 1, n 9071 0 1] 52),
  (9136,  q [i 0] 3), (9137,  q [i 0] 32), (9138,  q [i 1] 3), (9139,  q [c 2, x [120], x [], c 1, c 0, c 4, i 0, x [108], z, c 0, i 0, x [], z, z, z, z, z] 109),
  (9140,  q [c 2, x [120], x [], c 1, c 0, c 4, i 0, x [108], z, c 0, i 0, x [], z, z, z, z, z] 109), (9141,  q [c 2, x [120], x [], c 1, c 0, c 4, i 0, x [108],
  z, c 0, i 0, x [], z, z, z, z, z] 109), (9142,  .map [⟨c 1,  k 202,  0⟩, ⟨c 2,  k 204,  1⟩, ⟨c 3,  k 207,  2⟩, ⟨c 4,  k 208,  3⟩, ⟨c 5,  k 209,  4⟩, ⟨c 6,
   k 210,  5⟩, ⟨c 7,  k 211,  6⟩, ⟨c 8,  k 212,  7⟩, ⟨c 9,  k 213,  8⟩] 9), (9143,  q [c 2, x [120], x [], c 1, c 0, c 4, i 0, x [108], z, c 0, i 0, x [],
  z, z, z, z, z] 109), (9144,  q [c 0, x [], x [], c 0, c 0, c 0, i 0, x [], z, c 0, i 0, x [], z, z, z, z, z] 109), (9146,  q [c 4, i 0, x [108], z] 106),
  (9147,  q [i 511] 3), (9148,  q [c 4, i 0, x [108], z] 106), (9149,  q [p 9147 0] 177), (9150,  q [i 16] 3)]⟩

noncomputable def b287 : Nat × BObj := (9234,  .map [⟨i 1,  p 9258 0,  0⟩] 1)
noncomputable def b288 : Nat × BObj := (9242,  q [n 9237 0 1, n 9239 0 2, m 9234, m 9235, i 1, n 9241 0 2] 62)
noncomputable def b289 : Nat × BObj := (9258,  q [c 2, i 1, c 0, i 0, x [], z, i 0, z, i 0, i 0, i 0, i 0, c 0, f, z, z] 80)
noncomputable def b290 : Nat × BObj := (9259,  .map [⟨i 1,  p 9283 0,  0⟩] 1)
noncomputable def b291 : Nat × BObj := (9267,  q [n 9262 0 1, n 9264 0 2, m 9259, m 9260, i 1, n 9266 0 2] 62)
noncomputable def b292 : Nat × BObj := (9283,  q [c 2, i 1, c 0, i 0, x [], z, i 0, z, i 0, i 0, i 0, i 0, c 0, f, z, z] 80)
noncomputable def b293 : Nat × BObj := (9311,  q [c 2, x [120], x [], c 1, c 0, c 4, i 0, x [108], z, c 0, i 0, x [], z, z, z, z, z] 109)
noncomputable def b294 : Nat × BObj := (9333,  q [x [108], c 4, i 0, x [], z, i 1] 101)
noncomputable def b295 : Nat × BObj := (9365,  q [c 2, x [120], x [], c 1, c 0, c 4, i 0, x [108], z, c 0, i 0, x [], z, z, z, z, z] 109)
noncomputable def S38 : CState :=
  ⟨⟨84,  [z, o, z, o, o, z, z, z, i 0, i 0, o, o, o, o, o, o, o, o, o, o, o],  [.code (cd 84 139), .code (cd 84 203), .inLoop (cd 84 75), .inBlock 0, .code (cd 84 15)],
   [],  .run,  .normal,  none⟩, [⟨120,  [a [c 2, x [120], x [], c 1, c 0, c 4, i 0, x [108], z, c 0, i 0, x [], z, z, z, z, z], p 9367 0, p 9368 0, p 9367 5,
  a [c 4, i 0, x [108], z], a [c 4, i 0, x [108], z], p 9367 9, a [c 0, i 0, x [], z], a [c 0, i 0, x [], z], p 9367 5, p 9367 9, o, o, o, o, o, o, o, o, o,
  o, o, o, o, o, o, o, o],  [.inDraw ⟨opsOf (cd 120 11),  [a [c 2, x [120], x [], c 1, c 0, c 4, i 0, x [108], z, c 0, i 0, x [], z, z, z, z, z], p 9367 0,
  p 9368 0, p 9367 5, a [c 4, i 0, x [108], z], a [c 4, i 0, x [108], z], p 9367 9, a [c 0, i 0, x [], z], a [c 0, i 0, x [], z], p 9367 5, p 9367 9, o, o,
  o, o, o, o, o, o, o, o, o, o, o, o, o, o, o],  [some (p 9367 13), some (z), some (z), some (p 9367 14), some (z), none, some (p 9367 15), some (z), none,
  some (p 9367 13), none, none, none, none, none],  [5, 8, 10, 12, 14]⟩, .code (cd 120 15)],  [],  .run,  .normal,  none⟩, ⟨84,  [n 9365 0 1, o, z, i 0, p 9366 0,
  n 9101 0 1, n 9365 0 1, n 9365 0 1, i 1, i 0, t, i 0, p 9365 0, a [c 2, x [120], x [], c 1, c 0, c 4, i 0, x [108], z, c 0, i 0, x [], z, z, z, z, z], n 9365 0 1,
  i 0, a [c 2, x [120], x [], c 1, c 0, c 4, i 0, x [108], z, c 0, i 0, x [], z, z, z, z, z], o, o, o, o],  [.inRegion (ops 84 3275) [3, 4, 5], .inBlock 1,
  .code (cd 84 971), .inLoop (cd 84 75), .inBlock 0, .code (cd 84 15)],  [],  .run,  .normal,  none⟩, ⟨50,  [n 9101 0 1, o, z, i 0, i 0, n 9101 0 1, i 0, i 0,
  f, o, n 9101 0 1, o],  [.inRegion (ops 50 11) [1, 2, 3], .code (cd 50 109)],  [],  .run,  .normal,  none⟩, ⟨17,  [n 9127 0 2, o, z, n 9337 0 1, o, p 9338 0,
  n 9127 0 2, i 2, i 1, t, p 9127 4, a [i 1, n 9101 0 1, n 9123 0 1, n 9125 0 1], u [n 9311 0 1, i 0], p 9338 1, n 9101 0 1, u [n 9311 0 1, i 0], n 9311 0 1,
  i 0, p 9284 1, p 9284 2, n 9069 0 1, n 9333 0 1, p 9284 2, p 9284 3, n 9071 0 1, n 9335 0 1, p 9284 3, z, a [i 0, n 9311 0 1, n 9333 0 1, n 9335 0 1], s 9336 0 1 1,
  n 9337 0 1, i 1, o],  [.inRegion (ops 17 5323) [2, 3, 4, 5, 6, 7], .code (cd 17 7371), .inBlock 1, .code (cd 17 971), .inLoop (cd 17 75), .inBlock 0, .code (cd 17 15)],
   [],  .run,  .normal,  none⟩, ⟨5,  [p 8958 0, n 9127 0 2, o, o, zp, i 0, o, p 9184 0, i 0, p 8958 0, f, f, p 8958 0, i 2, f, f, n 9127 0 2, i 2, f, n 9127 0 2,
  i 2, i 2, f, p 9127 4, a [i 1, n 9101 0 1, n 9123 0 1, n 9125 0 1], p 8958 0, a [i 1, n 9101 0 1, n 9123 0 1, n 9125 0 1], i 0, i 0, f, o, i 2, p 8958 0,
  p 9242 0, p 8958 0, p 9267 0, n 9127 0 2, o, o, o, o, o],  [.inRegion (ops 5 47) [5, 6, 7, 8, 9, 10, 11], .code (cd 5 53)],  [],  .run,  .normal,  none⟩,
  u275, u253, u233, u13], 9373, [(0,  q [y, y] 24), b0, (2,  q [zp, p 1 0] 31), (3,  q [i 0] 22), (4,  q [f, f] 4), (5,  q [i 0, i 0] 3), (6,  .map [] 0),
  (7,  .map [] 0), (9,  q [i 0] 22), b1, (11,  .map [] 0), (12,  .map [] 0), (14,  q [i 0] 22), (16,  q [f, f] 4), (18,  q [i 0, i 0] 3), b2, (21,  .map [] 0),
  (22,  .map [] 0), (24,  q [i 0] 22), (26,  q [f, f] 4), (28,  q [i 0, i 0] 3), b3, b4, (50,  q [y, y] 24), (52,  q [y, y] 24), (53,  q [y, y] 24), (64,  q [y,
  y] 24), b5, (74,  .map [] 0), (75,  .map [] 0), (77,  q [i 0] 22), (79,  q [f, f] 4), (81,  q [i 0, i 0] 3), b6, (84,  .map [] 0), (85,  .map [] 0), (87,
   q [i 0] 22), (89,  q [f, f] 4), (91,  q [i 0, i 0] 3), b7, b8, b9, b10, b11, b12, (2135,  q [i 0] 22), (2136,  q [f, f] 4), (2137,  q [i 0, i 1] 3), b14,
  (2139,  .map [] 0), (2141,  q [i 0] 22), b15, b16, b17, b18, (2197,  q [i 1] 60), (2198,  q [i 1] 60), b19, b20, (2301,  .map [] 0), (2303,  q [i 0] 22),
  (2305,  q [f, f] 4), (2307,  q [i 0, i 1] 3), b21, b22, b26, (2326,  .map [] 0), (2328,  q [i 0] 22), (2330,  q [f, f] 4), (2332,  q [i 0, i 1] 3), b23,
  b27, b28, b29, (2401,  q [i 1] 60), b30, b31, (2455,  q [i 1] 60), b32, b33, b34, (2509,  q [i 1] 60), b35, b36, (2563,  q [i 1] 60), b37, b38, b58, (2976,
   .map [] 0), (2978,  q [f] 4), (2980,  q [i 1] 3), b59, b60, b61, (2999,  .map [] 0), (3001,  q [f] 4), (3003,  q [i 1] 3), b62, b63, b65, b66, (3072,  q [i 1] 60),
  b67, b68, (3126,  q [i 1] 60), b69, b70, b71, (3180,  q [i 1] 60), b72, b73, (3234,  q [i 1] 60), b74, b75, (3239,  q [i 1] 22), b76, b240, b254, (8665,
   .map [] 0), (8667,  q [i 0] 22), (8669,  q [f, t] 4), (8671,  q [i 0, i 1] 3), b252, b255, b256, (8690,  .map [] 0), (8692,  q [i 0] 22), (8694,  q [f,
  t] 4), (8696,  q [i 0, i 1] 3), b257, b258, b259, (8734,  q [i 1] 60), b260, b261, (8788,  q [i 1] 60), b262, b263, (8811,  q [i 1] 60), b264, b265, (8865,
   q [i 1] 60), b266, b267, b268, (8870,  .map [] 0), (8872,  q [i 0] 22), (8874,  q [f, f] 4), (8876,  q [i 0, i 1] 3), b269, b270, (8895,  q [i 1] 22), b271,
  (8897,  q [i 1] 3), b272, (8899,  .map [] 0), (8901,  q [i 0] 22), (8903,  q [f, f] 4), (8905,  q [i 0, i 1] 3), b273, b274, (8926,  q [i 0] 22), (8928,
   q [i 0, i 1] 3), b276, b277, (8950,  q [i 1] 3), (8952,  q [f, t] 4), b278, (8955,  .map [] 0), (8957,  q [i 0] 22), b279, b280, (9019,  q [i 0, i 1] 3),
  b281, b282, (9071,  q [i 1] 60), b283, b284, (9125,  q [i 1] 60), b285, b286, (9184,  q [i 1, n 9101 0 1, n 9123 0 1, n 9125 0 1] 52), b287, (9235,  .map [] 0),
  (9237,  q [i 0] 22), (9239,  q [f, t] 4), (9241,  q [i 0, i 1] 3), b288, b289, b290, (9260,  .map [] 0), (9262,  q [i 0] 22), (9264,  q [f, t] 4), (9266,
   q [i 0, i 1] 3), b291, b292, (9284,  q [i 0, n 9311 0 1, n 9333 0 1, n 9335 0 1] 52), b293, b294, (9335,  q [i 1] 60), (9336,  q [i 0, n 9311 0 1, n 9333 0 1,
  n 9335 0 1] 52), (9337,  q [i 0, n 9311 0 1, n 9333 0 1, n 9335 0 1] 52), (9338,  q [i 1, n 9101 0 1, n 9123 0 1, n 9125 0 1] 52), b295, (9366,  q [c 2,
  x [120], x [], c 1, c 0, c 4, i 0, x [108], z, c 0, i 0, x [], z, z, z, z, z] 109), (9367,  q [c 2, x [120], x [], c 1, c 0, c 4, i 0, x [108], z, c 0, i 0,
  x [], z, z, z, z, z] 109), (9368,  q [c 0, x [], x [], c 0, c 0, c 0, i 0, x [], z, c 0, i 0, x [], z, z, z, z, z] 109)]⟩

noncomputable def b296 : Nat × BObj := (9387,  q [x [108], c 4, i 0, x [], z, i 1] 101)
noncomputable def b297 : Nat × BObj := (9391,  q [i 0, n 9311 0 1, n 9333 0 1, n 9335 0 1, i 1, n 9365 0 1, n 9387 0 1, n 9389 0 1] 52)
noncomputable def b298 : Nat × BObj := (9419,  q [c 2, x [120], x [], c 1, c 0, c 4, i 0, x [108], z, c 0, i 0, x [], z, z, z, z, z] 109)
noncomputable def b299 : Nat × BObj := (9441,  q [x [108], c 4, i 0, x [], z, i 1] 101)
noncomputable def b300 : Nat × BObj := (9473,  q [c 2, x [120], x [], c 1, c 0, c 4, i 0, x [108], z, c 0, i 0, x [], z, z, z, z, z] 109)
noncomputable def b301 : Nat × BObj := (9495,  q [x [108], c 4, i 0, x [], z, i 1] 101)
noncomputable def b302 : Nat × BObj := (9499,  q [i 0, n 9419 0 1, n 9441 0 1, n 9443 0 1, i 1, n 9473 0 1, n 9495 0 1, n 9497 0 1] 52)
noncomputable def b303 : Nat × BObj := (9500,  q [p 9242 0, p 9267 0, n 9391 0 2, n 9499 0 2, z] 30)
noncomputable def b304 : Nat × BObj := (9528,  q [c 2, x [120], x [], c 1, c 0, c 4, i 0, x [108], z, c 0, i 0, x [], z, z, z, z, z] 109)
noncomputable def b305 : Nat × BObj := (9550,  q [x [108], c 4, i 0, x [], z, i 1] 101)
noncomputable def b306 : Nat × BObj := (9582,  q [c 2, x [120], x [], c 1, c 0, c 4, i 0, x [108], z, c 0, i 0, x [], z, z, z, z, z] 109)
noncomputable def b307 : Nat × BObj := (9604,  q [x [108], c 4, i 0, x [], z, i 1] 101)
noncomputable def b308 : Nat × BObj := (9608,  q [i 0, n 9528 0 1, n 9550 0 1, n 9552 0 1, i 1, n 9582 0 1, n 9604 0 1, n 9606 0 1] 52)
noncomputable def S39 : CState :=
  ⟨⟨29,  [p 2566 0, o, z, p 2566 0, t, f, p 2566 0, p 2566 0, p 2566 3, n 2565 0 2, n 9608 0 2],  [.inRegion (ops 29 11) [5], .code (cd 29 53)],  [],  .run,
   .normal,  none⟩, [⟨10,  [p 2566 0, i 1, i 1, s 3240 0 2 2, o, o, o, o, i 0, i 0, f, i 0, n 8320 0 1, p 8868 0, i 0, p 8896 0, i 0, p 9500 0, o, u [n 8320 0 1,
  i 0], p 2566 0, i 1, i 1, s 3240 0 2 2, u [n 8320 0 1, i 0], n 8320 0 1, i 0, i 0, f, o, s 3240 0 2 2, i 2, f, u [p 8868 0, i 0], p 2566 0, i 1, i 1, u [p 8868 0,
  i 0], p 8868 0, i 0, u [n 8895 0 1, i 0], p 2566 0, p 8877 0, i 1, i 1, u [n 8895 0 1, i 0], n 8895 0 1, i 0, p 2566 0, i 1, kc 56 [p 8897 0], p 9500 0,
  p 2566 0, o, o, o, o, o, o, o, o, o, o, o, o, o, o, o, o],  [.inRegion (ops 10 383) [1, 2, 3], .code (cd 10 511)],  [],  .run,  .normal,  none⟩, u233, u13],
  9609, [(0,  q [y, y] 24), b0, (2,  q [zp, p 1 0] 31), (3,  q [i 0] 22), (4,  q [f, f] 4), (5,  q [i 0, i 0] 3), (6,  .map [] 0), (7,  .map [] 0), (9,  q [i 0] 22),
  b1, (11,  .map [] 0), (12,  .map [] 0), (14,  q [i 0] 22), (16,  q [f, f] 4), (18,  q [i 0, i 0] 3), b2, (21,  .map [] 0), (22,  .map [] 0), (24,  q [i 0] 22),
  (26,  q [f, f] 4), (28,  q [i 0, i 0] 3), b3, b4, (50,  q [y, y] 24), (52,  q [y, y] 24), (53,  q [y, y] 24), (64,  q [y, y] 24), b5, (74,  .map [] 0), (75,
   .map [] 0), (77,  q [i 0] 22), (79,  q [f, f] 4), (81,  q [i 0, i 0] 3), b6, (84,  .map [] 0), (85,  .map [] 0), (87,  q [i 0] 22), (89,  q [f, f] 4), (91,
   q [i 0, i 0] 3), b7, b8, b9, b10, b11, b12, (2135,  q [i 0] 22), (2136,  q [f, f] 4), (2137,  q [i 0, i 1] 3), b14, (2139,  .map [] 0), (2141,  q [i 0] 22),
  b15, b16, b17, b18, (2197,  q [i 1] 60), (2198,  q [i 1] 60), b19, b20, (2301,  .map [] 0), (2303,  q [i 0] 22), (2305,  q [f, f] 4), (2307,  q [i 0, i 1] 3),
  b21, b22, b26, (2326,  .map [] 0), (2328,  q [i 0] 22), (2330,  q [f, f] 4), (2332,  q [i 0, i 1] 3), b23, b27, b28, b29, (2401,  q [i 1] 60), b30, b31,
  (2455,  q [i 1] 60), b32, b33, b34, (2509,  q [i 1] 60), b35, b36, (2563,  q [i 1] 60), b37, b38, b58, (2976,  .map [] 0), (2978,  q [f] 4), (2980,  q [i 1] 3),
  b59, b60, b61, (2999,  .map [] 0), (3001,  q [f] 4), (3003,  q [i 1] 3), b62, b63, b65, b66, (3072,  q [i 1] 60), b67, b68, (3126,  q [i 1] 60), b69, b70,
  b71, (3180,  q [i 1] 60), b72, b73, (3234,  q [i 1] 60), b74, b75, (3239,  q [i 1] 22), b76, b240, b254, (8665,  .map [] 0), (8667,  q [i 0] 22), (8669,
   q [f, t] 4), (8671,  q [i 0, i 1] 3), b252, b255, b256, (8690,  .map [] 0), (8692,  q [i 0] 22), (8694,  q [f, t] 4), (8696,  q [i 0, i 1] 3), b257, b258,
  b259, (8734,  q [i 1] 60), b260, b261, (8788,  q [i 1] 60), b262, b263, (8811,  q [i 1] 60), b264, b265, (8865,  q [i 1] 60), b266, b267, b268, (8870,  .map [] 0),
  (8872,  q [i 0] 22), (8874,  q [f, f] 4), (8876,  q [i 0, i 1] 3), b269, b270, (8895,  q [i 1] 22), b271, (8897,  q [i 1] 3), b287, (9235,  .map [] 0), (9237,
   q [i 0] 22), (9239,  q [f, t] 4), (9241,  q [i 0, i 1] 3), b288, b289, b290, (9260,  .map [] 0), (9262,  q [i 0] 22), (9264,  q [f, t] 4), (9266,  q [i 0,
  i 1] 3), b291, b292, b293, b294, (9335,  q [i 1] 60), b295, b296, (9389,  q [i 1] 60), b297, b298, b299, (9443,  q [i 1] 60), b300, b301, (9497,  q [i 1] 60),
  b302, b303, b304, b305, (9552,  q [i 1] 60), b306, b307, (9606,  q [i 1] 60), b308]⟩

noncomputable def u309 : BFrame := ⟨31,  [p 9500 0, s 3240 0 2 2, o, o, z, o, o, o, o, o, o, p 9500 0, o, o, o, o, o, o, o, o, o, o, o, o, o, o, o, o, o, o, o, o, o, o, o, o, o, o, o, o, o,
  o, o, o, o],  [.inRegion (ops 31 5) [1, 2], .code (cd 31 7)],  [],  .run,  .normal,  none⟩
noncomputable def u310 : BFrame := ⟨10,  [p 2566 0, i 1, i 1, s 3240 0 2 2, o, o, o, o, i 0, i 0, f, i 0, n 8320 0 1, p 8868 0, i 0, p 8896 0, i 0, p 9500 0, p 9609 0, u [n 8320 0 1, i 0],
  p 2566 0, i 1, i 1, s 3240 0 2 2, u [n 8320 0 1, i 0], n 8320 0 1, i 0, i 0, f, o, s 3240 0 2 2, i 2, f, u [p 8868 0, i 0], p 2566 0, i 1, i 1, u [p 8868 0,
  i 0], p 8868 0, i 0, u [n 8895 0 1, i 0], p 2566 0, p 8877 0, i 1, i 1, u [n 8895 0 1, i 0], n 8895 0 1, i 0, p 2566 0, i 1, kc 56 [p 8897 0], p 9500 0,
  p 2566 0, n 9608 0 2, o, p 9500 0, s 3240 0 2 2, o, o, o, o, o, o, o, o, o, o, o, o],  [.inRegion (ops 10 767) [2, 3, 4, 5, 6, 7, 8, 9, 10, 11, 12, 13, 14],
  .code (cd 10 1023)],  [],  .run,  .normal,  none⟩
noncomputable def b311 : Nat × BObj := (9609,  q [n 9608 0 2] 27)
noncomputable def b312 : Nat × BObj := (9610,  .map [⟨i 1,  p 9634 0,  0⟩] 1)
noncomputable def b313 : Nat × BObj := (9618,  q [n 9613 0 1, n 9615 0 2, m 9610, m 9611, i 1, n 9617 0 2] 62)
noncomputable def b314 : Nat × BObj := (9634,  q [c 2, i 1, c 0, i 0, x [], z, i 0, z, i 0, i 0, i 0, i 0, c 0, f, z, z] 80)
noncomputable def b315 : Nat × BObj := (9661,  q [i 1, c 2, i 1, c 0, i 0, x [], z, i 0, z, i 0, i 0, i 0, i 0, c 0, f, z, z] 82)
noncomputable def b316 : Nat × BObj := (9662,  q [n 9638 0 1, n 9642 0 1, n 9661 0 1, i 1, n 9640 0 2] 69)
noncomputable def b317 : Nat × BObj := (9666,  .map [⟨i 1,  p 9709 0,  0⟩] 1)
noncomputable def b318 : Nat × BObj := (9670,  q [n 9669 0 1, s 9664 0 2 2, m 9666, m 9667, i 1, n 9731 0 2] 62)
noncomputable def b319 : Nat × BObj := (9709,  q [c 2, i 1, c 0, i 0, x [], z, i 0, z, i 0, i 0, i 0, i 0, c 0, f, z, z] 80)
noncomputable def b320 : Nat × BObj := (9759,  q [c 2, x [120], x [], c 1, c 0, c 4, i 0, x [108], z, c 0, i 0, x [], z, z, z, z, z] 109)
noncomputable def b321 : Nat × BObj := (9781,  q [x [108], c 4, i 0, x [], z, i 1] 101)
noncomputable def b322 : Nat × BObj := (9813,  q [c 2, x [120], x [], c 1, c 0, c 4, i 0, x [108], z, c 0, i 0, x [], z, z, z, z, z] 109)
noncomputable def S40 : CState :=
  ⟨⟨152,  [p 9828 0, a [c 4, i 0, x [], z, i 1], o, p 9829 0, f, p 9830 0, o, o, p 9828 0, p 9828 0, p 9828 0, i 512, f, p 9828 0, p 9828 0, p 9828 0, i 512,
  i 511, p 9828 0, p 9828 0, a [c 4, i 0, x [], z, i 1], p 9829 0, c 4, f, f, f, f, o, o, f, o, o, o, o, o, o, o, o, o, o, o, o, o, o, o, o, o, o, o, o, o,
  o, o, o, o, o, o, o, o, o, o, o, o, o, o, o, o, o, o, o, o, o, o, o, o, o, o, o, o, o, o, o, o, o, o, o, o, o, o, o, o, o, o, o, o, o, o, o, o, o, o, o,
  o, o],  [.inRegion (ops 152 6063) [1], .code (cd 152 8111), .inBlock 0, .code (cd 152 63)],  [],  .run,  .normal,  none⟩, [⟨114,  [a [c 4, i 0, x [], z,
  i 1], p 9827 0, i 0, p 9828 0, a [i 512, i 16], p 9828 0, p 9828 0, a [c 4, i 0, x [], z, i 1], o, o, o, o, o, o, o],  [.inRegion (ops 114 19) [2, 3], .code (cd 114 27),
  .code (cd 114 15)],  [],  .run,  .normal,  none⟩, ⟨76,  [a [c 4, i 0, x [], z, i 1], p 9826 0, f, a [c 4, i 0, x [], z, i 1], o, o],  [.inRegion (ops 76 5) [1,
  2, 3], .code (cd 76 7)],  [],  .run,  .normal,  none⟩, ⟨116,  [a [c 4, i 0, x [], z, i 1], p 9824 0, p 9825 0, i 0, a [c 4, i 0, x [], z, i 1], o, o, o,
  o, o],  [.inRegion (ops 116 9) [1, 2], .code (cd 116 13), .code (cd 116 7)],  [],  .run,  .normal,  none⟩, ⟨85,  [a [c 4, i 0, x [], z, i 1], p 9822 0, p 9823 0,
  o, o, o, a [c 4, i 0, x [], z, i 1], o, o, o, o, o, o, o],  [.inRegion (ops 85 9) [1, 2, 3, 4, 5, 6, 7], .code (cd 85 13), .code (cd 85 7)],  [],  .run,
   .normal,  none⟩, ⟨51,  [n 9495 0 1, o, z, z, o, p 9821 0, n 9495 0 1, i 1, i 0, t, p 9495 0, a [x [108], c 4, i 0, x [], z, i 1], o, o, o, o, o, o, o, o,
  o, o, o],  [.inDraw ⟨opsOf (cd 51 3275),  [n 9495 0 1, o, z, z, o, p 9821 0, n 9495 0 1, i 1, i 0, t, p 9495 0, a [x [108], c 4, i 0, x [], z, i 1], o, o,
  o, o, o, o, o, o, o, o, o],  [some (z), some (p 9821 0), some (x [108]), some (p 9821 1), some (a [c 4, i 0, x [], z, i 1]), none, none, none, none, none],
   [5, 8]⟩, .inBlock 1, .code (cd 51 971), .inLoop (cd 51 75), .inBlock 0, .code (cd 51 15)],  [],  .run,  .normal,  none⟩, ⟨17,  [n 9499 0 2, o, z, n 9785 0 1,
  o, p 9786 0, n 9499 0 2, i 2, i 1, t, p 9499 4, a [i 1, n 9473 0 1, n 9495 0 1, n 9497 0 1], u [n 9813 0 1, i 0], p 9786 1, n 9473 0 1, u [n 9813 0 1, i 0],
  n 9813 0 1, i 0, p 9786 1, p 9786 2, n 9495 0 1, n 9781 0 1, p 9732 2, p 9732 3, n 9443 0 1, n 9783 0 1, p 9732 3, z, a [i 0, n 9759 0 1, n 9781 0 1, n 9783 0 1],
  s 9784 0 1 1, n 9785 0 1, i 1, o],  [.inRegion (ops 17 11467) [2, 3, 4], .code (cd 17 15563), .inBlock 1, .code (cd 17 971), .inLoop (cd 17 75), .inBlock 0,
  .code (cd 17 15)],  [],  .run,  .normal,  none⟩, ⟨29,  [p 9500 0, o, z, p 9500 0, t, f, p 9500 0, p 9500 0, p 9500 3, n 9499 0 2, o],  [.inRegion (ops 29 11) [4,
  5], .code (cd 29 53)],  [],  .run,  .normal,  none⟩, ⟨20,  [p 9500 0, k 61, k 62, o, o, o, zp, p 9618 0, p 9662 0, p 9670 0, i 0, o, o, o, o, o, p 9500 0,
  p 9618 0, p 9618 0, f, p 9618 0, a [n 9638 0 1, n 9642 0 1, n 9661 0 1, i 1, n 9640 0 2], k 61, o, u [p 9670 0, i 0], a [n 9638 0 1, n 9642 0 1, n 9661 0 1,
  i 1, n 9640 0 2], u [p 9670 0, i 0], p 9670 0, i 0, i 0, f, p 9500 0, o, o, o, o, o, o, o, o, o, o, o, o, o, o, o, o, o, o, o, o, o, o],  [.inRegion (ops 20 383) [1,
  2], .code (cd 20 511)],  [],  .run,  .normal,  none⟩, u309, u310, u233, u13], 9831, [(0,  q [y, y] 24), b0, (2,  q [zp, p 1 0] 31), (3,  q [i 0] 22), (4,
   q [f, f] 4), (5,  q [i 0, i 0] 3), (6,  .map [] 0), (7,  .map [] 0), (9,  q [i 0] 22), b1, (11,  .map [] 0), (12,  .map [] 0), (14,  q [i 0] 22), (16,  q [f,
  f] 4), (18,  q [i 0, i 0] 3), b2, (21,  .map [] 0), (22,  .map [] 0), (24,  q [i 0] 22), (26,  q [f, f] 4), (28,  q [i 0, i 0] 3), b3, b4, (50,  q [y, y] 24),
  (52,  q [y, y] 24), (53,  q [y, y] 24), (64,  q [y, y] 24), b5, (74,  .map [] 0), (75,  .map [] 0), (77,  q [i 0] 22), (79,  q [f, f] 4), (81,  q [i 0, i 0] 3),
  b6, (84,  .map [] 0), (85,  .map [] 0), (87,  q [i 0] 22), (89,  q [f, f] 4), (91,  q [i 0, i 0] 3), b7, b8, b9, b10, b11, b12, (2135,  q [i 0] 22), (2136,
   q [f, f] 4), (2137,  q [i 0, i 1] 3), b14, (2139,  .map [] 0), (2141,  q [i 0] 22), b15, b16, b17, b18, (2197,  q [i 1] 60), (2198,  q [i 1] 60), b19, b20,
  (2301,  .map [] 0), (2303,  q [i 0] 22), (2305,  q [f, f] 4), (2307,  q [i 0, i 1] 3), b21, b22, b26, (2326,  .map [] 0), (2328,  q [i 0] 22), (2330,  q [f,
  f] 4), (2332,  q [i 0, i 1] 3), b23, b27, b28, b29, (2401,  q [i 1] 60), b30, b31, (2455,  q [i 1] 60), b32, b33, b34, (2509,  q [i 1] 60), b35, b36, (2563,
   q [i 1] 60), b37, b38, b58, (2976,  .map [] 0), (2978,  q [f] 4), (2980,  q [i 1] 3), b59, b60, b61, (2999,  .map [] 0), (3001,  q [f] 4), (3003,  q [i 1] 3),
  b62, b63, b65, b66, (3072,  q [i 1] 60), b67, b68, (3126,  q [i 1] 60), b69, b70, b71, (3180,  q [i 1] 60), b72, b73, (3234,  q [i 1] 60), b74, b75, (3239,
   q [i 1] 22), b76, b240, b254, (8665,  .map [] 0), (8667,  q [i 0] 22), (8669,  q [f, t] 4), (8671,  q [i 0, i 1] 3), b252, b255, b256, (8690,  .map [] 0),
  (8692,  q [i 0] 22), (8694,  q [f, t] 4), (8696,  q [i 0, i 1] 3), b257, b258, b259, (8734,  q [i 1] 60), b260, b261, (8788,  q [i 1] 60), b262, b263, (8811,
   q [i 1] 60), b264, b265, (8865,  q [i 1] 60), b266, b267, b268, (8870,  .map [] 0), (8872,  q [i 0] 22), (8874,  q [f, f] 4), (8876,  q [i 0, i 1] 3), b269,
  b270, (8895,  q [i 1] 22), b271, (8897,  q [i 1] 3), b287, (9235,  .map [] 0), (9237,  q [i 0] 22), (9239,  q [f, t] 4), (9241,  q [i 0, i 1] 3), b288, b289,
  b290, (9260,  .map [] 0), (9262,  q [i 0] 22), (9264,  q [f, t] 4), (9266,  q [i 0, i 1] 3), b291, b292, b293, b294, (9335,  q [i 1] 60), b295, b296, (9389,
   q [i 1] 60), b297, b298, b299, (9443,  q [i 1] 60), b300, b301, (9497,  q [i 1] 60), b302, b303, b304, b305, (9552,  q [i 1] 60), b306, b307, (9606,  q [i 1] 60),
  b308, b311, b312, (9611,  .map [] 0), (9613,  q [i 0] 22), (9615,  q [f, t] 4), (9617,  q [i 0, i 1] 3), b313, b314, (9638,  q [i 0] 22), (9640,  q [i 0,
  i 1] 3), (9642,  q [i 1] 3), b315, b316, (9664,  q [f, t] 4), b317, (9667,  .map [] 0), (9669,  q [i 0] 22), b318, b319, (9731,  q [i 0, i 1] 3), (9732,
   q [i 0, n 9759 0 1, n 9781 0 1, n 9783 0 1] 52), b320, b321, (9783,  q [i 1] 60), (9784,  q [i 0, n 9759 0 1, n 9781 0 1, n 9783 0 1] 52), (9785,  q [i 0,
  n 9759 0 1, n 9781 0 1, n 9783 0 1] 52), (9786,  q [i 1, n 9813 0 1, n 9495 0 1, n 9497 0 1] 52), b322, (9821,  q [x [108], c 4, i 0, x [], z, i 1] 101),
  (9822,  q [c 4, i 0, x [], z, i 1] 77), (9823,  q [c 0, i 0, x [], z, i 0] 77), (9824,  q [c 4, i 0, x [], z, i 1] 77), (9825,  q [c 0, i 0, x [], z, i 0] 77),
  (9826,  q [c 4, i 0, x [], z, i 1] 77), (9827,  q [c 4, i 0, x [], z, i 1] 77), (9828,  q [i 511, i 16] 229), (9829,  q [c 4, i 0, x [], z, i 1] 77), (9830,
   q [c 4, i 0, x [], z, i 1] 77)]⟩

end Go.Proofs.YtabfeencbambmaaGreatDoor.twinNil
