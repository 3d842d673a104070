/- The states at which the run of the law is cut; printed by a program of our own; s: the bytes of the argument. -/
import Derived.Test.YtddgjcpngipbnaaGreatPosE
import Derived.Test.YtddgjcpngipbnaaGreatW
namespace Go.Proofs.YtddgjcpngipbnaaGreat.snapNone
open Go Go.PB Go.PB.W
set_option linter.unusedVariables false

noncomputable def cd (f n : Nat) : Code := codeC Tryz.prog f n
noncomputable def ops (f n : Nat) : Array Oper := opsOf (cd f n)

noncomputable def S0 (s : List UInt8) : CState := startC Tryz.prog 3 [.str s]

noncomputable def S1 (q0 : List UInt8) : CState :=
  ⟨⟨7,  [.str q0, o, o, o, o, o, o, o, o, o, o, o, o, o, o, o, o, o, o],  [.code (cd 7 1)],  [],  .run,  .normal,  none⟩,  [⟨3,  [.str q0, o, f, x [], i 1,
  x [], i 1, x [], i 1, x [], i 1, zp, z, i 1, zp, z, i 1, u [x [], i 1], u [x [], i 1], x [], i 1, u [x [], i 1], a [zp, zp, z, z, z], p 2 0, u [x [], i 1],
  x [], i 1, u [x [], i 1], u [x [], i 1], x [], i 1, u [x [], i 1], a [z, z, zm, zm, i 0, z], p 6 0, u [x [], i 1], x [], i 1, u [zp, z, i 1], u [zp, z, i 1],
  zp, z, i 1, u [zp, z, i 1], a [zp, zp, z, z, z], p 9 0, u [zp, z, i 1], zp, z, i 1, x [], t, t, i 1, t, t, t, x [], t, t, t, i 1, t, t, t, x [], t, t, t,
  i 1, t, t, t, x [], t, t, t, i 1, t, t, t, zp, t, t, t, z, i 0, t, t, t, i 1, t, t, t, zp, t, t, t, z, i 0, t, t, t, i 1, t, t, t, .str q0, o, o, o, o, o,
  o, o, o],  [.inRegion (ops 3 383) [58, 59, 60, 61, 62, 63, 64, 65, 66], .code (cd 3 511)],  [],  .run,  .normal,  none⟩],  11,  [(2,  q [zp, zp, z, z, z] 30),
  (6,  q [z, z, zm, zm, i 0, z] 39), (9,  q [zp, zp, z, z, z] 30)]⟩

noncomputable def S2 (q0 : List UInt8) : CState :=
  ⟨⟨3,  [.str q0, o, f, x [], i 1, x [], i 1, x [], i 1, x [], i 1, zp, z, i 1, zp, z, i 1, u [x [], i 1], u [x [], i 1], x [], i 1, u [x [], i 1], a [zp,
  zp, z, z, z], p 2 0, u [x [], i 1], x [], i 1, u [x [], i 1], u [x [], i 1], x [], i 1, u [x [], i 1], a [z, z, zm, zm, i 0, z], p 6 0, u [x [], i 1], x [],
  i 1, u [zp, z, i 1], u [zp, z, i 1], zp, z, i 1, u [zp, z, i 1], a [zp, zp, z, z, z], p 9 0, u [zp, z, i 1], zp, z, i 1, x [], t, t, i 1, t, t, t, x [],
  t, t, t, i 1, t, t, t, x [], t, t, t, i 1, t, t, t, x [], t, t, t, i 1, t, t, t, zp, t, t, t, z, i 0, t, t, t, i 1, t, t, t, zp, t, t, t, z, i 0, t, t, t,
  i 1, t, t, t, .str q0, .int .u64 (sumF q0), o, o, o, o, o, o, o],  [.inRegion (ops 3 383) [59, 60, 61, 62, 63, 64, 65, 66], .code (cd 3 511)],  [],  .run,
   .normal,  none⟩,  [],  11,  [(2,  q [zp, zp, z, z, z] 30), (6,  q [z, z, zm, zm, i 0, z] 39), (9,  q [zp, zp, z, z, z] 30)]⟩

noncomputable def S3 (q0 : List UInt8) : CState :=
  ⟨⟨8,  [.str q0, o, o, o, o, o, o, o, o, o, o, o, o, o, o, o, o, o, o],  [.code (cd 8 1)],  [],  .run,  .normal,  none⟩,  [⟨3,  [.str q0, o, f, x [], i 1,
  x [], i 1, x [], i 1, x [], i 1, zp, z, i 1, zp, z, i 1, u [x [], i 1], u [x [], i 1], x [], i 1, u [x [], i 1], a [zp, zp, z, z, z], p 2 0, u [x [], i 1],
  x [], i 1, u [x [], i 1], u [x [], i 1], x [], i 1, u [x [], i 1], a [z, z, zm, zm, i 0, z], p 6 0, u [x [], i 1], x [], i 1, u [zp, z, i 1], u [zp, z, i 1],
  zp, z, i 1, u [zp, z, i 1], a [zp, zp, z, z, z], p 9 0, u [zp, z, i 1], zp, z, i 1, x [], t, t, i 1, t, t, t, x [], t, t, t, i 1, t, t, t, x [], t, t, t,
  i 1, t, t, t, x [], t, t, t, i 1, t, t, t, zp, t, t, t, z, i 0, t, t, t, i 1, t, t, t, zp, t, t, t, z, i 0, t, t, t, i 1, t, t, t, .str q0, .int .u64 (sumF q0),
  .str q0, o, o, o, o, o, o],  [.inRegion (ops 3 383) [60, 61, 62, 63, 64, 65, 66], .code (cd 3 511)],  [],  .run,  .normal,  none⟩],  11,  [(2,  q [zp, zp,
  z, z, z] 30), (6,  q [z, z, zm, zm, i 0, z] 39), (9,  q [zp, zp, z, z, z] 30)]⟩

noncomputable def S4 (q0 : List UInt8) : CState :=
  ⟨⟨3,  [.str q0, o, f, x [], i 1, x [], i 1, x [], i 1, x [], i 1, zp, z, i 1, zp, z, i 1, u [x [], i 1], u [x [], i 1], x [], i 1, u [x [], i 1], a [zp,
  zp, z, z, z], p 2 0, u [x [], i 1], x [], i 1, u [x [], i 1], u [x [], i 1], x [], i 1, u [x [], i 1], a [z, z, zm, zm, i 0, z], p 6 0, u [x [], i 1], x [],
  i 1, u [zp, z, i 1], u [zp, z, i 1], zp, z, i 1, u [zp, z, i 1], a [zp, zp, z, z, z], p 9 0, u [zp, z, i 1], zp, z, i 1, x [], t, t, i 1, t, t, t, x [],
  t, t, t, i 1, t, t, t, x [], t, t, t, i 1, t, t, t, x [], t, t, t, i 1, t, t, t, zp, t, t, t, z, i 0, t, t, t, i 1, t, t, t, zp, t, t, t, z, i 0, t, t, t,
  i 1, t, t, t, .str q0, .int .u64 (sumF q0), .str q0, .int .u64 (sumF q0), o, o, o, o, o],  [.inRegion (ops 3 383) [61, 62, 63, 64, 65, 66], .code (cd 3 511)],
   [],  .run,  .normal,  none⟩,  [],  11,  [(2,  q [zp, zp, z, z, z] 30), (6,  q [z, z, zm, zm, i 0, z] 39), (9,  q [zp, zp, z, z, z] 30)]⟩

noncomputable def S5 (q0 : List UInt8) (b : Bool) : CState :=
  ⟨⟨3,  [.str q0, o, f, x [], i 1, x [], i 1, x [], i 1, x [], i 1, zp, z, i 1, zp, z, i 1, u [x [], i 1], u [x [], i 1], x [], i 1, u [x [], i 1], a [zp,
  zp, z, z, z], p 2 0, u [x [], i 1], x [], i 1, u [x [], i 1], u [x [], i 1], x [], i 1, u [x [], i 1], a [z, z, zm, zm, i 0, z], p 6 0, u [x [], i 1], x [],
  i 1, u [zp, z, i 1], u [zp, z, i 1], zp, z, i 1, u [zp, z, i 1], a [zp, zp, z, z, z], p 9 0, u [zp, z, i 1], zp, z, i 1, x [], t, t, i 1, t, t, t, x [],
  t, t, t, i 1, t, t, t, x [], t, t, t, i 1, t, t, t, x [], t, t, t, i 1, t, t, t, zp, t, t, t, z, i 0, t, t, t, i 1, t, t, t, zp, t, t, t, z, i 0, t, t, t,
  i 1, t, t, t, .str q0, .int .u64 (sumF q0), .str q0, .int .u64 (sumF q0), .bool b, o, o, o, o],  [.inRegion (ops 3 383) [62, 63, 64, 65, 66], .code (cd 3 511)],
   [],  .run,  .normal,  none⟩,  [],  11,  [(2,  q [zp, zp, z, z, z] 30), (6,  q [z, z, zm, zm, i 0, z] 39), (9,  q [zp, zp, z, z, z] 30)]⟩

noncomputable def S6 (q0 : List UInt8) : CState :=
  ⟨⟨141,  [p 60 0, i 4, .func (.func 142) [p 60 0] [], o, o, o, z, i 1, z, p 60 0, i 1, i 1, p 60 0, p 60 0, p 60 0, x [0, 0, 0, 0, 0, 0, 0, 0], i 8, i 4,
  i 2, f, o, i 1, i 0, t, z, .func (.func 142) [p 60 0] [], o, o, o, o, o],  [.inRegion (ops 141 4911) [2, 3, 4, 5], .inBlock 1, .code (cd 141 3887), .inLoop (cd 141 303),
  .inBlock 0, .code (cd 141 63)],  [],  .run,  .normal,  none⟩,  [⟨70,  [p 60 0, o, p 61 0, p 62 0, p 60 0, p 60 0, .func (.func 140) [p 60 0] [], z, p 62 0,
  p 60 0, p 60 0, .func (.func 142) [p 60 0] [], z, p 62 1, p 60 0, i 0, p 62 3, p 60 0, p 60 0, .func (.func 142) [p 60 0] [], o, o, o, o, o, o, o, o],  [.inRegion (ops 70 95) [3,
  4, 5], .code (cd 70 127)],  [],  .run,  .normal,  none⟩, ⟨69,  [p 60 0, p 56 0, o, p 60 0, o],  [.inRegion (ops 69 1) [1, 2]],  [],  .run,  .normal,  none⟩,
  ⟨68,  [x [112, 111, 115, 116, 101, 114, 110, 10, 119, 0, 0, 0, 0, 0, 0, 0, 0, 0, 0, 0, 0, 0, 0, 0, 1, 0, 0, 0, 0, 0, 0, 0, 0, 30, 122, 251, 115, 251, 157,
  79, 166], c 119, kc 69 [p 56 0], o, o, o, p 57 0, i 33, p 58 0, p 60 0, x [112, 111, 115, 116, 101, 114, 110, 10, 119, 0, 0, 0, 0, 0, 0, 0, 0, 0, 0, 0, 0,
  0, 0, 0, 1, 0, 0, 0, 0, 0, 0, 0, 0, 30, 122, 251, 115, 251, 157, 79, 166], i 41, f, x [112, 111, 115, 116, 101, 114, 110, 10, 119, 0, 0, 0, 0, 0, 0, 0, 0,
  0, 0, 0, 0, 0, 0, 0, 1, 0, 0, 0, 0, 0, 0, 0, 0, 30, 122, 251, 115, 251, 157, 79, 166], i 41, f, f, x [112, 111, 115, 116, 101, 114, 110, 10, 119, 0, 0, 0,
  0, 0, 0, 0, 0, 0, 0, 0, 0, 0, 0, 0, 1, 0, 0, 0, 0, 0, 0, 0, 0, 30, 122, 251, 115, 251, 157, 79, 166], x [112, 111, 115, 116, 101, 114, 110, 10], f, f, f,
  x [112, 111, 115, 116, 101, 114, 110, 10, 119, 0, 0, 0, 0, 0, 0, 0, 0, 0, 0, 0, 0, 0, 0, 0, 1, 0, 0, 0, 0, 0, 0, 0, 0, 30, 122, 251, 115, 251, 157, 79, 166],
  c 119, c 119, f, f, x [112, 111, 115, 116, 101, 114, 110, 10, 119, 0, 0, 0, 0, 0, 0, 0, 0, 0, 0, 0, 0, 0, 0, 0, 1, 0, 0, 0, 0, 0, 0, 0, 0, 30, 122, 251,
  115, 251, 157, 79, 166], i 41, i 33, x [112, 111, 115, 116, 101, 114, 110, 10, 119, 0, 0, 0, 0, 0, 0, 0, 0, 0, 0, 0, 0, 0, 0, 0, 1, 0, 0, 0, 0, 0, 0, 0,
  0, 30, 122, 251, 115, 251, 157, 79, 166], i 33, x [30, 122, 251, 115, 251, 157, 79, 166], a [x [30, 122, 251, 115, 251, 157, 79, 166]], p 58 0, p 58 0, v 2196344243857739686,
  x [112, 111, 115, 116, 101, 114, 110, 10, 119, 0, 0, 0, 0, 0, 0, 0, 0, 0, 0, 0, 0, 0, 0, 0, 1, 0, 0, 0, 0, 0, 0, 0, 0, 30, 122, 251, 115, 251, 157, 79, 166],
  i 33, x [112, 111, 115, 116, 101, 114, 110, 10, 119, 0, 0, 0, 0, 0, 0, 0, 0, 0, 0, 0, 0, 0, 0, 0, 1, 0, 0, 0, 0, 0, 0, 0, 0], v 2196344243857739686, f, kc 137 [p 57 0],
  x [112, 111, 115, 116, 101, 114, 110, 10, 119, 0, 0, 0, 0, 0, 0, 0, 0, 0, 0, 0, 0, 0, 0, 0, 1, 0, 0, 0, 0, 0, 0, 0, 0, 30, 122, 251, 115, 251, 157, 79, 166],
  i 33, x [0, 0, 0, 0, 0, 0, 0, 0, 0, 0, 0, 0, 0, 0, 0, 1, 0, 0, 0, 0, 0, 0, 0, 0], a [x [0, 0, 0, 0, 0, 0, 0, 0, 0, 0, 0, 0, 0, 0, 0, 1, 0, 0, 0, 0, 0, 0,
  0, 0]], p 60 0, kc 69 [p 56 0], p 60 0, o, o, o, o, o, o, o],  [.inRegion (ops 68 767) [2], .code (cd 68 1023)],  [⟨.fn (.func 137) [p 57 0],  []⟩],  .run,
   .normal,  none⟩, ⟨29,  [x [112, 111, 115, 116, 101, 114, 110, 10, 119, 0, 0, 0, 0, 0, 0, 0, 0, 0, 0, 0, 0, 0, 0, 0, 1, 0, 0, 0, 0, 0, 0, 0, 0, 30, 122,
  251, 115, 251, 157, 79, 166], o, zp, i 0, p 56 0, o, x [112, 111, 115, 116, 101, 114, 110, 10, 119, 0, 0, 0, 0, 0, 0, 0, 0, 0, 0, 0, 0, 0, 0, 0, 1, 0, 0,
  0, 0, 0, 0, 0, 0, 30, 122, 251, 115, 251, 157, 79, 166], kc 69 [p 56 0], o, o, o, o, o, o, o, o],  [.inRegion (ops 29 19) [2, 3], .code (cd 29 27), .code (cd 29 15)],
   [],  .run,  .normal,  none⟩, ⟨9,  [f, p 15 0, i 0, x [112, 111, 115, 116, 101, 114, 110, 10, 119, 0, 0, 0, 0, 0, 0, 0, 0, 0, 0, 0, 0, 0, 0, 0, 1, 0, 0,
  0, 0, 0, 0, 0, 0, 30, 122, 251, 115, 251, 157, 79, 166], i 0, o, o, o, o, o, o, o, o, u [p 15 0, i 0], u [p 15 0, i 0], p 15 0, i 0, u [x [112, 111, 115,
  116, 101, 114, 110, 10, 119, 0, 0, 0, 0, 0, 0, 0, 0, 0, 0, 0, 0, 0, 0, 0, 1, 0, 0, 0, 0, 0, 0, 0, 0, 30, 122, 251, 115, 251, 157, 79, 166], i 0], p 15 0,
  u [x [112, 111, 115, 116, 101, 114, 110, 10, 119, 0, 0, 0, 0, 0, 0, 0, 0, 0, 0, 0, 0, 0, 0, 0, 1, 0, 0, 0, 0, 0, 0, 0, 0, 30, 122, 251, 115, 251, 157, 79,
  166], i 0], x [112, 111, 115, 116, 101, 114, 110, 10, 119, 0, 0, 0, 0, 0, 0, 0, 0, 0, 0, 0, 0, 0, 0, 0, 1, 0, 0, 0, 0, 0, 0, 0, 0, 30, 122, 251, 115, 251,
  157, 79, 166], i 0, o, x [112, 111, 115, 116, 101, 114, 110, 10, 119, 0, 0, 0, 0, 0, 0, 0, 0, 0, 0, 0, 0, 0, 0, 0, 1, 0, 0, 0, 0, 0, 0, 0, 0, 30, 122, 251,
  115, 251, 157, 79, 166], o, o, o, o, o, o, o, o, o, o, o, o, o, o, o, o, o, o, o, o, o, o, o, o, o, o, o, o, o, o, o, o, o, o, o, o, o, o, o, o, o, o, o,
  o, o, o, o, o, o, o, o, o, o, o, o, o, o, o, o, o, o, o],  [.inRegion (ops 9 23) [1, 2, 3, 4, 5, 6], .code (cd 9 31)],  [],  .run,  .normal,  none⟩, ⟨3,
   [.str q0, o, f, x [], i 1, x [], i 1, x [], i 1, x [], i 1, zp, z, i 1, zp, z, i 1, u [x [], i 1], u [x [], i 1], x [], i 1, u [x [], i 1], a [zp, zp, z,
  z, z], p 2 0, u [x [], i 1], x [], i 1, u [x [], i 1], u [x [], i 1], x [], i 1, u [x [], i 1], a [z, z, zm, zm, i 0, z], p 6 0, u [x [], i 1], x [], i 1,
  u [zp, z, i 1], u [zp, z, i 1], zp, z, i 1, u [zp, z, i 1], a [zp, zp, z, z, z], p 9 0, u [zp, z, i 1], zp, z, i 1, x [], t, t, i 1, t, t, t, x [], t, t,
  t, i 1, t, t, t, x [], t, t, t, i 1, t, t, t, x [], t, t, t, i 1, t, t, t, zp, t, t, t, z, i 0, t, t, t, i 1, t, t, t, zp, t, t, t, z, i 0, t, t, t, i 1,
  t, t, t, .str q0, .int .u64 (sumF q0), .str q0, .int .u64 (sumF q0), t, t, t, o, o],  [.inRegion (ops 3 383) [64, 65, 66], .code (cd 3 511)],  [],  .run,
   .normal,  none⟩],  63,  [(2,  q [zp, zp, z, z, z] 30), (6,  q [z, z, zm, zm, i 0, z] 39), (9,  q [zp, zp, z, z, z] 30), (11,  q [f] 4), (12,  q [i 0] 3),
  (13,  .map [] 0), (14,  .map [] 0), (15,  q [z, s 11 0 1 1, m 13, m 14, i 0, s 12 0 1 1] 39), (56,  q [z, z, z, i 0, z] 53), (57,  q [i 0] 22), (58,  q [x []] 192),
  (60,  q [x [0, 0, 0, 0, 0, 0, 0, 0]] 192), (61,  q [z, z, z, i 0, z] 53), (62,  q [z, z, z, i 0, z] 53)]⟩

end Go.Proofs.YtddgjcpngipbnaaGreat.snapNone
