/- errors.As at a target that is a pointer to an interface variable: the error is a hit. -/
import Derived.Test.YtabfeencbambmaaGreatDoorProg
import Derived.Test.YtabfeencbambmaaGreatDoorPosS
import Derived.WalkKit
import Derived.LaidEql
import Derived.Stop.Asserts
import Derived.RowKitTokens
set_option linter.unusedSimpArgs false
set_option linter.unusedVariables false
namespace Go.Proofs.YtabfeencbambmaaGreatDoor.twinNil
open Go Go.RowKit Go.Extern.Stop Go.Stop Go.Extern

theorem valueOfP (t : Addr) (w : World) : (ReflectliteValue.unpack (.iface 332 (.pointer (some t)))).run Tryz.prog w
    = .ok (.agg #[.pointer (some ⟨4, 332, none⟩), .pointer (some ⟨w.heap.size, 0, none⟩), .int .u64 150]) (w.alloc (.cells #[.pointer (some t)] 332)) := by kernel_rfl
theorem typeP (a : Addr) (w : World) : (ReflectliteValue.methodAny (ReflectliteValue.valueError "reflectlite.Value.Type" 0) (fun t _ _ _ => ReflectliteType.toType t) #[.agg #[.pointer (some ⟨4, 332, none⟩), .pointer (some a), .int .u64 150]]).run Tryz.prog w
    = .ok (.iface 394 (.agg #[.pointer (some ⟨4, 332, none⟩)])) w := by kernel_rfl
theorem methodKind (h : Value) (w : World) : (Go.method 634 394 (.agg #[h]) "Kind").run Tryz.prog w = .ok (414, h) w := by kernel_rfl
theorem kindP (w : World) : ((ReflectliteType.abiMethod fun t => (fun a : Nat => Value.int IntKind.u8 (a : Int)) <$> Rtype.kind t) #[.pointer (some ⟨4, 332, none⟩)]).run Tryz.prog w = .ok (.int .u8 22) w := by kernel_rfl
theorem kindI (w : World) : ((ReflectliteType.abiMethod fun t => (fun a : Nat => Value.int IntKind.u8 (a : Int)) <$> Rtype.kind t) #[.pointer (some ⟨4, 330, none⟩)]).run Tryz.prog w = .ok (.int .u8 20) w := by kernel_rfl

theorem rlm (z : Sem Value) (f : TypeId → Addr → Nat → Nat → Sem Value) (v : Value) :
    ReflectliteValue.method z f #[v] = (do match ← ReflectliteValue.parts v with | none => z | some (t, a, fl) => f t a fl (fl % 32)) := rfl
theorem partsP (a : Addr) (w : World) : (ReflectliteValue.parts (.agg #[.pointer (some ⟨4, 332, none⟩), .pointer (some a), .int .u64 150])).run Tryz.prog w = .ok (some (332, a, 150)) w := by kernel_rfl
theorem isNilP (a p : Addr) (W : World) (ha : W.cell? a = some (.pointer (some p))) :
    (ReflectliteValue.method (ReflectliteValue.valueError "reflectlite.Value.IsNil" 0) ReflectliteValue.isNil #[.agg #[.pointer (some ⟨4, 332, none⟩), .pointer (some a), .int .u64 150]]).run Tryz.prog W = .ok (.bool false) W := by
  rw [rlm]
  simp only [Sem.run_bind, partsP, Result.andThen]
  simp [ReflectliteValue.isNil, loadVar, isAgg, underlying, Tryz.underlying332, ha, Result.andThen]

theorem methodElem (h : Value) (w : World) : (Go.method 634 394 (.agg #[h]) "Elem").run Tryz.prog w = .ok (426, .agg #[h]) w := by kernel_rfl
theorem methodAssignableTo (h : Value) (w : World) : (Go.method 634 394 (.agg #[h]) "AssignableTo").run Tryz.prog w = .ok (424, .agg #[h]) w := by kernel_rfl
theorem elemP (w : World) : (ReflectliteType.method ReflectliteType.elem #[.agg #[.pointer (some ⟨4, 332, none⟩)]]).run Tryz.prog w = .ok (.iface 394 (.agg #[.pointer (some ⟨4, 330, none⟩)])) w := by kernel_rfl
theorem typeOfE (v : Value) (w : World) : (ReflectliteType.typeOf #[.iface 446 v]).run Tryz.prog w = .ok (.iface 394 (.agg #[.pointer (some ⟨4, 446, none⟩)])) w := by kernel_rfl
theorem assignableE (w : World) : (ReflectliteType.relation "AssignableTo" ReflectliteType.assignableTo #[.agg #[.pointer (some ⟨4, 446, none⟩)], .iface 394 (.agg #[.pointer (some ⟨4, 330, none⟩)])]).run Tryz.prog w = .ok (.bool true) w := by kernel_rfl
theorem valueOfE (e : Addr) (w : World) : (ReflectliteValue.unpack (.iface 446 (.pointer (some e)))).run Tryz.prog w
    = .ok (.agg #[.pointer (some ⟨4, 446, none⟩), .pointer (some ⟨w.heap.size, 0, none⟩), .int .u64 150]) (w.alloc (.cells #[.pointer (some e)] 446)) := by kernel_rfl
theorem elemOfP (w : World) : (Rtype.elem? 332).run Tryz.prog w = .ok (some 330) w := by kernel_rfl
theorem mkI (p : Addr) (w : World) : (ReflectliteValue.mk 330 p ReflectliteValue.flagAddr).run Tryz.prog w = .ok (.agg #[.pointer (some ⟨4, 330, none⟩), .pointer (some p), .int .u64 404]) w := by kernel_rfl
theorem elemV (a p : Addr) (W : World) (ha : W.cell? a = some (.pointer (some p))) :
    (ReflectliteValue.method (ReflectliteValue.valueError "reflectlite.Value.Elem" 0) ReflectliteValue.elem #[.agg #[.pointer (some ⟨4, 332, none⟩), .pointer (some a), .int .u64 150]]).run Tryz.prog W
      = .ok (.agg #[.pointer (some ⟨4, 330, none⟩), .pointer (some p), .int .u64 404]) W := by
  rw [rlm]
  simp only [Sem.run_bind, partsP, Result.andThen]
  simp [ReflectliteValue.elem, loadVar, isAgg, underlying, Tryz.underlying332, ha, Result.andThen, elemOfP, mkI]
theorem rls (v x : Value) : ReflectliteValue.set #[v, x] = (do
    let (some (dst, a, fl), some (src, b, _)) := (← ReflectliteValue.parts v, ← ReflectliteValue.parts x)
      | unsupported (.noEntry "extern/(internal/reflectlite.Value).Set.zeroValue")
    if fl / ReflectliteValue.flagAddr % 2 == 0 then unsupported (.noEntry "extern/(internal/reflectlite.Value).Set.unaddressable")
    let val ← loadVar src b
    if ← Rtype.directlyAssignable dst src then storeVar dst a val
    else if ← Rtype.implements dst src then
      if (← Rtype.kind src) == 20 then
        match val with
        | .nilIface => unsupported (.noEntry "extern/reflectlite: a nil value of one interface type handed on as a value of another")
        | _ => storeVar dst a val
      else storeVar dst a (.iface src val)
    else panicString ("reflectlite.Set: value of type " ++ (← Rtype.spelt src) ++ " is not assignable to type " ++ (← Rtype.spelt dst))
    pure (.tuple #[])) := rfl
theorem partsI (a : Addr) (w : World) : (ReflectliteValue.parts (.agg #[.pointer (some ⟨4, 330, none⟩), .pointer (some a), .int .u64 404])).run Tryz.prog w = .ok (some (330, a, 404)) w := by kernel_rfl
theorem partsE (a : Addr) (w : World) : (ReflectliteValue.parts (.agg #[.pointer (some ⟨4, 446, none⟩), .pointer (some a), .int .u64 150])).run Tryz.prog w = .ok (some (446, a, 150)) w := by kernel_rfl
theorem directIE (w : World) : (Rtype.directlyAssignable 330 446).run Tryz.prog w = .ok false w := by kernel_rfl
theorem implIE (w : World) : (Rtype.implements 330 446).run Tryz.prog w = .ok true w := by kernel_rfl
theorem kindE (w : World) : (Rtype.kind 446).run Tryz.prog w = .ok 22 w := by kernel_rfl
theorem setIE (ta b e : Addr) (old : Value) (W : World) (hb : W.cell? b = some (.pointer (some e))) (ht : W.cell? ta = some old) (hf : W.frozen? ta = false) :
    (ReflectliteValue.set #[.agg #[.pointer (some ⟨4, 330, none⟩), .pointer (some ta), .int .u64 404], .agg #[.pointer (some ⟨4, 446, none⟩), .pointer (some b), .int .u64 150]]).run Tryz.prog W
      = .ok (.tuple #[]) (W.setCell ta (.iface 446 (.pointer (some e)))) := by
  rw [rls]
  simp only [Sem.run_bind, partsI, partsE, Result.andThen]
  simp [ReflectliteValue.flagAddr, loadVar, isAgg, underlying, Tryz.underlying446, Tryz.underlying330, hb, Result.andThen, directIE, implIE, kindE, storeVar, Value.cells, storeCells, Addr.add]
  rw [run_store Tryz.prog W ta _ _ (by rfl)]
  simp [ht, hf]

/-- the world behind the call -/
def asW (e t : Addr) (w : World) : World := (((w.alloc (.cells #[.pointer (some t)] 332)).alloc (.cells #[.pointer (some ⟨4, 332, none⟩), .pointer (some ⟨w.heap.size, 0, none⟩), .int .u64 150] 348)).alloc (.cells #[.pointer (some ⟨4, 332, none⟩), .pointer (some ⟨w.heap.size, 0, none⟩), .int .u64 150] 348)).alloc (.cells #[.pointer (some e)] 446)

set_option maxHeartbeats 4000000 in
theorem as_hit (e t : Addr) (old : Value) (w : World) (ht0 : w.cell? t = some old) (hf0 : w.frozen? t = false) :
    Calls Tryz.prog 257 #[.iface 446 (.pointer (some e)), .iface 332 (.pointer (some t))] w fun ev w' => ev = .returned (.bool true) ∧ w' = (asW e t w).setCell t (.iface 446 (.pointer (some e))) := by
  have h6 := @run_callFunc_extern Tryz.prog 272 _ (fun args => ReflectliteValue.unpack (args.getD 0 (.tuple #[]))) Tryz.func272 (by kernel_rfl) (by kernel_rfl) (by kernel_rfl) (by kernel_rfl)
  have h7 := @run_callFunc_extern Tryz.prog 273 _ (ReflectliteValue.methodAny (ReflectliteValue.valueError "reflectlite.Value.Type" 0) (fun t _ _ _ => ReflectliteType.toType t)) Tryz.func273 (by kernel_rfl) (by kernel_rfl) (by kernel_rfl) (by kernel_rfl)
  have h8 := @run_callFunc_extern Tryz.prog 274 _ (ReflectliteValue.method (ReflectliteValue.valueError "reflectlite.Value.IsNil" 0) ReflectliteValue.isNil) Tryz.func274 (by kernel_rfl) (by kernel_rfl) (by kernel_rfl) (by kernel_rfl)
  have h27 := @run_callFunc_extern Tryz.prog 414 _ (ReflectliteType.abiMethod fun t => do pure (.int .u8 (← Rtype.kind t))) Tryz.func414 (by kernel_rfl) (by kernel_rfl) (by kernel_rfl) (by kernel_rfl)
  have h37 := @run_callFunc_extern Tryz.prog 426 _ (ReflectliteType.method ReflectliteType.elem) Tryz.func426 (by kernel_rfl) (by kernel_rfl) (by kernel_rfl) (by kernel_rfl)
  have h10 := @run_callFunc_extern Tryz.prog 299 _ ReflectliteType.typeOf Tryz.func299 (by kernel_rfl) (by kernel_rfl) (by kernel_rfl) (by kernel_rfl)
  have h35 := @run_callFunc_extern Tryz.prog 424 _ (ReflectliteType.relation "AssignableTo" ReflectliteType.assignableTo) Tryz.func424 (by kernel_rfl) (by kernel_rfl) (by kernel_rfl) (by kernel_rfl)
  have h11 := @run_callFunc_extern Tryz.prog 300 _ (ReflectliteValue.method (ReflectliteValue.valueError "reflectlite.Value.Elem" 0) ReflectliteValue.elem) Tryz.func300 (by kernel_rfl) (by kernel_rfl) (by kernel_rfl) (by kernel_rfl)
  have h12 := @run_callFunc_extern Tryz.prog 301 _ ReflectliteValue.set Tryz.func301 (by kernel_rfl) (by kernel_rfl) (by kernel_rfl) (by kernel_rfl)
  have tO := typeOfE
  have mA := methodAssignableTo
  have aE := assignableE
  have vE := valueOfE
  have f6 := valueOfP
  have f7 := typeP
  have mK := methodKind
  have mE := methodElem
  have kP := kindP
  have kI := kindI
  have eP := elemP
  have n8 := isNilP ⟨w.heap.size, 0, none⟩ t ((w.alloc (.cells #[.pointer (some t)] 332)).alloc (.cells #[.pointer (some ⟨4, 332, none⟩), .pointer (some ⟨w.heap.size, 0, none⟩), .int .u64 150] 348)) (by simp)
  have htl : t.block < w.heap.size := by
    rcases Nat.lt_or_ge t.block w.heap.size with h | h
    · exact h
    · simp [World.cell?, Array.getElem?_eq_none h] at ht0
  have el := elemV ⟨w.heap.size, 0, none⟩ t (((w.alloc (.cells #[.pointer (some t)] 332)).alloc (.cells #[.pointer (some ⟨4, 332, none⟩), .pointer (some ⟨w.heap.size, 0, none⟩), .int .u64 150] 348)).alloc (.cells #[.pointer (some ⟨4, 332, none⟩), .pointer (some ⟨w.heap.size, 0, none⟩), .int .u64 150] 348)) (by rw [World.cell?_alloc_lt _ _ ⟨w.heap.size, 0, none⟩ (by simp; omega)]; simp)
  have st := setIE t ⟨w.heap.size + 1 + 1 + 1, 0, none⟩ e old ((((w.alloc (.cells #[.pointer (some t)] 332)).alloc (.cells #[.pointer (some ⟨4, 332, none⟩), .pointer (some ⟨w.heap.size, 0, none⟩), .int .u64 150] 348)).alloc (.cells #[.pointer (some ⟨4, 332, none⟩), .pointer (some ⟨w.heap.size, 0, none⟩), .int .u64 150] 348)).alloc (.cells #[.pointer (some e)] 446))
    (by rw [World.cell?_alloc_at _ _ _ _ (by simp)]; rfl)
    (by rw [World.cell?_alloc_lt _ _ t (by simp; omega), World.cell?_alloc_lt _ _ t (by simp; omega), World.cell?_alloc_lt _ _ t (by simp; omega), World.cell?_alloc_lt _ _ t htl]; exact ht0)
    (by rw [World.frozen?_alloc_old _ _ t (by simp; omega), World.frozen?_alloc_old _ _ t (by simp; omega), World.frozen?_alloc_old _ _ t (by simp; omega), World.frozen?_alloc_old _ _ t (Nat.ne_of_lt htl)]; exact hf0)
  go_enter Tryz.func257, Tryz.ntmps257
  go_wp2
  refine wp_loop_rounds 1 ?_
  rw [rounds_succ]
  go_wp2
  go_ret
  exact ⟨rfl, rfl⟩

/-- the same, in B's words -/
theorem does_as (h : Go.PB.BHeap) (bE oE bT : Nat) (old : Go.PB.BV) (hT : h.get bT = some (.cells [old] 330 false)) :
    Go.PB.DoesH (fun _ => True) Tryz.prog 257 [.iface 446 (.ptr bE oE), .iface 332 (.ptr bT 0)] (.bool true) h (h.put bT (some (.cells [.iface 446 (.ptr bE oE)] 330 false))) := by
  intro g w as' _ hr ha
  simp only [Go.PB.VRels, Go.PB.VRel] at ha
  obtain ⟨v1, r1, hl, ⟨x1, rfl, blkE, baseE, hmE, rfl⟩, v2, r2, rfl, ⟨x2, rfl, blkT, baseT, hmT, rfl⟩, rfl⟩ := ha
  have : as' = #[.iface 446 (.pointer (some ⟨blkE, baseE + oE, none⟩)), .iface 332 (.pointer (some ⟨blkT, baseT + 0, none⟩))] := by
    apply Array.ext'; simpa using hl
  subst this
  obtain ⟨⟨o', ho⟩, hf, _⟩ := hr.set1 hT hmT (v := .iface 446 (.ptr bE oE)) (v' := .iface 446 (.pointer (some ⟨blkE, baseE + oE, none⟩))) (by simp only [Go.PB.VRel]; exact ⟨_, rfl, blkE, baseE, hmE, rfl⟩)
  refine (as_hit ⟨blkE, baseE + oE, none⟩ ⟨blkT, baseT, none⟩ o' w ho hf).mono ?_
  rintro ed w' ⟨rfl, rfl⟩
  have hk : Go.PB.Kept w (asW ⟨blkE, baseE + oE, none⟩ ⟨blkT, baseT, none⟩ w) := (((Go.PB.kept_alloc _ _).trans' (Go.PB.kept_alloc _ _)).trans' (Go.PB.kept_alloc _ _)).trans' (Go.PB.kept_alloc _ _)
  obtain ⟨q1, q2⟩ := hr.keep hk
  obtain ⟨_, _, q3, q4⟩ := q1.set1 hT hmT (v := .iface 446 (.ptr bE oE)) (v' := .iface 446 (.pointer (some ⟨blkE, baseE + oE, none⟩))) (by simp only [Go.PB.VRel]; exact ⟨_, rfl, blkE, baseE, hmE, rfl⟩)
  refine ⟨_, rfl, by simp [Go.PB.VRel], q3, q2.trans q4, fun b hb => ?_⟩
  rw [Go.PB.BHeap.get_put, if_neg (fun ee => by subst ee; rw [hmT] at hb; cases hb)]
end Go.Proofs.YtabfeencbambmaaGreatDoor.twinNil

