/-
  Contracts of package cursor: New, At, Left, Seek, take.
  errors.As at the one target of package cursor ('var f failure; errors.As(err, &f)', err a failure), and cursor.number.
  Turned from the guide's worked example ToyasAs (a pointer target there; a struct of one field here).
  Contracts of package cursor: value, Byte, Two, Four, Take, Seek, each for every state.
  Contracts of package cursor: put, Put1, Put2, Put4.
-/
import Derived.Test.YthgendgmlpaglaaDoorProg
import Derived.Test.YthgendgmlpaglaaDoorA1
import Derived.LaidEql
import Derived.Stop.Asserts
import Derived.RowKitTokens
namespace Go.Proofs.YthgendgmlpaglaaDoor
open Go.RowKit

/-- A cursor over s at place p lies in block b. -/
def Cur (w : World) (b : Nat) (s : ByteArray) (p : Nat) : Prop := w.heap[b]? = some (.cells #[.string s, .int .i64 p] 98 (0, 0))

theorem new_any (s : ByteArray) (w : World) : Calls Tryd.prog 23 #[.string s] w fun e w' => e = .returned (.pointer (some ⟨w.heap.size, 0, none⟩)) ∧ Cur w' w.heap.size s 0 ∧ w.grownBy w' none := by
  go_enter Tryd.func23, Tryd.ntmps23
  go_wp2
  go_ret
  exact ⟨rfl, balloc _ _, galloc (grefl _ _) _⟩

theorem at_any (b : Nat) (s : ByteArray) (p : Nat) (w : World) (h : Cur w b s p) : Calls Tryd.prog 48 #[.pointer (some ⟨b, 0, none⟩)] w fun e w' => e = .returned (.int .i64 p) ∧ w = w' := by
  have h1 : w.cell? ⟨b, 1, none⟩ = some (.int .i64 p) := bcellAt h 1
  go_enter Tryd.func48, Tryd.ntmps48
  go_wp2
  go_ret
  exact ⟨rfl, rfl⟩

theorem left_any (b : Nat) (s : ByteArray) (p : Nat) (w : World) (h : Cur w b s p) (hp : p ≤ s.size) (hs : s.size ≤ maxLen) : Calls Tryd.prog 28 #[.pointer (some ⟨b, 0, none⟩)] w fun e w' => e = .returned (.int .i64 ((s.size : Int) - p)) ∧ w.grownBy w' none := by
  have h0 : w.cell? ⟨b, 0, none⟩ = some (.string s) := bcellAt h 0
  have h1 : w.cell? ⟨b, 1, none⟩ = some (.int .i64 p) := bcellAt h 1
  unfold maxLen at hs
  go_enter Tryd.func28, Tryd.ntmps28
  go_wp2
  go_quiet (fail)
  go_wp2
  go_ret
  exact ⟨rfl, gdrewN (grefl _ _) _⟩

theorem seek_ok (b : Nat) (s : ByteArray) (p : Nat) (w : World) (q : Int) (h : Cur w b s p) (hq : 0 ≤ q) (hqs : q ≤ s.size) : Calls Tryd.prog 49 #[.pointer (some ⟨b, 0, none⟩), .int .i64 q] w fun e w' => e = .returned (.int .i64 0) ∧ Cur w' b s q.toNat ∧ w.grownBy w' (some b) := by
  have h0 : w.cell? ⟨b, 0, none⟩ = some (.string s) := bcellAt h 0
  have h1 : w.cell? ⟨b, 1, none⟩ = some (.int .i64 p) := bcellAt h 1
  have hf : w.frozen? ⟨b, 1, none⟩ = false := bfree h 1
  go_enter Tryd.func49, Tryd.ntmps49
  go_wp2
  go_ret
  exact ⟨rfl, (bset h 1 _).trans (by simp; omega), gset (grefl _ _) (.inl rfl) _⟩

theorem seek_bad (b : Nat) (s : ByteArray) (p : Nat) (w : World) (q : Int) (h : Cur w b s p) (hq : q < 0 ∨ (s.size : Int) < q) : Calls Tryd.prog 49 #[.pointer (some ⟨b, 0, none⟩), .int .i64 q] w fun e w' => e = .returned (.int .i64 1) ∧ w = w' := by
  have h0 : w.cell? ⟨b, 0, none⟩ = some (.string s) := bcellAt h 0
  by_cases hq0 : q < 0
  · go_enter Tryd.func49, Tryd.ntmps49
    go_wp2
    go_ret
    exact ⟨rfl, rfl⟩
  · have hq1 : (s.size : Int) < q := by omega
    go_enter Tryd.func49, Tryd.ntmps49
    go_wp2
    go_ret
    exact ⟨rfl, rfl⟩

theorem take_ok (b : Nat) (s : ByteArray) (p : Nat) (w : World) (n : Nat) (h : Cur w b s p) (hq : p + n ≤ s.size) (hs : s.size ≤ maxLen) : Calls Tryd.prog 45 #[.pointer (some ⟨b, 0, none⟩), .int .i64 n] w fun e w' => e = .returned (.tuple #[.string (s.extract p (p + n)), .nilIface]) ∧ Cur w' b s (p + n) ∧ w.grownBy w' (some b) := by
  have h0 : w.cell? ⟨b, 0, none⟩ = some (.string s) := bcellAt h 0
  have h1 : w.cell? ⟨b, 1, none⟩ = some (.int .i64 p) := bcellAt h 1
  have hf : w.frozen? ⟨b, 1, none⟩ = false := bfree h 1
  unfold maxLen at hs
  go_enter Tryd.func45, Tryd.ntmps45
  go_wp2
  go_quiet (fail)
  go_wp2
  go_quiet (fail)
  go_wp2
  go_ret2
  exact ⟨rfl, (bset h 1 _).trans (by simp), gset (gdrewN (grefl _ _) _) (.inl rfl) _⟩

theorem take_neg (b : Nat) (w : World) (n : Int) (hn : n < 0) : Calls Tryd.prog 45 #[.pointer (some ⟨b, 0, none⟩), .int .i64 n] w fun e w' => e = .returned (.tuple #[.string ByteArray.empty, .iface 128 (.agg #[.int .i64 1])]) ∧ w = w' := by
  go_enter Tryd.func45, Tryd.ntmps45
  go_wp2
  go_ret2
  exact ⟨rfl, rfl⟩

theorem take_short (b : Nat) (s : ByteArray) (p : Nat) (w : World) (n : Int) (h : Cur w b s p) (hn : 0 ≤ n) (hp : p ≤ s.size) (hq : s.size < p + n) (hs : s.size ≤ maxLen) : Calls Tryd.prog 45 #[.pointer (some ⟨b, 0, none⟩), .int .i64 n] w fun e w' => e = .returned (.tuple #[.string ByteArray.empty, .iface 128 (.agg #[.int .i64 4])]) ∧ w.grownBy w' none := by
  have h0 : w.cell? ⟨b, 0, none⟩ = some (.string s) := bcellAt h 0
  have h1 : w.cell? ⟨b, 1, none⟩ = some (.int .i64 p) := bcellAt h 1
  unfold maxLen at hs
  go_enter Tryd.func45, Tryd.ntmps45
  go_wp2
  go_quiet (fail)
  go_wp2
  go_ret2
  exact ⟨rfl, gdrewN (grefl _ _) _⟩

theorem take_nil (w : World) (n : Int) : Calls Tryd.prog 45 #[.pointer none, .int .i64 n] w fun e w' => e = .returned (.tuple #[.string ByteArray.empty, .iface 128 (.agg #[.int .i64 2])]) ∧ w = w' := by
  go_enter Tryd.func45, Tryd.ntmps45
  go_wp2
  go_ret2
  exact ⟨rfl, rfl⟩
end Go.Proofs.YthgendgmlpaglaaDoor
namespace Go.Proofs.YthgendgmlpaglaaDoor
open Go.RowKit Go.Extern.Stop Go.Stop Go.Extern

theorem number_nil (w : World) : Calls Tryd.prog 46 #[.nilIface] w fun e w' => e = .returned (.int .i64 0) ∧ w = w' := by
  go_enter Tryd.func46, Tryd.ntmps46
  go_wp2
  go_ret
  exact ⟨rfl, rfl⟩

theorem Tryd.valueOfP (t : Addr) (w : World) : (ReflectliteValue.unpack (.iface 130 (.pointer (some t)))).run Tryd.prog w
    = .ok (.agg #[.pointer (some ⟨2, 130, none⟩), .pointer (some ⟨w.heap.size, 0, none⟩), .int .u64 150]) (w.alloc (.cells #[.pointer (some t)] 130)) := by kernel_rfl
theorem Tryd.typeP (a : Addr) (w : World) : (ReflectliteValue.methodAny (ReflectliteValue.valueError "reflectlite.Value.Type" 0) (fun t _ _ _ => ReflectliteType.toType t) #[.agg #[.pointer (some ⟨2, 130, none⟩), .pointer (some a), .int .u64 150]]).run Tryd.prog w
    = .ok (.iface 164 (.agg #[.pointer (some ⟨2, 130, none⟩)])) w := by kernel_rfl
theorem Tryd.kindP (w : World) : ((ReflectliteType.abiMethod fun t => (fun a : Nat => Value.int IntKind.u8 (a : Int)) <$> Rtype.kind t) #[.pointer (some ⟨2, 130, none⟩)]).run Tryd.prog w = .ok (.int .u8 22) w := by kernel_rfl
theorem Tryd.kindF (w : World) : ((ReflectliteType.abiMethod fun t => (fun a : Nat => Value.int IntKind.u8 (a : Int)) <$> Rtype.kind t) #[.pointer (some ⟨2, 128, none⟩)]).run Tryd.prog w = .ok (.int .u8 25) w := by kernel_rfl
theorem rlm (z : Sem Value) (f : TypeId → Addr → Nat → Nat → Sem Value) (v : Value) :
    ReflectliteValue.method z f #[v] = (do match ← ReflectliteValue.parts v with | none => z | some (t, a, fl) => f t a fl (fl % 32)) := rfl
theorem Tryd.partsP (a : Addr) (w : World) : (ReflectliteValue.parts (.agg #[.pointer (some ⟨2, 130, none⟩), .pointer (some a), .int .u64 150])).run Tryd.prog w = .ok (some (130, a, 150)) w := by kernel_rfl
theorem Tryd.isNilP (a p : Addr) (W : World) (ha : W.cell? a = some (.pointer (some p))) :
    (ReflectliteValue.method (ReflectliteValue.valueError "reflectlite.Value.IsNil" 0) ReflectliteValue.isNil #[.agg #[.pointer (some ⟨2, 130, none⟩), .pointer (some a), .int .u64 150]]).run Tryd.prog W = .ok (.bool false) W := by
  rw [rlm]
  simp only [Sem.run_bind, Tryd.partsP, Result.andThen]
  simp [ReflectliteValue.isNil, loadVar, isAgg, underlying, Tryd.underlying130, ha, Result.andThen]
theorem Tryd.elemP (w : World) : (ReflectliteType.method ReflectliteType.elem #[.agg #[.pointer (some ⟨2, 130, none⟩)]]).run Tryd.prog w = .ok (.iface 164 (.agg #[.pointer (some ⟨2, 128, none⟩)])) w := by kernel_rfl
theorem Tryd.implementsF (w : World) : (ReflectliteType.relation "Implements" ReflectliteType.implements_ #[.agg #[.pointer (some ⟨2, 128, none⟩)], .iface 164 (.agg #[.pointer (some ⟨2, 100, none⟩)])]).run Tryd.prog w = .ok (.bool true) w := by kernel_rfl
theorem Tryd.typeOfF (v : Value) (w : World) : (ReflectliteType.typeOf #[.iface 128 v]).run Tryd.prog w = .ok (.iface 164 (.agg #[.pointer (some ⟨2, 128, none⟩)])) w := by kernel_rfl
theorem Tryd.assignableF (w : World) : (ReflectliteType.relation "AssignableTo" ReflectliteType.assignableTo #[.agg #[.pointer (some ⟨2, 128, none⟩)], .iface 164 (.agg #[.pointer (some ⟨2, 128, none⟩)])]).run Tryd.prog w = .ok (.bool true) w := by kernel_rfl
theorem Tryd.valueOfF (k : Int) (w : World) : (ReflectliteValue.unpack (.iface 128 (.agg #[.int .i64 k]))).run Tryd.prog w
    = .ok (.agg #[.pointer (some ⟨2, 128, none⟩), .pointer (some ⟨w.heap.size, 0, none⟩), .int .u64 153]) (w.alloc (.cells #[.int .i64 k] 128)) := by kernel_rfl
theorem Tryd.methodKind (h : Value) (w : World) : (Go.method 305 164 (.agg #[h]) "Kind").run Tryd.prog w = .ok (99, h) w := by kernel_rfl
theorem Tryd.elemOfP (w : World) : (Rtype.elem? 130).run Tryd.prog w = .ok (some 128) w := by kernel_rfl
theorem Tryd.mkF (p : Addr) (w : World) : (ReflectliteValue.mk 128 p ReflectliteValue.flagAddr).run Tryd.prog w = .ok (.agg #[.pointer (some ⟨2, 128, none⟩), .pointer (some p), .int .u64 409]) w := by kernel_rfl
theorem Tryd.partsFa (a : Addr) (w : World) : (ReflectliteValue.parts (.agg #[.pointer (some ⟨2, 128, none⟩), .pointer (some a), .int .u64 409])).run Tryd.prog w = .ok (some (128, a, 409)) w := by kernel_rfl
theorem Tryd.partsF (a : Addr) (w : World) : (ReflectliteValue.parts (.agg #[.pointer (some ⟨2, 128, none⟩), .pointer (some a), .int .u64 153])).run Tryd.prog w = .ok (some (128, a, 153)) w := by kernel_rfl
theorem Tryd.directF (w : World) : (Rtype.directlyAssignable 128 128).run Tryd.prog w = .ok true w := by kernel_rfl
theorem Tryd.methodElem (h : Value) (w : World) : (Go.method 305 164 (.agg #[h]) "Elem").run Tryd.prog w = .ok (109, .agg #[h]) w := by kernel_rfl
theorem Tryd.methodImplements (h : Value) (w : World) : (Go.method 305 164 (.agg #[h]) "Implements").run Tryd.prog w = .ok (110, .agg #[h]) w := by kernel_rfl
theorem Tryd.methodAssignableTo (h : Value) (w : World) : (Go.method 305 164 (.agg #[h]) "AssignableTo").run Tryd.prog w = .ok (107, .agg #[h]) w := by kernel_rfl
theorem Tryd.elemVP (a p : Addr) (W : World) (ha : W.cell? a = some (.pointer (some p))) :
    (ReflectliteValue.method (ReflectliteValue.valueError "reflectlite.Value.Elem" 0) ReflectliteValue.elem #[.agg #[.pointer (some ⟨2, 130, none⟩), .pointer (some a), .int .u64 150]]).run Tryd.prog W
      = .ok (.agg #[.pointer (some ⟨2, 128, none⟩), .pointer (some p), .int .u64 409]) W := by
  rw [rlm]
  simp only [Sem.run_bind, Tryd.partsP, Result.andThen]
  simp [ReflectliteValue.elem, loadVar, isAgg, underlying, Tryd.underlying130, ha, Result.andThen, Tryd.elemOfP, Tryd.mkF]
theorem rls (v x : Value) : ReflectliteValue.set #[v, x] = (do
    let (some (dst, a, fl), some (src, b, _)) := (← ReflectliteValue.parts v, ← ReflectliteValue.parts x)
      | unsupported (.noEntry "extern/(internal/reflectlite.Value).Set.zeroValue")
    if fl / ReflectliteValue.flagAddr % 2 == 0 then unsupported (.noEntry "extern/(internal/reflectlite.Value).Set.unaddressable")
    let val ← loadVar src b
    if ← Rtype.directlyAssignable dst src then storeVar dst a val
    else if ← Rtype.implements dst src then
      if (← Rtype.kind src) == 20 then
        match val with
        | .nilIface => unsupported (.noEntry "extern/reflectlite: a nil value of one interface type handed on as a value of another")
        | _ => storeVar dst a val
      else storeVar dst a (.iface src val)
    else panicString ("reflectlite.Set: value of type " ++ (← Rtype.spelt src) ++ " is not assignable to type " ++ (← Rtype.spelt dst))
    pure (.tuple #[])) := rfl
theorem Tryd.loadF (b : Addr) (k : Int) (W : World) (hb : W.cell? b = some (.int .i64 k)) : (loadVar 128 b).run Tryd.prog W = .ok (.agg #[.int .i64 k]) W := by
  have hl := run_loadCells_list (P := Tryd.prog) (w := W) b [.int .i64 k] (fun j v hj => by
    match j, hj with
    | 0, hj => simp at hj; subst hj; simpa [Addr.add] using hb)
  simp at hl
  simp [loadVar, isAgg, underlying, Tryd.underlying128, Result.andThen, hl]
theorem Tryd.storeF (b : Addr) (k : Int) (old : Value) (W : World) (ht : W.cell? b = some old) (hf : W.frozen? b = false) : (storeVar 128 b (.agg #[.int .i64 k])).run Tryd.prog W = .ok () (W.setCell b (.int .i64 k)) := by
  simp [storeVar, Value.cells, storeCells, Addr.add, Result.andThen]
  rw [run_store Tryd.prog W b _ _ (by rfl)]
  simp [ht, hf]
theorem Tryd.setF (ta b : Addr) (k : Int) (old : Value) (W : World) (hb : W.cell? b = some (.int .i64 k)) (ht : W.cell? ta = some old) (hf : W.frozen? ta = false) :
    (ReflectliteValue.set #[.agg #[.pointer (some ⟨2, 128, none⟩), .pointer (some ta), .int .u64 409], .agg #[.pointer (some ⟨2, 128, none⟩), .pointer (some b), .int .u64 153]]).run Tryd.prog W
      = .ok (.tuple #[]) (W.setCell ta (.int .i64 k)) := by
  rw [rls]
  simp only [Sem.run_bind, Tryd.partsFa, Tryd.partsF, Result.andThen]
  simp [ReflectliteValue.flagAddr, Tryd.loadF b k W hb, Result.andThen, Tryd.directF, Tryd.storeF ta k old W ht hf]

set_option maxRecDepth 100000 in
set_option maxHeartbeats 4000000 in
theorem as_hit (k : Int) (t : Addr) (old : Value) (w : World) (hg : w.cell? ⟨1, 0, none⟩ = some (.iface 164 (.agg #[.pointer (some ⟨2, 100, none⟩)]))) (ht0 : w.cell? t = some old) (hf0 : w.frozen? t = false) :
    Calls Tryd.prog 61 #[.iface 128 (.agg #[.int .i64 k]), .iface 130 (.pointer (some t))] w fun ev w' => ev = .returned (.bool true) ∧ w' = ((((w.alloc (.cells #[.pointer (some t)] 130)).alloc (.cells #[.pointer (some ⟨2, 130, none⟩), .pointer (some ⟨w.heap.size, 0, none⟩), .int .u64 150] 149)).alloc (.cells #[.pointer (some ⟨2, 130, none⟩), .pointer (some ⟨w.heap.size, 0, none⟩), .int .u64 150] 149)).alloc (.cells #[.int .i64 k] 128)).setCell t (.int .i64 k) := by
  have e1 := @run_callFunc_extern Tryd.prog 69 _ (fun args => ReflectliteValue.unpack (args.getD 0 (.tuple #[]))) Tryd.func69 (by kernel_rfl) (by kernel_rfl) (by kernel_rfl) (by kernel_rfl)
  have e2 := @run_callFunc_extern Tryd.prog 70 _ (ReflectliteValue.methodAny (ReflectliteValue.valueError "reflectlite.Value.Type" 0) (fun t _ _ _ => ReflectliteType.toType t)) Tryd.func70 (by kernel_rfl) (by kernel_rfl) (by kernel_rfl) (by kernel_rfl)
  have e3 := @run_callFunc_extern Tryd.prog 71 _ (ReflectliteValue.method (ReflectliteValue.valueError "reflectlite.Value.IsNil" 0) ReflectliteValue.isNil) Tryd.func71 (by kernel_rfl) (by kernel_rfl) (by kernel_rfl) (by kernel_rfl)
  have e4 := @run_callFunc_extern Tryd.prog 99 _ (ReflectliteType.abiMethod fun t => do pure (.int .u8 (← Rtype.kind t))) Tryd.func99 (by kernel_rfl) (by kernel_rfl) (by kernel_rfl) (by kernel_rfl)
  have e5 := @run_callFunc_extern Tryd.prog 109 _ (ReflectliteType.method ReflectliteType.elem) Tryd.func109 (by kernel_rfl) (by kernel_rfl) (by kernel_rfl) (by kernel_rfl)
  have e6 := @run_callFunc_extern Tryd.prog 110 _ (ReflectliteType.relation "Implements" ReflectliteType.implements_) Tryd.func110 (by kernel_rfl) (by kernel_rfl) (by kernel_rfl) (by kernel_rfl)
  have e7 := @run_callFunc_extern Tryd.prog 74 _ ReflectliteType.typeOf Tryd.func74 (by kernel_rfl) (by kernel_rfl) (by kernel_rfl) (by kernel_rfl)
  have e8 := @run_callFunc_extern Tryd.prog 107 _ (ReflectliteType.relation "AssignableTo" ReflectliteType.assignableTo) Tryd.func107 (by kernel_rfl) (by kernel_rfl) (by kernel_rfl) (by kernel_rfl)
  have e9 := @run_callFunc_extern Tryd.prog 75 _ (ReflectliteValue.method (ReflectliteValue.valueError "reflectlite.Value.Elem" 0) ReflectliteValue.elem) Tryd.func75 (by kernel_rfl) (by kernel_rfl) (by kernel_rfl) (by kernel_rfl)
  have e10 := @run_callFunc_extern Tryd.prog 76 _ ReflectliteValue.set Tryd.func76 (by kernel_rfl) (by kernel_rfl) (by kernel_rfl) (by kernel_rfl)
  have tO := Tryd.typeOfF
  have mA := Tryd.methodAssignableTo
  have aF := Tryd.assignableF
  have vF := Tryd.valueOfF
  have vP := Tryd.valueOfP
  have tP := Tryd.typeP
  have mK := Tryd.methodKind
  have mE := Tryd.methodElem
  have mI := Tryd.methodImplements
  have kP := Tryd.kindP
  have kF := Tryd.kindF
  have eP := Tryd.elemP
  have iF := Tryd.implementsF
  have nP := Tryd.isNilP ⟨w.heap.size, 0, none⟩ t ((w.alloc (.cells #[.pointer (some t)] 130)).alloc (.cells #[.pointer (some ⟨2, 130, none⟩), .pointer (some ⟨w.heap.size, 0, none⟩), .int .u64 150] 149)) (by simp)
  have hlt : 1 < w.heap.size := World.block_lt_of_cell? w _ hg
  have hg2 : ((w.alloc (.cells #[.pointer (some t)] 130)).alloc (.cells #[.pointer (some ⟨2, 130, none⟩), .pointer (some ⟨w.heap.size, 0, none⟩), .int .u64 150] 149)).cell? ⟨1, 0, none⟩ = some (.iface 164 (.agg #[.pointer (some ⟨2, 100, none⟩)])) := by
    rw [World.cell?_alloc_lt _ _ ⟨1, 0, none⟩ (by simp <;> omega), World.cell?_alloc_lt _ _ ⟨1, 0, none⟩ hlt]; exact hg
  have htl : t.block < w.heap.size := World.block_lt_of_cell? w _ ht0
  have el := Tryd.elemVP ⟨w.heap.size, 0, none⟩ t (((w.alloc (.cells #[.pointer (some t)] 130)).alloc (.cells #[.pointer (some ⟨2, 130, none⟩), .pointer (some ⟨w.heap.size, 0, none⟩), .int .u64 150] 149)).alloc (.cells #[.pointer (some ⟨2, 130, none⟩), .pointer (some ⟨w.heap.size, 0, none⟩), .int .u64 150] 149)) (by rw [World.cell?_alloc_lt _ _ ⟨w.heap.size, 0, none⟩ (by simp; omega)]; simp)
  have st := Tryd.setF t ⟨w.heap.size + 1 + 1 + 1, 0, none⟩ k old ((((w.alloc (.cells #[.pointer (some t)] 130)).alloc (.cells #[.pointer (some ⟨2, 130, none⟩), .pointer (some ⟨w.heap.size, 0, none⟩), .int .u64 150] 149)).alloc (.cells #[.pointer (some ⟨2, 130, none⟩), .pointer (some ⟨w.heap.size, 0, none⟩), .int .u64 150] 149)).alloc (.cells #[.int .i64 k] 128))
    (by rw [World.cell?_alloc_at _ _ _ _ (by simp)]; rfl)
    (by rw [World.cell?_alloc_lt _ _ t (by simp; omega), World.cell?_alloc_lt _ _ t (by simp; omega), World.cell?_alloc_lt _ _ t (by simp; omega), World.cell?_alloc_lt _ _ t htl]; exact ht0)
    (by rw [World.frozen?_alloc_old _ _ t (by simp; omega), World.frozen?_alloc_old _ _ t (by simp; omega), World.frozen?_alloc_old _ _ t (by simp; omega), World.frozen?_alloc_old _ _ t (Nat.ne_of_lt htl)]; exact hf0)
  go_enter Tryd.func61, Tryd.ntmps61
  go_wp2
  refine wp_loop_rounds 1 ?_
  rw [rounds_succ]
  go_wp2
  go_ret
  exact ⟨rfl, rfl⟩

theorem number_fail (k : Int) (w : World) (hg : w.cell? ⟨1, 0, none⟩ = some (.iface 164 (.agg #[.pointer (some ⟨2, 100, none⟩)]))) :
    Calls Tryd.prog 46 #[.iface 128 (.agg #[.int .i64 k])] w fun e w' => e = .returned (.int .i64 k) ∧ w.grownBy w' none := by
  have hlt : 1 < w.heap.size := World.block_lt_of_cell? w _ hg
  have hgA : (w.alloc (.cells #[.int .i64 0] 128)).cell? ⟨1, 0, none⟩ = some (.iface 164 (.agg #[.pointer (some ⟨2, 100, none⟩)])) := by
    rw [World.cell?_alloc_lt _ _ ⟨1, 0, none⟩ hlt]; exact hg
  go_enter Tryd.func46, Tryd.ntmps46
  go_wp2_with (go_at_call 61; refine (as_hit k _ (.int .i64 0) _ hgA (by simp) (by simp)).mono ?_; rintro e w' ⟨rfl, rfl⟩)
  go_ret
  exact ⟨rfl, galloc (galloc (galloc (galloc (galloc (grefl _ _) _) _) _) _) _⟩
end Go.Proofs.YthgendgmlpaglaaDoor
namespace Go.Proofs.YthgendgmlpaglaaDoor
open Go.RowKit

/-- The package-level variable errors.errorType holds what the program's text lays. -/
def Et (w : World) : Prop := w.cell? ⟨1, 0, none⟩ = some (.iface 164 (.agg #[.pointer (some ⟨2, 100, none⟩)]))
theorem Et.kept {w w' : World} {row : Option Nat} (h : Et w) (g : w.grownBy w' row) (hr : row ≠ some 1) : Et w' := g.cell h (fun e => hr e.symm)
theorem Cur.ne {w : World} {b : Nat} {s : ByteArray} {p : Nat} (h : Cur w b s p) (he : Et w) : (some b : Option Nat) ≠ some 1 := by
  intro e
  have hb : b = 1 := Option.some.inj e
  have hc : w.cell? ⟨b, 0, none⟩ = some (.string s) := bcellAt h 0
  rw [hb] at hc
  unfold Et at he
  rw [hc] at he
  cases he
theorem Cur.kept {w w' : World} {b : Nat} {s : ByteArray} {p : Nat} {row : Option Nat} (h : Cur w b s p) (g : w.grownBy w' row) (hr : some b ≠ row) : Cur w' b s p := gblock g h hr

theorem seek_any (b : Nat) (s : ByteArray) (p : Nat) (w : World) (q : Int) (h : Cur w b s p) : Calls Tryd.prog 49 #[.pointer (some ⟨b, 0, none⟩), .int .i64 q] w fun e w' => e = .returned (.int .i64 (skE s q)) ∧ Cur w' b s (skP s p q) ∧ w.grownBy w' (some b) := by
  by_cases hq : q < 0 ∨ (s.size : Int) < q
  · refine (seek_bad b s p w q h hq).mono ?_
    rintro e w' ⟨rfl, rfl⟩
    simp only [skE, skP, if_pos hq]
    exact ⟨rfl, h, grefl _ _⟩
  · refine (seek_ok b s p w q h (by omega) (by omega)).mono ?_
    rintro e w' ⟨rfl, hc, hg⟩
    simp only [skE, skP, if_neg hq]
    exact ⟨rfl, hc, hg⟩

theorem T_ok (b : Nat) (s : ByteArray) (p : Nat) (w : World) (n : Nat) (h : Cur w b s p) (hq : p + n ≤ s.size) (hs : s.size ≤ maxLen) : Calls Tryd.prog 24 #[.pointer (some ⟨b, 0, none⟩), .int .i64 n] w fun e w' => e = .returned (.tuple #[.string (s.extract p (p + n)), .int .i64 0]) ∧ Cur w' b s (p + n) ∧ w.grownBy w' (some b) := by
  go_enter Tryd.func24, Tryd.ntmps24
  go_wp2_with fail
  refine (take_ok b s p w n h hq hs).mono ?_
  rintro e w1 ⟨rfl, hc1, hg1⟩
  go_wp2_with fail
  refine (number_nil _).mono ?_
  rintro e w2 ⟨rfl, rfl⟩
  go_wp2_with fail
  go_ret2
  exact ⟨rfl, hc1, hg1⟩

theorem T_neg (b : Nat) (s : ByteArray) (p : Nat) (w : World) (n : Int) (h : Cur w b s p) (he : Et w) (hn : n < 0) : Calls Tryd.prog 24 #[.pointer (some ⟨b, 0, none⟩), .int .i64 n] w fun e w' => e = .returned (.tuple #[.string ByteArray.empty, .int .i64 1]) ∧ Cur w' b s p ∧ w.grownBy w' (some b) := by
  go_enter Tryd.func24, Tryd.ntmps24
  go_wp2_with fail
  refine (take_neg b w n hn).mono ?_
  rintro e w1 ⟨rfl, rfl⟩
  go_wp2_with fail
  refine (number_fail 1 w he).mono ?_
  rintro e w2 ⟨rfl, hg⟩
  go_wp2_with fail
  go_ret2
  exact ⟨rfl, h.kept hg (by simp), gmono hg⟩

theorem T_short (b : Nat) (s : ByteArray) (p : Nat) (w : World) (n : Int) (h : Cur w b s p) (he : Et w) (hn : 0 ≤ n) (hp : p ≤ s.size) (hq : s.size < p + n) (hs : s.size ≤ maxLen) : Calls Tryd.prog 24 #[.pointer (some ⟨b, 0, none⟩), .int .i64 n] w fun e w' => e = .returned (.tuple #[.string ByteArray.empty, .int .i64 4]) ∧ Cur w' b s p ∧ w.grownBy w' (some b) := by
  go_enter Tryd.func24, Tryd.ntmps24
  go_wp2_with fail
  refine (take_short b s p w n h hn hp hq hs).mono ?_
  rintro e w1 ⟨rfl, hg1⟩
  go_wp2_with fail
  refine (number_fail 4 w1 (he.kept hg1 (by simp))).mono ?_
  rintro e w2 ⟨rfl, hg⟩
  go_wp2_with fail
  go_ret2
  exact ⟨rfl, h.kept (gtrans hg1 hg) (by simp), gmono (gtrans hg1 hg)⟩

theorem T_any (b : Nat) (s : ByteArray) (p : Nat) (w : World) (n : Int) (h : Cur w b s p) (he : Et w) (hp : p ≤ s.size) (hs : s.size ≤ maxLen) : Calls Tryd.prog 24 #[.pointer (some ⟨b, 0, none⟩), .int .i64 n] w fun e w' => e = .returned (.tuple #[.string (tkS s p n), .int .i64 (tkE s p n)]) ∧ Cur w' b s (tkP s p n) ∧ w.grownBy w' (some b) := by
  by_cases hn : n < 0
  · simp only [tkS, tkE, tkP, if_pos hn]
    exact T_neg b s p w n h he hn
  · by_cases hq : (s.size : Int) < p + n
    · simp only [tkS, tkE, tkP, if_neg hn, if_pos hq]
      exact T_short b s p w n h he (by omega) hp hq hs
    · simp only [tkS, tkE, tkP, if_neg hn, if_neg hq]
      obtain ⟨m, rfl⟩ := Int.eq_ofNat_of_zero_le (show 0 ≤ n by omega)
      exact T_ok b s p w m h (by omega) hs

theorem value_ok (b : Nat) (s : ByteArray) (p : Nat) (w : World) (n : Nat) (h : Cur w b s p) (hq : p + n ≤ s.size) (hs : s.size ≤ maxLen) (hn : n ≤ 4) : Calls Tryd.prog 60 #[.pointer (some ⟨b, 0, none⟩), .int .i64 n] w fun e w' => e = .returned (.tuple #[.int .u32 (num s p n), .int .i64 0]) ∧ Cur w' b s (p + n) ∧ w.grownBy w' (some b) := by
  have hl0 : (s.extract p (p + n)).size = n := by simp; omega
  have HB : Hid (num s p n = be (s.extract p (p + n)).data.toList) := by
    show num s p n = _
    unfold num
    rw [Lib.extract_data]
    simp
  go_enter Tryd.func60, Tryd.ntmps60
  go_wp2_with fail
  refine (take_ok b s p w n h hq hs).mono ?_
  rintro e w1 ⟨rfl, hc1, hg1⟩
  generalize s.extract p (p + n) = l at *
  obtain rfl := hl0
  go_wp2_with fail
  go_loop [8, 9] (fun v i => ∃ (k : Nat), k ≤ l.size ∧ i = .int .i64 k ∧ v = .int .u32 (be (l.data.toList.take k))) (fun _ i => l.size - (intOf i).toNat)
  case atStart => exact ⟨0, by omega, rfl, rfl⟩
  case round =>
    obtain ⟨k, hk, rfl, rfl⟩ := hrel
    by_cases hlt : k < l.size
    · have hx : be (l.data.toList.take k) < 16777216 := by
        refine Nat.lt_of_lt_of_le (be_lt _) ?_
        rw [show (16777216 : Nat) = 256 ^ 3 by rfl]
        refine Nat.pow_le_pow_right (by omega) ?_
        simp; omega
      have HS := Lib.hid (shift_or (be (l.data.toList.take k)) l[k].toNat hx l[k].toNat_lt)
      have HT := Lib.hid (show be (l.data.toList.take (k + 1)) = be (l.data.toList.take k) * 256 + l[k].toNat by rw [take_snoc l k hlt, be_snoc])
      clear hx
      generalize hX : be (l.data.toList.take k) = X at *
      go_wp2
      go_round
      case rel => exact ⟨k + 1, by omega, by go_num, by rw [HS.out, HT.out]⟩
      case measure => simp [intOf]; omega
    · go_wp2
      go_ret2
      refine ⟨?_, hc1, hg1⟩
      rw [HB.out, List.take_of_length_le (by simp; omega)]
      rfl

theorem value_short (b : Nat) (s : ByteArray) (p : Nat) (w : World) (n : Nat) (h : Cur w b s p) (he : Et w) (hp : p ≤ s.size) (hq : s.size < p + n) (hs : s.size ≤ maxLen) : Calls Tryd.prog 60 #[.pointer (some ⟨b, 0, none⟩), .int .i64 n] w fun e w' => e = .returned (.tuple #[.int .u32 0, .int .i64 4]) ∧ Cur w' b s p ∧ w.grownBy w' (some b) := by
  go_enter Tryd.func60, Tryd.ntmps60
  go_wp2_with fail
  refine (take_short b s p w n h (by omega) hp (by omega) hs).mono ?_
  rintro e w1 ⟨rfl, hg1⟩
  go_wp2_with fail
  refine (number_fail 4 w1 (he.kept hg1 (by simp))).mono ?_
  rintro e w2 ⟨rfl, hg⟩
  go_wp2_with fail
  go_ret2
  exact ⟨rfl, h.kept (gtrans hg1 hg) (by simp), gmono (gtrans hg1 hg)⟩

theorem value_any (b : Nat) (s : ByteArray) (p : Nat) (w : World) (n : Nat) (h : Cur w b s p) (he : Et w) (hp : p ≤ s.size) (hs : s.size ≤ maxLen) (hn : n ≤ 4) : Calls Tryd.prog 60 #[.pointer (some ⟨b, 0, none⟩), .int .i64 n] w fun e w' => e = .returned (.tuple #[.int .u32 (rdV s p n), .int .i64 (rdE s p n)]) ∧ Cur w' b s (rdP s p n) ∧ w.grownBy w' (some b) := by
  by_cases hq : p + n ≤ s.size
  · simp only [rdV, rdE, rdP, if_pos hq]
    exact value_ok b s p w n h hq hs hn
  · simp only [rdV, rdE, rdP, if_neg hq]
    exact value_short b s p w n h he hp (by omega) hs

theorem byte_any (b : Nat) (s : ByteArray) (p : Nat) (w : World) (h : Cur w b s p) (he : Et w) (hp : p ≤ s.size) (hs : s.size ≤ maxLen) : Calls Tryd.prog 62 #[.pointer (some ⟨b, 0, none⟩)] w fun e w' => e = .returned (.tuple #[.int .u8 (rdV s p 1), .int .i64 (rdE s p 1)]) ∧ Cur w' b s (rdP s p 1) ∧ w.grownBy w' (some b) := by
  have hv := rdV_lt s p 1
  go_enter Tryd.func62, Tryd.ntmps62
  go_wp2_with fail
  refine (value_any b s p w 1 h he hp hs (by omega)).mono ?_
  rintro e w1 ⟨rfl, hc1, hg1⟩
  go_wp2_with fail
  go_ret2
  exact ⟨by simp, hc1, hg1⟩

theorem two_any (b : Nat) (s : ByteArray) (p : Nat) (w : World) (h : Cur w b s p) (he : Et w) (hp : p ≤ s.size) (hs : s.size ≤ maxLen) : Calls Tryd.prog 43 #[.pointer (some ⟨b, 0, none⟩)] w fun e w' => e = .returned (.tuple #[.int .u16 (rdV s p 2), .int .i64 (rdE s p 2)]) ∧ Cur w' b s (rdP s p 2) ∧ w.grownBy w' (some b) := by
  have hv := rdV_lt s p 2
  go_enter Tryd.func43, Tryd.ntmps43
  go_wp2_with fail
  refine (value_any b s p w 2 h he hp hs (by omega)).mono ?_
  rintro e w1 ⟨rfl, hc1, hg1⟩
  go_wp2_with fail
  go_ret2
  exact ⟨by simp, hc1, hg1⟩

theorem four_any (b : Nat) (s : ByteArray) (p : Nat) (w : World) (h : Cur w b s p) (he : Et w) (hp : p ≤ s.size) (hs : s.size ≤ maxLen) : Calls Tryd.prog 50 #[.pointer (some ⟨b, 0, none⟩)] w fun e w' => e = .returned (.tuple #[.int .u32 (rdV s p 4), .int .i64 (rdE s p 4)]) ∧ Cur w' b s (rdP s p 4) ∧ w.grownBy w' (some b) := by
  go_enter Tryd.func50, Tryd.ntmps50
  go_wp2_with fail
  refine (value_any b s p w 4 h he hp hs (by omega)).mono ?_
  rintro e w1 ⟨rfl, hc1, hg1⟩
  go_wp2_with fail
  go_ret2
  exact ⟨rfl, hc1, hg1⟩

theorem value_nil (n : Int) (w : World) (he : Et w) : Calls Tryd.prog 60 #[.pointer none, .int .i64 n] w fun e w' => e = .returned (.tuple #[.int .u32 0, .int .i64 2]) ∧ w.grownBy w' none := by
  go_enter Tryd.func60, Tryd.ntmps60
  go_wp2_with fail
  refine (take_nil w _).mono ?_
  rintro e w1 ⟨rfl, rfl⟩
  go_wp2_with fail
  refine (number_fail 2 w he).mono ?_
  rintro e w2 ⟨rfl, hg⟩
  go_wp2_with fail
  go_ret2
  exact ⟨rfl, hg⟩

theorem T_nil (n : Int) (w : World) (he : Et w) : Calls Tryd.prog 24 #[.pointer none, .int .i64 n] w fun e w' => e = .returned (.tuple #[.string ByteArray.empty, .int .i64 2]) ∧ w.grownBy w' none := by
  go_enter Tryd.func24, Tryd.ntmps24
  go_wp2_with fail
  refine (take_nil w _).mono ?_
  rintro e w1 ⟨rfl, rfl⟩
  go_wp2_with fail
  refine (number_fail 2 w he).mono ?_
  rintro e w2 ⟨rfl, hg⟩
  go_wp2_with fail
  go_ret2
  exact ⟨rfl, hg⟩

theorem byte_nil (w : World) (he : Et w) : Calls Tryd.prog 62 #[.pointer none] w fun e w' => e = .returned (.tuple #[.int .u8 0, .int .i64 2]) ∧ w.grownBy w' none := by
  go_enter Tryd.func62, Tryd.ntmps62
  go_wp2_with fail
  refine (value_nil _ w he).mono ?_
  rintro e w1 ⟨rfl, hg⟩
  go_wp2_with fail
  go_ret2
  exact ⟨rfl, hg⟩

theorem two_nil (w : World) (he : Et w) : Calls Tryd.prog 43 #[.pointer none] w fun e w' => e = .returned (.tuple #[.int .u16 0, .int .i64 2]) ∧ w.grownBy w' none := by
  go_enter Tryd.func43, Tryd.ntmps43
  go_wp2_with fail
  refine (value_nil _ w he).mono ?_
  rintro e w1 ⟨rfl, hg⟩
  go_wp2_with fail
  go_ret2
  exact ⟨rfl, hg⟩

theorem four_nil (w : World) (he : Et w) : Calls Tryd.prog 50 #[.pointer none] w fun e w' => e = .returned (.tuple #[.int .u32 0, .int .i64 2]) ∧ w.grownBy w' none := by
  go_enter Tryd.func50, Tryd.ntmps50
  go_wp2_with fail
  refine (value_nil _ w he).mono ?_
  rintro e w1 ⟨rfl, hg⟩
  go_wp2_with fail
  go_ret2
  exact ⟨rfl, hg⟩

theorem seek_nil (q : Int) (w : World) : Calls Tryd.prog 49 #[.pointer none, .int .i64 q] w fun e w' => e = .returned (.int .i64 2) ∧ w.grownBy w' none := by
  go_enter Tryd.func49, Tryd.ntmps49
  go_wp2_with fail
  go_ret
  exact ⟨rfl, grefl _ _⟩

theorem at_nil (w : World) : Calls Tryd.prog 48 #[.pointer none] w fun e w' => e = .returned (.int .i64 0) ∧ w.grownBy w' none := by
  go_enter Tryd.func48, Tryd.ntmps48
  go_wp2_with fail
  go_ret
  exact ⟨rfl, grefl _ _⟩

theorem left_nil (w : World) : Calls Tryd.prog 28 #[.pointer none] w fun e w' => e = .returned (.int .i64 0) ∧ w.grownBy w' none := by
  go_enter Tryd.func28, Tryd.ntmps28
  go_wp2_with fail
  go_ret
  exact ⟨rfl, grefl _ _⟩

theorem new_ex (s : ByteArray) (w : World) : Calls Tryd.prog 23 #[.string s] w fun e w' => ∃ b, e = .returned (.pointer (some ⟨b, 0, none⟩)) ∧ w.heap.size ≤ b ∧ Cur w' b s 0 ∧ w.grownBy w' none :=
  (new_any s w).mono fun _ _ ⟨he, hc, hg⟩ => ⟨_, he, Nat.le_refl _, hc, hg⟩
theorem gstep {a b c : World} {row : Option Nat} (h : a.grownBy b none) (k : b.grownBy c row) (hr : ∀ r, row = some r → a.heap.size ≤ r) : a.grownBy c none :=
  gnew (gtrans (gmono h) k) hr
theorem gstepb {a b c : World} {r : Nat} (h : a.grownBy b none) (k : b.grownBy c (some r)) (hr : a.heap.size ≤ r) : a.grownBy c none :=
  gstep h k (fun x e => by cases e; exact hr)
theorem cur_ne {w : World} {b r : Nat} {s : ByteArray} {p : Nat} (h : Cur w b s p) (hr : w.heap.size ≤ r) : (b : Nat) ≠ r := by have := blt h; omega
end Go.Proofs.YthgendgmlpaglaaDoor
namespace Go.Proofs.YthgendgmlpaglaaDoor
open Go.RowKit

theorem put_any (w : World) (va vc : Value) (a c : List UInt8) (ha : SlB w va a) (hc : SlB w vc c) (hn : a.length + c.length ≤ 70368744177664) : Calls Tryd.prog 57 #[va, vc] w fun e w' =>
    e = .returned (.slice (some ⟨w.heap.size, 0, none⟩) (a.length + c.length) (a.length + c.length)) ∧ Own w' w.heap.size (.slice (some ⟨w.heap.size, 0, none⟩) (a.length + c.length) (a.length + c.length)) (a ++ c) ∧ w.grownBy w' none := by
  obtain ⟨i0, hi, hz0, hz1, hz2⟩ := info_parts Tryd.infoByte
  have HA := Lib.hid ha
  have HC := Lib.hid hc
  obtain ⟨A, capa, rfl, _, _, _⟩ := ha
  obtain ⟨C, capc, rfl, _, _, _⟩ := hc
  go_enter Tryd.func57, Tryd.ntmps57
  go_wp2_with (at_make; refine wpList_make_own _ rfl _ _ 26 rfl w.heap.size 5 i0 (.int .u8 0) 1 Tryd.underlying26 hi hz0 hz1 _ _ _ (a.length + c.length) rfl rfl (by omega) ?b2 ?b3 (Nat.le_refl _) ?_)
  case b2 => rw [hz2]; omega
  case b3 => unfold maxLen; omega
  intro w0 hown0 hgrow0
  have ho0 : Own w0 w.heap.size (.slice (some ⟨w.heap.size, 0, none⟩) ([] : List UInt8).length (a.length + c.length)) [] := hown0
  go_wp2_with (at_builtin; refine wpList_append_sl _ rfl (.tmp 12) (.tmp 13) 26 rfl w.heap.size i0 Tryd.underlying26 hi hz1 w.heap.size (a.length + c.length) [] a rfl ho0 _ rfl (HA.out.kept0 hgrow0) (by simp) ?_)
  intro w1 ho1 hg1
  go_wp2_with (at_builtin; refine wpList_append_sl _ rfl (.tmp 15) (.tmp 16) 26 rfl w.heap.size i0 Tryd.underlying26 hi hz1 w.heap.size (a.length + c.length) a c rfl ho1 _ rfl ?hx (by simp) ?_)
  case hx => exact HC.out.kept (gtrans (gmono hgrow0) hg1) (fun b e => .inl (by cases e; exact Nat.le_refl _))
  intro w2 ho2 hg2
  go_wp2
  go_ret
  exact ⟨rfl, ho2, gnew (gtrans (gtrans (gmono hgrow0) hg1) hg2) (fun b e => by cases e; exact Nat.le_refl _)⟩

/-- The n bytes of a number, the highest first. -/
def enc : Nat → Nat → List UInt8
  | 0, _ => []
  | n + 1, x => enc n (x / 256) ++ [UInt8.ofNat (x % 256)]
theorem enc_len (n x : Nat) : (enc n x).length = n := by
  induction n generalizing x with
  | zero => rfl
  | succ n ih => simp [enc, ih]

theorem enc_one (x : Nat) : enc 1 x = [UInt8.ofNat (x % 256)] := rfl
theorem enc_two (x : Nat) : enc 2 x = [UInt8.ofNat (x / 256 % 256), UInt8.ofNat (x % 256)] := rfl
theorem enc_four (x : Nat) : enc 4 x = [UInt8.ofNat (x / 256 / 256 / 256 % 256), UInt8.ofNat (x / 256 / 256 % 256), UInt8.ofNat (x / 256 % 256), UInt8.ofNat (x % 256)] := rfl
theorem cell_byte (y : Int) (x : Nat) (h : y = ((x % 256 : Nat) : Int)) : Value.int .u8 y = .int .u8 (UInt8.ofNat (x % 256)).toNat := by
  rw [h]; congr 1; simp

theorem put2_any (w : World) (va : Value) (a : List UInt8) (x : Nat) (hx : x < 65536) (ha : SlB w va a) (hn : a.length ≤ 70368744177000) : Calls Tryd.prog 39 #[va, .int .u16 x] w fun e w' =>
    e = .returned (.slice (some ⟨w.heap.size + 1, 0, none⟩) (a.length + 2) (a.length + 2)) ∧ Own w' (w.heap.size + 1) (.slice (some ⟨w.heap.size + 1, 0, none⟩) (a.length + 2) (a.length + 2)) (a ++ enc 2 x) ∧ w.grownBy w' none := by
  have HA := Lib.hid ha
  obtain ⟨A, capa, rfl, _, _, _⟩ := ha
  go_enter Tryd.func39, Tryd.ntmps39
  go_wp2_with fail
  refine (put_any _ _ _ a (enc 2 x) (HA.out.kept0 (galloc (grefl _ _) _)) (sl_new w _ (enc 2 x) _ 2 ?_ rfl) (by rw [enc_len]; omega)).mono ?_
  · rw [enc_two]
    simp only [bv, List.map_cons, List.map_nil]
    rw [← cell_byte _ (x / 256) rfl, ← cell_byte _ x rfl]
    simp
    omega
  rw [enc_len]
  rintro e w1 ⟨rfl, ho, hg⟩
  go_wp2_with fail
  go_ret
  exact ⟨by simp, by simpa using ho, gtrans (galloc (grefl _ _) _) hg⟩
theorem put4_any (w : World) (va : Value) (a : List UInt8) (x : Nat) (hx : x < 4294967296) (ha : SlB w va a) (hn : a.length ≤ 70368744177000) : Calls Tryd.prog 59 #[va, .int .u32 x] w fun e w' =>
    e = .returned (.slice (some ⟨w.heap.size + 1, 0, none⟩) (a.length + 4) (a.length + 4)) ∧ Own w' (w.heap.size + 1) (.slice (some ⟨w.heap.size + 1, 0, none⟩) (a.length + 4) (a.length + 4)) (a ++ enc 4 x) ∧ w.grownBy w' none := by
  have HA := Lib.hid ha
  obtain ⟨A, capa, rfl, _, _, _⟩ := ha
  go_enter Tryd.func59, Tryd.ntmps59
  go_wp2_with fail
  refine (put_any _ _ _ a (enc 4 x) (HA.out.kept0 (galloc (grefl _ _) _)) (sl_new w _ (enc 4 x) _ 4 ?_ rfl) (by rw [enc_len]; omega)).mono ?_
  · rw [enc_four]
    simp only [bv, List.map_cons, List.map_nil]
    rw [← cell_byte _ (x / 256 / 256 / 256) rfl, ← cell_byte _ (x / 256 / 256) rfl, ← cell_byte _ (x / 256) rfl, ← cell_byte _ x rfl]
    simp
    omega
  rw [enc_len]
  rintro e w1 ⟨rfl, ho, hg⟩
  go_wp2_with fail
  go_ret
  exact ⟨by simp, by simpa using ho, gtrans (galloc (grefl _ _) _) hg⟩
end Go.Proofs.YthgendgmlpaglaaDoor
