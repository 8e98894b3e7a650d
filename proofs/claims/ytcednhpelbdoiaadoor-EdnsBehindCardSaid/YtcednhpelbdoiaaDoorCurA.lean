/-
  Contracts of package cursor: New, At, Left, Seek, take.
-/
import Derived.Test.YtcednhpelbdoiaaDoorProg
import Derived.Test.YtcednhpelbdoiaaDoorBase
namespace Go.Proofs.YtcednhpelbdoiaaDoor
open Go.RowKit

/-- A cursor over s at place p lies in block b. -/
def Cur (w : World) (b : Nat) (s : ByteArray) (p : Nat) : Prop := w.heap[b]? = some (.cells #[.string s, .int .i64 p] 65 (0, 0))

theorem new_any (s : ByteArray) (w : World) : Calls Tryd.prog 24 #[.string s] w fun e w' => e = .returned (.pointer (some ⟨w.heap.size, 0, none⟩)) ∧ Cur w' w.heap.size s 0 ∧ w.grownBy w' none := by
  go_enter Tryd.func24, Tryd.ntmps24
  go_wp2
  go_ret
  exact ⟨rfl, balloc _ _, galloc (grefl _ _) _⟩

theorem left_any (b : Nat) (s : ByteArray) (p : Nat) (w : World) (h : Cur w b s p) (hp : p ≤ s.size) (hs : s.size ≤ maxLen) : Calls Tryd.prog 25 #[.pointer (some ⟨b, 0, none⟩)] w fun e w' => e = .returned (.int .i64 ((s.size : Int) - p)) ∧ w.grownBy w' none := by
  have h0 : w.cell? ⟨b, 0, none⟩ = some (.string s) := bcellAt h 0
  have h1 : w.cell? ⟨b, 1, none⟩ = some (.int .i64 p) := bcellAt h 1
  unfold maxLen at hs
  go_enter Tryd.func25, Tryd.ntmps25
  go_wp2
  go_quiet (fail)
  go_wp2
  go_ret
  exact ⟨rfl, gdrewN (grefl _ _) _⟩

theorem take_ok (b : Nat) (s : ByteArray) (p : Nat) (w : World) (n : Nat) (h : Cur w b s p) (hq : p + n ≤ s.size) (hs : s.size ≤ maxLen) : Calls Tryd.prog 32 #[.pointer (some ⟨b, 0, none⟩), .int .i64 n] w fun e w' => e = .returned (.tuple #[.string (s.extract p (p + n)), .nilIface]) ∧ Cur w' b s (p + n) ∧ w.grownBy w' (some b) := by
  have h0 : w.cell? ⟨b, 0, none⟩ = some (.string s) := bcellAt h 0
  have h1 : w.cell? ⟨b, 1, none⟩ = some (.int .i64 p) := bcellAt h 1
  have hf : w.frozen? ⟨b, 1, none⟩ = false := bfree h 1
  unfold maxLen at hs
  go_enter Tryd.func32, Tryd.ntmps32
  go_wp2
  go_quiet (fail)
  go_wp2
  go_quiet (fail)
  go_wp2
  go_ret2
  exact ⟨rfl, (bset h 1 _).trans (by simp), gset (gdrewN (grefl _ _) _) (.inl rfl) _⟩

theorem take_neg (b : Nat) (w : World) (n : Int) (hn : n < 0) : Calls Tryd.prog 32 #[.pointer (some ⟨b, 0, none⟩), .int .i64 n] w fun e w' => e = .returned (.tuple #[.string ByteArray.empty, .iface 75 (.agg #[.int .i64 1])]) ∧ w = w' := by
  go_enter Tryd.func32, Tryd.ntmps32
  go_wp2
  go_ret2
  exact ⟨rfl, rfl⟩

theorem take_short (b : Nat) (s : ByteArray) (p : Nat) (w : World) (n : Int) (h : Cur w b s p) (hn : 0 ≤ n) (hp : p ≤ s.size) (hq : s.size < p + n) (hs : s.size ≤ maxLen) : Calls Tryd.prog 32 #[.pointer (some ⟨b, 0, none⟩), .int .i64 n] w fun e w' => e = .returned (.tuple #[.string ByteArray.empty, .iface 75 (.agg #[.int .i64 4])]) ∧ w.grownBy w' none := by
  have h0 : w.cell? ⟨b, 0, none⟩ = some (.string s) := bcellAt h 0
  have h1 : w.cell? ⟨b, 1, none⟩ = some (.int .i64 p) := bcellAt h 1
  unfold maxLen at hs
  go_enter Tryd.func32, Tryd.ntmps32
  go_wp2
  go_quiet (fail)
  go_wp2
  go_ret2
  exact ⟨rfl, gdrewN (grefl _ _) _⟩

theorem take_nil (w : World) (n : Int) : Calls Tryd.prog 32 #[.pointer none, .int .i64 n] w fun e w' => e = .returned (.tuple #[.string ByteArray.empty, .iface 75 (.agg #[.int .i64 2])]) ∧ w = w' := by
  go_enter Tryd.func32, Tryd.ntmps32
  go_wp2
  go_ret2
  exact ⟨rfl, rfl⟩
end Go.Proofs.YtcednhpelbdoiaaDoor
