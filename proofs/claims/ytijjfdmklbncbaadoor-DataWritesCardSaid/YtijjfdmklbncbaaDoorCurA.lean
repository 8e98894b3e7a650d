/-
  Contracts of package cursor: New, At, Left, Seek, take.
-/
import Derived.Test.YtijjfdmklbncbaaDoorProg
import Derived.Test.YtijjfdmklbncbaaDoorBase
namespace Go.Proofs.YtijjfdmklbncbaaDoor
open Go.RowKit

/-- A cursor over s at place p lies in block b. -/
def Cur (w : World) (b : Nat) (s : ByteArray) (p : Nat) : Prop := w.heap[b]? = some (.cells #[.string s, .int .i64 p] 109 (0, 0))

theorem new_any (s : ByteArray) (w : World) : Calls Tryd.prog 58 #[.string s] w fun e w' => e = .returned (.pointer (some ⟨w.heap.size, 0, none⟩)) ∧ Cur w' w.heap.size s 0 ∧ w.grownBy w' none := by
  go_enter Tryd.func58, Tryd.ntmps58
  go_wp2
  go_ret
  exact ⟨rfl, balloc _ _, galloc (grefl _ _) _⟩

theorem at_any (b : Nat) (s : ByteArray) (p : Nat) (w : World) (h : Cur w b s p) : Calls Tryd.prog 61 #[.pointer (some ⟨b, 0, none⟩)] w fun e w' => e = .returned (.int .i64 p) ∧ w = w' := by
  have h1 : w.cell? ⟨b, 1, none⟩ = some (.int .i64 p) := bcellAt h 1
  go_enter Tryd.func61, Tryd.ntmps61
  go_wp2
  go_ret
  exact ⟨rfl, rfl⟩

theorem seek_ok (b : Nat) (s : ByteArray) (p : Nat) (w : World) (q : Int) (h : Cur w b s p) (hq : 0 ≤ q) (hqs : q ≤ s.size) : Calls Tryd.prog 59 #[.pointer (some ⟨b, 0, none⟩), .int .i64 q] w fun e w' => e = .returned (.int .i64 0) ∧ Cur w' b s q.toNat ∧ w.grownBy w' (some b) := by
  have h0 : w.cell? ⟨b, 0, none⟩ = some (.string s) := bcellAt h 0
  have h1 : w.cell? ⟨b, 1, none⟩ = some (.int .i64 p) := bcellAt h 1
  have hf : w.frozen? ⟨b, 1, none⟩ = false := bfree h 1
  go_enter Tryd.func59, Tryd.ntmps59
  go_wp2
  go_ret
  exact ⟨rfl, (bset h 1 _).trans (by simp; omega), gset (grefl _ _) (.inl rfl) _⟩

theorem seek_bad (b : Nat) (s : ByteArray) (p : Nat) (w : World) (q : Int) (h : Cur w b s p) (hq : q < 0 ∨ (s.size : Int) < q) : Calls Tryd.prog 59 #[.pointer (some ⟨b, 0, none⟩), .int .i64 q] w fun e w' => e = .returned (.int .i64 1) ∧ w = w' := by
  have h0 : w.cell? ⟨b, 0, none⟩ = some (.string s) := bcellAt h 0
  by_cases hq0 : q < 0
  · go_enter Tryd.func59, Tryd.ntmps59
    go_wp2
    go_ret
    exact ⟨rfl, rfl⟩
  · have hq1 : (s.size : Int) < q := by omega
    go_enter Tryd.func59, Tryd.ntmps59
    go_wp2
    go_ret
    exact ⟨rfl, rfl⟩

theorem take_ok (b : Nat) (s : ByteArray) (p : Nat) (w : World) (n : Nat) (h : Cur w b s p) (hq : p + n ≤ s.size) (hs : s.size ≤ maxLen) : Calls Tryd.prog 64 #[.pointer (some ⟨b, 0, none⟩), .int .i64 n] w fun e w' => e = .returned (.tuple #[.string (s.extract p (p + n)), .nilIface]) ∧ Cur w' b s (p + n) ∧ w.grownBy w' (some b) := by
  have h0 : w.cell? ⟨b, 0, none⟩ = some (.string s) := bcellAt h 0
  have h1 : w.cell? ⟨b, 1, none⟩ = some (.int .i64 p) := bcellAt h 1
  have hf : w.frozen? ⟨b, 1, none⟩ = false := bfree h 1
  unfold maxLen at hs
  go_enter Tryd.func64, Tryd.ntmps64
  go_wp2
  go_quiet (fail)
  go_wp2
  go_quiet (fail)
  go_wp2
  go_ret2
  exact ⟨rfl, (bset h 1 _).trans (by simp), gset (gdrewN (grefl _ _) _) (.inl rfl) _⟩

theorem take_neg (b : Nat) (w : World) (n : Int) (hn : n < 0) : Calls Tryd.prog 64 #[.pointer (some ⟨b, 0, none⟩), .int .i64 n] w fun e w' => e = .returned (.tuple #[.string ByteArray.empty, .iface 119 (.agg #[.int .i64 1])]) ∧ w = w' := by
  go_enter Tryd.func64, Tryd.ntmps64
  go_wp2
  go_ret2
  exact ⟨rfl, rfl⟩

theorem take_short (b : Nat) (s : ByteArray) (p : Nat) (w : World) (n : Int) (h : Cur w b s p) (hn : 0 ≤ n) (hp : p ≤ s.size) (hq : s.size < p + n) (hs : s.size ≤ maxLen) : Calls Tryd.prog 64 #[.pointer (some ⟨b, 0, none⟩), .int .i64 n] w fun e w' => e = .returned (.tuple #[.string ByteArray.empty, .iface 119 (.agg #[.int .i64 4])]) ∧ w.grownBy w' none := by
  have h0 : w.cell? ⟨b, 0, none⟩ = some (.string s) := bcellAt h 0
  have h1 : w.cell? ⟨b, 1, none⟩ = some (.int .i64 p) := bcellAt h 1
  unfold maxLen at hs
  go_enter Tryd.func64, Tryd.ntmps64
  go_wp2
  go_quiet (fail)
  go_wp2
  go_ret2
  exact ⟨rfl, gdrewN (grefl _ _) _⟩

theorem take_nil (w : World) (n : Int) : Calls Tryd.prog 64 #[.pointer none, .int .i64 n] w fun e w' => e = .returned (.tuple #[.string ByteArray.empty, .iface 119 (.agg #[.int .i64 2])]) ∧ w = w' := by
  go_enter Tryd.func64, Tryd.ntmps64
  go_wp2
  go_ret2
  exact ⟨rfl, rfl⟩
end Go.Proofs.YtijjfdmklbncbaaDoor
