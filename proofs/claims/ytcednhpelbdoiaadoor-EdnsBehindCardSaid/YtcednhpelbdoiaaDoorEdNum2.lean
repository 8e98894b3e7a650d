/-
  Options written, plain.
-/
import Derived.Test.YtcednhpelbdoiaaDoorEdNum
import Derived.Test.YtcednhpelbdoiaaDoorCurD
namespace Go.Proofs.YtcednhpelbdoiaaDoor
open Go.RowKit

/-- The bytes of an option. -/
def opB (o : Opt) : List UInt8 := enc 2 o.1 ++ enc 2 o.2.size ++ o.2.data.toList
def opsB (l : List Opt) : List UInt8 := l.flatMap opB
theorem opB_len (o : Opt) : (opB o).length = 4 + o.2.size := by
  have : o.2.data.toList.length = o.2.size := Array.length_toList
  simp only [opB, List.length_append, enc_len, this]
theorem opsB_append (a b : List Opt) : opsB (a ++ b) = opsB a ++ opsB b := by simp [opsB]
theorem opsB_one (o : Opt) : opsB [o] = opB o := by simp [opsB]
theorem opsB_snoc (l : List Opt) (k : Nat) (h : k < l.length) : opsB (l.take (k + 1)) = opsB (l.take k) ++ opB l[k] := by
  rw [List.take_succ_eq_append_getElem h, opsB_append, opsB_one]
theorem opsB_snoc_len (l : List Opt) (k : Nat) (h : k < l.length) : (opsB (l.take (k + 1))).length = (opsB (l.take k)).length + 4 + l[k].2.size := by
  rw [opsB_snoc l k h, List.length_append, opB_len]; omega
theorem opsB_take_le (l : List Opt) (k : Nat) : (opsB (l.take k)).length ≤ (opsB l).length := by
  have : opsB l = opsB (l.take k) ++ opsB (l.drop k) := by rw [← opsB_append, List.take_append_drop]
  rw [this, List.length_append]; omega
theorem opsB_count (l : List Opt) : l.length * 4 ≤ (opsB l).length := by
  induction l with
  | nil => simp [opsB]
  | cons o l ih =>
    have : opsB (o :: l) = opB o ++ opsB l := rfl
    rw [this, List.length_append, opB_len, List.length_cons]; omega
theorem opsB_mem (l : List Opt) (k : Nat) (h : k < l.length) : l[k].2.size ≤ (opsB l).length := by
  have h1 := opsB_snoc_len l k h
  have h2 := opsB_take_le l (k + 1)
  omega
/-- May these options be written? -/
def okO (l : List Opt) : Prop := (opsB l).length ≤ 65535
instance (l : List Opt) : Decidable (okO l) := inferInstanceAs (Decidable (_ ≤ _))
def ttlN (e v f : Nat) : Nat := e * 16777216 + v * 65536 + f
end Go.Proofs.YtcednhpelbdoiaaDoor
