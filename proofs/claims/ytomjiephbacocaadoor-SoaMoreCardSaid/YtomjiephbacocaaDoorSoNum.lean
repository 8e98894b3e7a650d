/-
  Soa: names within names, in plain Lean.
-/
import Derived.Test.YtomjiephbacocaaDoorA4
namespace Go.Proofs.YtomjiephbacocaaDoor
open Go.RowKit

/-- Where the walk over a name's labels stops. -/
def wn (n : ByteArray) (cut : Int) (p : Nat) : Nat := if _h : (p : Int) < cut then wn n cut (p + 1 + bt n p) else p
termination_by (cut - p).toNat
theorem wn_step {n : ByteArray} {cut : Int} {p : Nat} (h : (p : Int) < cut) : wn n cut p = wn n cut (p + 1 + bt n p) := by rw [wn, dif_pos h]
theorem wn_end {n : ByteArray} {cut : Int} {p : Nat} (h : ¬ (p : Int) < cut) : wn n cut p = p := by rw [wn, dif_neg h]
/-- Is a name within a zone? -/
def wiN (n z : ByteArray) : Bool := may n && may z && decide ((wn n ((n.size : Int) - z.size) 0 : Int) = (n.size : Int) - z.size) && decide (lowB (suf n (wn n ((n.size : Int) - z.size) 0)) = lowB z)
theorem may_scan {s : ByteArray} (h : may s = true) : s.size ≤ 255 ∧ scan s 0 = true := by
  unfold may at h
  simpa using h
theorem scan_go {s : ByteArray} {p : Nat} (h : scan s p = true) (h1 : p + 1 < s.size) : bt s p ≠ 0 ∧ bt s p ≤ 63 ∧ scan s (p + 1 + bt s p) = true := by
  have hp := scan_lt h
  by_cases h0 : bt s p = 0
  · rw [scan_end hp h0] at h
    have := of_decide_eq_true h
    omega
  · by_cases hb : bt s p ≤ 63
    · exact ⟨h0, hb, by rw [← scan_step hp h0 hb]; exact h⟩
    · rw [scan_big hp (by omega)] at h; cases h
/-- The name without its first label. -/
def upN (n : ByteArray) : ByteArray := if may n = true ∧ n.size ≠ 1 then suf n (1 + bt n 0) else ⟨#[]⟩
def isUp (n : ByteArray) : Bool := may n && decide (n.size ≠ 1)
theorem root_iff {n : ByteArray} (h : may n = true) : n = ⟨#[0]⟩ ↔ n.size = 1 := by
  constructor
  · rintro rfl; rfl
  · intro h1
    have hs := (may_scan h).2
    have hp : 0 < n.size := by omega
    have h0 : bt n 0 = 0 := by
      by_cases h0 : bt n 0 = 0
      · exact h0
      · by_cases hb : bt n 0 ≤ 63
        · rw [scan_step hp h0 hb, scan_out (by omega)] at hs; cases hs
        · rw [scan_big hp (by omega)] at hs; cases hs
    obtain ⟨⟨l⟩⟩ := n
    have hl : l.length = 1 := h1
    match l, hl with
    | [c], _ =>
      have : c.toNat = 0 := h0
      have : c = 0 := by apply UInt8.toNat_inj.1; simpa using this
      rw [this]
end Go.Proofs.YtomjiephbacocaaDoor
