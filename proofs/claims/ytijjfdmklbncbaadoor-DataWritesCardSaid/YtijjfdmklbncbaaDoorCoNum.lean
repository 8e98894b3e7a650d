/-
  Layer 4 in plain words: the name at a place.
-/
import Derived.Test.YtijjfdmklbncbaaDoorNum
import Derived.Test.YtijjfdmklbncbaaDoorBytes
namespace Go.Proofs.YtijjfdmklbncbaaDoor

/-- The byte at a place. -/
def bt (s : ByteArray) (p : Nat) : Nat := (s.data.toList[p]?.getD 0).toNat
theorem bt_lt (s : ByteArray) (p : Nat) : bt s p < 256 := (s.data.toList[p]?.getD 0).toNat_lt
theorem bt_get (s : ByteArray) (p : Nat) (h : p < s.size) : bt s p = (s[p]'h).toNat := by
  have h' : p < s.data.toList.length := by simpa using h
  unfold bt
  rw [List.getElem?_eq_getElem h']
  rfl
theorem bt_num (s : ByteArray) (p : Nat) (h : p + 1 ≤ s.size) : num s p 1 = bt s p := by
  have h' : p < s.data.toList.length := by show p < s.data.toList.length; simp; exact h
  unfold num bt
  rw [List.drop_eq_getElem_cons h', List.take_succ_cons, List.take_zero, List.getElem?_eq_getElem h']
  simp [be]
/-- The bytes of the label at a place, its length first. -/
def lab (s : ByteArray) (p : Nat) : List UInt8 := (s.extract p (p + 1 + bt s p)).data.toList
theorem lab_len (s : ByteArray) (p : Nat) (h : p + 1 + bt s p ≤ s.size) : (lab s p).length = 1 + bt s p := by
  unfold lab
  have : (s.extract p (p + 1 + bt s p)).size = 1 + bt s p := by rw [ByteArray.size_extract]; omega
  rw [Array.length_toList]
  exact this

/-- What reading answers: the name's bytes and the place behind, or an error's number. -/
inductive Rd where
  | ok (n : List UInt8) (next : Nat)
  | no (e : Nat)
/-- Where a pointer points to. -/
def ptr (s : ByteArray) (p : Nat) : Nat := (bt s p - 192) * 256 + bt s (p + 1)
def rdF (s : ByteArray) (p lim : Nat) (nx : Option Nat) (out : List UInt8) : Rd :=
  if p < s.size then
    if bt s p = 0 then .ok (out ++ [0]) (nx.getD (p + 1))
    else if bt s p < 64 then
      if _h1 : p + 1 + bt s p ≤ s.size then
        if _h2 : out.length + 1 + bt s p + 1 ≤ 255 then rdF s (p + 1 + bt s p) lim nx (out ++ lab s p)
        else .no 5
      else .no 4
    else if bt s p < 192 then .no 3
    else if p + 2 ≤ s.size then
      if _h3 : ptr s p < lim then rdF s (ptr s p) (ptr s p) (some (nx.getD (p + 2))) out
      else .no 8
    else .no 4
  else .no 4
termination_by (lim, 256 - out.length)
decreasing_by
  · refine Prod.Lex.right _ ?_
    have := lab_len s p _h1
    simp only [List.length_append]
    omega
  · exact Prod.Lex.left _ _ _h3

theorem rd_end {s : ByteArray} {p lim : Nat} {nx : Option Nat} {out : List UInt8} (h : p < s.size) (h0 : bt s p = 0) : rdF s p lim nx out = .ok (out ++ [0]) (nx.getD (p + 1)) := by
  rw [rdF, if_pos h, if_pos h0]
theorem rd_short {s : ByteArray} {p lim : Nat} {nx : Option Nat} {out : List UInt8} (h : ¬ p < s.size) : rdF s p lim nx out = .no 4 := by
  rw [rdF, if_neg h]
theorem rd_label {s : ByteArray} {p lim : Nat} {nx : Option Nat} {out : List UInt8} (h0 : ¬ bt s p = 0) (h64 : bt s p < 64) (h1 : p + 1 + bt s p ≤ s.size) (h2 : out.length + 1 + bt s p + 1 ≤ 255) : rdF s p lim nx out = rdF s (p + 1 + bt s p) lim nx (out ++ lab s p) := by
  rw [rdF, if_pos (by omega), if_neg h0, if_pos h64, dif_pos h1, dif_pos h2]
theorem rd_long {s : ByteArray} {p lim : Nat} {nx : Option Nat} {out : List UInt8} (h0 : ¬ bt s p = 0) (h64 : bt s p < 64) (h1 : p + 1 + bt s p ≤ s.size) (h2 : ¬ out.length + 1 + bt s p + 1 ≤ 255) : rdF s p lim nx out = .no 5 := by
  rw [rdF, if_pos (by omega), if_neg h0, if_pos h64, dif_pos h1, dif_neg h2]
theorem rd_lshort {s : ByteArray} {p lim : Nat} {nx : Option Nat} {out : List UInt8} (h : p < s.size) (h0 : ¬ bt s p = 0) (h64 : bt s p < 64) (h1 : ¬ p + 1 + bt s p ≤ s.size) : rdF s p lim nx out = .no 4 := by
  rw [rdF, if_pos h, if_neg h0, if_pos h64, dif_neg h1]
theorem rd_form {s : ByteArray} {p lim : Nat} {nx : Option Nat} {out : List UInt8} (h : p < s.size) (h64 : 64 ≤ bt s p) (h192 : bt s p < 192) : rdF s p lim nx out = .no 3 := by
  rw [rdF, if_pos h, if_neg (by omega), if_neg (by omega), if_pos h192]
theorem rd_ptr {s : ByteArray} {p lim : Nat} {nx : Option Nat} {out : List UInt8} (h192 : 192 ≤ bt s p) (h2 : p + 2 ≤ s.size) (h3 : ptr s p < lim) : rdF s p lim nx out = rdF s (ptr s p) (ptr s p) (some (nx.getD (p + 2))) out := by
  rw [rdF, if_pos (by omega), if_neg (by omega), if_neg (by omega), if_neg (by omega), if_pos h2, dif_pos h3]
theorem rd_loop {s : ByteArray} {p lim : Nat} {nx : Option Nat} {out : List UInt8} (h192 : 192 ≤ bt s p) (h2 : p + 2 ≤ s.size) (h3 : ¬ ptr s p < lim) : rdF s p lim nx out = .no 8 := by
  rw [rdF, if_pos (by omega), if_neg (by omega), if_neg (by omega), if_neg (by omega), if_pos h2, dif_neg h3]
theorem rd_pshort {s : ByteArray} {p lim : Nat} {nx : Option Nat} {out : List UInt8} (h : p < s.size) (h192 : 192 ≤ bt s p) (h2 : ¬ p + 2 ≤ s.size) : rdF s p lim nx out = .no 4 := by
  rw [rdF, if_pos h, if_neg (by omega), if_neg (by omega), if_neg (by omega), if_neg h2]

/-- The name at a place, any number. -/
def rdAt (s : ByteArray) (at_ : Int) : Rd := if 0 ≤ at_ ∧ at_ ≤ (s.size : Int) then rdF s at_.toNat at_.toNat none [] else .no 1
theorem rdAt_in {s : ByteArray} {at_ : Int} (h : 0 ≤ at_) (h' : at_ ≤ (s.size : Int)) : rdAt s at_ = rdF s at_.toNat at_.toNat none [] := if_pos ⟨h, h'⟩
theorem rdAt_out {s : ByteArray} {at_ : Int} (h : at_ < 0 ∨ (s.size : Int) < at_) : rdAt s at_ = .no 1 := if_neg (by omega)
/-- The three results. -/
def rdR : Rd → Go.Value
  | .ok n next => .tuple #[.string ⟨n.toArray⟩, .int .i64 next, .int .i64 0]
  | .no e => .tuple #[.string ByteArray.empty, .int .i64 0, .int .i64 e]
end Go.Proofs.YtijjfdmklbncbaaDoor
