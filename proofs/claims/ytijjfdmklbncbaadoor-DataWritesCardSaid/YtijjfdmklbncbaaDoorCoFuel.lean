/-
  Closed examples of reading and putting are reckoned by functions that go down a number.
-/
import Derived.Test.YtijjfdmklbncbaaDoorCoNm
import Derived.Lib.Strings
import Derived.KernelRfl
namespace Go.Proofs.YtijjfdmklbncbaaDoor

theorem ba_ext {a b : ByteArray} (h : a.data.toList = b.data.toList) : a = b := by
  cases a; cases b
  simp at h
  rw [h]
theorem suf_eq (n : ByteArray) (p : Nat) : suf n p = ⟨(n.data.toList.drop p).toArray⟩ := by
  refine ba_ext ?_
  unfold suf
  rw [Go.Lib.extract_data]
  have : n.size - p = (n.data.toList.drop p).length := by rw [List.length_drop, Array.length_toList]; rfl
  rw [this, List.take_length]
theorem lab_eq' (n : ByteArray) (p : Nat) : lab n p = (n.data.toList.drop p).take (1 + bt n p) := by
  unfold lab
  rw [Go.Lib.extract_data]
  congr 1
  omega
def rdK : Nat → ByteArray → Nat → Nat → Option Nat → List UInt8 → Option Rd
  | 0, _, _, _, _, _ => none
  | k + 1, s, p, lim, nx, out =>
    if p < s.size then
      if bt s p = 0 then some (.ok (out ++ [0]) (nx.getD (p + 1)))
      else if bt s p < 64 then
        if p + 1 + bt s p ≤ s.size then
          if out.length + 1 + bt s p + 1 ≤ 255 then rdK k s (p + 1 + bt s p) lim nx (out ++ (s.data.toList.drop p).take (1 + bt s p))
          else some (.no 5)
        else some (.no 4)
      else if bt s p < 192 then some (.no 3)
      else if p + 2 ≤ s.size then
        if ptr s p < lim then rdK k s (ptr s p) (ptr s p) (some (nx.getD (p + 2))) out
        else some (.no 8)
      else some (.no 4)
    else some (.no 4)
theorem rdK_eq (s : ByteArray) : ∀ (k p lim : Nat) (nx : Option Nat) (out : List UInt8) (r : Rd), rdK k s p lim nx out = some r → rdF s p lim nx out = r := by
  intro k
  induction k with
  | zero => intro p lim nx out r h; cases h
  | succ k ih =>
    intro p lim nx out r h
    unfold rdK at h
    by_cases h1 : p < s.size
    · rw [if_pos h1] at h
      by_cases h2 : bt s p = 0
      · rw [if_pos h2] at h; rw [rd_end h1 h2]; exact Option.some.inj h
      · rw [if_neg h2] at h
        by_cases h3 : bt s p < 64
        · rw [if_pos h3] at h
          by_cases h4 : p + 1 + bt s p ≤ s.size
          · rw [if_pos h4] at h
            by_cases h5 : out.length + 1 + bt s p + 1 ≤ 255
            · rw [if_pos h5] at h; rw [rd_label h2 h3 h4 h5, lab_eq']; exact ih _ _ _ _ _ h
            · rw [if_neg h5] at h; rw [rd_long h2 h3 h4 h5]; exact Option.some.inj h
          · rw [if_neg h4] at h; rw [rd_lshort h1 h2 h3 h4]; exact Option.some.inj h
        · rw [if_neg h3] at h
          by_cases h4 : bt s p < 192
          · rw [if_pos h4] at h; rw [rd_form h1 (by omega) h4]; exact Option.some.inj h
          · rw [if_neg h4] at h
            by_cases h5 : p + 2 ≤ s.size
            · rw [if_pos h5] at h
              by_cases h6 : ptr s p < lim
              · rw [if_pos h6] at h; rw [rd_ptr (by omega) h5 h6]; exact ih _ _ _ _ _ h
              · rw [if_neg h6] at h; rw [rd_loop (by omega) h5 h6]; exact Option.some.inj h
            · rw [if_neg h5] at h; rw [rd_pshort h1 (by omega) h5]; exact Option.some.inj h
    · rw [if_neg h1] at h; rw [rd_short h1]; exact Option.some.inj h
theorem rdAtK {s : ByteArray} {p : Nat} {r : Rd} (k : Nat) (hp : p ≤ s.size) (h : rdK k s p p none [] = some r) : rdAt s (p : Int) = r := by
  rw [rdAt_in (by omega) (by omega)]; exact rdK_eq s k _ _ _ _ _ h
def putK : Nat → ByteArray → Bool → Bool → Nat → Tb → List UInt8 → Option (List UInt8 × Tb)
  | 0, _, _, _, _, _, _ => none
  | k + 1, n, cmp, known, p, T, out =>
    if p < n.size ∧ ¬ bt n p = 0 then
      if (tget T ⟨(n.data.toList.drop p).toArray⟩).isSome ∧ cmp = true then some (out ++ ptrB ((tget T ⟨(n.data.toList.drop p).toArray⟩).getD 0), T)
      else putK k n cmp known (p + 1 + bt n p) (if known = true ∧ tget T ⟨(n.data.toList.drop p).toArray⟩ = none ∧ out.length ≤ 16383 then T ++ [(⟨(n.data.toList.drop p).toArray⟩, out.length)] else T) (out ++ (n.data.toList.drop p).take (1 + bt n p))
    else some (out ++ [0], T)
theorem putK_eq (n : ByteArray) (cmp known : Bool) : ∀ (k p : Nat) (T : Tb) (out : List UInt8) (r : List UInt8 × Tb), putK k n cmp known p T out = some r → putF n cmp known p T out = r := by
  intro k
  induction k with
  | zero => intro p T out r h; cases h
  | succ k ih =>
    intro p T out r h
    unfold putK at h
    rw [← suf_eq, ← lab_eq'] at h
    rw [putF]
    by_cases h1 : p < n.size ∧ ¬ bt n p = 0
    · rw [if_pos h1] at h
      rw [dif_pos h1]
      by_cases h2 : (tget T (suf n p)).isSome ∧ cmp = true
      · rw [if_pos h2] at h; rw [if_pos h2]; exact Option.some.inj h
      · rw [if_neg h2] at h; rw [if_neg h2]; exact ih _ _ _ _ h
    · rw [if_neg h1] at h; rw [dif_neg h1]; exact Option.some.inj h
def mayK : Nat → ByteArray → Nat → Option Bool
  | 0, _, _ => none
  | k + 1, s, p =>
    if p < s.size then
      if bt s p = 0 then some (decide (p + 1 = s.size))
      else if bt s p ≤ 63 then mayK k s (p + 1 + bt s p)
      else some false
    else some false
theorem mayK_eq (s : ByteArray) : ∀ (k p : Nat) (r : Bool), mayK k s p = some r → scan s p = r := by
  intro k
  induction k with
  | zero => intro p r h; cases h
  | succ k ih =>
    intro p r h
    unfold mayK at h
    by_cases h1 : p < s.size
    · rw [if_pos h1] at h
      by_cases h2 : bt s p = 0
      · rw [if_pos h2] at h; rw [scan_end h1 h2]; exact Option.some.inj h
      · rw [if_neg h2] at h
        by_cases h3 : bt s p ≤ 63
        · rw [if_pos h3] at h; rw [scan_step h1 h2 h3]; exact ih _ _ h
        · rw [if_neg h3] at h; rw [scan_big h1 (by omega)]; exact Option.some.inj h
    · rw [if_neg h1] at h; rw [scan_out (by omega)]; exact Option.some.inj h
theorem may_of {s : ByteArray} (k : Nat) {r : Bool} (hs : s.size ≤ 255) (h : mayK k s 0 = some r) : may s = r := by
  unfold may; rw [mayK_eq s k 0 r h]; simp; intro; exact hs

def nW : ByteArray := ⟨#[3, 119, 119, 119, 2, 101, 120, 0]⟩
def nF : ByteArray := ⟨#[3, 102, 116, 112, 2, 101, 120, 0]⟩
def nE : ByteArray := ⟨#[2, 101, 120, 0]⟩
def nV : ByteArray := ⟨#[3, 87, 87, 87, 2, 101, 120, 0]⟩
def oW : List UInt8 := [3, 119, 119, 119, 2, 101, 120, 0]
def oF : List UInt8 := [3, 119, 119, 119, 2, 101, 120, 0, 3, 102, 116, 112, 192, 4]
def oE : List UInt8 := [3, 119, 119, 119, 2, 101, 120, 0, 3, 102, 116, 112, 192, 4, 192, 4]
def oV : List UInt8 := [3, 119, 119, 119, 2, 101, 120, 0, 3, 102, 116, 112, 192, 4, 192, 4, 3, 87, 87, 87, 192, 4]
def tW : Tb := [(nW, 0), (nE, 4)]
def tF : Tb := [(nW, 0), (nE, 4), (nF, 8)]
def tV : Tb := [(nW, 0), (nE, 4), (nF, 8), (nV, 16)]
theorem putW : putF nW true true 0 [] [] = (oW, tW) := putK_eq _ _ _ 9 _ _ _ _ (by decide +kernel)
theorem putFt : putF nF true true 0 tW oW = (oF, tF) := putK_eq _ _ _ 9 _ _ _ _ (by decide +kernel)
theorem putE : putF nE true true 0 tF oF = (oE, tF) := putK_eq _ _ _ 9 _ _ _ _ (by decide +kernel)
theorem putV : putF nV true true 0 tF oE = (oV, tV) := putK_eq _ _ _ 9 _ _ _ _ (by decide +kernel)
theorem mayW : may nW = true := may_of 9 (by decide) (by decide +kernel)
theorem mayF : may nF = true := may_of 9 (by decide) (by decide +kernel)
theorem mayE : may nE = true := may_of 9 (by decide) (by decide +kernel)
theorem mayV : may nV = true := may_of 9 (by decide) (by decide +kernel)
theorem rd8 : rdAt ⟨oV.toArray⟩ 8 = .ok [3, 102, 116, 112, 2, 101, 120, 0] 14 := rdAtK (p := 8) 9 (by decide) (by kernel_rfl)
theorem rdx0 : rdAt ⟨#[192, 0]⟩ 0 = .no 8 := rdAtK (p := 0) 9 (by decide) (by kernel_rfl)
theorem rdx1 : rdAt ⟨#[64]⟩ 0 = .no 3 := rdAtK (p := 0) 9 (by decide) (by kernel_rfl)
theorem rdx2 : rdAt ⟨#[3, 97]⟩ 0 = .no 4 := rdAtK (p := 0) 9 (by decide) (by kernel_rfl)
theorem rdx3 : rdAt ⟨#[]⟩ 0 = .no 4 := rdAtK (p := 0) 9 (by decide) (by kernel_rfl)
theorem rdx4 : rdAt ⟨#[]⟩ 1 = .no 1 := rdAt_out (by decide)
end Go.Proofs.YtijjfdmklbncbaaDoor
