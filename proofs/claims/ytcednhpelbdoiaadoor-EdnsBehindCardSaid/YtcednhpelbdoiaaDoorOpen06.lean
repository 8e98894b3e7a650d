/-
  An EDNS that came in.
-/
import Derived.Test.YtcednhpelbdoiaaDoorOpenS
import Derived.Test.YtcednhpelbdoiaaDoorEd06d
import Derived.Deep.SlicePairs
namespace Go.Proofs.YtcednhpelbdoiaaDoor
open Go.ChangeShapes Go.WideShapes Go.RowKit Go.Deep

def strOf : Value → ByteArray
  | .string s => s
  | _ => ByteArray.empty
theorem open_opts {H : Type} {enc : TypeId × Value → H} {W : World} {fuel : Nat} {v : Value} {y : DataW H × List MemPlace}
    (h : DataW.trod enc Tryd.prog W 0 (fun _ => true) true fuel 25 [v] = some y) : ∃ l : List Opt, Ops W v l ∧ l.length ≤ maxLen ∧ ∀ o ∈ l, o.1 < 65536 ∧ o.2.size ≤ maxLen := by
  rcases Deep.open_slice_pairs Tryd.underlying25 Tryd.underlying33 (by kernel_rfl) rfl rfl (by kernel_rfl) (by kernel_rfl) h with ⟨hcs, _⟩ | ⟨a, len, cap, m, n, V0, V1, D0, D1, P0, P1, hcs, _, hl, hm, hmm, _, hx⟩
  · obtain rfl : v = .slice none 0 0 := by simpa using hcs
    exact ⟨[], Sl.nil W 2, by simp, by simp⟩
  · obtain rfl : v = .slice (some a) len cap := by simpa using hcs
    have hlm : len ≤ m := by rw [hmm]; simpa using hl
    have hcell : ∀ i, i < len → ∃ (c : Nat) (s : ByteArray), V0 i = .int .u16 c ∧ V1 i = .string s ∧ c < 65536 ∧ s.size ≤ maxLen := by
      intro i hi
      obtain ⟨_, _, h3, h4⟩ := hx i (by omega)
      obtain ⟨c, e0, hc⟩ := one_u16 Tryd.underlying22 h3
      obtain ⟨s, e1, _, hs⟩ := DataW.trod_string Tryd.underlying9 h4
      exact ⟨c, s, e0, by simpa using e1, hc, hs⟩
    refine ⟨(List.range len).map fun i => ((intOf (V0 i)).toNat, strOf (V1 i)), ⟨some a, cap, by simp, by simpa using hl, ov_len _, by simp, fun h0 => ?_⟩, by simp; omega, ?_⟩
    · simp only [List.length_map, List.length_range] at h0
      have ha : a = ⟨a.block, a.off, none⟩ := by
        have := (hx 0 (by omega)).1
        exact lit_of_cell (by simpa [Addr.add] using this)
      generalize a.block = b at ha
      generalize a.off = off at ha
      subst ha
      refine ⟨b, off, rfl, fun j u hu => ?_⟩
      have hj : j < len * 2 := by
        have := (List.getElem?_eq_some_iff.1 hu).1
        rw [ov_len] at this
        simpa using this
      have hi : j / 2 < len := by omega
      obtain ⟨c, s, e0, e1, _, _⟩ := hcell (j / 2) hi
      obtain ⟨h1, h2, _, _⟩ := hx (j / 2) (by omega)
      rw [Addr.add_lit] at h1 h2
      have hget : ((List.range len).map fun i => ((intOf (V0 i)).toNat, strOf (V1 i)))[j / 2]? = some (c, s) := by
        simp [hi, e0, e1, intOf, strOf]
      have hg := flat_get (fun o : Opt => [.int .u16 o.1, .string o.2]) 2 (fun _ => rfl) _ (j / 2) (j % 2) (by omega) (c, s) hget
      rw [show j / 2 * 2 + j % 2 = j by omega] at hg
      have hu' : [Value.int .u16 (c : Int), .string s][j % 2]? = some u := by rw [← hg]; exact hu
      rcases Nat.mod_two_eq_zero_or_one j with hm0 | hm1
      · rw [hm0] at hu'
        have : u = .int .u16 c := by simpa using hu'.symm
        rw [this, ← e0, ← h1]
        congr 2
        omega
      · rw [hm1] at hu'
        have : u = .string s := by simpa using hu'.symm
        rw [this, ← e1, ← h2]
        congr 2
        omega
    · intro o ho
      simp only [List.mem_map, List.mem_range] at ho
      obtain ⟨i, hi, rfl⟩ := ho
      obtain ⟨c, s, e0, e1, hc, hs⟩ := hcell i hi
      simp only [e0, e1, intOf, strOf]
      exact ⟨by simpa using hc, hs⟩

set_option maxRecDepth 100000 in
theorem open_edns {H : Type} {enc : TypeId × Value → H} {W : World} {r : Reach} {b0 : Nat} {v : Value} {d : DataW H} {p : List MemPlace}
    (hv : Value.okWide Tryd.prog W r b0 27 v) (h : DataW.Trod enc Tryd.prog W 0 (fun _ => true) true 27 v d p) :
    ∃ (sz e x f : Nat) (A : Option Addr) (cap : Nat) (l : List Opt), v = .agg #[.int .u16 sz, .int .u8 e, .int .u8 x, .int .u16 f, .slice A l.length cap] ∧ sz < 65536 ∧ e < 256 ∧ x < 256 ∧ f < 65536 ∧ Ops W (.slice A l.length cap) l ∧ l.length ≤ maxLen ∧ ∀ o ∈ l, o.1 < 65536 ∧ o.2.size ≤ maxLen := by
  obtain ⟨cs, n, rfl, hl, hf⟩ := open_fields Tryd.underlying27 (by kernel_rfl) (by kernel_rfl) hv h
  match cs, hl with
  | [c0, c1, c2, c3, c4], _ =>
    obtain ⟨_, y0⟩ := hf 0 _ c0 rfl rfl
    obtain ⟨_, y1⟩ := hf 1 _ c1 rfl rfl
    obtain ⟨_, y2⟩ := hf 2 _ c2 rfl rfl
    obtain ⟨_, y3⟩ := hf 3 _ c3 rfl rfl
    obtain ⟨_, y4⟩ := hf 4 _ c4 rfl rfl
    obtain ⟨k0, rfl, l0⟩ := one_u16 Tryd.underlying22 y0
    obtain ⟨k1, rfl, l1⟩ := one_u8 Tryd.underlying5 y1
    obtain ⟨k2, rfl, l2⟩ := one_u8 Tryd.underlying5 y2
    obtain ⟨k3, rfl, l3⟩ := one_u16 Tryd.underlying22 y3
    obtain ⟨l, ho, hm, hc⟩ := open_opts y4
    obtain ⟨A, cap, rfl⟩ := ho.form
    exact ⟨k0, k1, k2, k3, A, cap, l, rfl, l0, l1, l2, l3, ho, hm, hc⟩
end Go.Proofs.YtcednhpelbdoiaaDoor
