/-
  Small laws on bytes and tables that walks of several chapters use.
-/
import Derived.Test.YtijjfdmklbncbaaDoorCoTab
import Derived.Maps.AppendAt
import Derived.Test.YtijjfdmklbncbaaDoorRegB
import Derived.Test.YtijjfdmklbncbaaDoorCoFuel
namespace Go.Proofs.YtijjfdmklbncbaaDoor
open Go.RowKit

theorem TG.kb {w w' : World} {b B : Nat} {m : Option Nat} (h : TG w w' b m) (hB : B ≤ w.heap.size) (hb : B ≤ b) (hm : ∀ k, m = some k → B ≤ k) : KB B w w' :=
  ⟨h.os, h.tape, h.output, h.size, fun i hi => h.block i (by omega) (by omega) (fun e => by have := hm i e.symm; omega)⟩
theorem cell_lt {w : World} {b off : Nat} {v : Value} (h : w.cell? ⟨b, off, none⟩ = some v) : b < w.heap.size := World.block_lt_of_cell? w _ h
theorem cvs {w : World} {v : Value} {l : List UInt8} (h : SlB w v l) : (convert 30 9 v).run Tryd.prog w = .ok (.string ⟨l.toArray⟩) w :=
  run_string_of (P := Tryd.prog) w 30 9 5 Tryd.underlying30 Tryd.underlying5 Tryd.underlying9 h
theorem SlB.front {w : World} {A : Option Addr} {n cap : Nat} {x y : List UInt8} (h : SlB w (.slice A n cap) (x ++ y)) (hA : A ≠ none) : SlB w (.slice A x.length cap) x := by
  obtain ⟨A', cap', e, h1, h2, h3⟩ := h
  simp only [Value.slice.injEq] at e
  obtain ⟨rfl, _, rfl⟩ := e
  refine ⟨A, cap, rfl, by simp at h1; omega, fun e => absurd e hA, fun ad had j u hu => h3 ad had j u ?_⟩
  rw [bv_append, List.getElem?_append_left (by have := (List.getElem?_eq_some_iff.1 hu).1; exact this)]
  exact hu
theorem Own.cellAt {w : World} {base n cap : Nat} {A : Option Addr} {l : List UInt8} (h : Own w base (.slice A n cap) l) (hl : 0 < l.length) : ∃ g, A = some ⟨g, 0, none⟩ ∧ base ≤ g ∧ ∀ j (hj : j < l.length), w.cell? ⟨g, j, none⟩ = some (.int .u8 l[j].toNat) := by
  rcases h.2 with ⟨_, h2⟩ | ⟨g, cap', cur, e, hb, hg, _, _, _, ht⟩
  · omega
  · simp only [Value.slice.injEq] at e
    obtain ⟨rfl, _, _⟩ := e
    refine ⟨g, rfl, hb, fun j hj => ?_⟩
    have := bv_get l j hj
    rw [bcellAt hg, ← Array.getElem?_toList]
    rw [← ht, List.getElem?_take_of_lt (by omega)] at this
    exact this

theorem SlB.tail {w : World} {base n cap g : Nat} {x y : List UInt8} (h : Own w base (.slice (some ⟨g, 0, none⟩) n cap) (x ++ y)) (k : Nat) (hk : x.length = k) : SlB w (.slice (some ⟨g, k, none⟩) y.length (cap - k)) y := by
  obtain ⟨A', cap', e, h1, h2, h3⟩ := h.sl
  simp only [Value.slice.injEq] at e
  obtain ⟨rfl, _, rfl⟩ := e
  refine ⟨_, _, rfl, by simp at h1; omega, by simp, fun ad had j u hu => ?_⟩
  cases had
  have := h3 _ rfl (k + j) u (by rw [bv_append, List.getElem?_append_right (by rw [bv_len]; omega), bv_len, hk]; simpa using hu)
  rw [Addr.add_lit] at this ⊢
  rw [← this]
  congr 2
  omega
theorem str_ne {a b : ByteArray} (h : ¬ a = b) : (a.toList == b.toList) = false := by
  rw [beq_eq_false_iff_ne]
  intro e
  rw [ByteArray.toList_eq, ByteArray.toList_eq] at e
  exact h (ba_ext e)
theorem row_base {w : World} {base base' k n : Nat} {e : TypeId} {v : Value} {xs : List Value} (h : w.ownsRow base e k v n xs) (hb : base' ≤ base) : w.ownsRow base' e k v n xs := by
  refine ⟨h.1, ?_⟩
  rcases h.2 with h2 | ⟨g, cap, cur, h3, h4, h5⟩
  · exact .inl h2
  · exact .inr ⟨g, cap, cur, h3, Nat.le_trans hb h4, h5⟩
theorem cell_one_new1 (w : World) (o : Obj) (x : Value) (t : TypeId) : ∀ j u, [x][j]? = some u → ((w.alloc o).alloc (.cells #[x] t)).cell? ((⟨w.heap.size + 1, 0, none⟩ : Addr).add j) = some u := by
  have h := cell_one_new (w.alloc o) x t
  rw [asz] at h
  exact h
end Go.Proofs.YtijjfdmklbncbaaDoor
