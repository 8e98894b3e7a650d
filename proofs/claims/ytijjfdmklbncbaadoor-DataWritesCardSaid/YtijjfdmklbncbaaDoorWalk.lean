/-
  Small lemmas for printed walks: blocks behind several allocations.
-/
import Derived.Test.YtijjfdmklbncbaaDoorRegion
namespace Go.Proofs.YtijjfdmklbncbaaDoor
open Go.RowKit

theorem gfr1 {a w : World} {o : Obj} {row : Option Nat} (h : (a.alloc o).grownBy w row) : a.grownBy w row := gtrans (galloc (grefl _ row) _) h
theorem asz (w : World) (o : Obj) : (w.alloc o).heap.size = w.heap.size + 1 := by simp
theorem balloc1_0 (w : World) (o0 : Obj) : (w.alloc o0).heap[w.heap.size]? = some o0 := by
  have h := balloc w o0
  exact h
theorem balloc2_0 (w : World) (o0 o1 : Obj) : ((w.alloc o0).alloc o1).heap[w.heap.size]? = some o0 := by
  exact gblock (galloc (grefl _ none) _) (balloc1_0 w o0) (by simp)
theorem balloc2_1 (w : World) (o0 o1 : Obj) : ((w.alloc o0).alloc o1).heap[w.heap.size + 1]? = some o1 := by
  have h := balloc (w.alloc o0) o1
  simp only [asz] at h
  exact h
theorem balloc3_0 (w : World) (o0 o1 o2 : Obj) : (((w.alloc o0).alloc o1).alloc o2).heap[w.heap.size]? = some o0 := by
  exact gblock (galloc (grefl _ none) _) (balloc2_0 w o0 o1) (by simp)
theorem balloc3_1 (w : World) (o0 o1 o2 : Obj) : (((w.alloc o0).alloc o1).alloc o2).heap[w.heap.size + 1]? = some o1 := by
  exact gblock (galloc (grefl _ none) _) (balloc2_1 w o0 o1) (by simp)
theorem balloc3_2 (w : World) (o0 o1 o2 : Obj) : (((w.alloc o0).alloc o1).alloc o2).heap[w.heap.size + 2]? = some o2 := by
  have h := balloc ((w.alloc o0).alloc o1) o2
  simp only [asz, Nat.add_assoc, Nat.reduceAdd] at h
  exact h
theorem balloc4_0 (w : World) (o0 o1 o2 o3 : Obj) : ((((w.alloc o0).alloc o1).alloc o2).alloc o3).heap[w.heap.size]? = some o0 := by
  exact gblock (galloc (grefl _ none) _) (balloc3_0 w o0 o1 o2) (by simp)
theorem balloc4_1 (w : World) (o0 o1 o2 o3 : Obj) : ((((w.alloc o0).alloc o1).alloc o2).alloc o3).heap[w.heap.size + 1]? = some o1 := by
  exact gblock (galloc (grefl _ none) _) (balloc3_1 w o0 o1 o2) (by simp)
theorem balloc4_2 (w : World) (o0 o1 o2 o3 : Obj) : ((((w.alloc o0).alloc o1).alloc o2).alloc o3).heap[w.heap.size + 2]? = some o2 := by
  exact gblock (galloc (grefl _ none) _) (balloc3_2 w o0 o1 o2) (by simp)
theorem balloc4_3 (w : World) (o0 o1 o2 o3 : Obj) : ((((w.alloc o0).alloc o1).alloc o2).alloc o3).heap[w.heap.size + 3]? = some o3 := by
  have h := balloc (((w.alloc o0).alloc o1).alloc o2) o3
  simp only [asz, Nat.add_assoc, Nat.reduceAdd] at h
  exact h
end Go.Proofs.YtijjfdmklbncbaaDoor
