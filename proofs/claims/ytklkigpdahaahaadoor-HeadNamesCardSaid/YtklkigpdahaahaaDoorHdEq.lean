/-
  Equality of two rows of four counts.
-/
import Derived.Test.YtklkigpdahaahaaDoorBase
import Derived.Test.YtklkigpdahaahaaDoorProg
import Derived.ChangeKeysEq
import Derived.Laws.StructEq
namespace Go.Proofs.YtklkigpdahaahaaDoor

theorem counts_eq (w : World) (a b c d a' b' c' d' : Int) : (Op.equalIn 10000 26 (.agg #[.int .i64 a, .int .i64 b, .int .i64 c, .int .i64 d]) (.agg #[.int .i64 a', .int .i64 b', .int .i64 c', .int .i64 d'])).run Tryd.prog w = .ok (a == a' && (b == b' && (c == c' && d == d'))) w := by
  have hi : Tryd.prog.cellsOf 3 = 1 := by kernel_rfl
  have r4 : List.range 4 = [0, 1, 2, 3] := by decide
  obtain ⟨i, hq⟩ := Option.isSome_iff_exists.1 (show (Tryd.prog.info? 3).isSome = true by kernel_rfl)
  rw [run_equalIn_array w 9999 _ _ Tryd.underlying26 hq, r4]
  by_cases h1 : a = a' <;> by_cases h2 : b = b' <;> by_cases h3 : c = c' <;> by_cases h4 : d = d' <;> simp [Op.eqItems, part, hi, go_sem, h1, h2, h3, h4]
theorem four_eq (w : World) (a b c d a' b' c' d' : Int) : (Op.equalIn 10000 25 (.agg #[.int .i64 a, .int .i64 b, .int .i64 c, .int .i64 d]) (.agg #[.int .i64 a', .int .i64 b', .int .i64 c', .int .i64 d'])).run Tryd.prog w = .ok (a == a' && (b == b' && (c == c' && d == d'))) w := by
  have hi : Tryd.prog.cellsOf 3 = 1 := by kernel_rfl
  have r4 : List.range 4 = [0, 1, 2, 3] := by decide
  obtain ⟨i, hq⟩ := Option.isSome_iff_exists.1 (show (Tryd.prog.info? 3).isSome = true by kernel_rfl)
  rw [run_equalIn_array w 9999 _ _ Tryd.underlying25 hq, r4]
  by_cases h1 : a = a' <;> by_cases h2 : b = b' <;> by_cases h3 : c = c' <;> by_cases h4 : d = d' <;> simp [Op.eqItems, part, hi, go_sem, h1, h2, h3, h4]
end Go.Proofs.YtklkigpdahaahaaDoor
