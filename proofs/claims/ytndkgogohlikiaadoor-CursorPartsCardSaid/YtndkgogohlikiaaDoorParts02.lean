/-
  hustingslaw02.CursorParts is true: its walk, all cases together.
-/
import Derived.Test.YtndkgogohlikiaaDoorParts02a
import Derived.Test.YtndkgogohlikiaaDoorParts02b
import Derived.Test.YtndkgogohlikiaaDoorParts02c
import Derived.Test.YtndkgogohlikiaaDoorParts02d
namespace Go.Proofs.YtndkgogohlikiaaDoor
open Go.RowKit

set_option maxRecDepth 100000 in
theorem parts_big (s : ByteArray) (x1 x2 x3 : Int) (w : World) (he : Et w) (hs : 20000 < s.size) : Calls Tryd.prog 3 #[.string s, .int .i64 x1, .int .i64 x2, .int .i64 x3] w fun e w' => e = .returned (.bool true) ∧ w.grownBy w' none := by
  have hb : decide ((20000 : Int) < (s.size : Int)) = true := by simp; omega
  go_enter Tryd.func3, Tryd.ntmps3
  go_wp2_with fail
  refine (awake_any w he).mono ?_
  rintro e w1 ⟨rfl, hg⟩
  go_wp2_with fail
  go_ret
  exact ⟨rfl, hg⟩

theorem parts_walk (s : ByteArray) (x1 x2 x3 : Int) (w : World) (he : Et w) : Calls Tryd.prog 3 #[.string s, .int .i64 x1, .int .i64 x2, .int .i64 x3] w fun e w' => e = .returned (.bool true) ∧ w.grownBy w' none := by
  by_cases hs : 20000 < s.size
  · exact parts_big s x1 x2 x3 w he hs
  have hs' : s.size ≤ 20000 := by omega
  obtain ⟨q, hq, hqs⟩ := umod x1 (s.size + 1) (by omega) (by omega)
  obtain ⟨x, hx, hx50⟩ := umod x2 50 (by omega) (by omega)
  obtain ⟨y, hy, hy50⟩ := umod x3 50 (by omega) (by omega)
  have hqs' : q ≤ s.size := by omega
  by_cases h4 : q + 4 ≤ s.size
  · by_cases ht : q + (x + y) ≤ s.size
    · exact parts_aa s x1 x2 x3 q x y w he hs' hqs' hx50 hy50 hq hx hy h4 ht
    · by_cases ht1 : q + x ≤ s.size
      · exact parts_ab s x1 x2 x3 q x y w he hs' hqs' hx50 hy50 hq hx hy h4 ht1 (by omega)
      · exact parts_ac s x1 x2 x3 q x y w he hs' hqs' hx50 hy50 hq hx hy h4 (by omega)
  · by_cases h2 : q + 2 ≤ s.size
    · by_cases ht : q + (x + y) ≤ s.size
      · exact parts_ba s x1 x2 x3 q x y w he hs' hqs' hx50 hy50 hq hx hy h2 (by omega) ht
      · by_cases ht1 : q + x ≤ s.size
        · exact parts_bb s x1 x2 x3 q x y w he hs' hqs' hx50 hy50 hq hx hy h2 (by omega) ht1 (by omega)
        · exact parts_bc s x1 x2 x3 q x y w he hs' hqs' hx50 hy50 hq hx hy h2 (by omega) (by omega)
    · by_cases h1 : q + 1 ≤ s.size
      · by_cases ht : q + (x + y) ≤ s.size
        · exact parts_ca s x1 x2 x3 q x y w he hs' hqs' hx50 hy50 hq hx hy h1 (by omega) ht
        · by_cases ht1 : q + x ≤ s.size
          · exact parts_cb s x1 x2 x3 q x y w he hs' hqs' hx50 hy50 hq hx hy h1 (by omega) ht1 (by omega)
          · exact parts_cc s x1 x2 x3 q x y w he hs' hqs' hx50 hy50 hq hx hy h1 (by omega) (by omega)
      · by_cases ht : q + (x + y) ≤ s.size
        · exact parts_da s x1 x2 x3 q x y w he hs' hqs' hx50 hy50 hq hx hy (by omega) ht
        · by_cases ht1 : q + x ≤ s.size
          · exact parts_db s x1 x2 x3 q x y w he hs' hqs' hx50 hy50 hq hx hy (by omega) ht1 (by omega)
          · exact parts_dc s x1 x2 x3 q x y w he hs' hqs' hx50 hy50 hq hx hy (by omega) (by omega)
end Go.Proofs.YtndkgogohlikiaaDoor
