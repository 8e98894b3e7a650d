/-
  The document's names: Labels, May; its table: At.
-/
import Derived.Test.YtijjfdmklbncbaaDoorCvs
import Derived.Test.YtijjfdmklbncbaaDoorNm
namespace Go.Proofs.YtijjfdmklbncbaaDoor
open Go.RowKit

theorem rmay_any (s : ByteArray) (w : World) (hs : s.size ≤ 1000000) : Calls Tryd.prog 44 #[.string s] w fun e w' => e = .returned (.bool (may s)) ∧ w.grownBy w' none := by
  go_enter Tryd.func44, Tryd.ntmps44
  go_wp2_with fail
  refine (rlabs_any s w (by omega)).mono ?_
  rintro e w1 ⟨v, rfl, hg, _⟩
  go_wp2_with fail
  go_ret
  exact ⟨rfl, hg⟩

/-- The document's table at block b. -/
def tbv (T : Tb) : List Value := T.flatMap fun x => [.string x.1, .int .i64 (x.2 : Int)]
theorem tbv_len (T : Tb) : (tbv T).length = T.length * 2 := flat_len _ 2 (fun _ => rfl) T
structure RT (w : World) (b : Nat) (v : Value) (T : Tb) : Prop where
  cell : w.heap[b]? = some (.cells #[v] 36 (0, 0))
  row : w.ownsRow (b + 1) 95 2 v T.length (tbv T)
theorem RT.kept {w w' : World} {b : Nat} {v : Value} {T : Tb} {row : Option Nat} (h : RT w b v T) (g : w.grownBy w' row) (h1 : row ≠ some b) (h2 : v.ownBlock = none ∨ v.ownBlock ≠ row) : RT w' b v T := ⟨gblock g h.cell (fun e => h1 e.symm), World.ownsRow.kept h.row g h2⟩
theorem RT.kept0 {w w' : World} {b : Nat} {v : Value} {T : Tb} (h : RT w b v T) (g : w.grownBy w' none) : RT w' b v T := h.kept g (by simp) (by cases v.ownBlock <;> simp)
theorem RT.at {w : World} {b n cap : Nat} {A : Option Addr} {T : Tb} (h : RT w b (.slice A n cap) T) {i : Nat} (hi : i < T.length) : ∃ g, A = some ⟨g, 0, none⟩ ∧ w.cell? ⟨g, i * 2, none⟩ = some (.string T[i].1) ∧ w.cell? ⟨g, i * 2 + 1, none⟩ = some (.int .i64 (T[i].2 : Int)) := by
  obtain ⟨A', cap', e, _, _, h3, h4⟩ := (FS.of h.row).sl
  simp only [Value.slice.injEq] at e
  obtain ⟨rfl, rfl, rfl⟩ := e
  rcases h.row.2 with ⟨_, h2⟩ | ⟨g, cap2, cur, e, hb, hg, _, _, hcs, ht⟩
  · omega
  · simp only [Value.slice.injEq] at e
    obtain ⟨rfl, _, _⟩ := e
    have get := fun j hj => flat_get (fun x : ByteArray × Nat => [Value.string x.1, .int .i64 (x.2 : Int)]) 2 (fun _ => rfl) T i j hj T[i] (List.getElem?_eq_getElem hi)
    have cell := fun j (hj : j < 2) => show w.cell? ⟨g, i * 2 + j, none⟩ = [Value.string T[i].1, .int .i64 (T[i].2 : Int)][j]? by
      rw [bcellAt hg, ← Array.getElem?_toList, ← get j hj]
      show _ = (tbv T)[i * 2 + j]?
      rw [← ht, List.getElem?_take_of_lt (by omega)]
    exact ⟨g, rfl, cell 0 (by omega), cell 1 (by omega)⟩
theorem str_yes {a b : ByteArray} (h : a = b) : (a.toList == b.toList) = true := by subst h; simp
theorem tget_drop_hit {T : Tb} {i : Nat} {s : ByteArray} (hi : i < T.length) (h : T[i].1 = s) : tget (T.drop i) s = some T[i].2 := by
  unfold tget
  rw [List.drop_eq_getElem_cons hi, List.find?_cons]
  simp [h]
theorem tget_drop_miss {T : Tb} {i : Nat} {s : ByteArray} (hi : i < T.length) (h : ¬ T[i].1 = s) : tget (T.drop i) s = tget (T.drop (i + 1)) s := by
  unfold tget
  rw [List.drop_eq_getElem_cons hi, List.find?_cons]
  simp [h]
set_option maxRecDepth 100000 in
theorem rat_any (b : Nat) (v : Value) (T : Tb) (s : ByteArray) (w : World) (h : RT w b v T) (hl : T.length ≤ 1000000) : Calls Tryd.prog 45 #[.pointer (some ⟨b, 0, none⟩), .string s] w fun e w' => e = .returned (.tuple #[.int .i64 (((tget T s).getD 0 : Nat) : Int), .bool (tget T s).isSome]) ∧ w = w' := by
  have HT := Lib.hid h
  obtain ⟨A, cap, rfl, hcap, hcm⟩ := own_shape h.row
  unfold maxLen at hcm
  have c0 : w.cell? ⟨b, 0, none⟩ = some (.slice A T.length cap) := bcellAt h.cell 0
  clear h
  go_enter Tryd.func45, Tryd.ntmps45
  go_wp2_with fail
  go_loop [6] (fun vi => ∃ i : Nat, i ≤ T.length ∧ vi = .int .i64 i ∧ tget T s = tget (T.drop i) s) (fun vi => T.length - (intOf vi).toNat)
  case atStart => exact ⟨0, by omega, rfl, rfl⟩
  case round =>
    obtain ⟨i, hi, rfl, hr⟩ := hrel
    have HR := Lib.hid hr
    clear hr
    by_cases hlt : i < T.length
    · have k0 : decide ((i : Int) < (T.length : Int)) = true := by simp; omega
      obtain ⟨g, rfl, d0, d1⟩ := HT.out.at hlt
      by_cases he : T[i].1 = s
      · have z0 := str_yes he
        have HN := Lib.hid (HR.out.trans (tget_drop_hit hlt he))
        clear he
        generalize T[i].1 = q at *
        generalize T[i].2 = q2 at *
        go_wp2_with fail
        go_ret2
        rw [HN.out]
        exact ⟨rfl, rfl⟩
      · have z0 := str_ne he
        have HN := Lib.hid (HR.out.trans (tget_drop_miss hlt he))
        clear he
        generalize T[i].1 = q at *
        generalize T[i].2 = q2 at *
        go_wp2_with fail
        go_round
        case rel => exact ⟨i + 1, by omega, by go_num, HN.out⟩
        case measure => simp [intOf]; omega
    · have k0 : decide ((i : Int) < (T.length : Int)) = false := by simp; omega
      have HN := Lib.hid (HR.out.trans (show tget (T.drop i) s = none by rw [List.drop_of_length_le (by omega)]; rfl))
      go_wp2_with fail
      go_ret2
      rw [HN.out]
      exact ⟨rfl, rfl⟩
end Go.Proofs.YtijjfdmklbncbaaDoor
