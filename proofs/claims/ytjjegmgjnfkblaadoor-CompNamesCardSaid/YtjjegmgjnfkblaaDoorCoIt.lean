/-
  Items that are put (layer 4): as they lie in memory, as they come in; long.
-/
import Derived.Test.YtjjegmgjnfkblaaDoorOpenL
import Derived.Test.YtjjegmgjnfkblaaDoorCoNm
namespace Go.Proofs.YtjjegmgjnfkblaaDoor
open Go.ChangeShapes Go.WideShapes Go.RowKit Go.Deep

structure It where
  name : ByteArray
  cmp : Bool
  known : Bool
  gap : Nat
def itv (x : It) : List Value := [.string x.name, .bool x.cmp, .bool x.known, .int .u16 x.gap]
theorem itv_len (x : It) : (itv x).length = 4 := rfl
def Its (w : World) (v : Value) (l : List It) : Prop := Sl w 4 v l.length (l.flatMap itv)
theorem open_its {H : Type} {enc : TypeId × Value → H} {W : World} {v : Value} {d : DataW H} {p : List MemPlace}
    (h : DataW.Trod enc Tryd.prog W 0 (fun _ => true) true 27 v d p) (hv : ∃ A n c, v = .slice A n c) : ∃ l : List It, Its W v l ∧ l.length ≤ maxLen ∧ ∀ x ∈ l, x.gap < 65536 ∧ x.name.size ≤ maxLen := by
  obtain ⟨fuel, hf⟩ := h
  obtain ⟨A, n, c, rfl⟩ := hv
  rcases open_structs Tryd.underlying27 Tryd.underlying36 (by kernel_rfl) (by kernel_rfl) hf with h0 | ⟨a, len, cap, h0, hl, hm, hx⟩
  · refine ⟨[], ?_, by simp, by simp⟩
    rw [h0]
    exact Sl.nil W 4
  · rw [h0]
    obtain ⟨l, e1, e2, e3⟩ := sl_of_each (α := It) (W := W) (a := a) (len := len) (cap := cap) (k := 4) (by decide) hl itv itv_len (fun x => x.gap < 65536 ∧ x.name.size ≤ maxLen) (by
      intro i hi
      obtain ⟨cs, hcl, hc, n, hy⟩ := hx i hi
      match cs, hcl with
      | [c0, c1, c2, c3], _ =>
        obtain ⟨_, y0⟩ := hy 0 _ c0 rfl rfl
        obtain ⟨_, y1⟩ := hy 1 _ c1 rfl rfl
        obtain ⟨_, y2⟩ := hy 2 _ c2 rfl rfl
        obtain ⟨_, y3⟩ := hy 3 _ c3 rfl rfl
        obtain ⟨s, q0, _, hs⟩ := DataW.trod_string Tryd.underlying9 y0
        obtain ⟨b1, q1⟩ := one_bool Tryd.underlying4 y1
        obtain ⟨b2, q2⟩ := one_bool Tryd.underlying4 y2
        obtain ⟨g, q3, hg⟩ := one_u16 Tryd.underlying34 y3
        have q0' : c0 = .string s := by simpa using q0
        subst q0' q1 q2 q3
        exact ⟨⟨s, b1, b2, g⟩, ⟨hg, hs⟩, fun j hj => hc j hj⟩)
    refine ⟨l, ?_, by omega, e3⟩
    unfold Its
    rw [e1]
    exact e2
/-- The cells of an item. -/
theorem Its.at {w : World} {A : Option Addr} {n cap i : Nat} {l : List It} (h : Its w (.slice A n cap) l) (hi : i < l.length) : ∃ b off, A = some ⟨b, off, none⟩ ∧ n = l.length ∧ n ≤ cap ∧ w.cell? ⟨b, off + i * 4, none⟩ = some (.string l[i].name) ∧ w.cell? ⟨b, off + i * 4 + 1, none⟩ = some (.bool l[i].cmp) ∧ w.cell? ⟨b, off + i * 4 + 2, none⟩ = some (.bool l[i].known) ∧ w.cell? ⟨b, off + i * 4 + 3, none⟩ = some (.int .u16 l[i].gap) := by
  obtain ⟨A', cap', e, h1, h2, h3, h4⟩ := h
  simp only [Value.slice.injEq] at e
  obtain ⟨rfl, rfl, rfl⟩ := e
  obtain ⟨b, off, rfl, hc⟩ := h4 (by omega)
  refine ⟨b, off, rfl, rfl, h1, ?_, ?_, ?_, ?_⟩
  · have := hc (i * 4 + 0) (.string l[i].name) (by rw [flat_get itv 4 itv_len l i 0 (by omega) l[i] (List.getElem?_eq_getElem hi)]; rfl)
    rw [← Nat.add_assoc] at this; exact this
  · have := hc (i * 4 + 1) (.bool l[i].cmp) (by rw [flat_get itv 4 itv_len l i 1 (by omega) l[i] (List.getElem?_eq_getElem hi)]; rfl)
    rw [← Nat.add_assoc] at this; exact this
  · have := hc (i * 4 + 2) (.bool l[i].known) (by rw [flat_get itv 4 itv_len l i 2 (by omega) l[i] (List.getElem?_eq_getElem hi)]; rfl)
    rw [← Nat.add_assoc] at this; exact this
  · have := hc (i * 4 + 3) (.int .u16 l[i].gap) (by rw [flat_get itv 4 itv_len l i 3 (by omega) l[i] (List.getElem?_eq_getElem hi)]; rfl)
    rw [← Nat.add_assoc] at this; exact this
/-- How much a statement goes over. -/
def itSum (l : List It) : Nat := (l.map fun x => 20 + min 8000 x.name.size).sum
theorem Its.shape {w : World} {v : Value} {l : List It} (h : Its w v l) : ∃ A cap, v = .slice A l.length cap ∧ l.length ≤ cap := by
  obtain ⟨A, cap, e, h1, _⟩ := h
  exact ⟨A, cap, e, h1⟩
theorem Its.kept {w w' : World} {v : Value} {l : List It} (h : Its w v l) (g : w.grownBy w' none) : Its w' v l := Sl.kept0 h g
theorem itSum_take {l : List It} {i : Nat} (h : i < l.length) : itSum (l.take (i + 1)) = itSum (l.take i) + (20 + min 8000 l[i].name.size) := by
  unfold itSum
  rw [List.take_succ_eq_append_getElem h, List.map_append, List.sum_append]
  simp
theorem itSum_mono (l : List It) (i : Nat) : itSum (l.take i) ≤ itSum l := by
  have e : l = l.take i ++ l.drop i := (List.take_append_drop i l).symm
  have : itSum l = itSum (l.take i) + itSum (l.drop i) := by
    unfold itSum
    rw [← List.sum_append, ← List.map_append, List.take_append_drop]
  omega
theorem itSum_len (l : List It) (i : Nat) (h : i ≤ l.length) : 20 * i ≤ itSum (l.take i) := by
  induction i with
  | zero => simp
  | succ i ih => rw [itSum_take (by omega)]; have := ih (by omega); omega

set_option maxRecDepth 100000 in
theorem long_any (v : Value) (l : List It) (w : World) (h : Its w v l) (hl : l.length ≤ maxLen) (hs : ∀ x ∈ l, x.name.size ≤ maxLen) : Calls Tryd.prog 13 #[v] w fun e w' => e = .returned (.bool (decide (8000 ≤ itSum l))) ∧ w = w' := by
  have HI := Lib.hid h
  obtain ⟨A, cap, rfl, hcap⟩ := h.shape
  clear h
  unfold maxLen at hl hs
  go_enter Tryd.func13, Tryd.ntmps13
  go_wp2_with fail
  go_loop [3, 4] (fun n i => ∃ k s : Nat, k ≤ l.length ∧ i = .int .i64 k ∧ n = .int .i64 s ∧ s = itSum (l.take k) ∧ s ≤ 16019) (fun _ i => l.length - (intOf i).toNat)
  case atStart => exact ⟨0, 0, by omega, rfl, rfl, rfl, by omega⟩
  case round =>
    obtain ⟨k, s, hk, rfl, rfl, hsum, hs8⟩ := hrel
    by_cases hlt : k < l.length
    · have k1 : decide ((k : Int) < (l.length : Int)) = true := by simp; omega
      by_cases h8 : s < 8000
      · have k2 : decide ((s : Int) < 8000) = true := by simp; omega
        obtain ⟨b, off, rfl, _, _, c0, _⟩ := HI.out.at hlt
        have hn := hs l[k] (List.getElem_mem hlt)
        have HS := Lib.hid (itSum_take hlt)
        have HM := Lib.hid hsum
        generalize l[k].name = nm at *
        clear hsum
        go_wp2_with fail
        go_round
        case rel =>
          refine ⟨k + 1, s + (20 + min 8000 nm.size), by omega, by go_num, ?_, by rw [HS.out, HM.out], by omega⟩
          by_cases h9 : nm.size < 8000
          · rw [if_pos (by omega)]; congr 1; omega
          · rw [if_neg (by omega)]; congr 1; omega
        case measure => simp [intOf]; omega
      · have k2 : decide ((s : Int) < 8000) = false := by simp; omega
        have HM := Lib.hid (show 8000 ≤ itSum l by have := itSum_mono l k; omega)
        clear hsum
        go_wp2_with fail
        go_ret
        have := HM.out
        refine ⟨?_, rfl⟩
        simp [this]
        omega
    · have k1 : decide ((k : Int) < (l.length : Int)) = false := by simp; omega
      have HM := Lib.hid (show s = itSum l by rw [hsum, List.take_of_length_le (by omega)])
      clear hsum
      go_wp2_with fail
      go_ret
      refine ⟨?_, rfl⟩
      rw [← HM.out]
      simp
      omega
end Go.Proofs.YtjjegmgjnfkblaaDoor
