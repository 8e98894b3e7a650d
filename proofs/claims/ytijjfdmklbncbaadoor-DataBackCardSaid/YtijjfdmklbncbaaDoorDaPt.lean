/-
  Parts that are written (layer 5): as they lie in memory, as they come in; long.
-/
import Derived.Test.YtijjfdmklbncbaaDoorA3
import Derived.Test.YtijjfdmklbncbaaDoorA4
import Derived.Test.YtijjfdmklbncbaaDoorA5
namespace Go.Proofs.YtijjfdmklbncbaaDoor
open Go.ChangeShapes Go.WideShapes Go.RowKit Go.Deep

structure Pt where
  kind : Nat
  data : ByteArray
def ptv (x : Pt) : List Value := [.int .u16 (x.kind : Int), .string x.data]
theorem ptv_len (x : Pt) : (ptv x).length = 2 := rfl
def Pts (w : World) (v : Value) (l : List Pt) : Prop := Sl w 2 v l.length (l.flatMap ptv)
theorem open_pts {H : Type} {enc : TypeId × Value → H} {W : World} {v : Value} {d : DataW H} {p : List MemPlace}
    (h : DataW.Trod enc Tryd.prog W 0 (fun _ => true) true 28 v d p) (hv : ∃ A n c, v = .slice A n c) : ∃ l : List Pt, Pts W v l ∧ l.length ≤ maxLen ∧ ∀ x ∈ l, x.data.size ≤ maxLen := by
  obtain ⟨fuel, hf⟩ := h
  obtain ⟨A, n, c, rfl⟩ := hv
  rcases open_structs Tryd.underlying28 Tryd.underlying40 (by kernel_rfl) (by kernel_rfl) hf with h0 | ⟨a, len, cap, h0, hl, hm, hx⟩
  · refine ⟨[], ?_, by simp, by simp⟩
    rw [h0]
    exact Sl.nil W 2
  · rw [h0]
    obtain ⟨l, e1, e2, e3⟩ := sl_of_each (α := Pt) (W := W) (a := a) (len := len) (cap := cap) (k := 2) (by decide) hl ptv ptv_len (fun x => x.data.size ≤ maxLen) (by
      intro i hi
      obtain ⟨cs, hcl, hc, n, hy⟩ := hx i hi
      match cs, hcl with
      | [c0, c1], _ =>
        obtain ⟨_, y0⟩ := hy 0 _ c0 rfl rfl
        obtain ⟨_, y1⟩ := hy 1 _ c1 rfl rfl
        obtain ⟨s, q0, _, hs⟩ := DataW.trod_string Tryd.underlying9 y1
        obtain ⟨g, q3, hg⟩ := one_u16 Tryd.underlying22 y0
        have q0' : c1 = .string s := by simpa using q0
        subst q0' q3
        exact ⟨⟨g, s⟩, hs, fun j hj => hc j hj⟩)
    refine ⟨l, ?_, by omega, e3⟩
    unfold Pts
    rw [e1]
    exact e2
/-- The cells of an item. -/
theorem Pts.at {w : World} {A : Option Addr} {n cap i : Nat} {l : List Pt} (h : Pts w (.slice A n cap) l) (hi : i < l.length) : ∃ b off, A = some ⟨b, off, none⟩ ∧ n = l.length ∧ n ≤ cap ∧ w.cell? ⟨b, off + i * 2, none⟩ = some (.int .u16 (l[i].kind : Int)) ∧ w.cell? ⟨b, off + i * 2 + 1, none⟩ = some (.string l[i].data) := by
  obtain ⟨A', cap', e, h1, h2, h3, h4⟩ := h
  simp only [Value.slice.injEq] at e
  obtain ⟨rfl, rfl, rfl⟩ := e
  obtain ⟨b, off, rfl, hc⟩ := h4 (by omega)
  refine ⟨b, off, rfl, rfl, h1, ?_, ?_⟩
  · have := hc (i * 2 + 0) (.int .u16 (l[i].kind : Int)) (by rw [flat_get ptv 2 ptv_len l i 0 (by omega) l[i] (List.getElem?_eq_getElem hi)]; rfl)
    rw [← Nat.add_assoc] at this; exact this
  · have := hc (i * 2 + 1) (.string l[i].data) (by rw [flat_get ptv 2 ptv_len l i 1 (by omega) l[i] (List.getElem?_eq_getElem hi)]; rfl)
    rw [← Nat.add_assoc] at this; exact this
/-- How much a statement goes over. -/
def ptSum (l : List Pt) : Nat := (l.map fun x => 20 + min 4000 x.data.size).sum
theorem Pts.shape {w : World} {v : Value} {l : List Pt} (h : Pts w v l) : ∃ A cap, v = .slice A l.length cap ∧ l.length ≤ cap := by
  obtain ⟨A, cap, e, h1, _⟩ := h
  exact ⟨A, cap, e, h1⟩
theorem Pts.kept {w w' : World} {v : Value} {l : List Pt} (h : Pts w v l) (g : w.grownBy w' none) : Pts w' v l := Sl.kept0 h g
theorem ptSum_take {l : List Pt} {i : Nat} (h : i < l.length) : ptSum (l.take (i + 1)) = ptSum (l.take i) + (20 + min 4000 l[i].data.size) := by
  unfold ptSum
  rw [List.take_succ_eq_append_getElem h, List.map_append, List.sum_append]
  simp
theorem ptSum_mono (l : List Pt) (i : Nat) : ptSum (l.take i) ≤ ptSum l := by
  have e : l = l.take i ++ l.drop i := (List.take_append_drop i l).symm
  have : ptSum l = ptSum (l.take i) + ptSum (l.drop i) := by
    unfold ptSum
    rw [← List.sum_append, ← List.map_append, List.take_append_drop]
  omega
theorem ptSum_len (l : List Pt) (i : Nat) (h : i ≤ l.length) : 20 * i ≤ ptSum (l.take i) := by
  induction i with
  | zero => simp
  | succ i ih => rw [ptSum_take (by omega)]; have := ih (by omega); omega

set_option maxRecDepth 100000 in
theorem long5_any (v : Value) (l : List Pt) (w : World) (h : Pts w v l) (hl : l.length ≤ maxLen) (hs : ∀ x ∈ l, x.data.size ≤ maxLen) : Calls Tryd.prog 14 #[v] w fun e w' => e = .returned (.bool (decide (4000 ≤ ptSum l))) ∧ w = w' := by
  have HI := Lib.hid h
  obtain ⟨A, cap, rfl, hcap⟩ := h.shape
  clear h
  unfold maxLen at hl hs
  go_enter Tryd.func14, Tryd.ntmps14
  go_wp2_with fail
  go_loop [3, 4] (fun n i => ∃ k s : Nat, k ≤ l.length ∧ i = .int .i64 k ∧ n = .int .i64 s ∧ s = ptSum (l.take k) ∧ s ≤ 8019) (fun _ i => l.length - (intOf i).toNat)
  case atStart => exact ⟨0, 0, by omega, rfl, rfl, rfl, by omega⟩
  case round =>
    obtain ⟨k, s, hk, rfl, rfl, hsum, hs8⟩ := hrel
    by_cases hlt : k < l.length
    · have k1 : decide ((k : Int) < (l.length : Int)) = true := by simp; omega
      by_cases h8 : s < 4000
      · have k2 : decide ((s : Int) < 4000) = true := by simp; omega
        obtain ⟨b, off, rfl, _, _, _, c0⟩ := HI.out.at hlt
        have hn := hs l[k] (List.getElem_mem hlt)
        have HS := Lib.hid (ptSum_take hlt)
        have HM := Lib.hid hsum
        generalize l[k].data = nm at *
        clear hsum
        go_wp2_with fail
        go_round
        case rel =>
          refine ⟨k + 1, s + (20 + min 4000 nm.size), by omega, by go_num, ?_, by rw [HS.out, HM.out], by omega⟩
          by_cases h9 : nm.size < 4000
          · rw [if_pos (by omega)]; congr 1; omega
          · rw [if_neg (by omega)]; congr 1; omega
        case measure => simp [intOf]; omega
      · have k2 : decide ((s : Int) < 4000) = false := by simp; omega
        have HM := Lib.hid (show 4000 ≤ ptSum l by have := ptSum_mono l k; omega)
        clear hsum
        go_wp2_with fail
        go_ret
        have := HM.out
        refine ⟨?_, rfl⟩
        simp [this]
        omega
    · have k1 : decide ((k : Int) < (l.length : Int)) = false := by simp; omega
      have HM := Lib.hid (show s = ptSum l by rw [hsum, List.take_of_length_le (by omega)])
      clear hsum
      go_wp2_with fail
      go_ret
      refine ⟨?_, rfl⟩
      rw [← HM.out]
      simp
      omega
end Go.Proofs.YtijjfdmklbncbaaDoor
