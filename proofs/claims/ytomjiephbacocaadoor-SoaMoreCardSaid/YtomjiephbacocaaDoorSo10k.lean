/-
  Soa: LongSets.
-/
import Derived.Test.YtomjiephbacocaaDoorSo10j
namespace Go.Proofs.YtomjiephbacocaaDoor
open Go.RowKit

/-- A set that a statement goes over. -/
def SmSt (x : St) : Prop := x.name.size < 6000 ∧ x.data.length ≤ 600 ∧ ∀ s ∈ x.data, s.size < 6000
def LgPost (l : List St) (w : World) (e : Ending) (w' : World) : Prop := ∃ q : Bool, e = .returned (.bool q) ∧ w = w' ∧ (q = false → l.length ≤ 200 ∧ ∀ x ∈ l, SmSt x)
def LgO (l : List St) (k s : Nat) : Prop := 30 * k ≤ s ∧ (s < 6000 → ∀ x ∈ l.take k, SmSt x)
def LgI (l : List St) (k : Nat) (nm : ByteArray) (dat : List ByteArray) (j s : Nat) : Prop := 30 * (k + 1) + 10 * j ≤ s ∧ (s < 6000 → (∀ x ∈ l.take k, SmSt x) ∧ nm.size < 6000 ∧ ∀ d ∈ dat.take j, d.size < 6000)
theorem LgI.step {l : List St} {k j s : Nat} {nm : ByteArray} {dat : List ByteArray} (h : LgI l k nm dat j s) (hj : j < dat.length) : LgI l k nm dat (j + 1) (s + 10 + min 6000 dat[j].size) := by
  refine ⟨by have := h.1; omega, fun hs => ?_⟩
  obtain ⟨h1, h2, h3⟩ := h.2 (by omega)
  refine ⟨h1, h2, fun d hd => ?_⟩
  rw [List.take_succ_eq_append_getElem hj, List.mem_append] at hd
  rcases hd with hd | hd
  · exact h3 d hd
  · simp at hd
    subst hd
    omega
theorem LgI.done {l : List St} {k j s : Nat} {x : St} (hk : k < l.length) (hx : l[k] = x) (h : LgI l k x.name x.data j s) (hj : s < 6000 → x.data.length ≤ j) : LgO l (k + 1) s := by
  refine ⟨by have := h.1; omega, fun hs y hy => ?_⟩
  obtain ⟨h1, h2, h3⟩ := h.2 hs
  have hj' := hj hs
  rw [List.take_succ_eq_append_getElem hk, List.mem_append] at hy
  rcases hy with hy | hy
  · exact h1 y hy
  · simp at hy
    rw [hy, hx]
    rw [List.take_of_length_le hj'] at h3
    exact ⟨h2, by have := h.1; omega, h3⟩

set_option maxRecDepth 100000 in
set_option maxHeartbeats 16000000 in
theorem longsets_any (v : Value) (l : List St) (w : World) (h : Sts w v l) (hl : l.length ≤ maxLen) (hs : ∀ x ∈ l, x.name.size ≤ maxLen ∧ x.data.length ≤ maxLen ∧ ∀ s ∈ x.data, s.size ≤ maxLen) : Calls Tryd.prog 9 #[v] w (LgPost l w) := by
  have HI := Lib.hid h
  have HSz := Lib.hid hs
  obtain ⟨A, cap, rfl, hcap⟩ := h.shape
  unfold maxLen at hl
  clear h hs
  go_enter Tryd.func9, Tryd.ntmps9
  go_wp2_with fail
  go_loop [3, 4] (fun n i => ∃ k s : Nat, k ≤ l.length ∧ i = .int .i64 k ∧ n = .int .i64 s ∧ s ≤ 13000 ∧ LgO l k s) (fun _ i => l.length - (intOf i).toNat)
  case atStart => exact ⟨0, 0, by omega, rfl, rfl, by omega, by omega, fun _ x hx => by simp at hx⟩
  case round =>
    obtain ⟨k, s, hk, rfl, rfl, hs8, ho⟩ := hrel
    have HO := Lib.hid ho
    clear ho
    by_cases hlt : k < l.length
    · have k1 : decide ((k : Int) < (l.length : Int)) = true := by simp; omega
      by_cases h6 : s < 6000
      · have k2 : decide ((s : Int) < 6000) = true := by simp; omega
        obtain ⟨b, off, rfl, _, _, c0, _, _, _, c4⟩ := HI.out.at hlt
        have hsz := HSz.out l[k] (List.getElem_mem hlt)
        have hw := HI.out.2 l[k] (List.getElem_mem hlt)
        obtain ⟨Ad, cd, hvd, hcd⟩ := hw.shape
        unfold StW at hw
        have HDone := Lib.hid (fun (j s' : Nat) => LgI.done (j := j) (s := s') hlt rfl)
        generalize l[k] = x at *
        obtain ⟨nm, kd, cl, tt, vd, dat⟩ := x
        simp only at hvd c0 c4 hsz hw hcd
        subst hvd
        have HW := Lib.hid hw
        have HS2 := Lib.hid hsz.2.2
        have hz0 := hsz.1
        have hz1 := hsz.2.1
        unfold maxLen at hz0 hz1
        have HIn := Lib.hid (show LgI l k nm dat 0 (s + 30 + min 6000 nm.size) from ⟨by have := HO.out.1; omega, fun h => ⟨HO.out.2 (by omega), by omega, fun d hd => by simp at hd⟩⟩)
        clear hw hsz
        have q0 : (0 : Int) ≤ (k : Int) := by omega
        have q1 : (k : Int) < (l.length : Int) := by omega
        clear HSz
        go_wp2_with fail
        all_goals
          clear k1 k2
          go_loop [3, 5] (fun n j => ∃ jj s' : Nat, jj ≤ dat.length ∧ j = .int .i64 jj ∧ n = .int .i64 s' ∧ s' ≤ 13000 ∧ LgI l k nm dat jj s') (fun _ j => dat.length - (intOf j).toNat)
          case atStart => exact ⟨0, s + 30 + min 6000 nm.size, by omega, rfl, by congr 1; omega, by omega, HIn.out⟩
          case round =>
            obtain ⟨j, s2, hj, rfl, rfl, hs9, hi⟩ := hrel
            have HI2 := Lib.hid hi
            clear hi
            by_cases hjt : j < dat.length
            · have k1 : decide ((j : Int) < (dat.length : Int)) = true := by simp; omega
              by_cases h7 : s2 < 6000
              · have k2 : decide ((s2 : Int) < 6000) = true := by simp; omega
                obtain ⟨b2, off2, rfl, _, _, l0⟩ := sl_str HW.out hjt
                have hds := HS2.out dat[j] (List.getElem_mem hjt)
                unfold maxLen at hds
                have HStep := Lib.hid (HI2.out.step hjt)
                generalize dat[j] = d at *
                have p0 : (0 : Int) ≤ (j : Int) := by omega
                have p1 : (j : Int) < (dat.length : Int) := by omega
                go_wp2_with fail
                all_goals
                  go_round
                  case rel => exact ⟨j + 1, s2 + 10 + min 6000 d.size, by omega, by go_num, by congr 1; omega, by omega, HStep.out⟩
                  case measure => simp [intOf]; omega
              · have k2 : decide ((s2 : Int) < 6000) = false := by simp; omega
                have HD := Lib.hid (HDone.out j s2 HI2.out (fun h => absurd h h7))
                go_wp2_with fail
                go_round
                case rel => exact ⟨k + 1, s2, by omega, by go_num, rfl, by omega, HD.out⟩
                case measure => simp [intOf]; omega
            · have k1 : decide ((j : Int) < (dat.length : Int)) = false := by simp; omega
              have HD := Lib.hid (HDone.out j s2 HI2.out (fun _ => by show dat.length ≤ j; omega))
              go_wp2_with fail
              go_round
              case rel => exact ⟨k + 1, s2, by omega, by go_num, rfl, by omega, HD.out⟩
              case measure => simp [intOf]; omega
      · have k2 : decide ((s : Int) < 6000) = false := by simp; omega
        have k3 : decide ((6000 : Int) ≤ (s : Int)) = true := by simp; omega
        go_wp2_with fail
        go_ret
        exact ⟨true, rfl, rfl, fun h => by cases h⟩
    · have k1 : decide ((k : Int) < (l.length : Int)) = false := by simp; omega
      obtain rfl : k = l.length := by omega
      have HL := Lib.hid (show decide ((6000 : Int) ≤ (s : Int)) = false → l.length ≤ 200 ∧ ∀ x ∈ l, SmSt x from fun h => by
        have h6 : s < 6000 := by simp at h; omega
        have := HO.out.2 h6
        rw [List.take_length] at this
        exact ⟨by have := HO.out.1; omega, this⟩)
      clear hlt
      go_wp2_with fail
      go_ret
      exact ⟨_, rfl, rfl, HL.out⟩
end Go.Proofs.YtomjiephbacocaaDoor
