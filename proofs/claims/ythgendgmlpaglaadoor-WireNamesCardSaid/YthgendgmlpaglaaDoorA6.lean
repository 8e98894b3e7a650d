/-
  Names (layer 1): the document's Labels, Low, Bytes, Fold; the program's lower, Fold.
  The document's names: Labels, May; its table: At.
  The document's table: Put.
-/
import Derived.Test.YthgendgmlpaglaaDoorA4
import Derived.Test.YthgendgmlpaglaaDoorA5
import Derived.Test.YthgendgmlpaglaaDoorA3
import Derived.Test.YthgendgmlpaglaaDoorA2
import Derived.Maps.AppendAt
import Derived.Laws.IdiomStrings
namespace Go.Proofs.YthgendgmlpaglaaDoor
open Go.RowKit

theorem Tryd.infoS : (Tryd.prog.info? 9).map (fun i => (i.zero, i.size, i.bytes)) = some (some (.string ByteArray.empty), 1, 16) := by kernel_rfl
def strs (l : List ByteArray) : List Value := l.map .string
theorem strs_len (l : List ByteArray) : (strs l).length = l.length := by simp [strs]
def LbPost (s : ByteArray) (w : World) (e : Ending) (w' : World) : Prop := ∃ v, e = .returned (.tuple #[v, .bool (may s)]) ∧ w.grownBy w' none ∧ (may s = true → w'.ownsRow w.heap.size 9 1 v (lbs s 0).length (strs (lbs s 0)))

theorem low_up (c : UInt8) (h1 : 65 ≤ c.toNat) (h2 : c.toNat ≤ 90) : ((low c).toNat : Int) = (c.toNat : Int) + 32 := by
  unfold low
  rw [if_pos ⟨h1, h2⟩]
  simp [UInt8.toNat_add]
  omega
theorem low_no (c : UInt8) (h : ¬ (65 ≤ c.toNat ∧ c.toNat ≤ 90)) : low c = c := if_neg h
theorem lowL_snoc (s : ByteArray) (i : Nat) (h : i < s.size) : lowL (s.data.toList.take (i + 1)) = lowL (s.data.toList.take i) ++ [low s[i]] := by
  unfold lowL
  rw [take_snoc s i h, List.map_append]
  rfl

/-- The own bytes of 'lower': the first i are folded. -/
structure LwB (w : World) (k : Nat) (s : ByteArray) (i : Nat) (wr : World) : Prop where
  gr : w.grownBy wr none
  lk : w.heap.size ≤ k
  blk : ∃ C : Array Value, wr.heap[k]? = some (.cells C 5 (C.size, C.size + 1)) ∧ s.size ≤ C.size ∧ C.toList.take s.size = bv (lowL (s.data.toList.take i) ++ s.data.toList.drop i)
theorem LwB.step {w wr : World} {k i : Nat} {s : ByteArray} (h : LwB w k s i wr) (hi : i < s.size) (v : Value) (hv : v = .int .u8 (low s[i]).toNat) : LwB w k s (i + 1) (wr.setCell ⟨k, i, none⟩ v) := by
  obtain ⟨C, h1, h2, h3⟩ := h.blk
  refine ⟨gnew (gset (gmono (row := some k) h.gr) (.inl rfl) _) (fun b e => by cases e; exact h.lk), h.lk, C.setIfInBounds i v, ?_, by simpa using h2, ?_⟩
  · have := bset h1 i v
    simpa using this
  · rw [Array.toList_setIfInBounds, List.take_set, h3]
    have e1 : s.data.toList.drop i = s[i] :: s.data.toList.drop (i + 1) := by
      rw [List.drop_eq_getElem_cons (by rw [nlen]; exact hi)]; rfl
    have e2 : (bv (lowL (s.data.toList.take i))).length = i := by rw [bv_len]; unfold lowL; rw [List.length_map, List.length_take, nlen]; omega
    rw [e1, bv_append, lowL_snoc s i hi, bv_append, bv_append, List.set_append_right _ _ (by omega), e2]
    simp [bv, hv]
theorem LwB.same {w wr : World} {k i : Nat} {s : ByteArray} (h : LwB w k s i wr) (hi : i < s.size) (hl : low s[i] = s[i]) : LwB w k s (i + 1) wr := by
  obtain ⟨C, h1, h2, h3⟩ := h.blk
  refine ⟨h.gr, h.lk, C, h1, h2, ?_⟩
  rw [h3, lowL_snoc s i hi, hl, List.append_assoc]
  congr 2
  rw [List.drop_eq_getElem_cons (by rw [nlen]; exact hi)]
  rfl
theorem LwB.at {w wr : World} {k i : Nat} {s : ByteArray} (h : LwB w k s i wr) (hi : i < s.size) : wr.cell? ⟨k, i, none⟩ = some (.int .u8 (s[i].toNat : Int)) ∧ wr.frozen? ⟨k, i, none⟩ = false := by
  obtain ⟨C, h1, h2, h3⟩ := h.blk
  constructor
  · rw [bcellAt h1, ← Array.getElem?_toList]
    have : (C.toList.take s.size)[i]? = (bv (lowL (s.data.toList.take i) ++ s.data.toList.drop i))[i]? := by rw [h3]
    rw [List.getElem?_take_of_lt (by omega)] at this
    rw [this, bv_append, List.getElem?_append_right (by rw [bv_len]; unfold lowL; rw [List.length_map, List.length_take]; omega)]
    have e2 : (bv (lowL (s.data.toList.take i))).length = i := by rw [bv_len]; unfold lowL; rw [List.length_map, List.length_take, nlen]; omega
    rw [e2, Nat.sub_self, List.drop_eq_getElem_cons (by rw [nlen]; exact hi)]
    rfl
  · simp [World.frozen?, h1]; omega
theorem LwB.done {w wr : World} {k : Nat} {s : ByteArray} (h : LwB w k s s.size wr) (cap : Nat) (hc : s.size ≤ cap) : SlB wr (.slice (some ⟨k, 0, none⟩) s.size cap) (lowL s.data.toList) := by
  obtain ⟨C, h1, h2, h3⟩ := h.blk
  have e : lowL (s.data.toList.take s.size) ++ s.data.toList.drop s.size = lowL s.data.toList := by
    rw [List.take_of_length_le (by rw [nlen]; exact Nat.le_refl _), List.drop_eq_nil_of_le (by rw [nlen]; exact Nat.le_refl _), List.append_nil]
  rw [e] at h3
  have hl : (lowL s.data.toList).length = s.size := by unfold lowL; rw [List.length_map, nlen]
  refine ⟨_, cap, by rw [hl], by rw [hl]; exact hc, by simp, fun ad had j u hu => ?_⟩
  cases had
  rw [Addr.add_lit, Nat.zero_add, bcellAt h1, ← Array.getElem?_toList]
  have hj : j < s.size := by have := (List.getElem?_eq_some_iff.1 hu).1; rw [bv_len, hl] at this; exact this
  rw [← List.getElem?_take_of_lt hj, h3]
  exact hu

end Go.Proofs.YthgendgmlpaglaaDoor
namespace Go.Proofs.YthgendgmlpaglaaDoor
open Go.RowKit

/-- The document's table at block b. -/
def tbv (T : Tb) : List Value := T.flatMap fun x => [.string x.1, .int .i64 (x.2 : Int)]
theorem tbv_len (T : Tb) : (tbv T).length = T.length * 2 := flat_len _ 2 (fun _ => rfl) T
theorem str_yes {a b : ByteArray} (h : a = b) : (a.toList == b.toList) = true := by subst h; simp
theorem tget_drop_hit {T : Tb} {i : Nat} {s : ByteArray} (hi : i < T.length) (h : T[i].1 = s) : tget (T.drop i) s = some T[i].2 := by
  unfold tget
  rw [List.drop_eq_getElem_cons hi, List.find?_cons]
  simp [h]
theorem tget_drop_miss {T : Tb} {i : Nat} {s : ByteArray} (hi : i < T.length) (h : ¬ T[i].1 = s) : tget (T.drop i) s = tget (T.drop (i + 1)) s := by
  unfold tget
  rw [List.drop_eq_getElem_cons hi, List.find?_cons]
  simp [h]
end Go.Proofs.YthgendgmlpaglaaDoor
namespace Go.Proofs.YthgendgmlpaglaaDoor
open Go.RowKit

theorem tbv_snoc (T : Tb) (s : ByteArray) (p : Nat) : tbv (T ++ [(s, p)]) = tbv T ++ [.string s, .int .i64 (p : Int)] := by simp [tbv]
theorem suf_root {n : ByteArray} {p : Nat} (hsc : scan n p = true) (h0 : bt n p = 0) : suf n p = ⟨#[0]⟩ := by
  rw [suf_eq, drop_root hsc h0]
theorem suf_not {n : ByteArray} {p : Nat} (hsc : scan n p = true) (h0 : ¬ bt n p = 0) : ¬ suf n p = ⟨#[0]⟩ := by
  intro e
  have h1 := suf_sz n p
  rw [e] at h1
  obtain ⟨_, h2, _⟩ := scan_lab hsc h0
  have : (⟨#[0]⟩ : ByteArray).size = 1 := rfl
  omega
theorem suf_get {n : ByteArray} {p : Nat} : bt (suf n p) 0 = bt n p := by
  rw [suf_eq]
  unfold bt
  show ((n.data.toList.drop p)[0]?.getD 0).toNat = _
  rw [List.getElem?_drop]
  rfl
theorem suf_front {n : ByteArray} {p : Nat} (_h : p + 1 + bt n p ≤ n.size) : (suf n p).extract 0 (1 + bt n p) = ⟨(lab n p).toArray⟩ := by
  refine ba_ext ?_
  rw [Lib.extract_data, suf_list, lab_eq']
  simp
theorem suf_back {n : ByteArray} {p k : Nat} : (suf n p).extract k (suf n p).size = suf n (p + k) := by
  refine ba_ext ?_
  rw [Lib.extract_data, suf_list, suf_list, suf_sz, List.drop_drop]
  rw [List.take_of_length_le (by rw [List.length_drop, nlen]; omega)]
theorem str_lab' (out : List UInt8) (n : ByteArray) (p : Nat) : (⟨out.toArray⟩ : ByteArray) ++ (⟨(lab n p).toArray⟩ : ByteArray) = ⟨(out ++ lab n p).toArray⟩ := mk_append_list _ _
theorem ptr_str (k : Nat) (h : k ≤ 16383) : [Value.int .u8 (192 + (k : Int) / 256), Value.int .u8 ((k : Int) % 256)] = bv (ptrB k) := by
  simp [bv, ptrB]
  omega

theorem tbv_one (T : Tb) : ∀ u ∈ tbv T, u.oneCell' = true := by
  intro u hu
  unfold tbv at hu
  rw [List.mem_flatMap] at hu
  obtain ⟨x, _, hx⟩ := hu
  simp at hx
  rcases hx with rfl | rfl <;> rfl
theorem sl_pair (w : World) (e : TypeId) (u0 u1 : Value) : Sl (w.alloc (.cells #[u0, u1] e)) 2 (.slice (some ⟨w.heap.size, 0, none⟩) 1 1) 1 [u0, u1] := by
  refine ⟨_, _, rfl, Nat.le_refl _, rfl, by simp, fun _ => ⟨_, _, rfl, fun j u hu => ?_⟩⟩
  rw [bcellAt (balloc w (.cells #[u0, u1] e)), ← Array.getElem?_toList]
  simpa using hu

end Go.Proofs.YthgendgmlpaglaaDoor
