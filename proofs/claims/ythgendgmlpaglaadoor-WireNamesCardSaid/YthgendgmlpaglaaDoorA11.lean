/-
  Options as bytes, plain. Nothing of the program stands here.
  Options written, plain.
  Package edns: Read.
  Package edns: Same; slices.Equal at options; the document's Same.
  Package edns: Write.
-/
import Derived.Test.YthgendgmlpaglaaDoorA1
import Derived.Test.YthgendgmlpaglaaDoorA2
import Derived.Test.YthgendgmlpaglaaDoorA3
import Derived.Deep.AppendLies
import Derived.Laws.StructEq
namespace Go.Proofs.YthgendgmlpaglaaDoor
open Go.RowKit

/-- An option: its code and its data. -/
abbrev Opt := Nat × ByteArray
/-- The options that stand from place p on (f: at most so many), or none. -/
def opsF (s : ByteArray) : Nat → Nat → Option (List Opt)
  | 0, p => if p < s.size then none else some []
  | f + 1, p => if p < s.size then (if p + 4 ≤ s.size ∧ p + 4 + num s (p + 2) 2 ≤ s.size then (opsF s f (p + 4 + num s (p + 2) 2)).map (fun r => (num s p 2, s.extract (p + 4) (p + 4 + num s (p + 2) 2)) :: r) else none) else some []
theorem opsF_succ (s : ByteArray) (f p : Nat) : opsF s (f + 1) p = if p < s.size then (if p + 4 ≤ s.size ∧ p + 4 + num s (p + 2) 2 ≤ s.size then (opsF s f (p + 4 + num s (p + 2) 2)).map (fun r => (num s p 2, s.extract (p + 4) (p + 4 + num s (p + 2) 2)) :: r) else none) else some [] := rfl
theorem opsF_more (s : ByteArray) : ∀ (f p : Nat), s.size ≤ f + p → opsF s (f + 1) p = opsF s f p
  | 0, p, h => by
    have : ¬ p < s.size := by omega
    simp [opsF, this]
  | f + 1, p, h => by
    rw [opsF_succ s (f + 1) p, opsF_succ s f p]
    by_cases hp : p < s.size
    · rw [if_pos hp, if_pos hp]
      rw [opsF_more s f _ (by omega)]
    · rw [if_neg hp, if_neg hp]
theorem opsF_any (s : ByteArray) (p f : Nat) (h : s.size ≤ f + p) : ∀ k, opsF s (f + k) p = opsF s f p
  | 0 => rfl
  | k + 1 => by rw [← Nat.add_assoc, opsF_more s _ _ (by omega), opsF_any s p f h k]
/-- The options that stand from place p on. -/
def opsAt (s : ByteArray) (p : Nat) : Option (List Opt) := opsF s (s.size - p) p
theorem opsAt_end {s : ByteArray} {p : Nat} (h : s.size ≤ p) : opsAt s p = some [] := by
  unfold opsAt
  rw [show s.size - p = 0 by omega, opsF, if_neg (by omega)]
theorem opsAt_step {s : ByteArray} {p : Nat} (h : p + 4 ≤ s.size) (h2 : p + 4 + num s (p + 2) 2 ≤ s.size) :
    opsAt s p = (opsAt s (p + 4 + num s (p + 2) 2)).map (fun r => (num s p 2, s.extract (p + 4) (p + 4 + num s (p + 2) 2)) :: r) := by
  unfold opsAt
  obtain ⟨f, hf⟩ : ∃ f, s.size - p = f + 1 := ⟨s.size - p - 1, by omega⟩
  rw [hf, opsF, if_pos (by omega), if_pos ⟨h, h2⟩]
  have := opsF_any s (p + 4 + num s (p + 2) 2) (s.size - (p + 4 + num s (p + 2) 2)) (by omega) (f - (s.size - (p + 4 + num s (p + 2) 2)))
  rw [show s.size - (p + 4 + num s (p + 2) 2) + (f - (s.size - (p + 4 + num s (p + 2) 2))) = f by omega] at this
  rw [this]
theorem opsAt_no {s : ByteArray} {p : Nat} (hp : p < s.size) (h : s.size < p + 4 ∨ s.size < p + 4 + num s (p + 2) 2) : opsAt s p = none := by
  unfold opsAt
  obtain ⟨f, hf⟩ : ∃ f, s.size - p = f + 1 := ⟨s.size - p - 1, by omega⟩
  rw [hf, opsF, if_pos hp, if_neg (by omega)]
/-- Options as cells. -/
def ov (l : List Opt) : List Value := l.flatMap fun o => [.int .u16 o.1, .string o.2]
theorem ov_append (a b : List Opt) : ov (a ++ b) = ov a ++ ov b := by simp [ov]
theorem ov_one (l : List Opt) : ∀ u ∈ ov l, u.oneCell' = true := by
  intro u hu
  obtain ⟨o, _, h⟩ := List.mem_flatMap.1 hu
  simp at h
  rcases h with rfl | rfl <;> rfl
theorem ov_len (l : List Opt) : (ov l).length = l.length * 2 := by
  induction l with
  | nil => rfl
  | cons a l ih => simp only [ov, List.flatMap_cons, List.length_append, List.length_cons, List.length_nil] at *; omega
/-- What was found so far, and what stands from p on, make up the whole. -/
def OpsSo (s : ByteArray) (l : List Opt) (p : Nat) : Prop := opsAt s 0 = (opsAt s p).map (l ++ ·)
theorem OpsSo.start (s : ByteArray) : OpsSo s [] 0 := by unfold OpsSo; cases opsAt s 0 <;> simp
theorem OpsSo.step {s : ByteArray} {l : List Opt} {p : Nat} (h : OpsSo s l p) (h1 : p + 4 ≤ s.size) (h2 : p + 4 + num s (p + 2) 2 ≤ s.size) :
    OpsSo s (l ++ [(num s p 2, s.extract (p + 4) (p + 4 + num s (p + 2) 2))]) (p + 4 + num s (p + 2) 2) := by
  unfold OpsSo at *
  rw [h, opsAt_step h1 h2, Option.map_map]
  congr 1
  funext r
  simp
theorem OpsSo.done {s : ByteArray} {l : List Opt} {p : Nat} (h : OpsSo s l p) (hp : s.size ≤ p) : opsAt s 0 = some l := by
  unfold OpsSo at h
  rw [h, opsAt_end hp]
  simp
theorem OpsSo.no {s : ByteArray} {l : List Opt} {p : Nat} (h : OpsSo s l p) (hp : p < s.size) (h2 : s.size < p + 4 ∨ s.size < p + 4 + num s (p + 2) 2) : opsAt s 0 = none := by
  unfold OpsSo at h
  rw [h, opsAt_no hp h2]
  rfl
theorem opsF_few (s : ByteArray) : ∀ (f p : Nat) (l : List Opt), opsF s f p = some l → l.length ≤ f
  | 0, p, l, h => by
    rw [opsF] at h
    split at h
    · cases h
    · cases h; simp
  | f + 1, p, l, h => by
    rw [opsF_succ] at h
    split at h
    · split at h
      · cases hr : opsF s f (p + 4 + num s (p + 2) 2) with
        | none => rw [hr] at h; cases h
        | some r =>
          rw [hr] at h
          have := opsF_few s f _ r hr
          cases h
          simp; omega
      · cases h
    · cases h; simp
theorem opsAt_few {s : ByteArray} {l : List Opt} {m : Nat} (h : opsAt s 0 = some l) (hs : s.size ≤ m) : l.length ≤ m := by
  have := opsF_few s _ _ l h
  omega
end Go.Proofs.YthgendgmlpaglaaDoor
namespace Go.Proofs.YthgendgmlpaglaaDoor
open Go.RowKit

/-- The bytes of an option. -/
def opB (o : Opt) : List UInt8 := enc 2 o.1 ++ enc 2 o.2.size ++ o.2.data.toList
def opsB (l : List Opt) : List UInt8 := l.flatMap opB
theorem opB_len (o : Opt) : (opB o).length = 4 + o.2.size := by
  have : o.2.data.toList.length = o.2.size := Array.length_toList
  simp only [opB, List.length_append, enc_len, this]
theorem opsB_append (a b : List Opt) : opsB (a ++ b) = opsB a ++ opsB b := by simp [opsB]
theorem opsB_one (o : Opt) : opsB [o] = opB o := by simp [opsB]
theorem opsB_snoc (l : List Opt) (k : Nat) (h : k < l.length) : opsB (l.take (k + 1)) = opsB (l.take k) ++ opB l[k] := by
  rw [List.take_succ_eq_append_getElem h, opsB_append, opsB_one]
theorem opsB_snoc_len (l : List Opt) (k : Nat) (h : k < l.length) : (opsB (l.take (k + 1))).length = (opsB (l.take k)).length + 4 + l[k].2.size := by
  rw [opsB_snoc l k h, List.length_append, opB_len]; omega
theorem opsB_take_le (l : List Opt) (k : Nat) : (opsB (l.take k)).length ≤ (opsB l).length := by
  have : opsB l = opsB (l.take k) ++ opsB (l.drop k) := by rw [← opsB_append, List.take_append_drop]
  rw [this, List.length_append]; omega
theorem opsB_count (l : List Opt) : l.length * 4 ≤ (opsB l).length := by
  induction l with
  | nil => simp [opsB]
  | cons o l ih =>
    have : opsB (o :: l) = opB o ++ opsB l := rfl
    rw [this, List.length_append, opB_len, List.length_cons]; omega
theorem opsB_mem (l : List Opt) (k : Nat) (h : k < l.length) : l[k].2.size ≤ (opsB l).length := by
  have h1 := opsB_snoc_len l k h
  have h2 := opsB_take_le l (k + 1)
  omega
/-- May these options be written? -/
def okO (l : List Opt) : Prop := (opsB l).length ≤ 65535
instance (l : List Opt) : Decidable (okO l) := inferInstanceAs (Decidable (_ ≤ _))
def ttlN (e v f : Nat) : Nat := e * 16777216 + v * 65536 + f
end Go.Proofs.YthgendgmlpaglaaDoor
namespace Go.Proofs.YthgendgmlpaglaaDoor
open Go.RowKit

theorem new_at (s : ByteArray) (w : World) : Calls Tryd.prog 23 #[.string s] w fun e w' => ∃ bc, e = .returned (.pointer (some ⟨bc, 0, none⟩)) ∧ w.heap.size ≤ bc ∧ bc < w'.heap.size ∧ Cur w' bc s 0 ∧ w.grownBy w' none :=
  (new_any s w).mono fun _ _ ⟨he, hc, hg⟩ => ⟨_, he, Nat.le_refl _, blt hc, hc, hg⟩
theorem Tryd.infoOpt : (Tryd.prog.info? 57).map (fun i => (i.zero, i.size, i.bytes)) = some (some (.agg #[.int .u16 0, .string ByteArray.empty]), 2, 24) := by kernel_rfl

/-- Where a cursor stands. -/
def curAt (w : World) (b : Nat) : Nat := match w.cell? ⟨b, 1, none⟩ with | some (.int _ n) => n.toNat | _ => 0
theorem curAt_of {w : World} {b p : Nat} {s : ByteArray} (h : Cur w b s p) : curAt w b = p := by
  have e : w.cell? ⟨b, 1, none⟩ = some (.int .i64 p) := bcellAt h 1
  unfold curAt
  rw [e]
  rfl
/-- What Read holds at its loop's head. -/
structure ErL (w : World) (bc : Nat) (s : ByteArray) (p : Nat) (v : Value) (l : List Opt) (wr : World) : Prop where
  gr : w.grownBy wr none
  cur : Cur wr bc s p
  own : wr.ownsRow (bc + 1) 57 2 v l.length (ov l)
  res : wr.heap[w.heap.size]? = some (.cells #[.int .u16 0, .int .u8 0, .int .u8 0, .int .u16 0, .slice none 0 0] 35 (0, 0))
  lc : w.heap.size < bc
  le : p ≤ s.size
  so : OpsSo s l p
  few : l.length * 4 ≤ p
theorem ErL.quiet {w wr w' : World} {bc p : Nat} {s : ByteArray} {v : Value} {l : List Opt} (h : ErL w bc s p v l wr) (g : wr.grownBy w' none) : ErL w bc s p v l w' :=
  ⟨gtrans h.gr g, h.cur.kept g (by simp), own_kept0 h.own g, gblock g h.res (by simp), h.lc, h.le, h.so, h.few⟩

/-- The result's block at the walk's cells. -/
def Z5 (w wr : World) : Prop := wr.heap[w.heap.size]? = some (.cells #[.int .u16 0, .int .u8 0, .int .u8 0, .int .u16 0, .slice none 0 0] 35 (0, 0))
theorem ErL.step {w wr w' : World} {bc p q : Nat} {s : ByteArray} {v : Value} {l : List Opt} (h : ErL w bc s p v l wr) (g : wr.grownBy w' (some bc)) (c : Cur w' bc s q) :
    w.grownBy w' none ∧ w'.ownsRow (bc + 1) 57 2 v l.length (ov l) ∧ w'.heap[w.heap.size]? = some (.cells #[.int .u16 0, .int .u8 0, .int .u8 0, .int .u16 0, .slice none 0 0] 35 (0, 0)) ∧ Cur w' bc s q :=
  ⟨gstepb h.gr g (by have := h.lc; omega), own_kept h.own g (by omega), gblock g h.res (by have := h.lc; simp; omega), c⟩
theorem two_k (b : Nat) (s : ByteArray) (p : Nat) (w : World) (h : Cur w b s p) (he : Et w) (hp : p + 2 ≤ s.size) (hs : s.size ≤ maxLen) : Calls Tryd.prog 43 #[.pointer (some ⟨b, 0, none⟩)] w fun e w' => e = .returned (.tuple #[.int .u16 (num s p 2), .int .i64 0]) ∧ Cur w' b s (p + 2) ∧ w.grownBy w' (some b) := by
  have e := two_any b s p w h he (by omega) hs
  rw [rdV_ok hp, rdE_ok hp, rdP_ok hp] at e
  exact e
theorem two_short (b : Nat) (s : ByteArray) (p : Nat) (w : World) (h : Cur w b s p) (he : Et w) (hp : p ≤ s.size) (hq : s.size < p + 2) (hs : s.size ≤ maxLen) : Calls Tryd.prog 43 #[.pointer (some ⟨b, 0, none⟩)] w fun e w' => e = .returned (.tuple #[.int .u16 0, .int .i64 4]) ∧ Cur w' b s p ∧ w.grownBy w' (some b) := by
  have e := two_any b s p w h he hp hs
  rw [rdV_no hq, rdE_no hq, rdP_no hq] at e
  exact e
theorem new_pair (w : World) (x y : Value) (t : TypeId) : ∀ j u, [x, y][j]? = some u → (w.alloc (.cells #[x, y] t)).cell? ((⟨w.heap.size, 0, none⟩ : Addr).add j) = some u := by
  intro j u hu
  rw [Addr.add_lit, bcellAt (balloc w _)]
  match j, hu with
  | 0, hu => exact hu
  | 1, hu => exact hu
theorem ErL.app {w w5 w6 : World} {bc p : Nat} {s : ByteArray} {v v' : Value} {l : List Opt} (so : OpsSo s l p) (few : l.length * 4 ≤ p) (lc : w.heap.size < bc) (h4 : p + 4 ≤ s.size) (h5 : p + 4 + num s (p + 2) 2 ≤ s.size)
    (gr : w.grownBy w5 none) (own : w5.ownsRow (bc + 1) 57 2 v l.length (ov l)) (z : Z5 w w5) (c : Cur w5 bc s (p + 4 + num s (p + 2) 2)) (o : Obj)
    (own' : w6.ownsRow (bc + 1) 57 2 v' (l ++ [(num s p 2, s.extract (p + 4) (p + 4 + num s (p + 2) 2))]).length (ov (l ++ [(num s p 2, s.extract (p + 4) (p + 4 + num s (p + 2) 2))]))) (g : (w5.alloc o).grownBy w6 v.ownBlock) :
    ErL w bc s (p + 4 + num s (p + 2) 2) v' (l ++ [(num s p 2, s.extract (p + 4) (p + 4 + num s (p + 2) 2))]) w6 := by
  have g5 : w5.grownBy w6 v.ownBlock := gfr1 g
  have hne : ∀ b, v.ownBlock = some b → bc + 1 ≤ b := fun b hb => (World.ownsRow.lt own b hb).1
  refine ⟨?_, c.kept g5 ?_, own', gblock g5 z ?_, lc, h5, so.step h4 h5, by simp; omega⟩
  · exact gstep gr g5 (fun r hr => by have := hne r hr; omega)
  · intro e; have := hne bc e.symm; omega
  · intro e; have := hne _ e.symm; omega
/-- What Read returns. -/
def EdPost (class_ ttl : Nat) (s : ByteArray) (w : World) (e : Ending) (w' : World) : Prop :=
  w.grownBy w' none ∧ match opsAt s 0 with
    | some l => ∃ v, e = .returned (.tuple #[.agg #[.int .u16 class_, .int .u8 ((ttl / 16777216 : Nat) : Int), .int .u8 ((ttl / 65536 % 256 : Nat) : Int), .int .u16 ((ttl % 65536 : Nat) : Int), v], .int .i64 0]) ∧ FS w' w.heap.size 57 2 v l.length (ov l)
    | none => e = .returned (.tuple #[.agg #[.int .u16 0, .int .u8 0, .int .u8 0, .int .u16 0, .slice none 0 0], .int .i64 4])
theorem EdPost.no {class_ ttl : Nat} {s : ByteArray} {w w' : World} {e : Ending} (h : opsAt s 0 = none) (hg : w.grownBy w' none) (he : e = .returned (.tuple #[.agg #[.int .u16 0, .int .u8 0, .int .u8 0, .int .u16 0, .slice none 0 0], .int .i64 4])) : EdPost class_ ttl s w e w' := by
  unfold EdPost
  rw [h]
  exact ⟨hg, he⟩
theorem EdPost.yes {class_ ttl : Nat} {s : ByteArray} {w w' : World} {e : Ending} {l : List Opt} (h : opsAt s 0 = some l) (hg : w.grownBy w' none) (v : Value) (he : e = .returned (.tuple #[.agg #[.int .u16 class_, .int .u8 ((ttl / 16777216 : Nat) : Int), .int .u8 ((ttl / 65536 % 256 : Nat) : Int), .int .u16 ((ttl % 65536 : Nat) : Int), v], .int .i64 0])) (hf : FS w' w.heap.size 57 2 v l.length (ov l)) : EdPost class_ ttl s w e w' := by
  unfold EdPost
  rw [h]
  exact ⟨hg, v, he, hf⟩

set_option maxRecDepth 100000 in
set_option maxHeartbeats 1000000 in
theorem eread_any (class_ ttl : Nat) (s : ByteArray) (w : World) (he : Et w) (ht : ttl < 4294967296) (hs : s.size ≤ 100000) : Calls Tryd.prog 63 #[.int .u16 class_, .int .u32 ttl, .string s] w (EdPost class_ ttl s w) := by
  have HE := Lib.hid he
  have hm : s.size ≤ maxLen := by unfold maxLen; omega
  obtain ⟨i0, hi, hz0, hz1, hz2⟩ := info_parts Tryd.infoOpt
  clear he
  go_enter Tryd.func63, Tryd.ntmps63
  go_wp2_with fail
  refine Calls.mono (new_at s _) ?_
  rintro e w1 ⟨bc, rfl, hl1, hl2, hc1, hg⟩
  have E0 := Lib.hid (show ErL w bc s 0 (.slice none 0 0) [] w1 from ⟨gfr1 hg, hc1, World.ownsRow_nil _ _ _ _, gblock hg (balloc1_0 w _) (by simp), by simp at hl1; omega, by omega, OpsSo.start s, by simp⟩)
  clear hl1 hl2 hc1 hg
  go_wp2_with fail
  go_loopw [9] (fun v wr => ∃ p l, ErL w bc s p v l wr) (fun _ wr => s.size - curAt wr bc)
  case atStart => exact ⟨_, _, E0.out⟩
  case round =>
    obtain ⟨p, l, hr⟩ := hrel
    have R0 := Lib.hid hr
    have hp := hr.le
    obtain ⟨A, cap, rfl, hcap, hcm⟩ := own_shape hr.own
    unfold maxLen at hcm
    have HM := Lib.hid (curAt_of hr.cur)
    clear hr
    by_cases hlt : p < s.size
    · have hq : decide ((0 : Int) < (s.size : Int) - (p : Int)) = true := by simp; omega
      go_wp2_with fail
      refine Calls.mono (left_any bc s p wr R0.out.cur hp hm) ?_
      rintro e w2 ⟨rfl, hg⟩
      have R2 := Lib.hid (R0.out.quiet hg)
      clear hg R0
      go_wp2_with fail
      by_cases h2 : p + 2 ≤ s.size
      · refine Calls.mono (two_k bc s p w2 R2.out.cur (HE.out.kept R2.out.gr (by simp)) h2 hm) ?_
        rintro e w3 ⟨rfl, hc3, hg3⟩
        have R3 := Lib.hid (R2.out.step hg3 hc3)
        clear hc3 hg3
        go_wp2_with fail
        by_cases h4 : p + 4 ≤ s.size
        · refine Calls.mono (two_k bc s (p + 2) w3 R3.out.2.2.2 (HE.out.kept R3.out.1 (by simp)) (by omega) hm) ?_
          rintro e w4 ⟨rfl, hc4, hg4⟩
          have R4 := Lib.hid (show w.grownBy w4 none ∧ w4.ownsRow (bc + 1) 57 2 (.slice A l.length cap) l.length (ov l) ∧ Z5 w w4 ∧ Cur w4 bc s (p + 4) from ⟨gstepo R3.out.1 hg4 (by have := R2.out.lc; omega), own_kept R3.out.2.1 hg4 (by omega), gblock hg4 R3.out.2.2.1 (by have := R2.out.lc; simp; omega), hc4⟩)
          clear hc4 hg4 R3
          have nb := num_lt s (p + 2) 2
          go_wp2_with fail
          by_cases h5 : p + 4 + num s (p + 2) 2 ≤ s.size
          · refine Calls.mono (T_ok bc s (p + 4) w4 (num s (p + 2) 2) R4.out.2.2.2 h5 hm) ?_
            rintro e w5 ⟨rfl, hc5, hg5⟩
            have R5 := Lib.hid (show w.grownBy w5 none ∧ w5.ownsRow (bc + 1) 57 2 (.slice A l.length cap) l.length (ov l) ∧ Z5 w w5 ∧ Cur w5 bc s (p + 4 + num s (p + 2) 2) from ⟨gstepo R4.out.1 hg5 (by have := R2.out.lc; omega), own_kept R4.out.2.1 hg5 (by omega), gblock hg5 R4.out.2.2.1 (by have := R2.out.lc; simp; omega), hc5⟩)
            clear hc5 hg5 R4
            have hfew : (l.length + 1) * 4 ≤ 100000 := by have := R2.out.few; omega
            go_wp2_with (at_builtin; refine wpList_append_own _ rfl (.tmp 48) (.tmp 52) 33 rfl (bc + 1) 57 i0 _ 2 24 Tryd.underlying33 hi hz0 hz1 hz2 rfl (by omega) (.slice A l.length cap) l.length (ov l) rfl (R5.out.2.1.alloc _) ⟨w5.heap.size, 0, none⟩ 1 1 [.int .u16 (num s p 2), .string (s.extract (p + 4) (p + 4 + num s (p + 2) 2))] rfl rfl ?c1 ?c2 ?c3 ?c4 ?c5 ?_)
            case c1 => exact new_pair w5 _ _ _
            case c2 => intro u hu; simp at hu; rcases hu with rfl | rfl <;> rfl
            case c3 => unfold maxLen; omega
            case c4 => omega
            case c5 => have := blt R5.out.2.2.2; simp; omega
            intro v' w6 hown6 hg6 _
            have R6 := Lib.hid (show ErL w bc s (p + 4 + num s (p + 2) 2) v' (l ++ [(num s p 2, s.extract (p + 4) (p + 4 + num s (p + 2) 2))]) w6 from ErL.app R2.out.so R2.out.few R2.out.lc h4 h5 R5.out.1 R5.out.2.1 R5.out.2.2.1 R5.out.2.2.2 _ (by rw [List.length_append, ov_append]; exact hown6) hg6)
            clear hown6 hg6 R5
            go_wp2_with fail
            go_roundw
            case rel => exact ⟨_, _, R6.out⟩
            case measure => rw [HM.out, curAt_of R6.out.cur]; omega
          · refine Calls.mono (T_short bc s (p + 4) w4 (num s (p + 2) 2) R4.out.2.2.2 (HE.out.kept R4.out.1 (by simp)) (by omega) h4 (by omega) hm) ?_
            rintro e w5 ⟨rfl, hc5, hg5⟩
            have R5 := Lib.hid (show w.grownBy w5 none ∧ Z5 w w5 from ⟨gstepo R4.out.1 hg5 (by have := R2.out.lc; omega), gblock hg5 R4.out.2.2.1 (by have := R2.out.lc; simp; omega)⟩)
            have HN := Lib.hid (R2.out.so.no hlt (by omega))
            clear hc5 hg5 R4
            have z0 : w5.cell? ⟨w.heap.size, 0, none⟩ = some (.int .u16 0) := bcellAt R5.out.2 0
            have z1 : w5.cell? ⟨w.heap.size, 1, none⟩ = some (.int .u8 0) := bcellAt R5.out.2 1
            have z2 : w5.cell? ⟨w.heap.size, 2, none⟩ = some (.int .u8 0) := bcellAt R5.out.2 2
            have z3 : w5.cell? ⟨w.heap.size, 3, none⟩ = some (.int .u16 0) := bcellAt R5.out.2 3
            have z4 : w5.cell? ⟨w.heap.size, 4, none⟩ = some (.slice none 0 0) := bcellAt R5.out.2 4
            have y0 : w5.frozen? ⟨w.heap.size, 0, none⟩ = false := bfree R5.out.2 0
            have y1 : w5.frozen? ⟨w.heap.size, 1, none⟩ = false := bfree R5.out.2 1
            have y2 : w5.frozen? ⟨w.heap.size, 2, none⟩ = false := bfree R5.out.2 2
            have y3 : w5.frozen? ⟨w.heap.size, 3, none⟩ = false := bfree R5.out.2 3
            have y4 : w5.frozen? ⟨w.heap.size, 4, none⟩ = false := bfree R5.out.2 4
            go_wp2_with fail
            refine bodyPost_ret (results_cr rfl _ _ w.heap.size _ _ _ _ rfl (bset5_ R5.out.2 _ _ _ _ _) Tryd.underlying35 rfl (by kernel_rfl)) rfl ?_
            exact EdPost.no HN.out (gstepo R5.out.1 (gset5_ _ _ _ _ _ _ _) (Nat.le_refl _)) rfl
        · refine Calls.mono (two_short bc s (p + 2) w3 R3.out.2.2.2 (HE.out.kept R3.out.1 (by simp)) h2 (by omega) hm) ?_
          rintro e w4 ⟨rfl, hc4, hg4⟩
          have R4 := Lib.hid (show w.grownBy w4 none ∧ Z5 w w4 from ⟨gstepo R3.out.1 hg4 (by have := R2.out.lc; omega), gblock hg4 R3.out.2.2.1 (by have := R2.out.lc; simp; omega)⟩)
          have HN := Lib.hid (R2.out.so.no hlt (by omega))
          clear hc4 hg4 R3
          have z0 : w4.cell? ⟨w.heap.size, 0, none⟩ = some (.int .u16 0) := bcellAt R4.out.2 0
          have z1 : w4.cell? ⟨w.heap.size, 1, none⟩ = some (.int .u8 0) := bcellAt R4.out.2 1
          have z2 : w4.cell? ⟨w.heap.size, 2, none⟩ = some (.int .u8 0) := bcellAt R4.out.2 2
          have z3 : w4.cell? ⟨w.heap.size, 3, none⟩ = some (.int .u16 0) := bcellAt R4.out.2 3
          have z4 : w4.cell? ⟨w.heap.size, 4, none⟩ = some (.slice none 0 0) := bcellAt R4.out.2 4
          have y0 : w4.frozen? ⟨w.heap.size, 0, none⟩ = false := bfree R4.out.2 0
          have y1 : w4.frozen? ⟨w.heap.size, 1, none⟩ = false := bfree R4.out.2 1
          have y2 : w4.frozen? ⟨w.heap.size, 2, none⟩ = false := bfree R4.out.2 2
          have y3 : w4.frozen? ⟨w.heap.size, 3, none⟩ = false := bfree R4.out.2 3
          have y4 : w4.frozen? ⟨w.heap.size, 4, none⟩ = false := bfree R4.out.2 4
          go_wp2_with fail
          refine bodyPost_ret (results_cr rfl _ _ w.heap.size _ _ _ _ rfl (bset5_ R4.out.2 _ _ _ _ _) Tryd.underlying35 rfl (by kernel_rfl)) rfl ?_
          exact EdPost.no HN.out (gstepo R4.out.1 (gset5_ _ _ _ _ _ _ _) (Nat.le_refl _)) rfl
      · refine Calls.mono (two_short bc s p w2 R2.out.cur (HE.out.kept R2.out.gr (by simp)) hp (by omega) hm) ?_
        rintro e w3 ⟨rfl, hc3, hg3⟩
        have R3 := Lib.hid (R2.out.step hg3 hc3)
        have HN := Lib.hid (R2.out.so.no hlt (by omega))
        clear hc3 hg3
        have z0 : w3.cell? ⟨w.heap.size, 0, none⟩ = some (.int .u16 0) := bcellAt R3.out.2.2.1 0
        have z1 : w3.cell? ⟨w.heap.size, 1, none⟩ = some (.int .u8 0) := bcellAt R3.out.2.2.1 1
        have z2 : w3.cell? ⟨w.heap.size, 2, none⟩ = some (.int .u8 0) := bcellAt R3.out.2.2.1 2
        have z3 : w3.cell? ⟨w.heap.size, 3, none⟩ = some (.int .u16 0) := bcellAt R3.out.2.2.1 3
        have z4 : w3.cell? ⟨w.heap.size, 4, none⟩ = some (.slice none 0 0) := bcellAt R3.out.2.2.1 4
        have y0 : w3.frozen? ⟨w.heap.size, 0, none⟩ = false := bfree R3.out.2.2.1 0
        have y1 : w3.frozen? ⟨w.heap.size, 1, none⟩ = false := bfree R3.out.2.2.1 1
        have y2 : w3.frozen? ⟨w.heap.size, 2, none⟩ = false := bfree R3.out.2.2.1 2
        have y3 : w3.frozen? ⟨w.heap.size, 3, none⟩ = false := bfree R3.out.2.2.1 3
        have y4 : w3.frozen? ⟨w.heap.size, 4, none⟩ = false := bfree R3.out.2.2.1 4
        go_wp2_with fail
        refine bodyPost_ret (results_cr rfl _ _ w.heap.size _ _ _ _ rfl (bset5_ R3.out.2.2.1 _ _ _ _ _) Tryd.underlying35 rfl (by kernel_rfl)) rfl ?_
        exact EdPost.no HN.out (gstepo R3.out.1 (gset5_ _ _ _ _ _ _ _) (Nat.le_refl _)) rfl
    · have hq : decide ((0 : Int) < (s.size : Int) - (p : Int)) = false := by simp; omega
      go_wp2_with fail
      refine Calls.mono (left_any bc s p wr R0.out.cur hp hm) ?_
      rintro e w2 ⟨rfl, hg⟩
      have R2 := Lib.hid (R0.out.quiet hg)
      clear hg R0
      have HD := Lib.hid (R2.out.so.done (by omega))
      have z0 : w2.cell? ⟨w.heap.size, 0, none⟩ = some (.int .u16 0) := bcellAt R2.out.res 0
      have z1 : w2.cell? ⟨w.heap.size, 1, none⟩ = some (.int .u8 0) := bcellAt R2.out.res 1
      have z2 : w2.cell? ⟨w.heap.size, 2, none⟩ = some (.int .u8 0) := bcellAt R2.out.res 2
      have z3 : w2.cell? ⟨w.heap.size, 3, none⟩ = some (.int .u16 0) := bcellAt R2.out.res 3
      have z4 : w2.cell? ⟨w.heap.size, 4, none⟩ = some (.slice none 0 0) := bcellAt R2.out.res 4
      have y0 : w2.frozen? ⟨w.heap.size, 0, none⟩ = false := bfree R2.out.res 0
      have y1 : w2.frozen? ⟨w.heap.size, 1, none⟩ = false := bfree R2.out.res 1
      have y2 : w2.frozen? ⟨w.heap.size, 2, none⟩ = false := bfree R2.out.res 2
      have y3 : w2.frozen? ⟨w.heap.size, 3, none⟩ = false := bfree R2.out.res 3
      have y4 : w2.frozen? ⟨w.heap.size, 4, none⟩ = false := bfree R2.out.res 4
      go_wp2_with fail
      refine bodyPost_ret (results_cr rfl _ _ w.heap.size _ _ _ _ rfl (bset5_ R2.out.res _ _ _ _ _) Tryd.underlying35 rfl (by kernel_rfl)) rfl ?_
      refine EdPost.yes HD.out (gstepo R2.out.gr (gset5_ _ _ _ _ _ _ _) (Nat.le_refl _)) (.slice A l.length l.length) ?_ ?_
      · have e : IntKind.u16.wrap (ttl : Int) = ((ttl % 65536 : Nat) : Int) := by rw [IntKind.wrap_u16]; omega
        rw [e]
        rfl
      · refine FS.mono ((FS.cut' R2.out.own).kept (gset5_ _ _ _ _ _ _ _) ?_) (Nat.le_of_lt (Nat.lt_succ_of_lt R2.out.lc))
        right
        intro e
        have h1 : (Value.slice A l.length cap).ownBlock = some w.heap.size := by rw [← e]; cases A <;> rfl
        have := (World.ownsRow.lt R2.out.own _ h1).1
        have := R2.out.lc
        omega
end Go.Proofs.YthgendgmlpaglaaDoor
namespace Go.Proofs.YthgendgmlpaglaaDoor
open Go.RowKit

/-- An EDNS: its parts, its options' slice. -/
def ev (a b c d : Int) (v : Value) : Value := .agg #[.int .u16 a, .int .u8 b, .int .u8 c, .int .u16 d, v]
def Ops (w : World) (v : Value) (l : List Opt) : Prop := Sl w 2 v l.length (ov l)
theorem Ops.at {w : World} {A : Option Addr} {n cap : Nat} {l : List Opt} (h : Ops w (.slice A n cap) l) (hn : n = l.length) {k : Nat} (hk : k < l.length) :
    ∃ b off, A = some ⟨b, off, none⟩ ∧ w.cell? ⟨b, off + k * 2, none⟩ = some (.int .u16 l[k].1) ∧ w.cell? ⟨b, off + k * 2 + 1, none⟩ = some (.string l[k].2) := by
  subst hn
  obtain ⟨A', cap', h1, h2, h3, h4, h5⟩ := h
  simp only [Value.slice.injEq] at h1
  obtain ⟨rfl, _, rfl⟩ := h1
  obtain ⟨b, off, rfl, hc⟩ := h5 (by omega)
  refine ⟨b, off, rfl, hc (k * 2) _ ?_, ?_⟩
  · exact flat_get (fun o : Opt => [.int .u16 o.1, .string o.2]) 2 (fun _ => rfl) l k 0 (by omega) l[k] (by simp)
  · rw [Nat.add_assoc]
    exact hc (k * 2 + 1) _ (flat_get (fun o : Opt => [.int .u16 o.1, .string o.2]) 2 (fun _ => rfl) l k 1 (by omega) l[k] (by simp))
theorem Ops.kept {w w' : World} {v : Value} {l : List Opt} (h : Ops w v l) (g : w.grownBy w' none) : Ops w' v l := Sl.kept0 h g
theorem Ops.form {w : World} {v : Value} {l : List Opt} (h : Ops w v l) : ∃ A cap, v = .slice A l.length cap := by
  obtain ⟨A, cap, h1, _⟩ := h
  exact ⟨A, cap, h1⟩

theorem ba_inj {s t : ByteArray} (h : s.toList = t.toList) : s = t := by
  rw [ByteArray.toList_eq, ByteArray.toList_eq] at h
  exact ByteArray.ext (Array.ext' h)
def optB (a a' : Int) (s s' : ByteArray) : Bool := decide (a = a' ∧ s = s')
theorem opt_eq (w : World) (a a' : Int) (s s' : ByteArray) : (Op.equalIn 10000 57 (.agg #[.int .u16 a, .string s]) (.agg #[.int .u16 a', .string s'])).run Tryd.prog w = .ok (optB a a' s s') w := by
  unfold optB
  by_cases h1 : a = a'
  · by_cases h2 : s = s'
    · simp [go_sem, h1, h2]
    · have h3 : ¬ s.toList = s'.toList := fun h => h2 (ba_inj h)
      simp [go_sem, h1, h2, h3]
  · simp [go_sem, h1]
theorem opt_beq (x y : Opt) : optB x.1 y.1 x.2 y.2 = decide (x = y) := by
  obtain ⟨a, b⟩ := x
  obtain ⟨c, d⟩ := y
  unfold optB
  rw [Bool.eq_iff_iff]
  simp
  intro _
  constructor <;> intro h <;> omega

set_option maxRecDepth 100000 in
theorem equal_len (A B : Option Addr) (n m ca cb : Nat) (w : World) (h : n ≠ m) : Calls Tryd.prog 53 #[.slice A n ca, .slice B m cb] w fun e w' => e = .returned (.bool false) ∧ w.grownBy w' none := by
  have q : ((n : Int) != (m : Int)) = true := by simp; omega
  go_enter Tryd.func53, Tryd.ntmps53
  go_wp2
  go_ret
  exact ⟨rfl, grefl _ none⟩

set_option maxRecDepth 100000 in
set_option maxHeartbeats 1000000 in
theorem equal_any (A B : Option Addr) (ca cb : Nat) (xs ys : List Opt) (w : World) (hn : xs.length = ys.length) (ha : Ops w (.slice A xs.length ca) xs) (hb : Ops w (.slice B ys.length cb) ys) (hm : xs.length ≤ 1000000) :
    Calls Tryd.prog 53 #[.slice A xs.length ca, .slice B ys.length cb] w fun e w' => e = .returned (.bool (decide (xs = ys))) ∧ w.grownBy w' none := by
  have HA := Lib.hid ha
  have HB := Lib.hid hb
  have HN := Lib.hid hn
  have q : ((xs.length : Int) != (ys.length : Int)) = false := by rw [hn]; simp
  clear ha hb hn
  go_enter Tryd.func53, Tryd.ntmps53
  go_wp2_with fail
  clear q
  go_loopw [13] (fun i wr => ∃ k : Nat, k ≤ xs.length ∧ i = .int .i64 k ∧ xs.take k = ys.take k ∧ w.grownBy wr none) (fun i _ => xs.length - (intOf i).toNat)
  case atStart => exact ⟨0, by omega, rfl, rfl, grefl _ none⟩
  case round =>
    obtain ⟨k, hk, rfl, hsame, hg⟩ := hrel
    have HS := Lib.hid hsame
    have HG := Lib.hid hg
    clear hsame hg
    by_cases hlt : k < xs.length
    · obtain ⟨b, off, rfl, l0, l1⟩ := (HA.out.kept HG.out).at rfl hlt
      obtain ⟨b', off', rfl, l2, l3⟩ := (HB.out.kept HG.out).at rfl (show k < ys.length by have := HN.out; omega)
      have q0 : (0 : Int) ≤ (k : Int) := by omega
      have q1 : (k : Int) < (xs.length : Int) := by omega
      have q2 : (k : Int) < (ys.length : Int) := by have := HN.out; omega
      have HX := Lib.hid (List.take_succ_eq_append_getElem hlt)
      have HY := Lib.hid (List.take_succ_eq_append_getElem (show k < ys.length by have := HN.out; omega))
      generalize xs[k] = x at *
      generalize ys[k]'(by have := HN.out; omega) = y at *
      have oe := opt_eq
      by_cases hxy : x = y
      · have q3 : optB x.1 y.1 x.2 y.2 = true := by rw [opt_beq]; simpa using hxy
        have HXY := Lib.hid hxy
        clear hxy
        go_wp2_with fail
        go_quiet (fail)
        go_wp2
        go_roundw
        case rel => exact ⟨k + 1, by omega, by go_num, by rw [HX.out, HY.out, HS.out, HXY.out], gdrewN HG.out _⟩
        case measure => simp [intOf]; omega
      · have q3 : optB x.1 y.1 x.2 y.2 = false := by rw [opt_beq]; simpa using hxy
        have HXY := Lib.hid hxy
        clear hxy
        go_wp2_with fail
        go_quiet (fail)
        go_wp2
        go_ret
        refine ⟨?_, gdrewN HG.out _⟩
        have hne : ¬ xs = ys := by
          intro e
          have e1 := HX.out
          rw [e, HY.out] at e1
          have e2 := List.append_inj_right' e1 (by simp)
          simp at e2
          exact HXY.out e2.symm
        simp [hne]
    · go_wp2
      go_ret
      refine ⟨?_, HG.out⟩
      have e1 := HS.out
      have e2 := HN.out
      rw [List.take_of_length_le (by omega), List.take_of_length_le (by omega)] at e1
      simp [e1]

set_option maxRecDepth 100000 in
set_option maxHeartbeats 1000000 in
theorem esame_no0 (a b c d a' b' c' d' : Int) (A B : Option Addr) (n m ca cb : Nat) (w : World)  (h0 : ¬ a = a') : Calls Tryd.prog 31 #[.agg #[.int .u16 a, .int .u8 b, .int .u8 c, .int .u16 d, .slice A n ca], .agg #[.int .u16 a', .int .u8 b', .int .u8 c', .int .u16 d', .slice B m cb]] w fun e w' => e = .returned (.bool false) ∧ w.grownBy w' none := by
  have e0 : (a == a') = false := by simpa using h0
  clear h0
  go_enter Tryd.func31, Tryd.ntmps31
  go_wp2_with fail
  go_ret
  exact ⟨rfl, galloc (galloc (grefl _ none) _) _⟩

set_option maxRecDepth 100000 in
set_option maxHeartbeats 1000000 in
theorem esame_no1 (a b c d a' b' c' d' : Int) (A B : Option Addr) (n m ca cb : Nat) (w : World) (h0 : a = a') (h1 : ¬ b = b') : Calls Tryd.prog 31 #[.agg #[.int .u16 a, .int .u8 b, .int .u8 c, .int .u16 d, .slice A n ca], .agg #[.int .u16 a', .int .u8 b', .int .u8 c', .int .u16 d', .slice B m cb]] w fun e w' => e = .returned (.bool false) ∧ w.grownBy w' none := by
  have e0 : (a == a') = true := by subst h0; simp
  have e1 : (b == b') = false := by simpa using h1
  clear h0 h1
  go_enter Tryd.func31, Tryd.ntmps31
  go_wp2_with fail
  go_ret
  exact ⟨rfl, galloc (galloc (grefl _ none) _) _⟩

set_option maxRecDepth 100000 in
set_option maxHeartbeats 1000000 in
theorem esame_no2 (a b c d a' b' c' d' : Int) (A B : Option Addr) (n m ca cb : Nat) (w : World) (h0 : a = a') (h1 : b = b') (h2 : ¬ c = c') : Calls Tryd.prog 31 #[.agg #[.int .u16 a, .int .u8 b, .int .u8 c, .int .u16 d, .slice A n ca], .agg #[.int .u16 a', .int .u8 b', .int .u8 c', .int .u16 d', .slice B m cb]] w fun e w' => e = .returned (.bool false) ∧ w.grownBy w' none := by
  have e0 : (a == a') = true := by subst h0; simp
  have e1 : (b == b') = true := by subst h1; simp
  have e2 : (c == c') = false := by simpa using h2
  clear h0 h1 h2
  go_enter Tryd.func31, Tryd.ntmps31
  go_wp2_with fail
  go_ret
  exact ⟨rfl, galloc (galloc (grefl _ none) _) _⟩

set_option maxRecDepth 100000 in
set_option maxHeartbeats 1000000 in
theorem esame_no3 (a b c d a' b' c' d' : Int) (A B : Option Addr) (n m ca cb : Nat) (w : World) (h0 : a = a') (h1 : b = b') (h2 : c = c') (h3 : ¬ d = d') : Calls Tryd.prog 31 #[.agg #[.int .u16 a, .int .u8 b, .int .u8 c, .int .u16 d, .slice A n ca], .agg #[.int .u16 a', .int .u8 b', .int .u8 c', .int .u16 d', .slice B m cb]] w fun e w' => e = .returned (.bool false) ∧ w.grownBy w' none := by
  have e0 : (a == a') = true := by subst h0; simp
  have e1 : (b == b') = true := by subst h1; simp
  have e2 : (c == c') = true := by subst h2; simp
  have e3 : (d == d') = false := by simpa using h3
  clear h0 h1 h2 h3
  go_enter Tryd.func31, Tryd.ntmps31
  go_wp2_with fail
  go_ret
  exact ⟨rfl, galloc (galloc (grefl _ none) _) _⟩

set_option maxRecDepth 100000 in
set_option maxHeartbeats 1000000 in
theorem rsame_no0 (a b c d a' b' c' d' : Int) (A B : Option Addr) (n m ca cb : Nat) (w : World)  (h0 : ¬ a = a') : Calls Tryd.prog 14 #[.agg #[.int .u16 a, .int .u8 b, .int .u8 c, .int .u16 d, .slice A n ca], .agg #[.int .u16 a', .int .u8 b', .int .u8 c', .int .u16 d', .slice B m cb]] w fun e w' => e = .returned (.bool false) ∧ w.grownBy w' none := by
  have e0 : (a != a') = true := by simpa using h0
  clear h0
  go_enter Tryd.func14, Tryd.ntmps14
  go_wp2_with fail
  go_ret
  exact ⟨rfl, galloc (galloc (grefl _ none) _) _⟩

set_option maxRecDepth 100000 in
set_option maxHeartbeats 1000000 in
theorem rsame_no1 (a b c d a' b' c' d' : Int) (A B : Option Addr) (n m ca cb : Nat) (w : World) (h0 : a = a') (h1 : ¬ b = b') : Calls Tryd.prog 14 #[.agg #[.int .u16 a, .int .u8 b, .int .u8 c, .int .u16 d, .slice A n ca], .agg #[.int .u16 a', .int .u8 b', .int .u8 c', .int .u16 d', .slice B m cb]] w fun e w' => e = .returned (.bool false) ∧ w.grownBy w' none := by
  have e0 : (a != a') = false := by subst h0; simp
  have e1 : (b != b') = true := by simpa using h1
  clear h0 h1
  go_enter Tryd.func14, Tryd.ntmps14
  go_wp2_with fail
  go_ret
  exact ⟨rfl, galloc (galloc (grefl _ none) _) _⟩

set_option maxRecDepth 100000 in
set_option maxHeartbeats 1000000 in
theorem rsame_no2 (a b c d a' b' c' d' : Int) (A B : Option Addr) (n m ca cb : Nat) (w : World) (h0 : a = a') (h1 : b = b') (h2 : ¬ c = c') : Calls Tryd.prog 14 #[.agg #[.int .u16 a, .int .u8 b, .int .u8 c, .int .u16 d, .slice A n ca], .agg #[.int .u16 a', .int .u8 b', .int .u8 c', .int .u16 d', .slice B m cb]] w fun e w' => e = .returned (.bool false) ∧ w.grownBy w' none := by
  have e0 : (a != a') = false := by subst h0; simp
  have e1 : (b != b') = false := by subst h1; simp
  have e2 : (c != c') = true := by simpa using h2
  clear h0 h1 h2
  go_enter Tryd.func14, Tryd.ntmps14
  go_wp2_with fail
  go_ret
  exact ⟨rfl, galloc (galloc (grefl _ none) _) _⟩

set_option maxRecDepth 100000 in
set_option maxHeartbeats 1000000 in
theorem rsame_no3 (a b c d a' b' c' d' : Int) (A B : Option Addr) (n m ca cb : Nat) (w : World) (h0 : a = a') (h1 : b = b') (h2 : c = c') (h3 : ¬ d = d') : Calls Tryd.prog 14 #[.agg #[.int .u16 a, .int .u8 b, .int .u8 c, .int .u16 d, .slice A n ca], .agg #[.int .u16 a', .int .u8 b', .int .u8 c', .int .u16 d', .slice B m cb]] w fun e w' => e = .returned (.bool false) ∧ w.grownBy w' none := by
  have e0 : (a != a') = false := by subst h0; simp
  have e1 : (b != b') = false := by subst h1; simp
  have e2 : (c != c') = false := by subst h2; simp
  have e3 : (d != d') = true := by simpa using h3
  clear h0 h1 h2 h3
  go_enter Tryd.func14, Tryd.ntmps14
  go_wp2_with fail
  go_ret
  exact ⟨rfl, galloc (galloc (grefl _ none) _) _⟩

/-- Have two the same parts and options? -/
def edB (a b c d : Int) (xs : List Opt) (a' b' c' d' : Int) (ys : List Opt) : Bool := decide (a = a' ∧ b = b' ∧ c = c' ∧ d = d' ∧ xs = ys)

set_option maxRecDepth 100000 in
set_option maxHeartbeats 1000000 in
theorem esame_yes (a b c d : Int) (va vb : Value) (q : Bool) (w : World) (hq : ∀ w', w.grownBy w' none → Calls Tryd.prog 53 #[va, vb] w' fun e w'' => e = .returned (.bool q) ∧ w'.grownBy w'' none) :
    Calls Tryd.prog 31 #[.agg #[.int .u16 a, .int .u8 b, .int .u8 c, .int .u16 d, va], .agg #[.int .u16 a, .int .u8 b, .int .u8 c, .int .u16 d, vb]] w fun e w' => e = .returned (.bool q) ∧ w.grownBy w' none := by
  have HQ := Lib.hid hq
  clear hq
  go_enter Tryd.func31, Tryd.ntmps31
  go_wp2_with fail
  refine Calls.mono (HQ.out _ (galloc (galloc (grefl _ none) _) _)) ?_
  rintro e w1 ⟨rfl, hg⟩
  go_wp2_with fail
  go_ret
  exact ⟨rfl, gfr1 (gfr1 hg)⟩

set_option maxRecDepth 100000 in
set_option maxHeartbeats 1000000 in
theorem rsame_len (a b c d : Int) (A B : Option Addr) (n m ca cb : Nat) (w : World) (h : n ≠ m) : Calls Tryd.prog 14 #[.agg #[.int .u16 a, .int .u8 b, .int .u8 c, .int .u16 d, .slice A n ca], .agg #[.int .u16 a, .int .u8 b, .int .u8 c, .int .u16 d, .slice B m cb]] w fun e w' => e = .returned (.bool false) ∧ w.grownBy w' none := by
  have q : ((n : Int) != (m : Int)) = true := by simp; omega
  go_enter Tryd.func14, Tryd.ntmps14
  go_wp2_with fail
  go_ret
  exact ⟨rfl, galloc (galloc (grefl _ none) _) _⟩

set_option maxRecDepth 100000 in
set_option maxHeartbeats 2000000 in
theorem rsame_loop (a b c d : Int) (A B : Option Addr) (ca cb : Nat) (xs ys : List Opt) (w : World) (hn : xs.length = ys.length) (ha : Ops w (.slice A xs.length ca) xs) (hb : Ops w (.slice B ys.length cb) ys) (hm : xs.length ≤ 1000000) :
    Calls Tryd.prog 14 #[.agg #[.int .u16 a, .int .u8 b, .int .u8 c, .int .u16 d, .slice A xs.length ca], .agg #[.int .u16 a, .int .u8 b, .int .u8 c, .int .u16 d, .slice B ys.length cb]] w fun e w' => e = .returned (.bool (decide (xs = ys))) ∧ w.grownBy w' none := by
  have HA := Lib.hid ha
  have HB := Lib.hid hb
  have HN := Lib.hid hn
  have q : ((xs.length : Int) != (ys.length : Int)) = false := by rw [hn]; simp
  clear ha hb hn
  go_enter Tryd.func14, Tryd.ntmps14
  go_wp2_with fail
  clear q
  go_loopw [5] (fun i wr => ∃ k : Nat, k ≤ xs.length ∧ i = .int .i64 k ∧ xs.take k = ys.take k ∧ w.grownBy wr none ∧ wr.heap[w.heap.size]? = some (.cells #[.int .u16 a, .int .u8 b, .int .u8 c, .int .u16 d, .slice A xs.length ca] 35 (0, 0)) ∧ wr.heap[w.heap.size + 1]? = some (.cells #[.int .u16 a, .int .u8 b, .int .u8 c, .int .u16 d, .slice B ys.length cb] 35 (0, 0))) (fun i _ => xs.length - (intOf i).toNat)
  case atStart => exact ⟨0, by omega, rfl, rfl, galloc (galloc (grefl _ none) _) _, balloc2_0 _ _ _, balloc2_1 _ _ _⟩
  case round =>
    obtain ⟨k, hk, rfl, hsame, hg, hr0, hr1⟩ := hrel
    have HS := Lib.hid hsame
    have HG := Lib.hid hg
    have H0 := Lib.hid hr0
    have H1 := Lib.hid hr1
    have m0 : wr.cell? ⟨w.heap.size, 4, none⟩ = some (.slice A xs.length ca) := bcellAt hr0 4
    have m1 : wr.cell? ⟨w.heap.size + 1, 4, none⟩ = some (.slice B ys.length cb) := bcellAt hr1 4
    clear hsame hg hr0 hr1
    by_cases hlt : k < xs.length
    · obtain ⟨b, off, rfl, l0, l1⟩ := (HA.out.kept HG.out).at rfl hlt
      obtain ⟨b', off', rfl, l2, l3⟩ := (HB.out.kept HG.out).at rfl (show k < ys.length by have := HN.out; omega)
      have q0 : (0 : Int) ≤ (k : Int) := by omega
      have q1 : (k : Int) < (xs.length : Int) := by omega
      have q2 : (k : Int) < (ys.length : Int) := by have := HN.out; omega
      have HX := Lib.hid (List.take_succ_eq_append_getElem hlt)
      have HY := Lib.hid (List.take_succ_eq_append_getElem (show k < ys.length by have := HN.out; omega))
      generalize xs[k] = x at *
      generalize ys[k]'(by have := HN.out; omega) = y at *
      have oe := opt_eq
      by_cases hxy : x = y
      · have q3 : optB x.1 y.1 x.2 y.2 = true := by rw [opt_beq]; simpa using hxy
        have HXY := Lib.hid hxy
        clear hxy
        go_wp2_with fail
        go_quiet (fail)
        go_wp2
        go_roundw
        case rel => exact ⟨k + 1, by omega, by go_num, by rw [HX.out, HY.out, HS.out, HXY.out], gdrewN HG.out _, H0.out, H1.out⟩
        case measure => simp [intOf]; omega
      · have q3 : optB x.1 y.1 x.2 y.2 = false := by rw [opt_beq]; simpa using hxy
        have HXY := Lib.hid hxy
        clear hxy
        go_wp2_with fail
        go_quiet (fail)
        go_wp2
        go_ret
        refine ⟨?_, gdrewN HG.out _⟩
        have hne : ¬ xs = ys := by
          intro e
          have e1 := HX.out
          rw [e, HY.out] at e1
          have e2 := List.append_inj_right' e1 (by simp)
          simp at e2
          exact HXY.out e2.symm
        simp [hne]
    · go_wp2
      go_ret
      refine ⟨?_, HG.out⟩
      have e1 := HS.out
      have e2 := HN.out
      rw [List.take_of_length_le (by omega), List.take_of_length_le (by omega)] at e1
      simp [e1]

theorem esame_any (a b c d a' b' c' d' : Int) (va vb : Value) (xs ys : List Opt) (w : World) (ha : Ops w va xs) (hb : Ops w vb ys) (hm : xs.length ≤ 1000000) :
    Calls Tryd.prog 31 #[ev a b c d va, ev a' b' c' d' vb] w fun e w' => e = .returned (.bool (edB a b c d xs a' b' c' d' ys)) ∧ w.grownBy w' none := by
  obtain ⟨A, ca, rfl⟩ := ha.form
  obtain ⟨B, cb, rfl⟩ := hb.form
  by_cases h0 : a = a'
  · by_cases h1 : b = b'
    · by_cases h2 : c = c'
      · by_cases h3 : d = d'
        · subst h0 h1 h2 h3
          by_cases hn : xs.length = ys.length
          · rw [show edB a b c d xs a b c d ys = decide (xs = ys) by simp [edB]]
            exact esame_yes a b c d _ _ (decide (xs = ys)) w (fun w' g => equal_any A B ca cb xs ys w' hn (ha.kept g) (hb.kept g) hm)
          · have hne : ¬ xs = ys := fun e => hn (by rw [e])
            rw [show edB a b c d xs a b c d ys = false by simp [edB, hne]]
            exact esame_yes a b c d _ _ false w (fun w' _ => equal_len A B xs.length ys.length ca cb w' hn)
        · rw [show edB a b c d xs a' b' c' d' ys = false by simp [edB, h3]]
          exact esame_no3 a b c d a' b' c' d' A B xs.length ys.length ca cb w h0 h1 h2 h3
      · rw [show edB a b c d xs a' b' c' d' ys = false by simp [edB, h2]]
        exact esame_no2 a b c d a' b' c' d' A B xs.length ys.length ca cb w h0 h1 h2
    · rw [show edB a b c d xs a' b' c' d' ys = false by simp [edB, h1]]
      exact esame_no1 a b c d a' b' c' d' A B xs.length ys.length ca cb w h0 h1
  · rw [show edB a b c d xs a' b' c' d' ys = false by simp [edB, h0]]
    exact esame_no0 a b c d a' b' c' d' A B xs.length ys.length ca cb w h0
theorem rsame_any (a b c d a' b' c' d' : Int) (va vb : Value) (xs ys : List Opt) (w : World) (ha : Ops w va xs) (hb : Ops w vb ys) (hm : xs.length ≤ 1000000) :
    Calls Tryd.prog 14 #[ev a b c d va, ev a' b' c' d' vb] w fun e w' => e = .returned (.bool (edB a b c d xs a' b' c' d' ys)) ∧ w.grownBy w' none := by
  obtain ⟨A, ca, rfl⟩ := ha.form
  obtain ⟨B, cb, rfl⟩ := hb.form
  by_cases h0 : a = a'
  · by_cases h1 : b = b'
    · by_cases h2 : c = c'
      · by_cases h3 : d = d'
        · subst h0 h1 h2 h3
          by_cases hn : xs.length = ys.length
          · rw [show edB a b c d xs a b c d ys = decide (xs = ys) by simp [edB]]
            exact rsame_loop a b c d A B ca cb xs ys w hn ha hb hm
          · have hne : ¬ xs = ys := fun e => hn (by rw [e])
            rw [show edB a b c d xs a b c d ys = false by simp [edB, hne]]
            exact rsame_len a b c d A B xs.length ys.length ca cb w hn
        · rw [show edB a b c d xs a' b' c' d' ys = false by simp [edB, h3]]
          exact rsame_no3 a b c d a' b' c' d' A B xs.length ys.length ca cb w h0 h1 h2 h3
      · rw [show edB a b c d xs a' b' c' d' ys = false by simp [edB, h2]]
        exact rsame_no2 a b c d a' b' c' d' A B xs.length ys.length ca cb w h0 h1 h2
    · rw [show edB a b c d xs a' b' c' d' ys = false by simp [edB, h1]]
      exact rsame_no1 a b c d a' b' c' d' A B xs.length ys.length ca cb w h0 h1
  · rw [show edB a b c d xs a' b' c' d' ys = false by simp [edB, h0]]
    exact rsame_no0 a b c d a' b' c' d' A B xs.length ys.length ca cb w h0
end Go.Proofs.YthgendgmlpaglaaDoor
namespace Go.Proofs.YthgendgmlpaglaaDoor
open Go.RowKit

/-- What Write returns. -/
def ewR (sz e v f : Nat) (l : List Opt) : Value := if okO l then .tuple #[.int .u16 sz, .int .u32 (ttlN e v f), .string ⟨(opsB l).toArray⟩, .int .i64 0] else .tuple #[.int .u16 0, .int .u32 0, .string ByteArray.empty, .int .i64 5]
theorem put2_x (w : World) (va : Value) (a : List UInt8) (x : Nat) (hx : x < 65536) (ha : SlB w va a) (hn : a.length ≤ 70368744177000) : Calls Tryd.prog 39 #[va, .int .u16 x] w fun e w' => ∃ v, e = .returned v ∧ SlB w' v (a ++ enc 2 x) ∧ w.grownBy w' none :=
  (put2_any w va a x hx ha hn).mono fun _ _ ⟨he, ho, hg⟩ => ⟨_, he, ho.sl, hg⟩
theorem results_t4 {P : Program} {fn : Func} {t u v x : Tmp} (h : fn.results = #[.tmp t, .tmp u, .tmp v, .tmp x]) (tmps : Array Value) (w : World) :
    (results fn tmps).run P w = .ok (.tuple #[tmps.getD t undef, tmps.getD u undef, tmps.getD v undef, tmps.getD x undef]) w := by simp [results, h]

theorem ownB (A : Option Addr) (n m c d : Nat) : (Value.slice A n c).ownBlock = (Value.slice A m d).ownBlock := by cases A <;> rfl
theorem ttl_bits (e v f : Nat) (he : e < 256) (hv : v < 256) (hf : f < 65536) : bits .or .u32 (bits .or .u32 ((e : Int) * 16777216) ((v : Int) * 65536)) (f : Int) = ((ttlN e v f : Nat) : Int) := by
  rw [show ((e : Int) * 16777216) = ((e * 16777216 : Nat) : Int) by omega, show ((v : Int) * 65536) = ((v * 65536 : Nat) : Int) by omega, u32_or_nat _ _ (by omega) (by omega), nat_join 24 _ _ (by omega) (by omega), u32_or_nat _ _ (by omega) (by omega), nat_join 16 _ _ (by omega) (by omega)]
  rfl

set_option maxRecDepth 100000 in
set_option maxHeartbeats 2000000 in
theorem ewrite_any (sz e v f : Nat) (A : Option Addr) (ca : Nat) (l : List Opt) (w : World) (he : e < 256) (hv : v < 256) (hf : f < 65536) (ha : Ops w (.slice A l.length ca) l) (hl : l.length ≤ maxLen) (hc : ∀ o ∈ l, o.1 < 65536) :
    Calls Tryd.prog 41 #[.agg #[.int .u16 sz, .int .u8 e, .int .u8 v, .int .u16 f, .slice A l.length ca]] w fun e' w' => e' = .returned (ewR sz e v f l) ∧ w.grownBy w' none := by
  have HA := Lib.hid ha
  have HC := Lib.hid hc
  obtain ⟨i0, hi, hz0, hz1, hz2⟩ := info_parts Tryd.infoByte
  unfold maxLen at hl
  clear ha hc
  go_enter Tryd.func41, Tryd.ntmps41
  go_wp2_with fail
  go_loopw [6, 16] (fun t i wr => ∃ k : Nat, k ≤ l.length ∧ i = .int .i64 k ∧ t = .int .i64 (opsB (l.take k)).length ∧ (opsB (l.take k)).length ≤ 65535 ∧ w.grownBy wr none ∧ wr.heap[w.heap.size]? = some (.cells #[.int .u16 sz, .int .u8 e, .int .u8 v, .int .u16 f, .slice A l.length ca] 35 (0, 0))) (fun _ i _ => l.length - (intOf i).toNat)
  case atStart => exact ⟨0, by omega, rfl, rfl, by simp [opsB], galloc (grefl _ none) _, balloc1_0 _ _⟩
  case round =>
    obtain ⟨k, hk, rfl, rfl, ht, hg, hr⟩ := hrel
    have HG := Lib.hid hg
    have HR := Lib.hid hr
    clear hg hr
    by_cases hlt : k < l.length
    · obtain ⟨b, off, rfl, l0, l1⟩ := (HA.out.kept HG.out).at rfl hlt
      have q0 : (0 : Int) ≤ (k : Int) := by omega
      have q1 : (k : Int) < (l.length : Int) := by omega
      have HL := Lib.hid (opsB_snoc_len l k hlt)
      have HM := Lib.hid (opsB_mem l k hlt)
      have HT := Lib.hid (opsB_take_le l (k + 1))
      generalize l[k] = x at *
      generalize (opsB (l.take k)).length = tot at *
      by_cases h1 : x.2.size ≤ 65535
      · have q2 : decide ((65535 : Int) < (x.2.size : Int)) = false := by simp; omega
        by_cases h2 : tot + 4 + x.2.size ≤ 65535
        · have q3 : decide ((65535 : Int) < (tot : Int) + (4 + (x.2.size : Int))) = false := by simp; omega
          go_wp2_with fail
          go_roundw
          case rel => exact ⟨k + 1, by omega, by go_num, by rw [HL.out]; simp; omega, by rw [HL.out]; exact h2, galloc HG.out _, gblock (galloc (grefl _ none) _) HR.out (by simp)⟩
          case measure => simp [intOf]; omega
        · have q3 : decide ((65535 : Int) < (tot : Int) + (4 + (x.2.size : Int))) = true := by simp; omega
          have HN := Lib.hid (show ¬ okO l by unfold okO; have := HL.out; have := HT.out; omega)
          go_wp2_with fail
          refine bodyPost_ret (results_t4 rfl _ _) rfl ?_
          refine ⟨?_, galloc HG.out _⟩
          unfold ewR
          rw [if_neg HN.out]
          rfl
      · have q2 : decide ((65535 : Int) < (x.2.size : Int)) = true := by simp; omega
        have HN := Lib.hid (show ¬ okO l by unfold okO; have := HM.out; omega)
        go_wp2_with fail
        refine bodyPost_ret (results_t4 rfl _ _) rfl ?_
        refine ⟨?_, galloc HG.out _⟩
        unfold ewR
        rw [if_neg HN.out]
        rfl
    · obtain rfl : k = l.length := by omega
      rw [List.take_length] at *
      obtain ⟨wo, rfl⟩ : ∃ wo : World, wo = wr := ⟨_, rfl⟩
      have HO := Lib.hid (show okO l from ht)
      have c4 : wo.cell? ⟨w.heap.size, 4, none⟩ = some (.slice A l.length ca) := bcellAt HR.out 4
      go_wp2_with (at_make; refine wpList_make_own _ rfl _ _ 26 rfl wo.heap.size 5 i0 (.int .u8 0) 1 Tryd.underlying26 hi hz0 hz1 _ _ _ (opsB l).length rfl rfl (by omega) ?b2 ?b3 (Nat.le_refl _) ?_)
      case b2 => rw [hz2]; omega
      case b3 => unfold maxLen; omega
      intro w0 hown0 hg0
      have G0 := Lib.hid (gtrans HG.out hg0)
      have R0 := Lib.hid (gblock hg0 HR.out (by simp))
      have S0 := Lib.hid (Nat.lt_of_lt_of_le (blt HR.out) hg0.size)
      have O0 := Lib.hid (show Own w0 wo.heap.size (.slice (some ⟨wo.heap.size, 0, none⟩) 0 (opsB l).length) [] from hown0)
      have HB := Lib.hid (blt HR.out)
      have c5 : w0.cell? ⟨w.heap.size, 4, none⟩ = some (.slice A l.length ca) := bcellAt R0.out 4
      clear hown0 hg0 c4 HG HR
      go_wp2_with fail
      go_loopw [9, 38] (fun o i wr => ∃ k : Nat, k ≤ l.length ∧ i = .int .i64 k ∧ Own wr wo.heap.size o (opsB (l.take k)) ∧ w.grownBy wr none ∧ wo.heap.size ≤ wr.heap.size ∧ wr.heap[w.heap.size]? = some (.cells #[.int .u16 sz, .int .u8 e, .int .u8 v, .int .u16 f, .slice A l.length ca] 35 (0, 0))) (fun _ i _ => l.length - (intOf i).toNat)
      case atStart => exact ⟨0, by omega, rfl, O0.out, G0.out, Nat.le_of_lt (O0.out.block _ rfl).2, R0.out⟩
      case round =>
        obtain ⟨k, hk2, rfl, ho, hg, hz, hr⟩ := hrel
        have OW := Lib.hid ho
        have HG := Lib.hid hg
        have HR := Lib.hid hr
        have HZ := Lib.hid hz
        obtain ⟨A0, cap0, rfl, hcap1, hcap2⟩ := ho.shape
        unfold maxLen at hcap2
        clear ho hg hr hz c5
        by_cases hlt2 : k < l.length
        · obtain ⟨b, off, rfl, l0, l1⟩ := (HA.out.kept HG.out).at rfl hlt2
          have q0 : (0 : Int) ≤ (k : Int) := by omega
          have q1 : (k : Int) < (l.length : Int) := by omega
          have HL := Lib.hid (opsB_snoc l k hlt2)
          have hx1 := HC.out l[k] (List.getElem_mem hlt2)
          have hx2 : l[k].2.size ≤ 65535 := Nat.le_trans (opsB_mem l k hlt2) ht
          have hx3 := opsB_snoc_len l k hlt2
          have hx4 := opsB_take_le l (k + 1)
          generalize l[k] = x at *
          have HX := Lib.hid hx1
          go_wp2_with fail
          refine Calls.mono (put2_x _ _ [] x.1 HX.out (Own.nil _ 0).sl (by simp)) ?_
          rintro e' w3 ⟨v3, rfl, hs3, hg3⟩
          have S3 := Lib.hid hs3
          have G3 := Lib.hid (gfr1 hg3)
          have O3 := Lib.hid (OW.out.kept0 (gfr1 hg3))
          have X3 := Lib.hid (gblock hg3 (balloc1_0 wr _) (by simp))
          have BK := Lib.hid OW.out.block
          clear hs3 hg3 OW
          have x1 : w3.cell? ⟨wr.heap.size, 1, none⟩ = some (.string x.2) := bcellAt X3.out 1
          go_wp2_with fail
          refine Calls.mono (put2_x _ _ _ x.2.size (by omega) S3.out (by simp [enc_len])) ?_
          rintro e' w4 ⟨v4, rfl, hs4, hg4⟩
          have S4 := Lib.hid hs4
          have G4 := Lib.hid (gtrans G3.out hg4)
          have O4 := Lib.hid (O3.out.kept0 hg4)
          have X4 := Lib.hid (gblock hg4 X3.out (by simp))
          clear hs4 hg4 O3 X3 S3 x1 G3
          have x1 : w4.cell? ⟨wr.heap.size, 1, none⟩ = some (.string x.2) := bcellAt X4.out 1
          go_wp2_with (at_builtin; refine wpList_app_sl rfl (.tmp 45) (.tmp 51) 26 rfl wo.heap.size i0 Tryd.underlying26 hi hz0 hz1 hz2 (.slice A0 (opsB (List.take k l)).length cap0) (opsB (l.take k)) ([] ++ enc 2 x.1 ++ enc 2 x.2.size) rfl O4.out v4 rfl S4.out ?d1 ?d2 ?_)
          case d1 => simp [enc_len]; omega
          case d2 => exact Nat.le_trans HZ.out G4.out.size
          intro v5 w5 ho5 hg5
          have G5 := Lib.hid (show w.grownBy w5 none from gstep (gtrans HG.out G4.out) hg5 (fun r hr => by have := (BK.out r hr).1; have := HB.out; omega))
          have X5 := Lib.hid (gblock hg5 X4.out (fun e => by have := (BK.out _ e.symm).2; omega))
          have R5 := Lib.hid (gblock hg5 (gblock G4.out HR.out (by simp)) (fun e => by have := (BK.out _ e.symm).1; have := HB.out; omega))
          have O5 := Lib.hid ho5
          have Z5' := Lib.hid (Nat.le_trans HZ.out (Nat.le_trans G4.out.size hg5.size))
          obtain ⟨A5, cap5, rfl, _, _⟩ := ho5.shape
          clear ho5 hg5 x1 X4 O4 S4 G4
          have x1 : w5.cell? ⟨wr.heap.size, 1, none⟩ = some (.string x.2) := bcellAt X5.out 1
          go_wp2_with (at_builtin; refine wpList_app_str rfl (.tmp 53) (.tmp 55) 26 9 rfl wo.heap.size i0 Tryd.underlying26 Tryd.underlying9 hi hz0 hz1 hz2 _ _ rfl O5.out x.2 rfl ?d3 Z5'.out ?_)
          case d3 => simp [enc_len]; omega
          intro v6 w6 ho6 hg6
          have G6 := Lib.hid (show w.grownBy w6 none from gstep G5.out hg6 (fun r hr => by have := (O5.out.block r ((ownB _ _ _ _ _).trans hr)).1; have := HB.out; omega))
          have R6 := Lib.hid (gblock hg6 R5.out (fun e => by have := (O5.out.block _ ((ownB _ _ _ _ _).trans e.symm)).1; have := HB.out; omega))
          have O6 := Lib.hid (show Own w6 wo.heap.size v6 (opsB (l.take (k + 1))) by rw [HL.out]; unfold opB; simpa using ho6)
          have Z6 := Lib.hid (Nat.le_trans Z5'.out hg6.size)
          clear ho6 hg6 x1 X5 O5 R5 G5
          go_wp2_with fail
          go_roundw
          case rel => exact ⟨k + 1, by omega, by go_num, O6.out, G6.out, Z6.out, R6.out⟩
          case measure => simp [intOf]; omega
        · obtain rfl : k = l.length := by omega
          rw [List.take_length] at *
          have d0 : wr.cell? ⟨w.heap.size, 0, none⟩ = some (.int .u16 sz) := bcellAt HR.out 0
          have d1 : wr.cell? ⟨w.heap.size, 1, none⟩ = some (.int .u8 e) := bcellAt HR.out 1
          have d2 : wr.cell? ⟨w.heap.size, 2, none⟩ = some (.int .u8 v) := bcellAt HR.out 2
          have d3 : wr.cell? ⟨w.heap.size, 3, none⟩ = some (.int .u16 f) := bcellAt HR.out 3
          have hcv : ∀ g : Gr wr, _ := fun g => run_string_of (P := Tryd.prog) g.w 26 9 5 Tryd.underlying26 Tryd.underlying5 Tryd.underlying9 (OW.out.sl.kept0 g.h)
          have e0 : ∀ g : Gr wr, g.w.cell? ⟨w.heap.size, 0, none⟩ = some (.int .u16 sz) := Gr.cell d0
          go_wp2_with fail
          refine wp_region_noPanic ?_
          refine wp_region_gr (by kernel_rfl) (by kernel_rfl) ?_
          repeat (go_big_quiet_step (fail))
          refine wpQuiet_nil ?_
          rintro _ ⟨gq, rfl⟩
          refine NoPanic.normal ?_
          go_wp2_with fail
          refine bodyPost_ret (results_t4 rfl _ _) rfl ?_
          refine ⟨?_, gtrans HG.out gq.h⟩
          unfold ewR
          rw [if_pos HO.out]
          rw [ttl_bits e v f he hv hf]
          rfl
end Go.Proofs.YthgendgmlpaglaaDoor
