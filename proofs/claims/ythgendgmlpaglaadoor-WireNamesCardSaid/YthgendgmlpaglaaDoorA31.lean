/-
  Wire: limits, the messages that may not be.
  Wire: limits, the loop over the messages that may not be.
-/
import Derived.Test.YthgendgmlpaglaaDoorA30
import Derived.Deep.MidRow
namespace Go.Proofs.YthgendgmlpaglaaDoor
open Go.RowKit

theorem nB1_rng : nB1.rng := ⟨by decide +kernel, fun q hq => (by cases hq), fun r hr => (by cases hr), fun r hr => (by cases hr), fun r hr => (by cases hr), by decide, by decide, by decide, by decide, by decide, by decide, fun o ho => (by cases ho)⟩
theorem nB2_rng : nB2.rng := ⟨by decide +kernel, fun q hq => (by cases hq), fun r hr => (by cases hr), fun r hr => (by cases hr), fun r hr => (by cases hr), by decide, by decide, by decide, by decide, by decide, by decide, fun o ho => (by cases ho)⟩
theorem nB3_rng : nB3.rng := ⟨by decide +kernel, fun q hq => (by cases hq), fun r hr => (by cases hr), fun r hr => (by cases hr), fun r hr => (by cases hr), by decide, by decide, by decide, by decide, by decide, by decide, fun o ho => (by rw [List.mem_singleton.1 ho]; decide)⟩
theorem nB4_rng : nB4.rng := ⟨by decide +kernel, fun q hq => (by rw [List.mem_singleton.1 hq]; exact ⟨by decide, by decide⟩), fun r hr => (by cases hr), fun r hr => (by cases hr), fun r hr => (by cases hr), by decide, by decide, by decide, by decide, by decide, by decide, fun o ho => (by cases ho)⟩
theorem nB5_rng : nB5.rng := ⟨by decide +kernel, fun q hq => (by cases hq), fun r hr => (by rw [List.mem_singleton.1 hr]; exact ⟨by decide, by decide, by decide, by decide +kernel⟩), fun r hr => (by cases hr), fun r hr => (by cases hr), by decide, by decide, by decide, by decide, by decide, by decide, fun o ho => (by cases ho)⟩
theorem nB6_rng : nB6.rng := ⟨by decide +kernel, fun q hq => (by cases hq), fun r hr => (by cases hr), fun r hr => (by rw [List.mem_singleton.1 hr]; exact ⟨by decide, by decide, by decide, by decide +kernel⟩), fun r hr => (by cases hr), by decide, by decide, by decide, by decide, by decide, by decide, fun o ho => (by cases ho)⟩
theorem nB7_rng : nB7.rng := ⟨by decide +kernel, fun q hq => (by cases hq), fun r hr => (by cases hr), fun r hr => (by cases hr), fun r hr => (by rw [List.mem_singleton.1 hr]; exact ⟨by decide, by decide, by decide, by decide +kernel⟩), by decide, by decide, by decide, by decide, by decide, by decide, fun o ho => (by cases ho)⟩
def bR1 (_n : Nat) : List Value := [.int .u16 0, .bool false, .int .u8 16, .bool false, .bool false, .bool false, .bool false, .bool false, .bool false, .bool false, .int .u8 0, .slice none 0 0, .slice none 0 0, .slice none 0 0, .slice none 0 0, .bool false, .int .u16 0, .int .u8 0, .int .u8 0, .int .u16 0, .slice none 0 0]
def bR2 (_n : Nat) : List Value := [.int .u16 0, .bool false, .int .u8 0, .bool false, .bool false, .bool false, .bool false, .bool false, .bool false, .bool false, .int .u8 0, .slice none 0 0, .slice none 0 0, .slice none 0 0, .slice none 0 0, .bool false, .int .u16 1, .int .u8 0, .int .u8 0, .int .u16 0, .slice none 0 0]
def bR3 (n : Nat) : List Value := [.int .u16 0, .bool false, .int .u8 0, .bool false, .bool false, .bool false, .bool false, .bool false, .bool false, .bool false, .int .u8 0, .slice none 0 0, .slice none 0 0, .slice none 0 0, .slice none 0 0, .bool false, .int .u16 0, .int .u8 0, .int .u8 0, .int .u16 0, .slice (some ⟨n, 0, none⟩) 1 1]
def bR4 (n : Nat) : List Value := [.int .u16 0, .bool false, .int .u8 0, .bool false, .bool false, .bool false, .bool false, .bool false, .bool false, .bool false, .int .u8 0, .slice (some ⟨n + 1, 0, none⟩) 1 1, .slice none 0 0, .slice none 0 0, .slice none 0 0, .bool false, .int .u16 0, .int .u8 0, .int .u8 0, .int .u16 0, .slice none 0 0]
def bR5 (n : Nat) : List Value := [.int .u16 0, .bool false, .int .u8 0, .bool false, .bool false, .bool false, .bool false, .bool false, .bool false, .bool false, .int .u8 0, .slice none 0 0, .slice (some ⟨n + 1 + 1, 0, none⟩) 1 1, .slice none 0 0, .slice none 0 0, .bool false, .int .u16 0, .int .u8 0, .int .u8 0, .int .u16 0, .slice none 0 0]
def bR6 (n : Nat) : List Value := [.int .u16 0, .bool false, .int .u8 0, .bool false, .bool false, .bool false, .bool false, .bool false, .bool false, .bool false, .int .u8 0, .slice none 0 0, .slice none 0 0, .slice (some ⟨n + 1 + 1 + 1, 0, none⟩) 1 1, .slice none 0 0, .bool false, .int .u16 0, .int .u8 0, .int .u8 0, .int .u16 0, .slice none 0 0]
def bR7 (n : Nat) : List Value := [.int .u16 0, .bool false, .int .u8 0, .bool false, .bool false, .bool false, .bool false, .bool false, .bool false, .bool false, .int .u8 0, .slice none 0 0, .slice none 0 0, .slice none 0 0, .slice (some ⟨n + 1 + 1 + 1 + 1, 0, none⟩) 1 1, .bool false, .int .u16 0, .int .u8 0, .int .u8 0, .int .u16 0, .slice none 0 0]
def bRs (n : Nat) : List Value := bR1 n ++ (bR2 n ++ (bR3 n ++ (bR4 n ++ (bR5 n ++ (bR6 n ++ bR7 n)))))
def bw0 (w : World) : World := w
def bw1 (w : World) : World := (bw0 w).alloc (.cells #[.int .u16 0, .string ⟨#[]⟩] 57)
def bw2 (w : World) : World := (bw1 w).alloc (.cells #[.string ⟨#[]⟩, .int .u16 0, .int .u16 0] 42)
def bw3 (w : World) : World := (bw2 w).alloc (.cells #[.string ⟨#[]⟩, .int .u16 99, .int .u16 0, .int .u32 0, .string ⟨#[]⟩] 47)
def bw4 (w : World) : World := (bw3 w).alloc (.cells #[.string ⟨#[0]⟩, .int .u16 1, .int .u16 0, .int .u32 0, .string ⟨#[]⟩] 47)
def bw5 (w : World) : World := (bw4 w).alloc (.cells #[.string ⟨#[0]⟩, .int .u16 41, .int .u16 0, .int .u32 0, .string ⟨#[]⟩] 47)
def bw6 (w : World) : World := (bw5 w).alloc (.cells (bRs w.heap.size).toArray 37)
theorem bw_size (w : World) : (bw1 w).heap.size = w.heap.size + 1 ∧ (bw2 w).heap.size = w.heap.size + 1 + 1 ∧ (bw3 w).heap.size = w.heap.size + 1 + 1 + 1 ∧ (bw4 w).heap.size = w.heap.size + 1 + 1 + 1 + 1 ∧ (bw5 w).heap.size = w.heap.size + 1 + 1 + 1 + 1 + 1 := by
  unfold bw5 bw4 bw3 bw2 bw1 bw0
  simp only [World.size_alloc, and_self]
theorem bg0 (w : World) : (bw1 w).grownBy (bw6 w) none := galloc (galloc (galloc (galloc (galloc (grefl (bw1 w) none) _) _) _) _) _
theorem bg1 (w : World) : (bw2 w).grownBy (bw6 w) none := galloc (galloc (galloc (galloc (grefl (bw2 w) none) _) _) _) _
theorem bg2 (w : World) : (bw3 w).grownBy (bw6 w) none := galloc (galloc (galloc (grefl (bw3 w) none) _) _) _
theorem bg3 (w : World) : (bw4 w).grownBy (bw6 w) none := galloc (galloc (grefl (bw4 w) none) _) _
theorem bg4 (w : World) : (bw5 w).grownBy (bw6 w) none := galloc (grefl (bw5 w) none) _
theorem bg (w : World) : w.grownBy (bw6 w) none := gtrans (galloc (grefl w none) _) (bg0 w)
theorem bb0 (w : World) : (bw6 w).heap[w.heap.size]? = some (.cells #[.int .u16 0, .string ⟨#[]⟩] 57 (0, 0)) := by
  have h := balloc (bw0 w) (.cells #[.int .u16 0, .string ⟨#[]⟩] 57)
  exact gblock (bg0 w) h (by simp)
theorem bb1 (w : World) : (bw6 w).heap[w.heap.size + 1]? = some (.cells #[.string ⟨#[]⟩, .int .u16 0, .int .u16 0] 42 (0, 0)) := by
  have h := balloc (bw1 w) (.cells #[.string ⟨#[]⟩, .int .u16 0, .int .u16 0] 42)
  rw [(bw_size w).1] at h
  exact gblock (bg1 w) h (by simp)
theorem bb2 (w : World) : (bw6 w).heap[w.heap.size + 1 + 1]? = some (.cells #[.string ⟨#[]⟩, .int .u16 99, .int .u16 0, .int .u32 0, .string ⟨#[]⟩] 47 (0, 0)) := by
  have h := balloc (bw2 w) (.cells #[.string ⟨#[]⟩, .int .u16 99, .int .u16 0, .int .u32 0, .string ⟨#[]⟩] 47)
  rw [(bw_size w).2.1] at h
  exact gblock (bg2 w) h (by simp)
theorem bb3 (w : World) : (bw6 w).heap[w.heap.size + 1 + 1 + 1]? = some (.cells #[.string ⟨#[0]⟩, .int .u16 1, .int .u16 0, .int .u32 0, .string ⟨#[]⟩] 47 (0, 0)) := by
  have h := balloc (bw3 w) (.cells #[.string ⟨#[0]⟩, .int .u16 1, .int .u16 0, .int .u32 0, .string ⟨#[]⟩] 47)
  rw [(bw_size w).2.2.1] at h
  exact gblock (bg3 w) h (by simp)
theorem bb4 (w : World) : (bw6 w).heap[w.heap.size + 1 + 1 + 1 + 1]? = some (.cells #[.string ⟨#[0]⟩, .int .u16 41, .int .u16 0, .int .u32 0, .string ⟨#[]⟩] 47 (0, 0)) := by
  have h := balloc (bw4 w) (.cells #[.string ⟨#[0]⟩, .int .u16 41, .int .u16 0, .int .u32 0, .string ⟨#[]⟩] 47)
  rw [(bw_size w).2.2.2.1] at h
  exact gblock (bg4 w) h (by simp)
theorem bb5 (w : World) : (bw6 w).heap[w.heap.size + 1 + 1 + 1 + 1 + 1]? = some (.cells (bRs w.heap.size).toArray 37 (0, 0)) := by
  have h := balloc (bw5 w) (.cells (bRs w.heap.size).toArray 37)
  rw [(bw_size w).2.2.2.2] at h
  exact h
theorem range_of {w : World} {g : Nat} {cs : Array Value} {t : TypeId} (hb : w.heap[g]? = some (.cells cs t (0, 0))) (pre row post : List Value) (h : cs.toList = pre ++ (row ++ post)) (o : Nat) (ho : pre.length = o) : w.rangeAt g o row := by
  intro j v hj
  subst ho
  have hl : j < row.length := by
    rcases Nat.lt_or_ge j row.length with h1 | h1
    · exact h1
    · rw [List.getElem?_eq_none h1] at hj; cases hj
  rw [bcellAt hb, ← Array.getElem?_toList, h, List.getElem?_append_right (by omega), Nat.add_sub_cancel_left, List.getElem?_append_left hl, hj]
/-- A row of messages that may not be. -/
def BadAt (w : World) (g i : Nat) : Prop := ∃ (m : Ms) (vq va vu vx vo : Value), w.rangeAt g (i * 21) (m.cells vq va vu vx vo).toList ∧ MsV w m vq va vu vx vo ∧ m.may = false ∧ m.rng ∧ (m.cells vq va vu vx vo).all (·.oneCell') = true
theorem bad0 (w : World) : BadAt (bw6 w) (w.heap.size + 1 + 1 + 1 + 1 + 1) 0 :=
  ⟨nB1, (.slice none 0 0), (.slice none 0 0), (.slice none 0 0), (.slice none 0 0), (.slice none 0 0), range_of (bb5 w) ([]) (bR1 w.heap.size) (bR2 w.heap.size ++ (bR3 w.heap.size ++ (bR4 w.heap.size ++ (bR5 w.heap.size ++ (bR6 w.heap.size ++ (bR7 w.heap.size)))))) rfl _ rfl, ⟨Sl.nil _ _, Sl.nil _ _, Sl.nil _ _, Sl.nil _ _, Sl.nil _ _⟩, nB1_may, nB1_rng, by kernel_rfl⟩
theorem bad1 (w : World) : BadAt (bw6 w) (w.heap.size + 1 + 1 + 1 + 1 + 1) 1 :=
  ⟨nB2, (.slice none 0 0), (.slice none 0 0), (.slice none 0 0), (.slice none 0 0), (.slice none 0 0), range_of (bb5 w) (bR1 w.heap.size) (bR2 w.heap.size) (bR3 w.heap.size ++ (bR4 w.heap.size ++ (bR5 w.heap.size ++ (bR6 w.heap.size ++ (bR7 w.heap.size))))) rfl _ rfl, ⟨Sl.nil _ _, Sl.nil _ _, Sl.nil _ _, Sl.nil _ _, Sl.nil _ _⟩, nB2_may, nB2_rng, by kernel_rfl⟩
theorem bad2 (w : World) : BadAt (bw6 w) (w.heap.size + 1 + 1 + 1 + 1 + 1) 2 :=
  ⟨nB3, (.slice none 0 0), (.slice none 0 0), (.slice none 0 0), (.slice none 0 0), (.slice (some ⟨w.heap.size, 0, none⟩) 1 1), range_of (bb5 w) (bR1 w.heap.size ++ bR2 w.heap.size) (bR3 w.heap.size) (bR4 w.heap.size ++ (bR5 w.heap.size ++ (bR6 w.heap.size ++ (bR7 w.heap.size)))) rfl _ rfl, ⟨Sl.nil _ _, Sl.nil _ _, Sl.nil _ _, Sl.nil _ _, sl_blk7 (xs := [.int .u16 0, .string ⟨#[]⟩]) (bb0 w) rfl⟩, nB3_may, nB3_rng, by kernel_rfl⟩
theorem bad3 (w : World) : BadAt (bw6 w) (w.heap.size + 1 + 1 + 1 + 1 + 1) 3 :=
  ⟨nB4, (.slice (some ⟨w.heap.size + 1, 0, none⟩) 1 1), (.slice none 0 0), (.slice none 0 0), (.slice none 0 0), (.slice none 0 0), range_of (bb5 w) (bR1 w.heap.size ++ bR2 w.heap.size ++ bR3 w.heap.size) (bR4 w.heap.size) (bR5 w.heap.size ++ (bR6 w.heap.size ++ (bR7 w.heap.size))) rfl _ rfl, ⟨sl_blk7 (xs := [.string ⟨#[]⟩, .int .u16 0, .int .u16 0]) (bb1 w) rfl, Sl.nil _ _, Sl.nil _ _, Sl.nil _ _, Sl.nil _ _⟩, nB4_may, nB4_rng, by kernel_rfl⟩
theorem bad4 (w : World) : BadAt (bw6 w) (w.heap.size + 1 + 1 + 1 + 1 + 1) 4 :=
  ⟨nB5, (.slice none 0 0), (.slice (some ⟨w.heap.size + 1 + 1, 0, none⟩) 1 1), (.slice none 0 0), (.slice none 0 0), (.slice none 0 0), range_of (bb5 w) (bR1 w.heap.size ++ bR2 w.heap.size ++ bR3 w.heap.size ++ bR4 w.heap.size) (bR5 w.heap.size) (bR6 w.heap.size ++ (bR7 w.heap.size)) rfl _ rfl, ⟨Sl.nil _ _, sl_blk7 (xs := [.string ⟨#[]⟩, .int .u16 99, .int .u16 0, .int .u32 0, .string ⟨#[]⟩]) (bb2 w) rfl, Sl.nil _ _, Sl.nil _ _, Sl.nil _ _⟩, nB5_may, nB5_rng, by kernel_rfl⟩
theorem bad5 (w : World) : BadAt (bw6 w) (w.heap.size + 1 + 1 + 1 + 1 + 1) 5 :=
  ⟨nB6, (.slice none 0 0), (.slice none 0 0), (.slice (some ⟨w.heap.size + 1 + 1 + 1, 0, none⟩) 1 1), (.slice none 0 0), (.slice none 0 0), range_of (bb5 w) (bR1 w.heap.size ++ bR2 w.heap.size ++ bR3 w.heap.size ++ bR4 w.heap.size ++ bR5 w.heap.size) (bR6 w.heap.size) (bR7 w.heap.size) rfl _ rfl, ⟨Sl.nil _ _, Sl.nil _ _, sl_blk7 (xs := [.string ⟨#[0]⟩, .int .u16 1, .int .u16 0, .int .u32 0, .string ⟨#[]⟩]) (bb3 w) rfl, Sl.nil _ _, Sl.nil _ _⟩, nB6_may, nB6_rng, by kernel_rfl⟩
theorem bad6 (w : World) : BadAt (bw6 w) (w.heap.size + 1 + 1 + 1 + 1 + 1) 6 :=
  ⟨nB7, (.slice none 0 0), (.slice none 0 0), (.slice none 0 0), (.slice (some ⟨w.heap.size + 1 + 1 + 1 + 1, 0, none⟩) 1 1), (.slice none 0 0), range_of (bb5 w) (bR1 w.heap.size ++ bR2 w.heap.size ++ bR3 w.heap.size ++ bR4 w.heap.size ++ bR5 w.heap.size ++ bR6 w.heap.size) (bR7 w.heap.size) ([]) rfl _ rfl, ⟨Sl.nil _ _, Sl.nil _ _, Sl.nil _ _, sl_blk7 (xs := [.string ⟨#[0]⟩, .int .u16 41, .int .u16 0, .int .u32 0, .string ⟨#[]⟩]) (bb4 w) rfl, Sl.nil _ _⟩, nB7_may, nB7_rng, by kernel_rfl⟩
theorem bad_rows (w : World) : ∀ i, i < 7 → BadAt (bw6 w) (w.heap.size + 1 + 1 + 1 + 1 + 1) i := by
  intro i hi
  match i, hi with
  | 0, _ => exact bad0 w
  | 1, _ => exact bad1 w
  | 2, _ => exact bad2 w
  | 3, _ => exact bad3 w
  | 4, _ => exact bad4 w
  | 5, _ => exact bad5 w
  | 6, _ => exact bad6 w
set_option maxRecDepth 100000 in
set_option maxHeartbeats 16000000 in
theorem limits_rows {K : Act → World → Prop} {Q : Exit → Act → World → Prop} {c0 c1 c2 c3 c4 c5 c6 c7 c8 c9 c10 c11 c12 c13 c14 c15 c16 c17 c18 c19 c20 c21 c22 c23 c24 c25 c26 c27 c28 c29 c30 c31 c32 c33 c34 c35 c36 c37 c38 c39 c40 c41 c42 c43 c44 c45 c46 c47 c48 c49 c50 c51 c52 c53 c54 c55 c56 c57 c58 c59 c60 c61 c62 c63 c64 c65 c66 c67 c68 c69 c70 c71 c72 c73 c74 c75 c76 c77 c78 c79 c80 c81 c82 c83 c84 c85 c86 c87 c88 c89 c90 c91 c92 c93 c94 c95 c96 c97 c98 c99 c100 c101 c102 c103 c104 c105 c106 c107 c108 c109 c110 c111 c112 c113 c114 c115 c116 c117 c118 c119 c120 c121 c122 c123 c124 c125 c126 c127 c128 c129 c130 c131 c132 c133 c134 c135 c136 c137 c138 c139 c140 c141 c142 c143 c144 c145 c146 c147 c148 c149 c150 c151 c152 c153 c154 c155 c156 c157 c158 c159 c160 c161 c162 c163 c164 c165 c166 c167 c168 c169 c170 c171 c172 c173 c174 c175 c176 c177 c178 c179 c180 c181 c182 c183 c184 c185 c186 c187 c188 c189 c190 c191 c192 c193 c194 c195 c196 c197 c198 c199 c200 c201 c202 c203 c204 c205 c206 c207 c208 c209 c210 c211 c212 c213 c214 c215 c216 c217 c218 c219 c220 c221 c222 : Value} (w : World)
    (hK : ∀ (u90 u91 u92 u93 u94 u95 u96 u97 u98 u99 u100 u101 u102 u103 u104 u105 u106 u107 u108 u109 : Value) (g : Nat) (wx : World), (∀ i, i < 7 → BadAt wx g i) → w.grownBy wx none → K ⟨#[c0, c1, c2, c3, c4, c5, c6, c7, c8, c9, c10, c11, c12, c13, c14, c15, c16, c17, c18, c19, c20, c21, c22, c23, c24, c25, c26, c27, c28, c29, c30, c31, c32, c33, c34, c35, c36, c37, c38, c39, c40, c41, c42, c43, c44, c45, c46, c47, c48, c49, c50, c51, c52, c53, c54, c55, c56, c57, c58, c59, c60, c61, c62, c63, c64, c65, c66, c67, c68, c69, c70, c71, c72, c73, c74, c75, c76, c77, c78, c79, c80, c81, c82, c83, c84, c85, c86, c87, c88, c89, u90, u91, u92, u93, u94, u95, u96, u97, u98, u99, u100, u101, u102, u103, u104, u105, u106, u107, u108, u109, .slice (some ⟨g, 0, none⟩) 7 7, .int .i64 7, .int .i64 0, c113, c114, c115, c116, c117, c118, c119, c120, c121, c122, c123, c124, c125, c126, c127, c128, c129, c130, c131, c132, c133, c134, c135, c136, c137, c138, c139, c140, c141, c142, c143, c144, c145, c146, c147, c148, c149, c150, c151, c152, c153, c154, c155, c156, c157, c158, c159, c160, c161, c162, c163, c164, c165, c166, c167, c168, c169, c170, c171, c172, c173, c174, c175, c176, c177, c178, c179, c180, c181, c182, c183, c184, c185, c186, c187, c188, c189, c190, c191, c192, c193, c194, c195, c196, c197, c198, c199, c200, c201, c202, c203, c204, c205, c206, c207, c208, c209, c210, c211, c212, c213, c214, c215, c216, c217, c218, c219, c220, c221, c222], []⟩ wx) :
    Code.wp Tryd.prog (cFst (cFst (cTail 8 (Tryd.f8.body.getD .skip)))) (Exit.then K Q) ⟨#[c0, c1, c2, c3, c4, c5, c6, c7, c8, c9, c10, c11, c12, c13, c14, c15, c16, c17, c18, c19, c20, c21, c22, c23, c24, c25, c26, c27, c28, c29, c30, c31, c32, c33, c34, c35, c36, c37, c38, c39, c40, c41, c42, c43, c44, c45, c46, c47, c48, c49, c50, c51, c52, c53, c54, c55, c56, c57, c58, c59, c60, c61, c62, c63, c64, c65, c66, c67, c68, c69, c70, c71, c72, c73, c74, c75, c76, c77, c78, c79, c80, c81, c82, c83, c84, c85, c86, c87, c88, c89, c90, c91, c92, c93, c94, c95, c96, c97, c98, c99, c100, c101, c102, c103, c104, c105, c106, c107, c108, c109, c110, c111, c112, c113, c114, c115, c116, c117, c118, c119, c120, c121, c122, c123, c124, c125, c126, c127, c128, c129, c130, c131, c132, c133, c134, c135, c136, c137, c138, c139, c140, c141, c142, c143, c144, c145, c146, c147, c148, c149, c150, c151, c152, c153, c154, c155, c156, c157, c158, c159, c160, c161, c162, c163, c164, c165, c166, c167, c168, c169, c170, c171, c172, c173, c174, c175, c176, c177, c178, c179, c180, c181, c182, c183, c184, c185, c186, c187, c188, c189, c190, c191, c192, c193, c194, c195, c196, c197, c198, c199, c200, c201, c202, c203, c204, c205, c206, c207, c208, c209, c210, c211, c212, c213, c214, c215, c216, c217, c218, c219, c220, c221, c222], []⟩ w := by
  conv => arg 2; whnf
  have HK := Lib.hid hK
  clear hK
  go_wp2_with fail
  exact HK.out _ _ _ _ _ _ _ _ _ _ _ _ _ _ _ _ _ _ _ _ _ _ (bad_rows w) (bg w)
end Go.Proofs.YthgendgmlpaglaaDoor
namespace Go.Proofs.YthgendgmlpaglaaDoor
open Go.RowKit

set_option maxRecDepth 100000 in
set_option maxHeartbeats 16000000 in
theorem limits_loop {K : Act → World → Prop} {Q : Exit → Act → World → Prop} {c0 c1 c2 c3 c4 c5 c6 c7 c8 c9 c10 c11 c12 c13 c14 c15 c16 c17 c18 c19 c20 c21 c22 c23 c24 c25 c26 c27 c28 c29 c30 c31 c32 c33 c34 c35 c36 c37 c38 c39 c40 c41 c42 c43 c44 c45 c46 c47 c48 c49 c50 c51 c52 c53 c54 c55 c56 c57 c58 c59 c60 c61 c62 c63 c64 c65 c66 c67 c68 c69 c70 c71 c72 c73 c74 c75 c76 c77 c78 c79 c80 c81 c82 c83 c84 c85 c86 c87 c88 c89 c90 c91 c92 c93 c94 c95 c96 c97 c98 c99 c100 c101 c102 c103 c104 c105 c106 c107 c108 c109 c113 c114 c115 c116 c117 c118 c119 c120 c121 c122 c123 c124 c125 c126 c127 c128 c129 c130 c131 c132 c133 c134 c135 c136 c137 c138 c139 c140 c141 c142 c143 c144 c145 c146 c147 c148 c149 c150 c151 c152 c153 c154 c155 c156 c157 c158 c159 c160 c161 c162 c163 c164 c165 c166 c167 c168 c169 c170 c171 c172 c173 c174 c175 c176 c177 c178 c179 c180 c181 c182 c183 c184 c185 c186 c187 c188 c189 c190 c191 c192 c193 c194 c195 c196 c197 c198 c199 c200 c201 c202 c203 c204 c205 c206 c207 c208 c209 c210 c211 c212 c213 c214 c215 c216 c217 c218 c219 c220 c221 c222 : Value} (wc : World) (he : Et wc) (hb : Bt wc) (g : Nat) (hr : ∀ i, i < 7 → BadAt wc g i)
    (hK : ∀ (u0 u12 u13 u14 u15 u16 u112 u113 u114 u115 u116 u117 u118 u119 u120 u121 u122 u123 u124 u125 u126 u127 u128 u129 u130 u131 u132 u133 u134 u135 u136 u137 u138 u139 u140 u141 u142 u143 u144 : Value) (wr : World), wc.grownBy wr none → K ⟨#[u0, c1, c2, c3, c4, c5, c6, c7, c8, c9, c10, c11, u12, u13, u14, u15, u16, c17, c18, c19, c20, c21, c22, c23, c24, c25, c26, c27, c28, c29, c30, c31, c32, c33, c34, c35, c36, c37, c38, c39, c40, c41, c42, c43, c44, c45, c46, c47, c48, c49, c50, c51, c52, c53, c54, c55, c56, c57, c58, c59, c60, c61, c62, c63, c64, c65, c66, c67, c68, c69, c70, c71, c72, c73, c74, c75, c76, c77, c78, c79, c80, c81, c82, c83, c84, c85, c86, c87, c88, c89, c90, c91, c92, c93, c94, c95, c96, c97, c98, c99, c100, c101, c102, c103, c104, c105, c106, c107, c108, c109, .slice (some ⟨g, 0, none⟩) 7 7, .int .i64 7, u112, u113, u114, u115, u116, u117, u118, u119, u120, u121, u122, u123, u124, u125, u126, u127, u128, u129, u130, u131, u132, u133, u134, u135, u136, u137, u138, u139, u140, u141, u142, u143, u144, c145, c146, c147, c148, c149, c150, c151, c152, c153, c154, c155, c156, c157, c158, c159, c160, c161, c162, c163, c164, c165, c166, c167, c168, c169, c170, c171, c172, c173, c174, c175, c176, c177, c178, c179, c180, c181, c182, c183, c184, c185, c186, c187, c188, c189, c190, c191, c192, c193, c194, c195, c196, c197, c198, c199, c200, c201, c202, c203, c204, c205, c206, c207, c208, c209, c210, c211, c212, c213, c214, c215, c216, c217, c218, c219, c220, c221, c222], []⟩ wr) :
    Code.wp Tryd.prog (cSnd (cFst (cTail 8 (Tryd.f8.body.getD .skip)))) (Exit.then K Q) ⟨#[c0, c1, c2, c3, c4, c5, c6, c7, c8, c9, c10, c11, c12, c13, c14, c15, c16, c17, c18, c19, c20, c21, c22, c23, c24, c25, c26, c27, c28, c29, c30, c31, c32, c33, c34, c35, c36, c37, c38, c39, c40, c41, c42, c43, c44, c45, c46, c47, c48, c49, c50, c51, c52, c53, c54, c55, c56, c57, c58, c59, c60, c61, c62, c63, c64, c65, c66, c67, c68, c69, c70, c71, c72, c73, c74, c75, c76, c77, c78, c79, c80, c81, c82, c83, c84, c85, c86, c87, c88, c89, c90, c91, c92, c93, c94, c95, c96, c97, c98, c99, c100, c101, c102, c103, c104, c105, c106, c107, c108, c109, .slice (some ⟨g, 0, none⟩) 7 7, .int .i64 7, .int .i64 0, c113, c114, c115, c116, c117, c118, c119, c120, c121, c122, c123, c124, c125, c126, c127, c128, c129, c130, c131, c132, c133, c134, c135, c136, c137, c138, c139, c140, c141, c142, c143, c144, c145, c146, c147, c148, c149, c150, c151, c152, c153, c154, c155, c156, c157, c158, c159, c160, c161, c162, c163, c164, c165, c166, c167, c168, c169, c170, c171, c172, c173, c174, c175, c176, c177, c178, c179, c180, c181, c182, c183, c184, c185, c186, c187, c188, c189, c190, c191, c192, c193, c194, c195, c196, c197, c198, c199, c200, c201, c202, c203, c204, c205, c206, c207, c208, c209, c210, c211, c212, c213, c214, c215, c216, c217, c218, c219, c220, c221, c222], []⟩ wc := by
  conv => arg 2; whnf
  have HE := Lib.hid he
  have HT := Lib.hid hb
  have BR := Lib.hid hr
  have HK := Lib.hid hK
  clear he hb hr hK
  go_wp2_with fail
  go_loopw [112] (fun vi wr => ∃ i : Nat, vi = .int .i64 i ∧ i ≤ 7 ∧ wc.grownBy wr none) (fun vi _ => 7 - (intOf vi).toNat)
  case atStart => exact ⟨0, rfl, by omega, grefl _ _⟩
  case round =>
    obtain ⟨i, rfl, hi, hgr⟩ := hrel
    have GR := Lib.hid hgr
    clear hgr
    by_cases hlt : i < 7
    case pos =>
      obtain ⟨m, vq, va, vu, vx, vo, hra, hv, hm, hr, h1⟩ := BR.out i hlt
      have q0 : (0 : Int) ≤ (i : Int) := by omega
      have q1 : (i : Int) < 7 := by omega
      have HI := Lib.hid hlt
      clear hlt hi
      have HV := Lib.hid (hv.kept GR.out)
      have RA := Lib.hid (show wr.rangeAt g (i * 21) (m.cells vq va vu vx vo).toList from fun j v hj => GR.out.cell (hra j v hj) (by simp))
      have hb3 := Lib.hid (bad_all hm)
      have HM := Lib.hid hm
      have HR := Lib.hid hr
      clear hv hra hm hr
      have EN := Lib.hid (fun (w' : World) (gg : wr.grownBy w' none) => show Calls Tryd.prog 9 #[.agg (m.cells vq va vu vx vo)] w' fun e w'' => e = .returned (.tuple #[.string ⟨#[]⟩, .int .i64 3]) ∧ w'.grownBy w'' none from by
        have h := encode_any w' m vq va vu vx vo (HE.out.kept (gtrans GR.out gg) (by simp)) (HT.out.kept (gtrans GR.out gg) (by simp)) (HV.out.kept gg) HR.out
        rw [hb3.out.1, hb3.out.2.1, Ms.val_cells] at h
        exact h)
      have SZ := Lib.hid (fun (w' : World) (gg : wr.grownBy w' none) => show Calls Tryd.prog 17 #[.agg (m.cells vq va vu vx vo)] w' fun e w'' => e = .returned (.tuple #[.int .i64 0, .int .i64 3]) ∧ w'.grownBy w'' none from by
        have h := size_any w' m vq va vu vx vo (HE.out.kept (gtrans GR.out gg) (by simp)) (HT.out.kept (gtrans GR.out gg) (by simp)) (HV.out.kept gg) HR.out
        rw [hb3.out.1, hb3.out.2.2, Ms.val_cells] at h
        exact h)
      have MY := Lib.hid (fun (w' : World) (gg : wr.grownBy w' none) => show Calls Tryd.prog 18 #[.agg (m.cells vq va vu vx vo)] w' fun e w'' => e = .returned (.bool false) ∧ w'.grownBy w'' none from by
        have h := wmay_any w' m vq va vu vx vo (HE.out.kept (gtrans GR.out gg) (by simp)) (HT.out.kept (gtrans GR.out gg) (by simp)) (HV.out.kept gg) HR.out.few
        rw [HM.out, Ms.val_cells] at h
        exact h)
      have hz : (m.cells vq va vu vx vo).size = 21 := rfl
      clear HV hb3 HM HR
      generalize m.cells vq va vu vx vo = C at *
      have gk : wr.grownBy ((wr.alloc (.cells #[.int .u16 0, .bool false, .int .u8 0, .bool false, .bool false, .bool false, .bool false, .bool false, .bool false, .bool false, .int .u8 0, .slice none 0 0, .slice none 0 0, .slice none 0 0, .slice none 0 0, .bool false, .int .u16 0, .int .u8 0, .int .u8 0, .int .u16 0, .slice none 0 0] 37)).setRow wr.heap.size C) none := gsetRow (galloc (grefl wr none) _) (Nat.le_refl _) _
      have BM := Lib.hid (bsetR (balloc wr (.cells #[.int .u16 0, .bool false, .int .u8 0, .bool false, .bool false, .bool false, .bool false, .bool false, .bool false, .bool false, .int .u8 0, .slice none 0 0, .slice none 0 0, .slice none 0 0, .slice none 0 0, .bool false, .int .u16 0, .int .u8 0, .int .u8 0, .int .u16 0, .slice none 0 0] 37)) C)
      have ZA := Lib.hid (balloc wr (.cells #[.int .u16 0, .bool false, .int .u8 0, .bool false, .bool false, .bool false, .bool false, .bool false, .bool false, .bool false, .int .u8 0, .slice none 0 0, .slice none 0 0, .slice none 0 0, .slice none 0 0, .bool false, .int .u16 0, .int .u8 0, .int .u8 0, .int .u16 0, .slice none 0 0] 37))
      have GK := Lib.hid gk
      clear gk
      have hl : C.toList.length = 21 := by rw [Array.length_toList]; exact hz
      go_upto_region 12 with (first | refine wpList_load_mid rfl 37 _ rfl g (i * 21) rfl C.toList _ RA.out Tryd.underlying37 rfl (by rw [hl]; kernel_rfl) ?_ | refine wpList_store_row rfl 37 _ _ rfl wr.heap.size C rfl rfl 37 _ ZA.out (by rw [hz]; kernel_rfl) hz.symm h1 ?_)
      clear ZA RA q0 hl
      generalize ((wr.alloc (.cells #[.int .u16 0, .bool false, .int .u8 0, .bool false, .bool false, .bool false, .bool false, .bool false, .bool false, .bool false, .int .u8 0, .slice none 0 0, .slice none 0 0, .slice none 0 0, .slice none 0 0, .bool false, .int .u16 0, .int .u8 0, .int .u8 0, .int .u16 0, .slice none 0 0] 37)).setRow wr.heap.size C) = x0 at *
      generalize wr.heap.size = kb at *
      go_wp2_with (refine wpList_load_row rfl 37 _ rfl kb rfl _ _ _ _ BM.out Tryd.underlying37 rfl (by rw [hz]; kernel_rfl) ?_)
      refine Calls.mono (EN.out _ GK.out) ?_
      rintro e x1 ⟨rfl, hg⟩
      have GK' := Lib.hid (gtrans GK.out hg)
      have BM' := Lib.hid (gblock hg BM.out (by simp))
      clear GK BM hg
      have GK := GK'
      have BM := BM'
      clear GK' BM'
      go_wp2_with (refine wpList_load_row rfl 37 _ rfl kb rfl _ _ _ _ BM.out Tryd.underlying37 rfl (by rw [hz]; kernel_rfl) ?_)
      refine Calls.mono (SZ.out _ GK.out) ?_
      rintro e x2 ⟨rfl, hg⟩
      have GK' := Lib.hid (gtrans GK.out hg)
      have BM' := Lib.hid (gblock hg BM.out (by simp))
      clear GK BM hg
      have GK := GK'
      have BM := BM'
      clear GK' BM'
      go_wp2_with (refine wpList_load_rowG rfl 37 _ rfl kb rfl _ _ _ _ BM.out Tryd.underlying37 rfl (by rw [hz]; kernel_rfl) ?_)
      refine Calls.mono (MY.out _ GK.out) ?_
      rintro e x3 ⟨rfl, hg⟩
      have GK' := Lib.hid (gtrans GK.out hg)
      have BM' := Lib.hid (gblock hg BM.out (by simp))
      clear GK BM hg
      have GK := GK'
      have BM := BM'
      clear GK' BM'
      go_wp2_with fail
      go_roundw
      case rel => exact ⟨i + 1, by go_num, HI.out, gtrans GR.out GK.out⟩
      case measure => have := HI.out; simp [intOf]; omega
    case neg =>
      go_wp2_with fail
      exact HK.out _ _ _ _ _ _ _ _ _ _ _ _ _ _ _ _ _ _ _ _ _ _ _ _ _ _ _ _ _ _ _ _ _ _ _ _ _ _ _ _ GR.out
end Go.Proofs.YthgendgmlpaglaaDoor
