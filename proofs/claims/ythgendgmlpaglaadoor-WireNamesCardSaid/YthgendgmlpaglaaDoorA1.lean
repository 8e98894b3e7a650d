/-
  Small lemmas on worlds (frames, blocks), used by all walks of this seat. Nothing of the program stands here.
  Plain arithmetic of numbers in bytes (big-endian), and what a cursor reads, as plain functions. Nothing of the program stands here.
  Slices of bytes in memory: a slice value that reads as a list of bytes ('SlB'), one that the call itself owns ('Own'). Conversions to strings. Nothing of the program stands here but the element type's number.
  Two laws for statements whose order Go leaves open. (1) 'wp_region_gr': every operation reads old memory or makes new memory alone, and yields one value whatever new memory there is: one walk in the order of the text serves. (2) 'wp_region_head_gr': the first n operations come up in the order of the text (a call among them may write), what is behind them is as in (1).
  A third law for statements whose order Go leaves open: 'wp_region_segs': operations that read old memory and make none may be taken first; what makes memory (a call, a new slice) comes up alone. The order is given as a list of segments.
  The law of segments (XRegG) for statements with a call that may turn blocks from B on: what is read first lies ahead of B.
  Small lemmas for printed walks: blocks behind several allocations.
-/
import Derived.WalkKit
import Derived.Lib.Hide
import Derived.WalkSpells
import Derived.WalkLawsBesides
import Derived.Deep.QuietTactic
import Derived.BigQuiet
import Derived.Lib.Strings
import Derived.Test.YthgendgmlpaglaaDoorProg
import Derived.Deep.RegionHeld3
namespace Go.Proofs.YthgendgmlpaglaaDoor
open Go.RowKit

/-- Only block 'row' (if any) and new blocks have turned. -/
theorem grefl (w : World) (row : Option Nat) : w.grownBy w row := ⟨rfl, rfl, rfl, Nat.le_refl _, fun _ _ _ => rfl⟩
theorem gtrans {a b c : World} {row : Option Nat} (h : a.grownBy b row) (k : b.grownBy c row) : a.grownBy c row :=
  ⟨k.os.trans h.os, k.tape.trans h.tape, k.output.trans h.output, Nat.le_trans h.size k.size, fun i hi hn => (k.block i (Nat.lt_of_lt_of_le hi h.size) hn).trans (h.block i hi hn)⟩
theorem gmono {a b : World} {row : Option Nat} (h : a.grownBy b none) : a.grownBy b row :=
  ⟨h.os, h.tape, h.output, h.size, fun i hi _ => h.block i hi (by simp)⟩
theorem gdrew {a w : World} {row : Option Nat} (h : a.grownBy w row) : a.grownBy w.drew row := ⟨h.os, h.tape, h.output, h.size, h.block⟩
theorem gdrewN {a w : World} {row : Option Nat} (h : a.grownBy w row) (n : Nat) : a.grownBy (w.drewN n) row := ⟨h.os, h.tape, h.output, h.size, h.block⟩
theorem galloc {a w : World} {row : Option Nat} (h : a.grownBy w row) (o : Obj) : a.grownBy (w.alloc o) row :=
  ⟨h.os, h.tape, h.output, Nat.le_trans h.size (by simp), fun i hi hne => (Below.heap_alloc w o i (Nat.lt_of_lt_of_le hi h.size)).trans (h.block i hi hne)⟩
theorem gset {a w : World} {row : Option Nat} (h : a.grownBy w row) {p : Addr} (hp : row = some p.block ∨ a.heap.size ≤ p.block) (u : Value) : a.grownBy (w.setCell p u) row :=
  ⟨h.os, h.tape, h.output, by simpa [World.setCell] using h.size, fun i hi hne => (Below.heap_setCell w p u i (by
    rintro rfl
    rcases hp with hp | hp
    · exact hne hp.symm
    · omega)).trans (h.block i hi hne)⟩
theorem gnew {a w : World} {row : Option Nat} (h : a.grownBy w row) (hr : ∀ b, row = some b → a.heap.size ≤ b) : a.grownBy w none :=
  ⟨h.os, h.tape, h.output, h.size, fun i hi _ => h.block i hi (fun e => by have := hr i e.symm; omega)⟩
theorem gbelow {a w : World} (h : Below a.heap.size a w) (row : Option Nat) : a.grownBy w row := ⟨h.os, h.tape, h.output, h.size, fun i hi _ => h.block i hi⟩
theorem belowg {a w : World} (h : a.grownBy w none) : Below a.heap.size a w := ⟨h.os, h.tape, h.output, h.size, fun i hi => h.block i hi (by simp)⟩
theorem belowgB {B : Nat} {a w w' : World} {row : Option Nat} (h : Below B a w) (hg : w.grownBy w' row) (hB : B ≤ w.heap.size) (hr : ∀ k, row = some k → B ≤ k) : Below B a w' := h.grown hg hB hr
/-- What was laid in a block that is not 'row' lies there still. -/
theorem gblock {a w : World} {row : Option Nat} (h : a.grownBy w row) {k : Nat} {o : Obj} (ho : a.heap[k]? = some o) (hn : some k ≠ row) : w.heap[k]? = some o := by
  rw [h.block k (Array.getElem?_eq_some_iff.1 ho).1 hn]; exact ho
theorem blt {w : World} {k : Nat} {o : Obj} (ho : w.heap[k]? = some o) : k < w.heap.size := (Array.getElem?_eq_some_iff.1 ho).1
theorem bcellAt {w : World} {k : Nat} {c : Array Value} {t : TypeId} {z : Nat × Nat} (h : w.heap[k]? = some (.cells c t z)) (i : Nat) : w.cell? ⟨k, i, none⟩ = c[i]? := by
  simp [World.cell?, h]
theorem bfree {w : World} {k : Nat} {c : Array Value} {t : TypeId} (h : w.heap[k]? = some (.cells c t (0, 0))) (i : Nat) : w.frozen? ⟨k, i, none⟩ = false := by
  simp [World.frozen?, h]
theorem bset {w : World} {k : Nat} {c : Array Value} {t : TypeId} {z : Nat × Nat} (h : w.heap[k]? = some (.cells c t z)) (i : Nat) (v : Value) : (w.setCell ⟨k, i, none⟩ v).heap[k]? = some (.cells (c.setIfInBounds i v) t z) := by
  simp [World.setCell, Array.getElem?_modify, h]
theorem balloc (w : World) (o : Obj) : (w.alloc o).heap[w.heap.size]? = some o := by
  show (w.heap.push o)[w.heap.size]? = _
  simp
end Go.Proofs.YthgendgmlpaglaaDoor
namespace Go.Proofs.YthgendgmlpaglaaDoor
open Go.RowKit

/-- The number that bytes are, the highest byte first. -/
def be (l : List UInt8) : Nat := l.foldl (fun v c => v * 256 + c.toNat) 0
theorem be_snoc (l : List UInt8) (c : UInt8) : be (l ++ [c]) = be l * 256 + c.toNat := by simp [be]
theorem be_nil : be [] = 0 := rfl
theorem be_lt_aux (l : List UInt8) : ∀ r : List UInt8, l = r.reverse → be l < 256 ^ l.length := by
  intro r
  induction r generalizing l with
  | nil => rintro rfl; simp [be]
  | cons c r ih =>
    rintro rfl
    rw [List.reverse_cons, be_snoc]
    have := ih _ rfl
    have hc := c.toNat_lt
    simp only [List.length_append, List.length_cons, List.length_nil, Nat.zero_add, Nat.pow_succ]
    omega
theorem be_lt (l : List UInt8) : be l < 256 ^ l.length := be_lt_aux l l.reverse (by simp)
theorem be_from (l : List UInt8) : ∀ a : Nat, l.foldl (fun v c => v * 256 + c.toNat) a = a * 256 ^ l.length + be l := by
  induction l with
  | nil => intro a; simp [be]
  | cons c r ih =>
    intro a
    have e1 := ih (a * 256 + c.toNat)
    have e2 := ih (0 * 256 + c.toNat)
    simp only [List.foldl_cons, List.length_cons, be] at *
    rw [e1, e2, Nat.pow_succ, Nat.add_mul, Nat.mul_assoc, Nat.mul_comm 256]
    simp; omega
theorem be_append (a b : List UInt8) : be (a ++ b) = be a * 256 ^ b.length + be b := by
  have := be_from b (be a)
  simp only [be, List.foldl_append] at *
  exact this

/-- The number of n bytes at place p of s. -/
def num (s : ByteArray) (p n : Nat) : Nat := be ((s.data.toList.drop p).take n)
theorem num_lt (s : ByteArray) (p n : Nat) : num s p n < 256 ^ n := by
  refine Nat.lt_of_lt_of_le (be_lt _) (Nat.pow_le_pow_right (by omega) ?_)
  simp; omega

/-- What reading a number of n bytes answers: the error, the number, the place behind. -/
def rdE (s : ByteArray) (p n : Nat) : Nat := if p + n ≤ s.size then 0 else 4
def rdV (s : ByteArray) (p n : Nat) : Nat := if p + n ≤ s.size then num s p n else 0
def rdP (s : ByteArray) (p n : Nat) : Nat := if p + n ≤ s.size then p + n else p
theorem rdP_le (s : ByteArray) (p n : Nat) (h : p ≤ s.size) : rdP s p n ≤ s.size := by unfold rdP; split <;> omega
theorem rdV_lt (s : ByteArray) (p n : Nat) : rdV s p n < 256 ^ n := by
  unfold rdV; split
  · exact num_lt _ _ _
  · exact Nat.pow_pos (by omega)

/-- What taking n bytes answers. -/
def tkE (s : ByteArray) (p : Nat) (n : Int) : Nat := if n < 0 then 1 else if (s.size : Int) < p + n then 4 else 0
def tkS (s : ByteArray) (p : Nat) (n : Int) : ByteArray := if n < 0 then ByteArray.empty else if (s.size : Int) < p + n then ByteArray.empty else s.extract p (p + n.toNat)
def tkP (s : ByteArray) (p : Nat) (n : Int) : Nat := if n < 0 then p else if (s.size : Int) < p + n then p else p + n.toNat
theorem tkP_le (s : ByteArray) (p : Nat) (n : Int) (h : p ≤ s.size) : tkP s p n ≤ s.size := by unfold tkP; repeat' split
                                                                                               all_goals omega
/-- What Seek answers. -/
def skE (s : ByteArray) (q : Int) : Nat := if q < 0 ∨ (s.size : Int) < q then 1 else 0
def skP (s : ByteArray) (p : Nat) (q : Int) : Nat := if q < 0 ∨ (s.size : Int) < q then p else q.toNat
theorem skP_le (s : ByteArray) (p : Nat) (q : Int) (h : p ≤ s.size) : skP s p q ≤ s.size := by unfold skP; split <;> omega

theorem rdE_ok {s : ByteArray} {p n : Nat} (h : p + n ≤ s.size) : rdE s p n = 0 := if_pos h
theorem rdV_ok {s : ByteArray} {p n : Nat} (h : p + n ≤ s.size) : rdV s p n = num s p n := if_pos h
theorem rdP_ok {s : ByteArray} {p n : Nat} (h : p + n ≤ s.size) : rdP s p n = p + n := if_pos h
theorem rdE_no {s : ByteArray} {p n : Nat} (h : s.size < p + n) : rdE s p n = 4 := if_neg (by omega)
theorem rdV_no {s : ByteArray} {p n : Nat} (h : s.size < p + n) : rdV s p n = 0 := if_neg (by omega)
theorem rdP_no {s : ByteArray} {p n : Nat} (h : s.size < p + n) : rdP s p n = p := if_neg (by omega)
theorem tkE_ok {s : ByteArray} {p n : Nat} (h : p + n ≤ s.size) : tkE s p n = 0 := by unfold tkE; rw [if_neg (by omega), if_neg (by omega)]
theorem tkS_ok {s : ByteArray} {p n : Nat} (h : p + n ≤ s.size) : tkS s p n = s.extract p (p + n) := by unfold tkS; rw [if_neg (by omega), if_neg (by omega)]; rfl
theorem tkP_ok {s : ByteArray} {p n : Nat} (h : p + n ≤ s.size) : tkP s p n = p + n := by unfold tkP; rw [if_neg (by omega), if_neg (by omega)]; rfl
theorem tkE_no {s : ByteArray} {p n : Nat} (h : s.size < p + n) : tkE s p n = 4 := by unfold tkE; rw [if_neg (by omega), if_pos (by omega)]
theorem tkS_no {s : ByteArray} {p n : Nat} (h : s.size < p + n) : tkS s p n = ByteArray.empty := by unfold tkS; rw [if_neg (by omega), if_pos (by omega)]
theorem tkP_no {s : ByteArray} {p n : Nat} (h : s.size < p + n) : tkP s p n = p := by unfold tkP; rw [if_neg (by omega), if_pos (by omega)]
theorem skE_ok {s : ByteArray} {q : Nat} (h : q ≤ s.size) : skE s q = 0 := if_neg (by omega)
theorem skP_ok {s : ByteArray} {p q : Nat} (h : q ≤ s.size) : skP s p q = q := by unfold skP; rw [if_neg (by omega)]; rfl
theorem num_split (s : ByteArray) (p m n : Nat) (h : p + m + n ≤ s.size) : num s p (m + n) = num s p m * 256 ^ n + num s (p + m) n := by
  unfold num
  rw [List.take_add, be_append, List.drop_drop, List.length_take, List.length_drop]
  rw [Nat.min_eq_left (by simp; omega)]
theorem extract_split (s : ByteArray) (p m n : Nat) : s.extract p (p + (m + n)) = s.extract p (p + m) ++ s.extract (p + m) (p + m + n) := by
  rw [ByteArray.extract_append_extract, Nat.add_assoc]
  congr 1 <;> omega
theorem four_two (s : ByteArray) (q : Nat) (h : q + 4 ≤ s.size) : ((num s q 4 : Int) != ((num s q 2 : Int) % 4294967296 * 65536 + (num s (q + 2) 2 : Int)) % 4294967296) = false := by
  have h1 := num_split s q 2 2 (by omega)
  have h2 := num_lt s q 2
  have h3 := num_lt s (q + 2) 2
  simp only [Nat.reduceAdd, Nat.reducePow] at h1 h2 h3
  rw [h1, bne_eq_false_iff_eq]
  omega
theorem two_one (s : ByteArray) (q : Nat) (h : q + 2 ≤ s.size) : ((num s q 2 : Int) != IntKind.u16.wrap (IntKind.u16.wrap (IntKind.u16.wrap (num s q 1 : Int) * 256) + IntKind.u16.wrap (num s (q + 1) 1 : Int))) = false := by
  have h1 := num_split s q 1 1 (by omega)
  have h2 := num_lt s q 1
  have h3 := num_lt s (q + 1) 1
  simp only [Nat.reduceAdd, Nat.reducePow] at h1 h2 h3
  rw [h1, bne_eq_false_iff_eq]
  simp only [IntKind.wrap_u16]
  omega
theorem umod (x : Int) (m : Nat) (hm : 0 < m) (hm2 : m ≤ 1000000) : ∃ q : Nat, wrap64 ((IntKind.u64.wrap x).tmod m) = q ∧ q < m := by
  have h0 : 0 ≤ IntKind.u64.wrap x := by rw [IntKind.wrap_u64]; omega
  generalize IntKind.u64.wrap x = y at *
  rw [Int.tmod_eq_emod_of_nonneg h0]
  have h1 := Int.emod_nonneg y (b := (m : Int)) (by omega)
  have h2 := Int.emod_lt_of_pos y (b := (m : Int)) (by omega)
  refine ⟨(y % m).toNat, ?_, by omega⟩
  rw [IntWalk.wrap64_in _ (by omega)]
  omega
theorem ret_int {k : IntKind} {a b : Int} (h : a = b) : Ending.returned (.int k a) = .returned (.int k b) := by rw [h]
theorem take_snoc (s : ByteArray) (k : Nat) (h : k < s.size) : s.data.toList.take (k + 1) = s.data.toList.take k ++ [s[k]] := by
  rw [List.take_succ_eq_append_getElem (by simpa using h)]; rfl
/-- One round of cursor.value: 'v<<8 | uint32(c)'. -/
theorem shift_or (x c : Nat) (hx : x < 16777216) (hc : c < 256) : bits .or .u32 ((x : Int) * 256 % 4294967296) ((c : Int) % 4294967296) = ((x * 256 + c : Nat) : Int) := by
  rw [show ((x : Int) * 256 % 4294967296) = ((x * 256 : Nat) : Int) by omega, show ((c : Int) % 4294967296) = ((c : Nat) : Int) by omega, u32_or_nat _ _ (by omega) (by omega), nat_join 8 _ _ (by omega) (by omega)]
end Go.Proofs.YthgendgmlpaglaaDoor
namespace Go.Proofs.YthgendgmlpaglaaDoor
open Go.RowKit

theorem ablock (a : Addr) (n : Nat) : (a.add n).block = a.block := by unfold Addr.add; split <;> rfl

/-- Bytes as cells. -/
def bv (l : List UInt8) : List Value := l.map fun c => .int .u8 c.toNat
theorem bv_len (l : List UInt8) : (bv l).length = l.length := by simp [bv]
theorem bv_append (a b : List UInt8) : bv (a ++ b) = bv a ++ bv b := by simp [bv]
theorem bv_one (l : List UInt8) : ∀ u ∈ bv l, u.oneCell' = true := by
  intro u hu
  obtain ⟨_, _, rfl⟩ := List.mem_map.1 hu
  rfl
theorem bv_get (l : List UInt8) (j : Nat) (h : j < l.length) : (bv l)[j]? = some (.int .u8 l[j].toNat) := by simp [bv, h]

/-- The slice value v reads as the bytes l. -/
def SlB (w : World) (v : Value) (l : List UInt8) : Prop :=
  ∃ A cap, v = .slice A l.length cap ∧ l.length ≤ cap ∧ (A = none → l.length = 0 ∧ cap = 0) ∧ ∀ ad, A = some ad → ∀ j u, (bv l)[j]? = some u → w.cell? (ad.add j) = some u

theorem SlB.kept {w w' : World} {v : Value} {l : List UInt8} {row : Option Nat} (h : SlB w v l) (g : w.grownBy w' row) (hr : ∀ b, row = some b → w.heap.size ≤ b ∨ v.ownBlock ≠ some b) : SlB w' v l := by
  obtain ⟨A, cap, rfl, h1, h2, h3⟩ := h
  refine ⟨A, cap, rfl, h1, h2, ?_⟩
  rintro ad rfl j u hu
  have hc := h3 ad rfl j u hu
  refine g.cell hc ?_
  intro e
  rcases hr _ e.symm with h | h
  · have := World.block_lt_of_cell? w _ hc
    omega
  · rw [ablock] at h
    exact h rfl
theorem SlB.kept0 {w w' : World} {v : Value} {l : List UInt8} (h : SlB w v l) (g : w.grownBy w' none) : SlB w' v l := h.kept g (fun _ e => by cases e)

theorem SlB.drew {w : World} {v : Value} {l : List UInt8} (h : SlB w v l) : SlB w.drew v l := h

/-- The slice value v is the call's own (it lies from block 'base' on) and holds the bytes l. -/
def Own (w : World) (base : Nat) (v : Value) (l : List UInt8) : Prop := w.ownsRow base 5 1 v l.length (bv l)

theorem Own.sl {w : World} {base : Nat} {v : Value} {l : List UInt8} (h : Own w base v l) : SlB w v l := by
  rcases h.2 with ⟨rfl, hl⟩ | ⟨g, cap, cur, rfl, _, hg, hc, _, hs, ht⟩
  · have : l = [] := List.eq_nil_of_length_eq_zero hl
    subst this
    exact ⟨none, 0, rfl, by simp, by simp, by simp⟩
  · refine ⟨some ⟨g, 0, none⟩, cap, rfl, hc, by simp, ?_⟩
    intro ad had j u hu
    obtain rfl := Option.some.inj had
    have hj : j < l.length := by
      have := (List.getElem?_eq_some_iff.1 hu).1
      rwa [bv_len] at this
    rw [Addr.add_lit, bcellAt hg, ← Array.getElem?_toList]
    rw [← ht, List.getElem?_take_of_lt (by omega)] at hu
    simpa using hu
theorem Own.nil (w : World) (base : Nat) : Own w base (.slice none 0 0) [] := World.ownsRow_nil _ _ _ _
theorem Own.kept {w w' : World} {base : Nat} {v : Value} {l : List UInt8} {row : Option Nat} (h : Own w base v l) (g : w.grownBy w' row) (hr : row = none ∨ v.ownBlock ≠ row) : Own w' base v l := by
  refine World.ownsRow.kept h g ?_
  rcases hr with rfl | hr
  · cases v.ownBlock <;> simp
  · exact .inr hr
theorem Own.base {w : World} {base base' : Nat} {v : Value} {l : List UInt8} (h : Own w base v l) (hb : base' ≤ base) : Own w base' v l := by
  obtain ⟨h1, h2⟩ := h
  refine ⟨h1, ?_⟩
  rcases h2 with h2 | ⟨g, cap, cur, h3, h4, h5⟩
  · exact .inl h2
  · exact .inr ⟨g, cap, cur, h3, Nat.le_trans hb h4, h5⟩
theorem Own.block {w : World} {base : Nat} {v : Value} {l : List UInt8} (h : Own w base v l) : ∀ k, v.ownBlock = some k → base ≤ k ∧ k < w.heap.size := World.ownsRow.lt h

theorem bv_ints (l : List UInt8) : bv l = (l.map fun c => (c.toNat : Int)).map (Value.int .u8) := by simp [bv, Function.comp_def]
theorem mk_ints (l : List UInt8) : (l.map fun c => (c.toNat : Int)).foldl (fun r n => r.push (UInt8.ofNat n.toNat)) ByteArray.empty = ⟨l.toArray⟩ := by
  rw [foldl_push_bytes]
  simp [ByteArray.empty, ByteArray.emptyWithCapacity, Function.comp_def]
  rfl
theorem mk_append_list (a b : List UInt8) : (⟨a.toArray⟩ : ByteArray) ++ (⟨b.toArray⟩ : ByteArray) = ⟨(a ++ b).toArray⟩ := ByteArray.mk_append_mk a b
/-- 'string(b)'. -/
theorem run_string_of {P : Program} (w : World) (src dst e : TypeId) (hs : P.underlying src = some (.slice e)) (he : P.underlying e = some (.int .u8)) (hd : P.underlying dst = some .string) {v : Value} {l : List UInt8} (h : SlB w v l) :
    (convert src dst v).run P w = .ok (.string ⟨l.toArray⟩) w := by
  obtain ⟨A, cap, rfl, h1, h2, h3⟩ := h
  rw [run_convert_bytes_string w src dst e _ _ cap hs he hd]
  cases A with
  | none =>
    have : l = [] := List.eq_nil_of_length_eq_zero (h2 rfl).1
    subst this
    simp [Conv.bytesToString]
    rfl
  | some ad =>
    have hl := run_loadCells_list (P := P) (w := w) ad (bv l) (h3 ad rfl)
    rw [bv_len, bv_ints] at hl
    rw [run_bytesToString w ad l.length cap _ hl, mk_ints]
/-- 'append(out, src...)' within the capacity. -/
theorem wpList_append_sl {P : Program} (w : World) {ops : Array Oper} {rest : List Oper} {o : Oper} {a : Act} {Q : Exit → Act → World → Prop}
    (hg : o.guard = none) (s x : Operand) (t : TypeId) (hop : o.op = Op.call { callee := Callee.builtin Builtin.append, args := #[s, x], argTypes := #[t, t] })
    (base : Nat) (i : TypeInfo) (h1 : P.underlying t = some (.slice 5)) (h2 : P.info? 5 = some i) (h4 : i.size = 1)
    (g cap : Nat) (xs news : List UInt8) (hs : a.eval s = .slice (some ⟨g, 0, none⟩) xs.length cap) (hown : Own w base (.slice (some ⟨g, 0, none⟩) xs.length cap) xs)
    (v : Value) (hx : a.eval x = v) (hsl : SlB w v news) (b1 : xs.length + news.length ≤ cap)
    (hK : ∀ w', Own w' base (.slice (some ⟨g, 0, none⟩) (xs ++ news).length cap) (xs ++ news) → w.grownBy w' (some g) → wpList P ops Q rest (a.put o.dst (.slice (some ⟨g, 0, none⟩) (xs ++ news).length cap)) w') :
    wpList P ops Q (o :: rest) a w := by
  obtain ⟨A, c, rfl, _, k2, k3⟩ := hsl
  refine wpList_append_fits_any w hg s x t hop base 5 i 1 h1 h2 h4 g xs.length cap (bv xs) hs hown A news.length c (bv news) hx (by simp [bv_len]) (fun e => k2 e) (fun ad e => k3 ad e) (bv_one _) b1 ?_
  intro w' ho hgr
  have := hK w' (by unfold Own; rw [bv_append, List.length_append]; exact ho) hgr
  rwa [List.length_append] at this
theorem sl_newz (w : World) (t : TypeId) (l : List UInt8) (cs : Array Value) (z : Nat × Nat) (n : Nat) (h : cs.toList = bv l) (hn : n = l.length) : SlB (w.alloc (.cells cs t z)) (.slice (some ⟨w.heap.size, 0, none⟩) n n) l := by
  subst hn
  refine ⟨_, _, rfl, Nat.le_refl _, by simp, ?_⟩
  intro ad had j u hu
  obtain rfl := Option.some.inj had
  rw [Addr.add_lit]
  have := bcellAt (balloc w (.cells cs t z)) (0 + j)
  rw [this, ← Array.getElem?_toList, h]
  simpa using hu
theorem sl_new (w : World) (t : TypeId) (l : List UInt8) (cs : Array Value) (n : Nat) (h : cs.toList = bv l) (hn : n = l.length) : SlB (w.alloc (.cells cs t)) (.slice (some ⟨w.heap.size, 0, none⟩) n n) l := sl_newz w t l cs (0, 0) n h hn
theorem Tryd.infoByte : (Tryd.prog.info? 5).map (fun i => (i.zero, i.size, i.bytes)) = some (some (.int .u8 0), 1, 1) := by kernel_rfl
end Go.Proofs.YthgendgmlpaglaaDoor
namespace Go.Proofs.YthgendgmlpaglaaDoor
open Go.RowKit

/-- A world that is w0 with new blocks. -/
structure Gr (w0 : World) where
  w : World
  h : w0.grownBy w none
instance (w0 : World) : Inhabited (Gr w0) := ⟨⟨w0, grefl w0 none⟩⟩
@[go_sem, simp] theorem Gr.ex {w0 : World} (g : Gr w0) : (∃ m : Gr w0, g.w = m.w) = True := eq_true ⟨g, rfl⟩
theorem Gr.cell {w0 : World} {a : Addr} {v : Value} (h : w0.cell? a = some v) : ∀ g : Gr w0, g.w.cell? a = some v := fun g => g.h.cell h (by simp)

section
variable {P : Program} {Q : Exit → Act → World → Prop} {a : Act} {w : World}

theorem wp_region_gr {id : Nat} {l : List Oper} (hm : P.follows .mixedOrders = true) (hB : Region.lexB .any l.toArray = true)
    (h : wpQuiet P l.toArray (fun w' => ∃ g : Gr w, w' = g.w) (fun a' => ∀ w', (∃ g : Gr w, w' = g.w) → Q .normal a' w') l a) : (Code.region id l.toArray true).wp P Q a w :=
  wp_region_quiet (C := fun w' => ∃ g : Gr w, w' = g.w) hm hB ⟨⟨w.drew, gdrew (grefl w none)⟩, rfl⟩ (by simpa using h)

/-- A callee that makes new memory alone, met in a world of the class. -/
theorem Calls.gr {f : FuncId} {args : Array Value} {g : Gr w} {v : Value} (h : Calls P f args g.w fun e w' => e = .returned v ∧ g.w.grownBy w' none) :
    Calls P f args g.w fun e w'' => e = .returned v ∧ ∃ m : Gr w, w'' = m.w :=
  h.mono fun _ w' ⟨he, hg⟩ => ⟨he, ⟨w', gtrans g.h hg⟩, rfl⟩

def isMove (o : Oper) : Bool := o.guard.isNone && match o.op with | .move _ => true | _ => false
/-- The first operations come up in the order of the text. -/
def headB (md : Region.Mode) (ops : Array Oper) : Nat → Nat → Array Bool → Bool
  | 0, k, listed => Region.lexFrom md ops (ops.size - k) k listed
  | f + 1, k, listed => (decide (Region.ready md ops listed = [k]) || (match ops[k]? with | some o => isMove o | none => false) && (Region.ready md ops listed).contains k && Region.free md ops listed k) && headB md ops f (k + 1) (listed.setIfInBounds k true)

/-- What stands behind the head. -/
def headQ (P : Program) (ops : Array Oper) (Q : Exit → Act → World → Prop) (rest : List Oper) : Exit → Act → World → Prop :=
  Exit.then (fun a' w' => wpQuiet P ops (fun w'' => ∃ g : Gr w', w'' = g.w) (fun a'' => ∀ w'', (∃ g : Gr w', w'' = g.w) → Q .normal a'' w'') rest a') Q

theorem letsOut_head {ops : Array Oper} {rest : List Oper} (h : LetsOut (headQ P ops Q rest)) : LetsOut Q := h
theorem wp_head {o : Oper} {K : Act → World → Prop} {ops : Array Oper} {rest : List Oper} (h : o.wp P a w K (headQ P ops Q rest)) : o.wp P a w K Q := by
  unfold Oper.wp at *
  generalize (execOp a.eval o).run P w = r at *
  cases r with
  | ok n w' =>
    cases n <;> simp only [Oper.upon] at h ⊢
    case enter f args => exact Calls.mono h (fun e w'' he => by cases e <;> exact he)
    all_goals exact h
  | halt x w' => cases x <;> simp only [Oper.upon] at h ⊢ <;> exact h

theorem move_asks {o : Oper} (x : Operand) (h : o.op = .move x) : ¬ o.asks P a w := by
  intro ha
  have h1 := ha.1
  unfold execOp at h1
  rw [h] at h1
  exact absurd h1 (by
    show noRoomEvent ∉ (#[] : Array _)
    simp)

theorem wpAny_head {ops : Array Oper} {md : Region.Mode} (hs : Region.noSelect ops = true) (hQ : ∀ c a b w, Q (.panic c) a w → Q (.panic c) b w) (n : Nat) :
    ∀ (l : List Oper) (k : Nat) (listed : Array Bool) (a : Act) (w : World), (∀ j, j < l.length → l[j]? = ops[k + j]?) → k + l.length = n → n ≤ ops.size →
      headB md ops l.length k listed = true → wpList P ops (headQ P ops Q (ops.toList.drop n)) l a w → wpAny P md ops Q (l.length + (ops.size - n)) listed a w
  | [], k, listed, a, w, _, hk, hn, hB, h => by
    obtain rfl : k = n := by simpa using hk
    have h' : wpQuiet P ops (fun w'' => ∃ g : Gr w, w'' = g.w) (fun a'' => ∀ w'', (∃ g : Gr w, w'' = g.w) → Q .normal a'' w'') (ops.toList.drop k) a := h
    have hlen : (ops.toList.drop k).length = ops.size - k := by simp
    have := wpAnyQ_lex (P := P) (md := md) (C := fun w'' => ∃ g : Gr w, w'' = g.w) hs (ops.toList.drop k) k listed a (by intro j; simp [List.getElem?_drop]) (by rw [hlen]; simpa [headB] using hB) h'
    rw [hlen] at this
    have := wpAny_of_quiet (Q' := Q) (fun a' w' hw' h => h w' hw') (ops.size - k) listed a w ⟨⟨w, grefl w none⟩, rfl⟩ this
    simpa using this
  | o :: l, k, listed, a, w, hl, hk, hn, hB, h => by
    have h0 : ops[k]? = some o := by simpa using (hl 0 (by simp)).symm
    simp only [List.length_cons, headB, Bool.and_eq_true, Bool.or_eq_true, decide_eq_true_eq, h0] at hB
    obtain ⟨hB1, hB2⟩ := hB
    have hk' : k + 1 + l.length = n := by simp only [List.length_cons] at hk; omega
    have hl' : ∀ j, j < l.length → l[j]? = ops[k + 1 + j]? := fun j hj => by
      have := hl (j + 1) (by simp; omega)
      simpa [Nat.add_assoc, Nat.add_comm 1 j] using this
    have rec_ := fun a' w' => wpAny_head hs hQ n l (k + 1) (listed.setIfInBounds k true) a' w' hl' hk' hn hB2
    rw [show (o :: l).length + (ops.size - n) = (l.length + (ops.size - n)) + 1 by simp only [List.length_cons]; omega]
    rcases hB1 with hone | ⟨⟨hmv, hr⟩, hf⟩
    · refine ⟨fun h1 => (by rw [hone] at h1; cases h1), fun i hi => ?_⟩
      rw [hone] at hi
      obtain rfl : i = k := by simpa using hi
      unfold wpOp
      simp only [h0]
      simp only [wpList] at h
      split
      · rename_i hw
        simp only [hw, if_true] at h
        rcases h with h | h
        · exact .inl (Oper.wp_mono rec_ (wp_head h))
        · exact .inr ⟨h.1, letsOut_head h.2⟩
      · rename_i hw
        simp only [hw] at h
        exact rec_ _ _ h
    · unfold isMove at hmv
      simp only [Bool.and_eq_true, Option.isNone_iff_eq_none] at hmv
      obtain ⟨hg, hmv⟩ := hmv
      cases hop : o.op <;> simp only [hop] at hmv <;> try cases hmv
      rename_i x
      have hw : Region.wanted o (yielded ops a.tmps) = true := by simp [Region.wanted, hg]
      simp only [wpList, hw, if_true] at h
      have hrun := fun w => BigFrame.run_move (P := P) (ρ := a.eval) x hop w
      have h2 : wpList P ops (headQ P ops Q (ops.toList.drop n)) l (a.put o.dst (a.eval x)) w := by
        rcases h with h | h
        · unfold Oper.wp at h
          rw [hrun] at h
          exact h
        · exact absurd h.1 (move_asks x hop)
      exact wpAny_take h0 hs hf hr (fun c a w => hQ c _ _ w) (.inl ⟨hw, hrun⟩) (rec_ _ _ h2)

theorem wp_region_head_gr {id : Nat} {l : List Oper} (n : Nat) (hm : P.follows .mixedOrders = true) (hQ : ∀ c a b w, Q (.panic c) a w → Q (.panic c) b w) (hB : (Region.noSelect l.toArray && decide (n ≤ l.length) && headB .any l.toArray n 0 (Array.replicate l.toArray.size false)) = true)
    (h : wpList P l.toArray (headQ P l.toArray Q (l.drop n)) (l.take n) a w.drew) : (Code.region id l.toArray true).wp P Q a w := by
  simp only [Bool.and_eq_true, decide_eq_true_eq] at hB
  obtain ⟨⟨hs, hn⟩, hB⟩ := hB
  refine wp_region_any hm ?_
  have htl : (l.take n).length = n := by simp; omega
  have := wpAny_head (P := P) (Q := Q) (md := .any) hs hQ n (l.take n) 0 (Array.replicate l.toArray.size false) a w.drew (fun j hj => by
    have hj' : j < n := by rw [htl] at hj; exact hj
    simp [hj']) (by simpa using htl) (by simpa using hn) (by rw [htl]; exact hB) (by simpa using h)
  rw [htl, show n + (l.toArray.size - n) = l.toArray.size by simp; omega] at this
  exact this
/-- The same, where the post of a panic may hang on the frame: the region must be shown not to panic. -/
theorem wp_region_head_grn {id : Nat} {l : List Oper} (n : Nat) (hm : P.follows .mixedOrders = true) (hB : (Region.noSelect l.toArray && decide (n ≤ l.length) && headB .any l.toArray n 0 (Array.replicate l.toArray.size false)) = true)
    (h : wpList P l.toArray (headQ P l.toArray (NoPanic Q) (l.drop n)) (l.take n) a w.drew) : (Code.region id l.toArray true).wp P Q a w :=
  wp_region_noPanic (wp_region_head_gr n hm (fun _ _ _ _ h => h) hB h)
theorem headQ_normal {ops : Array Oper} {rest : List Oper} (h : wpQuiet P ops (fun w'' => ∃ g : Gr w, w'' = g.w) (fun a'' => ∀ w'', (∃ g : Gr w, w'' = g.w) → Q .normal a'' w'') rest a) : headQ P ops Q rest .normal a w := h
end
end Go.Proofs.YthgendgmlpaglaaDoor
namespace Go.Proofs.YthgendgmlpaglaaDoor
open Go.RowKit

section
variable {P : Program} {ops : Array Oper} {Q : Exit → Act → World → Prop} {md : Region.Mode}

/-- Whatever order is picked from here on, and behind every operation there are new blocks alone. -/
def wpAnyG (P : Program) (md : Region.Mode) (ops : Array Oper) (Q : Exit → Act → World → Prop) : Nat → Array Bool → Act → World → Prop
  | 0, listed, a, w => Region.ready md ops listed = [] ∧ Q .normal a w
  | fuel + 1, listed, a, w =>
    (Region.ready md ops listed = [] → Q .normal a w) ∧
    ∀ i ∈ Region.ready md ops listed, wpOp P ops Q i (fun a' w' => w.grownBy w' none ∧ wpAnyG P md ops Q fuel (listed.setIfInBounds i true) a' w') a w
theorem wpAny_of_G : ∀ (fuel : Nat) (listed : Array Bool) (a : Act) (w : World), wpAnyG P md ops Q fuel listed a w → wpAny P md ops Q fuel listed a w
  | 0, _, _, _, h => h
  | fuel + 1, _, _, _, h => ⟨h.1, fun i hi => wpOp_mono (fun a' w' h' => wpAny_of_G fuel _ a' w' h'.2) (h.2 i hi)⟩

theorem wpAnyG_first {i : Nat} {oi : Oper} {v : Value} (hi : ops[i]? = some oi) (hsel : ∀ (j : Nat) (o : Oper) cs b, ops[j]? = some o → o.op ≠ .select cs b)
    (hQ : ∀ c a w, Q (.panic c) (a.put oi.dst v) w → Q (.panic c) a w) :
    ∀ (fuel : Nat) (listed : Array Bool) (a : Act) (w : World),
      (∀ j oj, ops[j]? = some oj → j ≠ i → listed.getD j true = false → (∀ e ∈ oj.after, Region.binds md e = true → e.on ≠ i) → oi.apart ops oj = true) →
      i ∈ Region.ready md ops listed → YieldsIf P ops (fun u => w.grownBy u none) oi v a →
      wpAnyG P md ops Q fuel (listed.setIfInBounds i true) (a.put oi.dst v) w → wpAnyG P md ops Q (fuel + 1) listed a w := by
  intro fuel
  induction fuel with
  | zero =>
    intro listed a w _ hr hy H
    refine ⟨fun h => (by rw [h] at hr; cases hr), fun j hj => ?_⟩
    by_cases hji : j = i
    · subst hji; exact hy.wpOp hi (grefl w none) ⟨grefl w none, H⟩
    · have := ready_mono hj hji
      rw [H.1] at this
      cases this
  | succ fuel ih =>
    intro listed a w hfree hr hy H
    refine ⟨fun h => (by rw [h] at hr; cases hr), fun j hj => ?_⟩
    by_cases hji : j = i
    · subst hji; exact hy.wpOp hi (grefl w none) ⟨grefl w none, H⟩
    · have h1 := H.2 j (ready_mono hj hji)
      obtain ⟨hjun, oj, hoj, hall⟩ := mem_ready.1 hj
      have hnot : ∀ e ∈ oj.after, Region.binds md e = true → e.on ≠ i := fun e he hb heq => by
        have h1 := hall e he hb
        have h0 := (mem_ready.1 hr).1
        rw [heq] at h1
        rcases Nat.lt_or_ge i listed.size with h' | h'
        · simp [h'] at h0 h1; rw [h0] at h1; cases h1
        · simp [Array.getElem?_eq_none h'] at h1
      have h2 := wpOp_putIf hoj (hfree j oj hoj hji hjun hnot) (fun cs b => hsel i oi cs b hi) (fun cs b => hsel j oj cs b hoj) hQ hy h1
      have hfree' : ∀ k ok, ops[k]? = some ok → k ≠ i → (listed.setIfInBounds j true).getD k true = false →
          (∀ e ∈ ok.after, Region.binds md e = true → e.on ≠ i) → oi.apart ops ok = true := fun k ok hk hki hun hno => by
        refine hfree k ok hk hki ?_ hno
        by_cases hjk : j = k
        · subst hjk; exact hjun
        · rw [getD_set_ne true hjk] at hun; exact hun
      refine wpOp_mono (fun a' w' h3 => ⟨h3.2.1, ih (listed.setIfInBounds j true) a' w' hfree' (ready_mono hr (Ne.symm hji)) (h3.1.imp (fun ⟨h5, h6⟩ => ⟨h5, fun u hu => h6 u (gtrans h3.2.1 hu)⟩) id) ?_⟩) h2
      rw [Array.setIfInBounds_comm _ _ hji]
      exact h3.2.2

/-- Operations that leave a value, and can do nothing else. -/
def valueOnly (o : Oper) : Bool :=
  match o.op with
  | .move _ | .assign _ | .pick .. | .load .. | .binOp .. | .unOp .. | .convert .. | .slice .. | .fieldAddr .. | .field .. | .indexAddr .. | .index .. | .extract .. => true
  | _ => false
theorem valueOnly_spec {o : Oper} (h : valueOnly o = true) {ρ : Operand → Value} {w w' : World} {r : Next} (hr : (execOp ρ o).run P w = .ok r w') : ∃ x, r = .value x := by
  have key : ∀ s : Sem Value, (do pure (Next.value (← s)) : Sem Next).run P w = .ok r w' → ∃ x, r = .value x := by
    intro s hs
    simp only [Sem.run_bind, Sem.run_pure] at hs
    cases hq : s.run P w with
    | ok x u => rw [hq] at hs; simp only [Result.andThen] at hs; exact ⟨x, by injection hs with h1 _; exact h1.symm⟩
    | halt x u => rw [hq] at hs; cases hs
  unfold valueOnly at h
  cases hop : o.op <;> simp only [hop] at h <;> try cases h
  all_goals (unfold execOp at hr; rw [hop] at hr)
  all_goals first
    | exact key _ hr
    | exact ⟨_, by simp only [Sem.run_pure] at hr; injection hr with h1 _; exact h1.symm⟩
    | (simp only [Sem.run_bind, Sem.run_pure] at hr
       rename_i c _ _
       cases hq : (asBool (ρ c)).run P w with
       | ok x u => rw [hq] at hr; simp only [Result.andThen] at hr; exact ⟨_, by injection hr with h1 _; exact h1.symm⟩
       | halt x u => rw [hq] at hr; cases hr)

theorem yieldsIf_of_quiet {o : Oper} {a : Act} {w : World} {v : Value} (hv : valueOnly o = true) (hw : Region.wanted o (yielded ops a.tmps) = true)
    (h : ∀ u, (∃ g : Gr w, u = g.w) → o.quietAt P a (fun u => ∃ g : Gr w, u = g.w) u v) : YieldsIf P ops (fun u => w.grownBy u none) o v a := by
  refine .inl ⟨hw, fun u hu => ?_⟩
  have h1 := h u ⟨⟨u, hu⟩, rfl⟩
  unfold Oper.quietAt at h1
  cases hr : (execOp a.eval o).run P u with
  | halt x u' => rw [hr] at h1; simp only [Oper.quietUpon] at h1
  | ok n u' =>
    obtain ⟨x, rfl⟩ := valueOnly_spec hv hr
    rw [hr] at h1
    simp only [Oper.quietUpon] at h1
    obtain ⟨rfl, rfl⟩ := h1
    rfl

/-- The segments: 'true': read, taken first one by one; 'false': one operation that comes up alone. -/
def takesB (md : Region.Mode) (ops : Array Oper) : List Nat → Array Bool → Bool
  | [], _ => true
  | i :: is, listed => (match ops[i]? with | some o => valueOnly o | none => false) && (Region.ready md ops listed).contains i && Region.free md ops listed i && takesB md ops is (listed.setIfInBounds i true)
def setAll : List Nat → Array Bool → Array Bool
  | [], listed => listed
  | i :: is, listed => setAll is (listed.setIfInBounds i true)
def segsB (md : Region.Mode) (ops : Array Oper) : List (Bool × List Nat) → Array Bool → Bool
  | [], listed => (Region.ready md ops listed).isEmpty
  | (true, is) :: r, listed => takesB md ops is listed && segsB md ops r (setAll is listed)
  | (false, [i]) :: r, listed => decide (Region.ready md ops listed = [i]) && (ops[i]?).isSome && segsB md ops r (listed.setIfInBounds i true)
  | (false, _) :: _, _ => false

def segLen : List (Bool × List Nat) → Nat
  | [] => 0
  | (_, is) :: r => is.length + segLen r

/-- The walk over the segments. -/
def wpSegs (P : Program) (ops : Array Oper) (Q : Exit → Act → World → Prop) : List (Bool × List Nat) → Act → World → Prop
  | [], a, w => Q .normal a w
  | (true, is) :: r, a, w => wpQuiet P ops (fun u => ∃ g : Gr w, u = g.w) (fun a' => wpSegs P ops Q r a' w) (is.filterMap fun i => ops[i]?) a
  | (false, is) :: r, a, w => wpList P ops (Exit.then (fun a' w' => w.grownBy w' none ∧ wpSegs P ops Q r a' w') Q) (is.filterMap fun i => ops[i]?) a w

theorem wpAnyG_takes (hs : Region.noSelect ops = true) (hQ : ∀ c a b w, Q (.panic c) a w → Q (.panic c) b w) {w : World} {N : Act → Prop} {m : Nat} : ∀ (is : List Nat) (listed : Array Bool) (a : Act),
    takesB md ops is listed = true → (∀ a', N a' → wpAnyG P md ops Q m (setAll is listed) a' w) → wpQuiet P ops (fun u => ∃ g : Gr w, u = g.w) N (is.filterMap fun i => ops[i]?) a → wpAnyG P md ops Q (is.length + m) listed a w
  | [], listed, a, _, hN, h => by
    have := hN a h
    simpa [setAll] using this
  | i :: is, listed, a, hB, hN, h => by
    simp only [takesB, Bool.and_eq_true] at hB
    obtain ⟨⟨⟨h1, h2⟩, h3⟩, h4⟩ := hB
    cases ho : ops[i]? with
    | none => rw [ho] at h1; cases h1
    | some o =>
      rw [ho] at h1
      have h' : wpQuiet P ops (fun u => ∃ g : Gr w, u = g.w) N (o :: is.filterMap fun i => ops[i]?) a := by simpa [ho] using h
      rw [show (i :: is).length + m = (is.length + m) + 1 by simp only [List.length_cons]; omega]
      have rec_ := fun a' => wpAnyG_takes hs hQ is (listed.setIfInBounds i true) a' h4 hN
      by_cases hw : Region.wanted o (yielded ops a.tmps) = true
      · simp only [wpQuiet, hw, if_true] at h'
        obtain ⟨v, hv, hn'⟩ := h'
        exact wpAnyG_first ho (Region.noSelect_spec hs) (fun c a w => hQ c _ _ w) _ _ _ _ (Region.free_spec ho h3) (by simpa using h2) (yieldsIf_of_quiet h1 hw hv) (rec_ _ hn')
      · simp only [wpQuiet, hw] at h'
        exact wpAnyG_first ho (Region.noSelect_spec hs) (fun c a w => hQ c _ _ w) _ _ _ _ (Region.free_spec ho h3) (by simpa using h2) (.inr ⟨by simpa using hw, rfl⟩) (rec_ _ h')

theorem wpAnyG_of_segs (hs : Region.noSelect ops = true) (hQ : ∀ c a b w, Q (.panic c) a w → Q (.panic c) b w) : ∀ (l : List (Bool × List Nat)) (listed : Array Bool) (a : Act) (w : World),
    segsB md ops l listed = true → wpSegs P ops Q l a w → wpAnyG P md ops Q (segLen l) listed a w
  | [], listed, a, w, hB, h => ⟨by simpa [segsB] using hB, h⟩
  | (true, is) :: r, listed, a, w, hB, h => by
    simp only [segsB, Bool.and_eq_true] at hB
    exact wpAnyG_takes hs hQ is listed a hB.1 (fun a' h' => wpAnyG_of_segs hs hQ r (setAll is listed) a' w hB.2 h') h
  | (false, [i]) :: r, listed, a, w, hB, h => by
    simp only [segsB, Bool.and_eq_true, decide_eq_true_eq] at hB
    obtain ⟨⟨h1, h2⟩, h3⟩ := hB
    cases ho : ops[i]? with
    | none => rw [ho] at h2; cases h2
    | some o =>
      have h' : wpList P ops (Exit.then (fun a' w' => w.grownBy w' none ∧ wpSegs P ops Q r a' w') Q) [o] a w := by
        have := h
        unfold wpSegs at this
        simpa [ho] using this
      have hlen : segLen ((false, [i]) :: r) = segLen r + 1 := by simp [segLen]; omega
      rw [hlen]
      have rec_ := fun a' w' => wpAnyG_of_segs hs hQ r (listed.setIfInBounds i true) a' w' h3
      refine ⟨fun h0 => (by rw [h1] at h0; cases h0), fun j hj => ?_⟩
      rw [h1] at hj
      obtain rfl : j = i := by simpa using hj
      unfold wpOp
      simp only [ho]
      simp only [wpList] at h'
      have conv : ∀ {K : Act → World → Prop} {N : Act → World → Prop}, o.wp P a w K (Exit.then N Q) → o.wp P a w K Q := by
        intro K N hh
        unfold Oper.wp at *
        generalize (execOp a.eval o).run P w = rr at *
        cases rr with
        | ok n w' =>
          cases n <;> simp only [Oper.upon] at hh ⊢
          case enter f args => exact Calls.mono hh (fun e w'' he => by cases e <;> exact he)
          all_goals exact hh
        | halt x w' => cases x <;> simp only [Oper.upon] at hh ⊢ <;> exact hh
      split
      · rename_i hw
        simp only [hw, if_true] at h'
        rcases h' with h' | h'
        · exact .inl (Oper.wp_mono (fun a' w' (hh : w.grownBy w' none ∧ wpSegs P ops Q r a' w') => ⟨hh.1, rec_ _ _ hh.2⟩) (conv h'))
        · exact .inr ⟨h'.1, h'.2⟩
      · rename_i hw
        simp only [hw] at h'
        have hh : w.grownBy w none ∧ wpSegs P ops Q r (a.put o.dst undef) w := h'
        exact ⟨hh.1, rec_ _ _ hh.2⟩
  | (false, []) :: r, listed, a, w, hB, h => by simp [segsB] at hB
  | (false, i :: j :: is) :: r, listed, a, w, hB, h => by simp [segsB] at hB

theorem wp_region_segs {id : Nat} {l : List Oper} {a : Act} {w : World} (segs : List (Bool × List Nat)) (hm : P.follows .mixedOrders = true)
    (hB : (Region.noSelect l.toArray && decide (segLen segs = l.length) && segsB .any l.toArray segs (Array.replicate l.toArray.size false)) = true)
    (h : wpSegs P l.toArray (NoPanic Q) segs a w.drew) : (Code.region id l.toArray true).wp P Q a w := by
  simp only [Bool.and_eq_true, decide_eq_true_eq] at hB
  obtain ⟨⟨hs, hn⟩, hB⟩ := hB
  refine wp_region_noPanic (wp_region_any hm (wpAny_of_G _ _ _ _ ?_))
  have := wpAnyG_of_segs (P := P) (Q := NoPanic Q) (md := .any) hs (fun _ _ _ _ h => h) segs (Array.replicate l.toArray.size false) a w.drew hB h
  rw [hn] at this
  simpa using this

theorem wpSegs_quiet {is : List Nat} {l : List Oper} {r : List (Bool × List Nat)} {a : Act} {w : World} (hl : (is.filterMap fun i => ops[i]?) = l) (h : wpQuiet P ops (fun u => ∃ g : Gr w, u = g.w) (fun a' => wpSegs P ops Q r a' w) l a) : wpSegs P ops Q ((true, is) :: r) a w := by
  subst hl; exact h
theorem wpSegs_one {i : Nat} {o : Oper} {r : List (Bool × List Nat)} {a : Act} {w : World} (ho : ops[i]? = some o) (h : wpList P ops (Exit.then (fun a' w' => w.grownBy w' none ∧ wpSegs P ops Q r a' w') Q) [o] a w) : wpSegs P ops Q ((false, [i]) :: r) a w := by
  unfold wpSegs; simpa [ho] using h
theorem wpSegs_done {a : Act} {w : World} (h : Q .normal a w) : wpSegs P ops (NoPanic Q) [] a w := h
end
end Go.Proofs.YthgendgmlpaglaaDoor
namespace Go.Proofs.YthgendgmlpaglaaDoor
open Go.RowKit

/-- What lies ahead of block B is as it was. -/
structure KB (B : Nat) (w w' : World) : Prop where
  os : w'.os = w.os
  tape : w'.tape = w.tape
  output : w'.output = w.output
  size : w.heap.size ≤ w'.heap.size
  block : ∀ i, i < B → w'.heap[i]? = w.heap[i]?
theorem KB.refl (B : Nat) (w : World) : KB B w w := ⟨rfl, rfl, rfl, Nat.le_refl _, fun _ _ => rfl⟩
theorem KB.trans {B : Nat} {a b c : World} (h : KB B a b) (k : KB B b c) : KB B a c := ⟨k.os.trans h.os, k.tape.trans h.tape, k.output.trans h.output, Nat.le_trans h.size k.size, fun i hi => (k.block i hi).trans (h.block i hi)⟩
theorem KB.of {B : Nat} {w w' : World} (g : w.grownBy w' none) (hB : B ≤ w.heap.size) : KB B w w' := ⟨g.os, g.tape, g.output, g.size, fun i hi => g.block i (by omega) (by simp)⟩
theorem KB.gr {B : Nat} {w0 w w' : World} (g : w0.grownBy w none) (h : KB B w w') (hB : w0.heap.size ≤ B) : w0.grownBy w' none :=
  ⟨h.os.trans g.os, h.tape.trans g.tape, h.output.trans g.output, Nat.le_trans g.size h.size, fun i hi _ => (h.block i (by omega)).trans (g.block i hi (by simp))⟩
theorem KB.drew {B : Nat} {w w' : World} (h : KB B w w') : KB B w w'.drew := ⟨h.os, h.tape, h.output, h.size, h.block⟩
theorem KB.cell {B : Nat} {w w' : World} (h : KB B w w') {b off : Nat} {v : Value} (hc : w.cell? ⟨b, off, none⟩ = some v) (hb : b < B) : w'.cell? ⟨b, off, none⟩ = some v := by
  unfold World.cell? at hc ⊢
  simp only at hc ⊢
  rw [h.block b hb]
  exact hc
/-- A world that is w0 ahead of B. -/
structure GrB (B : Nat) (w0 : World) where
  w : World
  h : KB B w0 w
instance (B : Nat) (w0 : World) : Inhabited (GrB B w0) := ⟨⟨w0, KB.refl B w0⟩⟩
@[go_sem, simp] theorem GrB.ex {B : Nat} {w0 : World} (g : GrB B w0) : (∃ m : GrB B w0, g.w = m.w) = True := eq_true ⟨g, rfl⟩
theorem GrB.cell {B : Nat} {w0 : World} {b off : Nat} {v : Value} (h : w0.cell? ⟨b, off, none⟩ = some v) (hb : b < B) : ∀ g : GrB B w0, g.w.cell? ⟨b, off, none⟩ = some v := fun g => g.h.cell h hb

section
variable {B : Nat} {P : Program} {ops : Array Oper} {Q : Exit → Act → World → Prop} {md : Region.Mode}

/-- Whatever order is picked from here on, and behind every operation there are new blocks alone. -/
def wpAnyB (B : Nat) (P : Program) (md : Region.Mode) (ops : Array Oper) (Q : Exit → Act → World → Prop) : Nat → Array Bool → Act → World → Prop
  | 0, listed, a, w => Region.ready md ops listed = [] ∧ Q .normal a w
  | fuel + 1, listed, a, w =>
    (Region.ready md ops listed = [] → Q .normal a w) ∧
    ∀ i ∈ Region.ready md ops listed, wpOp P ops Q i (fun a' w' => KB B w w' ∧ wpAnyB B P md ops Q fuel (listed.setIfInBounds i true) a' w') a w
theorem wpAny_of_B : ∀ (fuel : Nat) (listed : Array Bool) (a : Act) (w : World), wpAnyB B P md ops Q fuel listed a w → wpAny P md ops Q fuel listed a w
  | 0, _, _, _, h => h
  | fuel + 1, _, _, _, h => ⟨h.1, fun i hi => wpOp_mono (fun a' w' h' => wpAny_of_B fuel _ a' w' h'.2) (h.2 i hi)⟩

theorem wpAnyB_first {i : Nat} {oi : Oper} {v : Value} (hi : ops[i]? = some oi) (hsel : ∀ (j : Nat) (o : Oper) cs b, ops[j]? = some o → o.op ≠ .select cs b)
    (hQ : ∀ c a w, Q (.panic c) (a.put oi.dst v) w → Q (.panic c) a w) :
    ∀ (fuel : Nat) (listed : Array Bool) (a : Act) (w : World),
      (∀ j oj, ops[j]? = some oj → j ≠ i → listed.getD j true = false → (∀ e ∈ oj.after, Region.binds md e = true → e.on ≠ i) → oi.apart ops oj = true) →
      i ∈ Region.ready md ops listed → YieldsIf P ops (fun u => KB B w u) oi v a →
      wpAnyB B P md ops Q fuel (listed.setIfInBounds i true) (a.put oi.dst v) w → wpAnyB B P md ops Q (fuel + 1) listed a w := by
  intro fuel
  induction fuel with
  | zero =>
    intro listed a w _ hr hy H
    refine ⟨fun h => (by rw [h] at hr; cases hr), fun j hj => ?_⟩
    by_cases hji : j = i
    · subst hji; exact hy.wpOp hi (KB.refl B w) ⟨KB.refl B w, H⟩
    · have := ready_mono hj hji
      rw [H.1] at this
      cases this
  | succ fuel ih =>
    intro listed a w hfree hr hy H
    refine ⟨fun h => (by rw [h] at hr; cases hr), fun j hj => ?_⟩
    by_cases hji : j = i
    · subst hji; exact hy.wpOp hi (KB.refl B w) ⟨KB.refl B w, H⟩
    · have h1 := H.2 j (ready_mono hj hji)
      obtain ⟨hjun, oj, hoj, hall⟩ := mem_ready.1 hj
      have hnot : ∀ e ∈ oj.after, Region.binds md e = true → e.on ≠ i := fun e he hb heq => by
        have h1 := hall e he hb
        have h0 := (mem_ready.1 hr).1
        rw [heq] at h1
        rcases Nat.lt_or_ge i listed.size with h' | h'
        · simp [h'] at h0 h1; rw [h0] at h1; cases h1
        · simp [Array.getElem?_eq_none h'] at h1
      have h2 := wpOp_putIf hoj (hfree j oj hoj hji hjun hnot) (fun cs b => hsel i oi cs b hi) (fun cs b => hsel j oj cs b hoj) hQ hy h1
      have hfree' : ∀ k ok, ops[k]? = some ok → k ≠ i → (listed.setIfInBounds j true).getD k true = false →
          (∀ e ∈ ok.after, Region.binds md e = true → e.on ≠ i) → oi.apart ops ok = true := fun k ok hk hki hun hno => by
        refine hfree k ok hk hki ?_ hno
        by_cases hjk : j = k
        · subst hjk; exact hjun
        · rw [getD_set_ne true hjk] at hun; exact hun
      refine wpOp_mono (fun a' w' h3 => ⟨h3.2.1, ih (listed.setIfInBounds j true) a' w' hfree' (ready_mono hr (Ne.symm hji)) (h3.1.imp (fun ⟨h5, h6⟩ => ⟨h5, fun u hu => h6 u (KB.trans h3.2.1 hu)⟩) id) ?_⟩) h2
      rw [Array.setIfInBounds_comm _ _ hji]
      exact h3.2.2

theorem yieldsIf_of_quietB {o : Oper} {a : Act} {w : World} {v : Value} (hv : valueOnly o = true) (hw : Region.wanted o (yielded ops a.tmps) = true)
    (h : ∀ u, (∃ g : GrB B w, u = g.w) → o.quietAt P a (fun u => ∃ g : GrB B w, u = g.w) u v) : YieldsIf P ops (fun u => KB B w u) o v a := by
  refine .inl ⟨hw, fun u hu => ?_⟩
  have h1 := h u ⟨⟨u, hu⟩, rfl⟩
  unfold Oper.quietAt at h1
  cases hr : (execOp a.eval o).run P u with
  | halt x u' => rw [hr] at h1; simp only [Oper.quietUpon] at h1
  | ok n u' =>
    obtain ⟨x, rfl⟩ := valueOnly_spec hv hr
    rw [hr] at h1
    simp only [Oper.quietUpon] at h1
    obtain ⟨rfl, rfl⟩ := h1
    rfl

/-- The walk over the segments. -/
def wpSegsB (B : Nat) (P : Program) (ops : Array Oper) (Q : Exit → Act → World → Prop) : List (Bool × List Nat) → Act → World → Prop
  | [], a, w => Q .normal a w
  | (true, is) :: r, a, w => wpQuiet P ops (fun u => ∃ g : GrB B w, u = g.w) (fun a' => wpSegsB B P ops Q r a' w) (is.filterMap fun i => ops[i]?) a
  | (false, is) :: r, a, w => wpList P ops (Exit.then (fun a' w' => KB B w w' ∧ wpSegsB B P ops Q r a' w') Q) (is.filterMap fun i => ops[i]?) a w

theorem wpAnyB_takes (hs : Region.noSelect ops = true) (hQ : ∀ c a b w, Q (.panic c) a w → Q (.panic c) b w) {w : World} {N : Act → Prop} {m : Nat} : ∀ (is : List Nat) (listed : Array Bool) (a : Act),
    takesB md ops is listed = true → (∀ a', N a' → wpAnyB B P md ops Q m (setAll is listed) a' w) → wpQuiet P ops (fun u => ∃ g : GrB B w, u = g.w) N (is.filterMap fun i => ops[i]?) a → wpAnyB B P md ops Q (is.length + m) listed a w
  | [], listed, a, _, hN, h => by
    have := hN a h
    simpa [setAll] using this
  | i :: is, listed, a, hB, hN, h => by
    simp only [takesB, Bool.and_eq_true] at hB
    obtain ⟨⟨⟨h1, h2⟩, h3⟩, h4⟩ := hB
    cases ho : ops[i]? with
    | none => rw [ho] at h1; cases h1
    | some o =>
      rw [ho] at h1
      have h' : wpQuiet P ops (fun u => ∃ g : GrB B w, u = g.w) N (o :: is.filterMap fun i => ops[i]?) a := by simpa [ho] using h
      rw [show (i :: is).length + m = (is.length + m) + 1 by simp only [List.length_cons]; omega]
      have rec_ := fun a' => wpAnyB_takes hs hQ is (listed.setIfInBounds i true) a' h4 hN
      by_cases hw : Region.wanted o (yielded ops a.tmps) = true
      · simp only [wpQuiet, hw, if_true] at h'
        obtain ⟨v, hv, hn'⟩ := h'
        exact wpAnyB_first ho (Region.noSelect_spec hs) (fun c a w => hQ c _ _ w) _ _ _ _ (Region.free_spec ho h3) (by simpa using h2) (yieldsIf_of_quietB h1 hw hv) (rec_ _ hn')
      · simp only [wpQuiet, hw] at h'
        exact wpAnyB_first ho (Region.noSelect_spec hs) (fun c a w => hQ c _ _ w) _ _ _ _ (Region.free_spec ho h3) (by simpa using h2) (.inr ⟨by simpa using hw, rfl⟩) (rec_ _ h')

theorem wpAnyB_of_segs (hs : Region.noSelect ops = true) (hQ : ∀ c a b w, Q (.panic c) a w → Q (.panic c) b w) : ∀ (l : List (Bool × List Nat)) (listed : Array Bool) (a : Act) (w : World),
    segsB md ops l listed = true → wpSegsB B P ops Q l a w → wpAnyB B P md ops Q (segLen l) listed a w
  | [], listed, a, w, hB, h => ⟨by simpa [segsB] using hB, h⟩
  | (true, is) :: r, listed, a, w, hB, h => by
    simp only [segsB, Bool.and_eq_true] at hB
    exact wpAnyB_takes hs hQ is listed a hB.1 (fun a' h' => wpAnyB_of_segs hs hQ r (setAll is listed) a' w hB.2 h') h
  | (false, [i]) :: r, listed, a, w, hB, h => by
    simp only [segsB, Bool.and_eq_true, decide_eq_true_eq] at hB
    obtain ⟨⟨h1, h2⟩, h3⟩ := hB
    cases ho : ops[i]? with
    | none => rw [ho] at h2; cases h2
    | some o =>
      have h' : wpList P ops (Exit.then (fun a' w' => KB B w w' ∧ wpSegsB B P ops Q r a' w') Q) [o] a w := by
        have := h
        unfold wpSegsB at this
        simpa [ho] using this
      have hlen : segLen ((false, [i]) :: r) = segLen r + 1 := by simp [segLen]; omega
      rw [hlen]
      have rec_ := fun a' w' => wpAnyB_of_segs hs hQ r (listed.setIfInBounds i true) a' w' h3
      refine ⟨fun h0 => (by rw [h1] at h0; cases h0), fun j hj => ?_⟩
      rw [h1] at hj
      obtain rfl : j = i := by simpa using hj
      unfold wpOp
      simp only [ho]
      simp only [wpList] at h'
      have conv : ∀ {K : Act → World → Prop} {N : Act → World → Prop}, o.wp P a w K (Exit.then N Q) → o.wp P a w K Q := by
        intro K N hh
        unfold Oper.wp at *
        generalize (execOp a.eval o).run P w = rr at *
        cases rr with
        | ok n w' =>
          cases n <;> simp only [Oper.upon] at hh ⊢
          case enter f args => exact Calls.mono hh (fun e w'' he => by cases e <;> exact he)
          all_goals exact hh
        | halt x w' => cases x <;> simp only [Oper.upon] at hh ⊢ <;> exact hh
      split
      · rename_i hw
        simp only [hw, if_true] at h'
        rcases h' with h' | h'
        · exact .inl (Oper.wp_mono (fun a' w' (hh : KB B w w' ∧ wpSegsB B P ops Q r a' w') => ⟨hh.1, rec_ _ _ hh.2⟩) (conv h'))
        · exact .inr ⟨h'.1, h'.2⟩
      · rename_i hw
        simp only [hw] at h'
        have hh : KB B w w ∧ wpSegsB B P ops Q r (a.put o.dst undef) w := h'
        exact ⟨hh.1, rec_ _ _ hh.2⟩
  | (false, []) :: r, listed, a, w, hB, h => by simp [segsB] at hB
  | (false, i :: j :: is) :: r, listed, a, w, hB, h => by simp [segsB] at hB

theorem wp_region_segsB (B : Nat) {id : Nat} {l : List Oper} {a : Act} {w : World} (segs : List (Bool × List Nat)) (hm : P.follows .mixedOrders = true)
    (hB : (Region.noSelect l.toArray && decide (segLen segs = l.length) && segsB .any l.toArray segs (Array.replicate l.toArray.size false)) = true)
    (h : wpSegsB B P l.toArray (NoPanic Q) segs a w.drew) : (Code.region id l.toArray true).wp P Q a w := by
  simp only [Bool.and_eq_true, decide_eq_true_eq] at hB
  obtain ⟨⟨hs, hn⟩, hB⟩ := hB
  refine wp_region_noPanic (wp_region_any hm (wpAny_of_B (B := B) _ _ _ _ ?_))
  have := wpAnyB_of_segs (B := B) (P := P) (Q := NoPanic Q) (md := .any) hs (fun _ _ _ _ h => h) segs (Array.replicate l.toArray.size false) a w.drew hB h
  rw [hn] at this
  simpa using this

theorem wpSegsB_quiet {is : List Nat} {l : List Oper} {r : List (Bool × List Nat)} {a : Act} {w : World} (hl : (is.filterMap fun i => ops[i]?) = l) (h : wpQuiet P ops (fun u => ∃ g : GrB B w, u = g.w) (fun a' => wpSegsB B P ops Q r a' w) l a) : wpSegsB B P ops Q ((true, is) :: r) a w := by
  subst hl; exact h
theorem wpSegsB_one {i : Nat} {o : Oper} {r : List (Bool × List Nat)} {a : Act} {w : World} (ho : ops[i]? = some o) (h : wpList P ops (Exit.then (fun a' w' => KB B w w' ∧ wpSegsB B P ops Q r a' w') Q) [o] a w) : wpSegsB B P ops Q ((false, [i]) :: r) a w := by
  unfold wpSegsB; simpa [ho] using h
theorem wpSegsB_done {a : Act} {w : World} (h : Q .normal a w) : wpSegsB B P ops (NoPanic Q) [] a w := h
end
end Go.Proofs.YthgendgmlpaglaaDoor
namespace Go.Proofs.YthgendgmlpaglaaDoor
open Go.RowKit

theorem gfr1 {a w : World} {o : Obj} {row : Option Nat} (h : (a.alloc o).grownBy w row) : a.grownBy w row := gtrans (galloc (grefl _ row) _) h
theorem asz (w : World) (o : Obj) : (w.alloc o).heap.size = w.heap.size + 1 := by simp
theorem balloc1_0 (w : World) (o0 : Obj) : (w.alloc o0).heap[w.heap.size]? = some o0 := by
  have h := balloc w o0
  exact h
theorem balloc2_0 (w : World) (o0 o1 : Obj) : ((w.alloc o0).alloc o1).heap[w.heap.size]? = some o0 := by
  exact gblock (galloc (grefl _ none) _) (balloc1_0 w o0) (by simp)
theorem balloc2_1 (w : World) (o0 o1 : Obj) : ((w.alloc o0).alloc o1).heap[w.heap.size + 1]? = some o1 := by
  have h := balloc (w.alloc o0) o1
  simp only [asz] at h
  exact h
theorem balloc3_0 (w : World) (o0 o1 o2 : Obj) : (((w.alloc o0).alloc o1).alloc o2).heap[w.heap.size]? = some o0 := by
  exact gblock (galloc (grefl _ none) _) (balloc2_0 w o0 o1) (by simp)
theorem balloc3_1 (w : World) (o0 o1 o2 : Obj) : (((w.alloc o0).alloc o1).alloc o2).heap[w.heap.size + 1]? = some o1 := by
  exact gblock (galloc (grefl _ none) _) (balloc2_1 w o0 o1) (by simp)
theorem balloc3_2 (w : World) (o0 o1 o2 : Obj) : (((w.alloc o0).alloc o1).alloc o2).heap[w.heap.size + 2]? = some o2 := by
  have h := balloc ((w.alloc o0).alloc o1) o2
  simp only [asz, Nat.add_assoc, Nat.reduceAdd] at h
  exact h
theorem balloc4_0 (w : World) (o0 o1 o2 o3 : Obj) : ((((w.alloc o0).alloc o1).alloc o2).alloc o3).heap[w.heap.size]? = some o0 := by
  exact gblock (galloc (grefl _ none) _) (balloc3_0 w o0 o1 o2) (by simp)
theorem balloc4_1 (w : World) (o0 o1 o2 o3 : Obj) : ((((w.alloc o0).alloc o1).alloc o2).alloc o3).heap[w.heap.size + 1]? = some o1 := by
  exact gblock (galloc (grefl _ none) _) (balloc3_1 w o0 o1 o2) (by simp)
theorem balloc4_2 (w : World) (o0 o1 o2 o3 : Obj) : ((((w.alloc o0).alloc o1).alloc o2).alloc o3).heap[w.heap.size + 2]? = some o2 := by
  exact gblock (galloc (grefl _ none) _) (balloc3_2 w o0 o1 o2) (by simp)
theorem balloc4_3 (w : World) (o0 o1 o2 o3 : Obj) : ((((w.alloc o0).alloc o1).alloc o2).alloc o3).heap[w.heap.size + 3]? = some o3 := by
  have h := balloc (((w.alloc o0).alloc o1).alloc o2) o3
  simp only [asz, Nat.add_assoc, Nat.reduceAdd] at h
  exact h
end Go.Proofs.YthgendgmlpaglaaDoor
