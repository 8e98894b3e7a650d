/-
  comp.Table.Put.
-/
import Derived.Test.YtijjfdmklbncbaaDoorCoTab
import Derived.Test.YtijjfdmklbncbaaDoorCo04c
import Derived.Test.YtijjfdmklbncbaaDoorCo04a
namespace Go.Proofs.YtijjfdmklbncbaaDoor
open Go.RowKit

/-- What Put holds at its loop's head. -/
structure PtL (w : World) (b : Nat) (m : Option Nat) (T : Tb) (a : List UInt8) (n : ByteArray) (cmp known : Bool) (p : Nat) (T' : Tb) (out : List UInt8) (mr : Option Nat) (v : Value) (wr : World) : Prop where
  sc : scan n p = true
  own : Own wr w.heap.size v out
  tab : Tab wr b mr T'
  tg : TG w wr b m
  ms : ∀ i, mr = some i → m = some i ∨ w.heap.size ≤ i
  eq : putF n cmp known 0 T a = putF n cmp known p T' out
  few : T'.length + (n.size - p) ≤ T.length + n.size
  len : out.length ≤ a.length + p
theorem own_ne_map {w : World} {base bm : Nat} {v : Value} {l : List UInt8} {T : Tb} (h : Own w base v l) (k : MapT w bm T) : v.ownBlock ≠ some bm := by
  obtain ⟨D, ⟨es, clock, hb, _⟩, _⟩ := k
  rcases h.2 with ⟨rfl, _⟩ | ⟨g, cap, cur, rfl, _, hg, _⟩
  · simp [Value.ownBlock]
  · intro e
    simp [Value.ownBlock] at e
    subst e
    rw [hg] at hb
    cases hb
theorem PtL.ne {w : World} {b : Nat} {m : Option Nat} {T : Tb} {a : List UInt8} {n : ByteArray} {cmp known : Bool} {p : Nat} {T' : Tb} {out : List UInt8} {mr : Option Nat} {v : Value} {wr : World} (h : PtL w b m T a n cmp known p T' out mr v wr) (hb : b < w.heap.size) : v.ownBlock ≠ some b ∧ (mr = none ∨ v.ownBlock ≠ mr) := by
  constructor
  · intro e
    have := (h.own.block b e).1
    omega
  · cases mr with
    | none => exact .inl rfl
    | some bm => exact .inr (own_ne_map h.own (h.tab.some bm rfl).1)
theorem tg_ms {w wr : World} {b : Nat} {m mr m' : Option Nat} (h : TG w wr b m) (h1 : ∀ i, mr = some i → m = some i ∨ w.heap.size ≤ i) (h2 : ∀ i, m' = some i → mr = some i ∨ wr.heap.size ≤ i) : ∀ i, m' = some i → m = some i ∨ w.heap.size ≤ i := by
  intro i e
  rcases h2 i e with h3 | h3
  · exact h1 i h3
  · exact .inr (Nat.le_trans h.size h3)
/-- A piece more at the end. -/
theorem PtL.app {w : World} {b : Nat} {m : Option Nat} {T : Tb} {a : List UInt8} {n : ByteArray} {cmp known : Bool} {p : Nat} {T' : Tb} {out : List UInt8} {mr : Option Nat} {v : Value} {wr : World} (h : PtL w b m T a n cmp known p T' out mr v wr) (hb : b < w.heap.size) {wq : World} {v' : Value} {out' : List UInt8} (g : wr.grownBy wq v.ownBlock) (o : Own wq w.heap.size v' out') :
    Own wq w.heap.size v' out' ∧ Tab wq b mr T' ∧ TG w wq b m := by
  have hn := h.ne hb
  refine ⟨o, h.tab.kept g hn.1 ?_, ?_⟩
  · rcases hn.2 with h2 | h2
    · cases hv : v.ownBlock with
      | none => exact .inl rfl
      | some k => exact .inr (by rw [h2]; simp)
    · exact .inr h2
  · refine ⟨g.os.trans h.tg.os, g.tape.trans h.tg.tape, g.output.trans h.tg.output, Nat.le_trans h.tg.size g.size, fun i hi h1 h2 => (g.block i (Nat.lt_of_lt_of_le hi h.tg.size) ?_).trans (h.tg.block i hi h1 h2)⟩
    intro e
    have := (h.own.block i e.symm).1
    omega
/-- The same with the table behind the label, ahead of the label's bytes. -/
structure PtM (w : World) (b : Nat) (m : Option Nat) (T' : Tb) (out : List UInt8) (mr : Option Nat) (v : Value) (wr : World) : Prop where
  own : Own wr w.heap.size v out
  tab : Tab wr b mr T'
  tg : TG w wr b m
  ms : ∀ i, mr = some i → m = some i ∨ w.heap.size ≤ i
theorem PtL.m {w : World} {b : Nat} {m : Option Nat} {T : Tb} {a : List UInt8} {n : ByteArray} {cmp known : Bool} {p : Nat} {T' : Tb} {out : List UInt8} {mr : Option Nat} {v : Value} {wr : World} (h : PtL w b m T a n cmp known p T' out mr v wr) : PtM w b m T' out mr v wr := ⟨h.own, h.tab, h.tg, h.ms⟩
theorem PtM.quiet {w : World} {b : Nat} {m : Option Nat} {T' : Tb} {out : List UInt8} {mr : Option Nat} {v : Value} {wr w2 : World} (h : PtM w b m T' out mr v wr) (g : wr.grownBy w2 none) : PtM w b m T' out mr v w2 :=
  ⟨h.own.kept0 g, h.tab.kept0 g, TG.trans h.tg (TG.of0 g b none) (fun i e => by cases e), h.ms⟩
theorem PtM.ne {w : World} {b : Nat} {m : Option Nat} {T' : Tb} {out : List UInt8} {mr : Option Nat} {v : Value} {wr : World} (h : PtM w b m T' out mr v wr) (hb : b < w.heap.size) : v.ownBlock ≠ some b ∧ (mr = none ∨ v.ownBlock ≠ mr) := by
  constructor
  · intro e
    have := (h.own.block b e).1
    omega
  · cases mr with
    | none => exact .inl rfl
    | some bm => exact .inr (own_ne_map h.own (h.tab.some bm rfl).1)
theorem PtM.app {w : World} {b : Nat} {m : Option Nat} {T' : Tb} {out out' : List UInt8} {mr : Option Nat} {v v' : Value} {wr w2 : World} (h : PtM w b m T' out mr v wr) (hb : b < w.heap.size) (g : wr.grownBy w2 v.ownBlock) (o : Own w2 w.heap.size v' out') : PtM w b m T' out' mr v' w2 := by
  have hn := h.ne hb
  refine ⟨o, h.tab.kept g hn.1 ?_, ?_, h.ms⟩
  · rcases hn.2 with h2 | h2
    · cases hv : v.ownBlock with
      | none => exact .inl rfl
      | some k => exact .inr (by rw [h2]; simp)
    · exact .inr h2
  · refine ⟨g.os.trans h.tg.os, g.tape.trans h.tg.tape, g.output.trans h.tg.output, Nat.le_trans h.tg.size g.size, fun i hi h1 h2 => (g.block i (Nat.lt_of_lt_of_le hi h.tg.size) ?_).trans (h.tg.block i hi h1 h2)⟩
    intro e
    have := (h.own.block i e.symm).1
    omega
theorem PtM.add {w : World} {b : Nat} {m : Option Nat} {T' T2 : Tb} {out : List UInt8} {mr m2 : Option Nat} {v : Value} {wr w2 : World} (h : PtM w b m T' out mr v wr) (hb : b < w.heap.size) (t : Tab w2 b m2 T2) (g : TG wr w2 b mr) (hm : ∀ i, m2 = some i → mr = some i ∨ wr.heap.size ≤ i) : PtM w b m T2 out m2 v w2 :=
  ⟨h.own.keptT g (h.ne hb).1 (h.ne hb).2, t, TG.trans h.tg g h.ms, tg_ms h.tg h.ms hm⟩
theorem PtL.next {w : World} {b : Nat} {m : Option Nat} {T : Tb} {a : List UInt8} {n : ByteArray} {cmp known : Bool} {p : Nat} {T' T2 : Tb} {out : List UInt8} {mr m2 : Option Nat} {v v' : Value} {wr w2 : World} (h : PtL w b m T a n cmp known p T' out mr v wr) (h0 : ¬ bt n p = 0) (hc : tget T' (suf n p) = none ∨ cmp = false) (hT : tadd n known p T' out.length = T2) (k : PtM w b m T2 (out ++ lab n p) m2 v' w2) : PtL w b m T a n cmp known (p + 1 + bt n p) T2 (out ++ lab n p) m2 v' w2 := by
  obtain ⟨h1, h2, h3⟩ := scan_lab h.sc h0
  refine ⟨h3, k.own, k.tab, k.tg, k.ms, h.eq.trans ?_, ?_, ?_⟩
  · rw [← hT]; exact putF_step (by omega) h0 hc
  · have := h.few
    have := tadd_len n known p T' out.length
    rw [hT] at this
    omega
  · have := h.len
    rw [List.length_append, lab_len n p (by omega)]
    omega
theorem suf_size (n : ByteArray) (p : Nat) : (suf n p).size = n.size - p := by unfold suf; rw [ByteArray.size_extract]; omega
theorem lab_eq (n : ByteArray) (p : Nat) : lab n p = List.take (p + 1 + bt n p - p) (List.drop p n.data.toList) := Lib.extract_data _ _ _
theorem lab_size (n : ByteArray) (p : Nat) (h : p + 1 + bt n p ≤ n.size) : (n.extract p (p + 1 + bt n p)).size = 1 + bt n p := by rw [ByteArray.size_extract]; omega
theorem ptr_or (k : Nat) (h : k ≤ 16383) : bits .or .u8 192 ((k : Int) / 256) = ((192 + k / 256 : Nat) : Int) := by
  rw [show ((192 : Int)) = ((192 : Nat) : Int) by rfl, show ((k : Int) / 256) = ((k / 256 : Nat) : Int) by omega, u8_or_nat _ _ (by omega) (by omega), nat_join 6 _ _ (by decide) (by omega)]

theorem ptr_cells (k : Nat) (h : k ≤ 16383) : [Value.int .u8 (bits .or .u8 192 ((k : Int) / 256)), Value.int .u8 ((k : Int) % 256)] = bv (ptrB k) := by
  rw [ptr_or k h]
  simp [bv, ptrB]
  omega
/-- What Put gives. -/
def PutPost (b : Nat) (m : Option Nat) (T : Tb) (a : List UInt8) (n : ByteArray) (cmp known : Bool) (w : World) (e : Ending) (w' : World) : Prop :=
  ∃ v' m', e = .returned (.tuple #[v', .int .i64 0]) ∧ Own w' w.heap.size v' (putF n cmp known 0 T a).1 ∧ Tab w' b m' (putF n cmp known 0 T a).2 ∧ TG w w' b m ∧ ∀ i, m' = some i → m = some i ∨ w.heap.size ≤ i

set_option maxRecDepth 100000 in
set_option maxHeartbeats 4000000 in
theorem tput_ok (b : Nat) (m : Option Nat) (T : Tb) (va : Value) (a : List UInt8) (n : ByteArray) (cmp known : Bool) (w : World) (h : Tab w b m T) (ha : SlB w va a) (hn : may n = true) (hT : T.length + n.size ≤ 1000000) (hal : a.length ≤ 1000000000) :
    Calls Tryd.prog 28 #[.pointer (some ⟨b, 0, none⟩), va, .string n, .bool cmp, .bool known] w (PutPost b m T a n cmp known w) := by
  obtain ⟨hn255, hsc⟩ := may_size hn
  have hb := blt h.cell
  have HT := Lib.hid h
  have HA := Lib.hid ha
  obtain ⟨A, capa, rfl, _, _, _⟩ := ha
  obtain ⟨i0, hi, hz0, hz1, hz2⟩ := info_parts Tryd.infoByte
  clear h
  go_enter Tryd.func28, Tryd.ntmps28
  go_wp2_with fail
  refine (may_any n w).mono ?_
  rintro e w1 ⟨rfl, rfl⟩
  go_wp2_with (at_make; refine wpList_make_own _ rfl _ _ 30 rfl w.heap.size 5 i0 (.int .u8 0) 1 Tryd.underlying30 hi hz0 hz1 _ _ _ (a.length + n.size) rfl rfl (by omega) ?b2 ?b3 (Nat.le_refl _) ?_)
  case b2 => rw [hz2]; omega
  case b3 => unfold maxLen; omega
  intro w0 hown0 hgrow0
  have ho0 : Own w0 w.heap.size (.slice (some ⟨w.heap.size, 0, none⟩) ([] : List UInt8).length (a.length + n.size)) [] := hown0
  go_wp2_with (at_builtin; refine wpList_app_sl rfl (.tmp 28) (.tmp 29) 30 rfl w.heap.size i0 Tryd.underlying30 hi hz0 hz1 hz2 _ [] a rfl ho0 _ rfl (HA.out.kept0 hgrow0) ?c1 ?c2 ?_)
  case c1 => simp; omega
  case c2 => exact hgrow0.size
  intro v1 w1 ho1 hg1
  have HL := Lib.hid (show PtL w b m T a n cmp known 0 T a m v1 w1 from by
    have g01 : w.grownBy w1 none := gstep hgrow0 hg1 (fun r hr => (ho0.block r hr).1)
    exact ⟨hsc, ho1, HT.out.kept0 g01, TG.of0 g01 _ _, fun i e => .inl e, rfl, by omega, by omega⟩)
  clear ho1 hg1 ho0 hown0 hgrow0
  go_wp2_with fail
  go_loopw [12, 13] (fun vo vp wr => ∃ (p : Nat) (T' : Tb) (out : List UInt8) (mr : Option Nat), vp = .int .i64 p ∧ PtL w b m T a n cmp known p T' out mr vo wr) (fun _ vp _ => 300 - (intOf vp).toNat)
  case atStart => exact ⟨0, T, a, m, rfl, HL.out⟩
  case round =>
    obtain ⟨p, T', out, mr, rfl, hr⟩ := hrel
    have R0 := Lib.hid hr
    have hlt := scan_lt hr.sc
    have hg := (bt_get n p hlt).symm
    have hbt := bt_lt n p
    have l1 := n[p].toNat_lt
    obtain ⟨O, cap, rfl, hcap, hcm⟩ := hr.own.shape
    unfold maxLen at hcm
    have hlen := hr.len
    have c0 : wr.cell? ⟨b, 0, none⟩ = some (.map mr) := bcellAt hr.tab.cell 0
    have hlk := fun k => (hr.tab.kept0 (gdrewN (grefl wr none) k)).look (suf n p) (by rw [suf_size]; unfold maxLen; omega)
    clear hr
    by_cases hz : bt n p = 0
    · have z0 : (((bt n p : Nat) : Int) != 0) = false := by simp; omega
      have HN := Lib.hid (R0.out.eq.trans (putF_end hz))
      go_wp2_with (at_builtin; refine wpList_app_sl rfl (.tmp 90) (.tmp 91) 30 rfl w.heap.size i0 Tryd.underlying30 hi hz0 hz1 hz2 _ out [0] rfl (R0.out.own.kept0 (galloc (grefl _ none) _)) _ rfl (sl_new wr _ [0] _ 1 rfl rfl) ?d1 ?d2 ?_)
      case d1 => simp; omega
      case d2 => have := R0.out.tg.size; simp; omega
      intro v2 w2 ho2 hg2
      have Z := Lib.hid (R0.out.app hb (gfr1 hg2) ho2)
      obtain ⟨O2, c2, rfl, _, _⟩ := ho2.shape
      clear ho2 hg2
      go_wp2_with fail
      go_ret2
      refine ⟨_, _, rfl, ?_, ?_, Z.out.2.2, R0.out.ms⟩
      · rw [HN.out]; exact Z.out.1
      · rw [HN.out]; exact Z.out.2.1
    · have z0 : (((bt n p : Nat) : Int) != 0) = true := by simp; omega
      have hss := suf_size n p
      cases hk : tget T' (suf n p) with
      | some k =>
        have hkl : k ≤ 16383 := R0.out.tab.low _ (tget_mem hk)
        rw [hk] at hlk
        simp only [Option.getD_some, Option.isSome_some] at hlk
        cases cmp with
        | true =>
          have HN := Lib.hid (R0.out.eq.trans (putF_ptr hlt hz hk rfl))
          unfold suf at hlk
          go_wp2_with fail
          go_quiet (fail)
          have M3 := Lib.hid (R0.out.m.quiet (gdrewN (grefl wr none) nq))
          generalize wr.drewN nq = w3 at *
          have hof := Lib.hid (ptr_cells k hkl)
          go_wp2_with (at_builtin; refine wpList_app_sl rfl (.tmp 50) (.tmp 57) 30 rfl w.heap.size i0 Tryd.underlying30 hi hz0 hz1 hz2 _ out (ptrB k) rfl (M3.out.own.kept0 (galloc (grefl _ none) _)) _ rfl (sl_new w3 _ (ptrB k) _ 2 (by exact hof.out) rfl) ?d1 ?d2 ?_)
          case d1 => simp [ptrB]; omega
          case d2 => have := M3.out.tg.size; simp; omega
          intro v2 w2 ho2 hg2
          have Z := Lib.hid (M3.out.app hb (gfr1 hg2) ho2)
          obtain ⟨O2, c2, rfl, _, _⟩ := ho2.shape
          clear ho2 hg2
          go_wp2_with fail
          go_ret2
          refine ⟨_, _, rfl, ?_, ?_, Z.out.tg, R0.out.ms⟩
          · rw [HN.out]; exact Z.out.own
          · rw [HN.out]; exact Z.out.tab
        | false =>
          have HK := Lib.hid hk
          clear hk
          unfold suf at hlk
          go_wp2_with fail
          go_quiet (fail)
          have M4 := Lib.hid (R0.out.m.quiet (gdrewN (grefl wr none) nq))
          generalize wr.drewN nq = w3 at *
          cases known with
          | true =>
            have hx2 := (scan_lab R0.out.sc hz).2.1
            have hL := lab_size n p (by omega)
            go_wp2_with (at_builtin; refine wpList_app_str rfl (.tmp 83) (.tmp 87) 30 9 rfl w.heap.size i0 Tryd.underlying30 Tryd.underlying9 hi hz0 hz1 hz2 _ _ rfl M4.out.own (n.extract p (p + 1 + bt n p)) rfl ?e1 ?e2 ?_)
            case e1 => omega
            case e2 => exact M4.out.tg.size
            intro v6 w6 ho6 hg6
            have R6 := Lib.hid (R0.out.next hz (.inr rfl) (by unfold tadd; rw [HK.out, if_neg (by simp)]) (M4.out.app hb hg6 (by rw [lab_eq]; exact ho6)))
            obtain ⟨A6, c6, rfl, _, _⟩ := ho6.shape
            clear ho6 hg6
            go_wp2_with fail
            go_roundw
            case rel => exact ⟨p + 1 + bt n p, _, _, _, by go_num, R6.out⟩
            case measure => simp [intOf]; omega
          | false =>
            have hx2 := (scan_lab R0.out.sc hz).2.1
            have hL := lab_size n p (by omega)
            go_wp2_with (at_builtin; refine wpList_app_str rfl (.tmp 83) (.tmp 87) 30 9 rfl w.heap.size i0 Tryd.underlying30 Tryd.underlying9 hi hz0 hz1 hz2 _ _ rfl M4.out.own (n.extract p (p + 1 + bt n p)) rfl ?e1 ?e2 ?_)
            case e1 => omega
            case e2 => exact M4.out.tg.size
            intro v6 w6 ho6 hg6
            have R6 := Lib.hid (R0.out.next hz (.inr rfl) (by unfold tadd; rw [HK.out, if_neg (by simp)]) (M4.out.app hb hg6 (by rw [lab_eq]; exact ho6)))
            obtain ⟨A6, c6, rfl, _, _⟩ := ho6.shape
            clear ho6 hg6
            go_wp2_with fail
            go_roundw
            case rel => exact ⟨p + 1 + bt n p, _, _, _, by go_num, R6.out⟩
            case measure => simp [intOf]; omega
      | none =>
        have HK := Lib.hid hk
        rw [hk] at hlk
        simp only [Option.getD_none, Option.isSome_none] at hlk
        clear hk
        unfold suf at hlk
        go_wp2_with fail
        go_quiet (fail)
        have M3 := Lib.hid (R0.out.m.quiet (gdrewN (grefl wr none) nq))
        generalize wr.drewN nq = w3 at *
        cases known with
        | true =>
          by_cases h16 : out.length ≤ 16383
          · have hfew := R0.out.few
            unfold suf at hss
            go_wp2_with fail
            refine (tadd_any b mr T' (n.extract p n.size) out.length w3 M3.out.tab (by omega) h16 HK.out (by omega)).mono ?_
            rintro e w4 ⟨rfl, m4, ht4, hg4, hm4⟩
            have M4 := Lib.hid (M3.out.add hb ht4 hg4 hm4)
            clear ht4 hg4 hm4
            have hx2 := (scan_lab R0.out.sc hz).2.1
            have hL := lab_size n p (by omega)
            go_wp2_with (at_builtin; refine wpList_app_str rfl (.tmp 83) (.tmp 87) 30 9 rfl w.heap.size i0 Tryd.underlying30 Tryd.underlying9 hi hz0 hz1 hz2 _ _ rfl M4.out.own (n.extract p (p + 1 + bt n p)) rfl ?e1 ?e2 ?_)
            case e1 => omega
            case e2 => exact M4.out.tg.size
            intro v6 w6 ho6 hg6
            have R6 := Lib.hid (R0.out.next hz (.inl HK.out) (by unfold tadd; rw [if_pos ⟨rfl, HK.out, h16⟩]; rfl) (M4.out.app hb hg6 (by rw [lab_eq]; exact ho6)))
            obtain ⟨A6, c6, rfl, _, _⟩ := ho6.shape
            clear ho6 hg6
            go_wp2_with fail
            go_roundw
            case rel => exact ⟨p + 1 + bt n p, _, _, _, by go_num, R6.out⟩
            case measure => simp [intOf]; omega
          · have M4 := M3
            have hx2 := (scan_lab R0.out.sc hz).2.1
            have hL := lab_size n p (by omega)
            go_wp2_with (at_builtin; refine wpList_app_str rfl (.tmp 83) (.tmp 87) 30 9 rfl w.heap.size i0 Tryd.underlying30 Tryd.underlying9 hi hz0 hz1 hz2 _ _ rfl M4.out.own (n.extract p (p + 1 + bt n p)) rfl ?e1 ?e2 ?_)
            case e1 => omega
            case e2 => exact M4.out.tg.size
            intro v6 w6 ho6 hg6
            have R6 := Lib.hid (R0.out.next hz (.inl HK.out) (by unfold tadd; rw [if_neg (by simp; omega)]) (M4.out.app hb hg6 (by rw [lab_eq]; exact ho6)))
            obtain ⟨A6, c6, rfl, _, _⟩ := ho6.shape
            clear ho6 hg6
            go_wp2_with fail
            go_roundw
            case rel => exact ⟨p + 1 + bt n p, _, _, _, by go_num, R6.out⟩
            case measure => simp [intOf]; omega
        | false =>
          have M4 := M3
          have hx2 := (scan_lab R0.out.sc hz).2.1
          have hL := lab_size n p (by omega)
          go_wp2_with (at_builtin; refine wpList_app_str rfl (.tmp 83) (.tmp 87) 30 9 rfl w.heap.size i0 Tryd.underlying30 Tryd.underlying9 hi hz0 hz1 hz2 _ _ rfl M4.out.own (n.extract p (p + 1 + bt n p)) rfl ?e1 ?e2 ?_)
          case e1 => omega
          case e2 => exact M4.out.tg.size
          intro v6 w6 ho6 hg6
          have R6 := Lib.hid (R0.out.next hz (.inl HK.out) (by unfold tadd; rw [if_neg (by simp)]) (M4.out.app hb hg6 (by rw [lab_eq]; exact ho6)))
          obtain ⟨A6, c6, rfl, _, _⟩ := ho6.shape
          clear ho6 hg6
          go_wp2_with fail
          go_roundw
          case rel => exact ⟨p + 1 + bt n p, _, _, _, by go_num, R6.out⟩
          case measure => simp [intOf]; omega

theorem tput_no (b : Nat) (va : Value) (n : ByteArray) (cmp known : Bool) (w : World) (hn : may n = false) :
    Calls Tryd.prog 28 #[.pointer (some ⟨b, 0, none⟩), va, .string n, .bool cmp, .bool known] w fun e w' => e = .returned (.tuple #[.slice none 0 0, .int .i64 3]) ∧ w.grownBy w' none := by
  go_enter Tryd.func28, Tryd.ntmps28
  go_wp2_with fail
  refine (may_any n w).mono ?_
  rintro e w1 ⟨rfl, rfl⟩
  go_wp2_with fail
  go_ret2
  exact ⟨rfl, grefl _ _⟩
theorem tput_nil (va : Value) (n : ByteArray) (cmp known : Bool) (w : World) :
    Calls Tryd.prog 28 #[.pointer none, va, .string n, .bool cmp, .bool known] w fun e w' => e = .returned (.tuple #[.slice none 0 0, .int .i64 2]) ∧ w.grownBy w' none := by
  go_enter Tryd.func28, Tryd.ntmps28
  go_wp2_with fail
  go_ret2
  exact ⟨rfl, grefl _ _⟩
end Go.Proofs.YtijjfdmklbncbaaDoor
