/-
  The document's table: Put.
-/
import Derived.Test.YtijjfdmklbncbaaDoorCo04l
import Derived.Test.YtijjfdmklbncbaaDoorCo04b
namespace Go.Proofs.YtijjfdmklbncbaaDoor
open Go.RowKit

theorem Tryd.infoEnt : (Tryd.prog.info? 95).map (fun i => (i.zero, i.size, i.bytes)) = some (some (.agg #[.string ByteArray.empty, .int .i64 0]), 2, 24) := by kernel_rfl
theorem tbv_snoc (T : Tb) (s : ByteArray) (p : Nat) : tbv (T ++ [(s, p)]) = tbv T ++ [.string s, .int .i64 (p : Int)] := by simp [tbv]
theorem suf_root {n : ByteArray} {p : Nat} (hsc : scan n p = true) (h0 : bt n p = 0) : suf n p = ⟨#[0]⟩ := by
  rw [suf_eq, drop_root hsc h0]
theorem suf_not {n : ByteArray} {p : Nat} (hsc : scan n p = true) (h0 : ¬ bt n p = 0) : ¬ suf n p = ⟨#[0]⟩ := by
  intro e
  have h1 := suf_sz n p
  rw [e] at h1
  obtain ⟨_, h2, _⟩ := scan_lab hsc h0
  have : (⟨#[0]⟩ : ByteArray).size = 1 := rfl
  omega
theorem suf_get {n : ByteArray} {p : Nat} : bt (suf n p) 0 = bt n p := by
  rw [suf_eq]
  unfold bt
  show ((n.data.toList.drop p)[0]?.getD 0).toNat = _
  rw [List.getElem?_drop]
  rfl
theorem suf_front {n : ByteArray} {p : Nat} (_h : p + 1 + bt n p ≤ n.size) : (suf n p).extract 0 (1 + bt n p) = ⟨(lab n p).toArray⟩ := by
  refine ba_ext ?_
  rw [Lib.extract_data, suf_list, lab_eq']
  simp
theorem suf_back {n : ByteArray} {p k : Nat} : (suf n p).extract k (suf n p).size = suf n (p + k) := by
  refine ba_ext ?_
  rw [Lib.extract_data, suf_list, suf_list, suf_sz, List.drop_drop]
  rw [List.take_of_length_le (by rw [List.length_drop, nlen]; omega)]
theorem str_lab' (out : List UInt8) (n : ByteArray) (p : Nat) : (⟨out.toArray⟩ : ByteArray) ++ (⟨(lab n p).toArray⟩ : ByteArray) = ⟨(out ++ lab n p).toArray⟩ := mk_append_list _ _
theorem ptr_str (k : Nat) (h : k ≤ 16383) : [Value.int .u8 (192 + (k : Int) / 256), Value.int .u8 ((k : Int) % 256)] = bv (ptrB k) := by
  simp [bv, ptrB]
  omega

/-- What the document's Put holds at its loop's head. -/
structure RpL (w : World) (b : Nat) (T : Tb) (a : List UInt8) (n : ByteArray) (cmp known : Bool) (p : Nat) (v : Value) (T' : Tb) (out : List UInt8) (wr : World) : Prop where
  sc : scan n p = true
  tab : RT wr b v T'
  low : Low T'
  gr : w.grownBy wr (some b)
  eq : putF n cmp known 0 T a = putF n cmp known p T' out
  few : T'.length + (n.size - p) ≤ T.length + n.size
  len : out.length ≤ a.length + p

theorem RpL.next {w wr w2 : World} {b : Nat} {T : Tb} {a : List UInt8} {n : ByteArray} {cmp known : Bool} {p : Nat} {v v2 : Value} {T' T2 : Tb} {out : List UInt8} (h : RpL w b T a n cmp known p v T' out wr) (h0 : ¬ bt n p = 0) (hc : tget T' (suf n p) = none ∨ cmp = false) (hT : tadd n known p T' out.length = T2) (k : RT w2 b v2 T2) (g : w.grownBy w2 (some b)) : RpL w b T a n cmp known (p + 1 + bt n p) v2 T2 (out ++ lab n p) w2 := by
  obtain ⟨h1, h2, h3⟩ := scan_lab h.sc h0
  refine ⟨h3, k, hT ▸ tadd_low h.low _ _ _ _, g, h.eq.trans ?_, ?_, ?_⟩
  · rw [← hT]; exact putF_step (by omega) h0 hc
  · have := h.few
    have := tadd_len n known p T' out.length
    rw [hT] at this
    omega
  · have := h.len
    rw [List.length_append, lab_len n p (by omega)]
    omega
theorem tbv_one (T : Tb) : ∀ u ∈ tbv T, u.oneCell' = true := by
  intro u hu
  unfold tbv at hu
  rw [List.mem_flatMap] at hu
  obtain ⟨x, _, hx⟩ := hu
  simp at hx
  rcases hx with rfl | rfl <;> rfl
theorem sl_pair (w : World) (e : TypeId) (u0 u1 : Value) : Sl (w.alloc (.cells #[u0, u1] e)) 2 (.slice (some ⟨w.heap.size, 0, none⟩) 1 1) 1 [u0, u1] := by
  refine ⟨_, _, rfl, Nat.le_refl _, rfl, by simp, fun _ => ⟨_, _, rfl, fun j u hu => ?_⟩⟩
  rw [bcellAt (balloc w (.cells #[u0, u1] e)), ← Array.getElem?_toList]
  simpa using hu

set_option maxRecDepth 100000 in
set_option maxHeartbeats 2000000 in
theorem rput_ok (b : Nat) (v : Value) (T : Tb) (a : List UInt8) (n : ByteArray) (cmp known : Bool) (w : World) (h : RT w b v T) (hlow : Low T) (hn : may n = true) (hT : T.length + n.size ≤ 1000000) (hal : a.length ≤ 1000000) :
    Calls Tryd.prog 35 #[.pointer (some ⟨b, 0, none⟩), .string ⟨a.toArray⟩, .string n, .bool cmp, .bool known] w fun e w' =>
      e = .returned (.tuple #[.string ⟨(putF n cmp known 0 T a).1.toArray⟩, .int .i64 0]) ∧ ∃ v', RT w' b v' (putF n cmp known 0 T a).2 ∧ w.grownBy w' (some b) := by
  obtain ⟨hn255, hsc⟩ := may_size hn
  have HT := Lib.hid h
  have HLow := Lib.hid hlow
  have hb := blt h.cell
  obtain ⟨i3, i3h, i3z, i3s, i3b⟩ := info_parts Tryd.infoEnt
  clear h hlow
  have hO : (⟨a.toArray⟩ : ByteArray).size = a.length := size_mk a
  go_enter Tryd.func35, Tryd.ntmps35
  go_wp2_with fail
  refine (rmay_any n w (by omega)).mono ?_
  rintro e w1 ⟨rfl, hg⟩
  have HL := Lib.hid (show RpL w b T a n cmp known 0 v T a w1 from ⟨hsc, HT.out.kept0 hg, HLow.out, gmono hg, rfl, by omega, by omega⟩)
  clear hg
  go_wp2_with fail
  go_loopw [1, 2] (fun vb vn wr => ∃ (p : Nat) (v' : Value) (T' : Tb) (out : List UInt8), vb = .string ⟨out.toArray⟩ ∧ vn = .string (suf n p) ∧ RpL w b T a n cmp known p v' T' out wr) (fun _ vn _ => (match vn with | .string s => s.size | _ => 0))
  case atStart => exact ⟨0, v, T, a, rfl, by rw [show suf n 0 = n by rw [suf_eq]; simp], HL.out⟩
  case round =>
    clear HL hO
    obtain ⟨p, v', T', out, rfl, rfl, hr⟩ := hrel
    have R0 := Lib.hid hr
    have hlt := scan_lt hr.sc
    have hbt := bt_lt n p
    have hlen := hr.len
    have hfew := hr.few
    obtain ⟨A, cap, rfl, hcap, hcm⟩ := own_shape hr.tab.row
    unfold maxLen at hcm
    have hO : (⟨out.toArray⟩ : ByteArray).size = out.length := size_mk out
    clear hr
    by_cases hz : bt n p = 0
    · have hsr := suf_root R0.out.sc hz
      have HN := Lib.hid (R0.out.eq.trans (putF_end hz))
      have HS := Lib.hid (str_end out)
      rw [hsr]
      generalize (⟨out.toArray⟩ : ByteArray) = O at *
      clear hsr
      go_wp2_with fail
      go_ret2
      rw [HN.out, HS.out]
      exact ⟨rfl, _, R0.out.tab, R0.out.gr⟩
    · have z0 : ((suf n p).toList == [0]) = false := by
        have e := str_ne (suf_not R0.out.sc hz)
        rwa [show (⟨#[0]⟩ : ByteArray).toList = [0] by rw [ByteArray.toList_eq]] at e
      have hx := scan_lab R0.out.sc hz
      have hss := suf_sz n p
      have hs1 : 2 + bt n p ≤ (suf n p).size := by omega
      have hs2 : (suf n p).size ≤ 255 := by omega
      have hsg := suf_get (n := n) (p := p)
      have hs0 : 0 < (suf n p).size := by omega
      have hg0 := (bt_get (suf n p) 0 hs0).symm
      have l1 := (suf n p)[0].toNat_lt
      rw [hsg] at hg0
      have HF := Lib.hid (suf_front (n := n) (p := p) (by omega))
      have HB := Lib.hid (suf_back (n := n) (p := p) (k := 1 + bt n p))
      have HSL := Lib.hid (str_lab' out n p)
      have hll := lab_len n p (by omega)
      clear hss
      generalize hSs : suf n p = S at *
      generalize hOo : (⟨out.toArray⟩ : ByteArray) = O at *
      go_wp2_with fail
      refine (rat_any b _ T' S wr R0.out.tab (by omega)).mono ?_
      rintro e w2 ⟨rfl, hq⟩
      subst hq
      cases hk : tget T' S with
      | some k =>
        have hkl : k ≤ 16383 := R0.out.low _ (tget_mem hk)
        simp only [Option.getD_some, Option.isSome_some]
        cases cmp with
        | true =>
          subst hSs
          have HN := Lib.hid (R0.out.eq.trans (putF_ptr hlt hz hk rfl))
          have hof := Lib.hid (ptr_str k hkl)
          have hcv := cvs (sl_new wr 5 (ptrB k) #[.int .u8 (192 + (k : Int) / 256), .int .u8 ((k : Int) % 256)] 2 (by exact hof.out) rfl)
          have hpz : (⟨(ptrB k).toArray⟩ : ByteArray).size = 2 := rfl
          have HS := Lib.hid (mk_append_list out (ptrB k))
          rw [hOo] at HS
          generalize (⟨(ptrB k).toArray⟩ : ByteArray) = PB at *
          go_wp2_with fail
          go_ret2
          rw [HN.out, ← HS.out]
          exact ⟨rfl, _, R0.out.tab.kept0 (galloc (grefl _ none) _), galloc R0.out.gr _⟩
        | false =>
          have RP := Lib.hid (R0.out.next (T2 := T') hz (.inr rfl) (by unfold tadd; rw [hSs, hk, if_neg (by simp)]) R0.out.tab R0.out.gr)
          cases known with
          | true =>
            have hXs : (S.extract 0 (1 + bt n p)).size = 1 + bt n p := by rw [ByteArray.size_extract]; omega
            have hYs : (S.extract (1 + bt n p) S.size).size = S.size - (1 + bt n p) := by rw [ByteArray.size_extract]; omega
            generalize hX : S.extract 0 (1 + bt n p) = X at *
            generalize hY : S.extract (1 + bt n p) S.size = Y at *
            go_wp2_with fail
            go_roundw
            case rel => exact ⟨p + 1 + bt n p, _, _, out ++ lab n p, by rw [← HSL.out, ← HF.out], by rw [hY, HB.out]; congr 2; omega, RP.out⟩
            case measure =>
              show (S.extract (1 + bt n p) S.size).size < S.size
              rw [hY]
              omega
          | false =>
            have hXs : (S.extract 0 (1 + bt n p)).size = 1 + bt n p := by rw [ByteArray.size_extract]; omega
            have hYs : (S.extract (1 + bt n p) S.size).size = S.size - (1 + bt n p) := by rw [ByteArray.size_extract]; omega
            generalize hX : S.extract 0 (1 + bt n p) = X at *
            generalize hY : S.extract (1 + bt n p) S.size = Y at *
            go_wp2_with fail
            go_roundw
            case rel => exact ⟨p + 1 + bt n p, _, _, out ++ lab n p, by rw [← HSL.out, ← HF.out], by rw [hY, HB.out]; congr 2; omega, RP.out⟩
            case measure =>
              show (S.extract (1 + bt n p) S.size).size < S.size
              rw [hY]
              omega
      | none =>
        simp only [Option.getD_none, Option.isSome_none]
        cases known with
        | true =>
          by_cases h16 : out.length ≤ 16383
          · have k16 : decide ((out.length : Int) ≤ 16383) = true := by simp; omega
            have hbw := blt R0.out.tab.cell
            have c0 : (wr.alloc (.cells #[] 95)).cell? ⟨b, 0, none⟩ = some (.slice A T'.length cap) := bcellAt (gblock (galloc (grefl wr none) _) R0.out.tab.cell (by simp)) 0
            go_wp2_with (at_builtin; refine wpList_app_k rfl (.tmp 52) (.tmp 56) 34 rfl wr.heap.size 95 i3 _ 2 24 Tryd.underlying34 i3h i3z i3s i3b rfl (by decide) _ 0 T'.length [] (tbv T') rfl (own_none wr _ _ 2 (Nat.le_refl _)) _ rfl ((FS.of R0.out.tab.row).sl.kept0 (galloc (grefl _ none) _)) (tbv_one T') ?y2 ?y3 ?y4 ?_)
            case y2 => unfold maxLen; omega
            case y3 => omega
            case y4 => simp
            intro v4 w4 ho4 hg4
            have G4 := Lib.hid (show wr.grownBy w4 none from gnew (gfr1 hg4) (fun r e => by simp [Value.ownBlock] at e; omega))
            have O4 := Lib.hid (show w4.ownsRow wr.heap.size 95 2 v4 T'.length (tbv T') by simpa using ho4)
            clear ho4 hg4 c0
            go_wp2_with (at_builtin; refine wpList_app_k rfl (.tmp 57) (.tmp 62) 34 rfl wr.heap.size 95 i3 _ 2 24 Tryd.underlying34 i3h i3z i3s i3b rfl (by decide) _ T'.length 1 (tbv T') [.string S, .int .i64 (out.length : Int)] rfl (own_kept0 O4.out (galloc (grefl _ none) _)) _ rfl (sl_pair w4 _ _ _) (by intro u hu; simp at hu; rcases hu with rfl | rfl <;> rfl) ?x2 ?x3 ?x4 ?_)
            case x2 => unfold maxLen; omega
            case x3 => omega
            case x4 => have := G4.out.size; simp; omega
            intro v5 w5 ho5 hg5
            have B5 := Lib.hid (show w5.heap[b]? = some (.cells #[.slice A T'.length cap] 36 (0, 0)) from gblock (gfr1 hg5) (gblock G4.out R0.out.tab.cell (by simp)) (fun e => by have := (World.ownsRow.lt O4.out b e.symm).1; omega))
            have G5 := Lib.hid (show w.grownBy w5 (some b) from gtrans R0.out.gr (gmono (gstep G4.out (gfr1 hg5) (fun r e => (World.ownsRow.lt O4.out r e).1))))
            have O5 := Lib.hid ho5
            obtain ⟨A5, c5, rfl, _, _⟩ := own_shape ho5
            have c0 : w5.cell? ⟨b, 0, none⟩ = some (.slice A T'.length cap) := bcellAt B5.out 0
            have f0 : w5.frozen? ⟨b, 0, none⟩ = false := bfree B5.out 0
            clear ho5 hg5
            have RP := Lib.hid (R0.out.next (T2 := T' ++ [(S, out.length)]) (w2 := w5.setCell ⟨b, 0, none⟩ (.slice A5 (T'.length + 1) c5)) (v2 := .slice A5 (T'.length + 1) c5) hz (.inl (by rw [hSs]; exact hk)) (by unfold tadd; rw [if_pos ⟨rfl, by rw [hSs]; exact hk, h16⟩, hSs])
              ⟨(bset B5.out 0 _).trans (by simp), by rw [List.length_append, tbv_snoc]; exact own_kept (row_base O5.out hbw) (gset (grefl w5 (some b)) (.inl rfl) _) (by omega)⟩ (gset G5.out (.inl rfl) _))
            have hXs : (S.extract 0 (1 + bt n p)).size = 1 + bt n p := by rw [ByteArray.size_extract]; omega
            have hYs : (S.extract (1 + bt n p) S.size).size = S.size - (1 + bt n p) := by rw [ByteArray.size_extract]; omega
            generalize hX : S.extract 0 (1 + bt n p) = X at *
            generalize hY : S.extract (1 + bt n p) S.size = Y at *
            go_wp2_with fail
            go_roundw
            case rel => exact ⟨p + 1 + bt n p, _, _, out ++ lab n p, by rw [← HSL.out, ← HF.out], by rw [hY, HB.out]; congr 2; omega, RP.out⟩
            case measure =>
              show (S.extract (1 + bt n p) S.size).size < S.size
              rw [hY]
              omega
          · have k16 : decide ((out.length : Int) ≤ 16383) = false := by simp; omega
            have RP := Lib.hid (R0.out.next (T2 := T') hz (.inl (by rw [hSs]; exact hk)) (by unfold tadd; rw [if_neg (by simp; omega)]) R0.out.tab R0.out.gr)
            have hXs : (S.extract 0 (1 + bt n p)).size = 1 + bt n p := by rw [ByteArray.size_extract]; omega
            have hYs : (S.extract (1 + bt n p) S.size).size = S.size - (1 + bt n p) := by rw [ByteArray.size_extract]; omega
            generalize hX : S.extract 0 (1 + bt n p) = X at *
            generalize hY : S.extract (1 + bt n p) S.size = Y at *
            go_wp2_with fail
            go_roundw
            case rel => exact ⟨p + 1 + bt n p, _, _, out ++ lab n p, by rw [← HSL.out, ← HF.out], by rw [hY, HB.out]; congr 2; omega, RP.out⟩
            case measure =>
              show (S.extract (1 + bt n p) S.size).size < S.size
              rw [hY]
              omega
        | false =>
          have RP := Lib.hid (R0.out.next (T2 := T') hz (.inl (by rw [hSs]; exact hk)) (by unfold tadd; rw [if_neg (by simp)]) R0.out.tab R0.out.gr)
          have hXs : (S.extract 0 (1 + bt n p)).size = 1 + bt n p := by rw [ByteArray.size_extract]; omega
          have hYs : (S.extract (1 + bt n p) S.size).size = S.size - (1 + bt n p) := by rw [ByteArray.size_extract]; omega
          generalize hX : S.extract 0 (1 + bt n p) = X at *
          generalize hY : S.extract (1 + bt n p) S.size = Y at *
          go_wp2_with fail
          go_roundw
          case rel => exact ⟨p + 1 + bt n p, _, _, out ++ lab n p, by rw [← HSL.out, ← HF.out], by rw [hY, HB.out]; congr 2; omega, RP.out⟩
          case measure =>
            show (S.extract (1 + bt n p) S.size).size < S.size
            rw [hY]
            omega

theorem rput_no (b : Nat) (s n : ByteArray) (cmp known : Bool) (w : World) (hn : may n = false) (hs : n.size ≤ 1000000) :
    Calls Tryd.prog 35 #[.pointer (some ⟨b, 0, none⟩), .string s, .string n, .bool cmp, .bool known] w fun e w' => e = .returned (.tuple #[.string ByteArray.empty, .int .i64 3]) ∧ w.grownBy w' none := by
  go_enter Tryd.func35, Tryd.ntmps35
  go_wp2_with fail
  refine (rmay_any n w hs).mono ?_
  rintro e w1 ⟨rfl, hg⟩
  go_wp2_with fail
  go_ret2
  exact ⟨rfl, hg⟩
end Go.Proofs.YtijjfdmklbncbaaDoor
