/-
  The document's data (layer 5): pieces.
-/
import Derived.Test.YtijjfdmklbncbaaDoorDa05g
import Derived.Test.YtijjfdmklbncbaaDoorCo04b
namespace Go.Proofs.YtijjfdmklbncbaaDoor
open Go.RowKit

theorem Tryd.infoRp : (Tryd.prog.info? 77).map (fun i => (i.zero, i.size, i.bytes)) = some (some (.agg #[.string ByteArray.empty, .bool false]), 2, 24) := by kernel_rfl
theorem rpl_txt {s : ByteArray} {p : Nat} (hp : p ≤ s.size) : rplF s p 16 = txR (s.extract p s.size) := by
  have e : txF (s.extract p s.size) 0 = txF s p := by rw [txF_ext hp _ 0 rfl]; rfl
  show (if txF s p = true then _ else _) = _
  unfold txR
  rw [e]
theorem rpl_lay {s : ByteArray} {p kind : Nat} (h41 : ¬ kind = 41) (h16 : ¬ kind = 16) : rplF s p kind = match layF kind with
    | none => .ok [⟨s.extract p s.size, false, 0⟩]
    | some (a, n, b) => if s.size - p < a then .no 4 else match rnF n s (p + a) [⟨s.extract p (p + a), false, 0⟩] with
      | .no e => .no e
      | .ok l q => if s.size - q < b then .no 4 else if b < s.size - q then .no 3 else .ok (l ++ [⟨s.extract q s.size, false, 0⟩]) := by
  unfold rplF
  rw [if_neg h41, if_neg h16]
  cases layF kind with
  | none => rfl
  | some x => obtain ⟨a, n, b⟩ := x; rfl
theorem lay_small {kind a n b : Nat} (h : layF kind = some (a, n, b)) : a ≤ 16 ∧ n ≤ 2 ∧ b ≤ 20 := by
  unfold layF at h
  repeat' split at h
  all_goals (simp only [Option.some.injEq, Prod.mk.injEq, reduceCtorEq] at h)
  all_goals (obtain ⟨rfl, rfl, rfl⟩ := h)
  all_goals omega
structure RqL (w : World) (s : ByteArray) (p0 n : Nat) (hd : Pc) (i q : Nat) (out : List Pc) (v : Value) (wr : World) : Prop where
  gr : w.grownBy wr none
  own : wr.ownsRow w.heap.size 77 2 v out.length (rpcvs out)
  le : q ≤ s.size
  eq : rnF n s p0 [hd] = rnF (n - i) s q out
  len : out.length ≤ i + 1
set_option maxRecDepth 100000 in
set_option maxHeartbeats 2000000 in
theorem rpieces_any (s : ByteArray) (p kind : Nat) (w : World) (hp : p ≤ s.size) (hs : s.size ≤ 1000000) : Calls Tryd.prog 31 #[.string s, .int .i64 p, .int .u16 kind] w (RpPost (rplF s p kind) w) := by
  obtain ⟨i3, i3h, i3z, i3s, i3b⟩ := info_parts Tryd.infoRp
  by_cases h41 : kind = 41
  · have HK := Lib.hid (show rplF s p kind = .no 3 from if_pos h41)
    rw [HK.out]
    subst h41
    go_enter Tryd.func31, Tryd.ntmps31
    go_wp2_with fail
    go_ret2
    exact ⟨grefl _ _, by omega, by omega, rfl⟩
  by_cases h16 : kind = 16
  · subst h16
    rw [rpl_txt hp]
    have HT := Lib.hid (rtexts_any (s.extract p s.size) w (by rw [ext_size]; omega))
    generalize txR (s.extract p s.size) = r at *
    cases r with
    | no x =>
      go_enter Tryd.func31, Tryd.ntmps31
      go_wp2_with fail
      refine Calls.mono HT.out ?_
      rintro e w1 ⟨hg, h1, h2, rfl⟩
      have G1 := Lib.hid hg
      clear hg HT
      go_wp2_with fail
      go_ret2
      exact ⟨G1.out, h1, h2, rfl⟩
    | ok l =>
      go_enter Tryd.func31, Tryd.ntmps31
      go_wp2_with fail
      refine Calls.mono HT.out ?_
      rintro e w1 ⟨hg, v, rfl, ho⟩
      have G1 := Lib.hid hg
      have O1 := Lib.hid ho
      obtain ⟨A, cap, rfl, _, _⟩ := own_shape ho
      clear hg HT ho
      go_wp2_with fail
      go_ret2
      exact ⟨G1.out, _, rfl, O1.out⟩
  have HK := Lib.hid (rpl_lay (s := s) (p := p) h41 h16)
  have k41 : ((kind : Int) == 41) = false := by simp; omega
  have k16 : ((kind : Int) == 16) = false := by simp; omega
  have HL := Lib.hid (rlayout_any kind w)
  clear h41 h16
  cases hl : layF kind with
  | none =>
    rw [show layI kind = (0, 0, 0, false) by unfold layI; rw [hl]] at HL
    rw [hl] at HK
    rw [HK.out]
    clear hl
    go_enter Tryd.func31, Tryd.ntmps31
    go_wp2_with fail
    refine Calls.mono HL.out ?_
    rintro e wq ⟨rfl, hq⟩
    subst hq
    go_wp2_with fail
    go_ret2
    exact ⟨galloc (grefl _ _) _, _, rfl, own_pair w _ _ _ _ (Nat.le_refl _)⟩
  | some abc =>
    obtain ⟨a, n, b⟩ := abc
    obtain ⟨ha16, hn2, hb20⟩ := lay_small hl
    rw [show layI kind = (a, n, b, true) by unfold layI; rw [hl]] at HL
    rw [hl] at HK
    simp only at HK HL
    clear hl
    generalize rplF s p kind = r at *
    by_cases hsh : s.size - p < a
    · have k1 : decide ((s.size : Int) - (p : Int) < (a : Int)) = true := by simp; omega
      have HZ := Lib.hid (show r = .no 4 by rw [HK.out, if_pos hsh])
      clear hsh
      go_enter Tryd.func31, Tryd.ntmps31
      go_wp2_with fail
      refine Calls.mono HL.out ?_
      rintro e wq ⟨rfl, hq⟩
      subst hq
      go_wp2_with fail
      go_ret2
      rw [HZ.out]
      exact ⟨grefl _ _, by omega, by omega, rfl⟩
    · have k1 : decide ((s.size : Int) - (p : Int) < (a : Int)) = false := by simp; omega
      have HZ := Lib.hid (HK.out.trans (if_neg hsh))
      have hpa : p + a ≤ s.size := by omega
      clear hsh HK
      go_enter Tryd.func31, Tryd.ntmps31
      go_wp2_with fail
      refine Calls.mono HL.out ?_
      rintro e wq ⟨rfl, hq⟩
      subst hq
      clear HL
      go_wp2_with fail
      go_loopw [1, 12, 13] (fun vq vo vi wr => ∃ (i q : Nat) (out : List Pc), vi = .int .i64 i ∧ vq = .int .i64 q ∧ i ≤ n ∧ RqL w s (p + a) n ⟨s.extract p (p + a), false, 0⟩ i q out vo wr) (fun _ _ vi _ => n - (intOf vi).toNat)
      case atStart => exact ⟨0, p + a, _, rfl, by go_num, by omega, galloc (grefl _ _) _, own_pair w _ _ _ _ (Nat.le_refl _), hpa, rfl, Nat.le_refl _⟩
      case round =>
        obtain ⟨i, q, out, rfl, rfl, hin, hr⟩ := hrel
        have R0 := Lib.hid hr
        have hqs := hr.le
        have hlen := hr.len
        obtain ⟨A, cap, rfl, hcap, hcm⟩ := own_shape hr.own
        unfold maxLen at hcm
        clear hr
        by_cases hlt : i < n
        · have k0 : decide ((i : Int) < (n : Int)) = true := by simp; omega
          have HR := Lib.hid (cref_any s (q : Int) wr hs)
          rw [rdAt_in (by omega) (by omega), Int.toNat_natCast] at HR
          have HN := Lib.hid (show rnF n s (p + a) [⟨s.extract p (p + a), false, 0⟩] = match rdF s q q none [] with
            | .ok m q' => rnF (n - (i + 1)) s q' (out ++ [⟨⟨m.toArray⟩, true, 0⟩])
            | .no e => .no e by
              rw [R0.out.eq, show n - i = (n - (i + 1)) + 1 by omega]; rfl)
          cases hrd : rdF s q q none [] with
          | no er =>
            rw [hrd] at HR HN
            have hpos := rd_pos hrd
            clear hrd
            unfold rdR at HR
            have k2 : ((er : Int) != 0) = true := by simp; omega
            go_wp2_with fail
            refine Calls.mono HR.out ?_
            rintro e w2 ⟨rfl, hg⟩
            have G2 := Lib.hid (gtrans R0.out.gr hg)
            clear hg HR
            go_wp2_with fail
            go_ret2
            rw [HZ.out, HN.out]
            exact ⟨G2.out, hpos.1, hpos.2, rfl⟩
          | ok m q' =>
            rw [hrd] at HR HN
            have hq' := (rd_le hrd).2.1
            clear hrd
            unfold rdR at HR
            go_wp2_with fail
            refine Calls.mono HR.out ?_
            rintro e w2 ⟨rfl, hg⟩
            have G2 := Lib.hid (gtrans R0.out.gr hg)
            have O2 := Lib.hid (own_kept0 R0.out.own hg)
            clear hg HR
            generalize (⟨m.toArray⟩ : ByteArray) = M at *
            go_wp2_with (at_builtin; refine wpList_app_k rfl (.tmp 73) (.tmp 76) 63 rfl w.heap.size 77 i3 _ 2 24 Tryd.underlying63 i3h i3z i3s i3b rfl (by decide) _ out.length 1 (rpcvs out) [.string M, .bool true] rfl (own_kept0 O2.out (galloc (grefl _ none) _)) _ rfl (sl_two w2 _ _ _) (by intro u hu; simp at hu; rcases hu with rfl | rfl <;> rfl) ?x2 ?x3 ?x4 ?_)
            case x2 => unfold maxLen; omega
            case x3 => omega
            case x4 => have := G2.out.size; simp; omega
            intro v6 w6 ho6 hg6
            have R6 := Lib.hid (show RqL w s (p + a) n ⟨s.extract p (p + a), false, 0⟩ (i + 1) q' (out ++ [⟨M, true, 0⟩]) v6 w6 from
              ⟨gstep G2.out (gfr1 hg6) (fun r e => (World.ownsRow.lt O2.out r e).1), by rw [rpcvs_snoc, List.length_append]; exact ho6, hq', HN.out, by simp; omega⟩)
            obtain ⟨A6, c6, rfl, _, _⟩ := own_shape ho6
            clear ho6 hg6 O2
            go_wp2_with fail
            go_roundw
            case rel => exact ⟨i + 1, q', out ++ [⟨M, true, 0⟩], by go_num, rfl, by omega, by simpa using R6.out⟩
            case measure => simp [intOf]; omega
        · have k0 : decide ((i : Int) < (n : Int)) = false := by simp; omega
          have HN := Lib.hid (show rnF n s (p + a) [⟨s.extract p (p + a), false, 0⟩] = .ok out q by
            rw [R0.out.eq, show n - i = 0 by omega]; rfl)
          have HZ2 := Lib.hid (show r = (if s.size - q < b then .no 4 else if b < s.size - q then .no 3 else .ok (out ++ [⟨s.extract q s.size, false, 0⟩])) by rw [HZ.out, HN.out])
          clear HZ HN
          by_cases h1 : s.size - q < b
          · have k1 : decide ((s.size : Int) - (q : Int) < (b : Int)) = true := by simp; omega
            have HF := Lib.hid (HZ2.out.trans (if_pos h1))
            clear h1
            go_wp2_with fail
            go_ret2
            rw [HF.out]
            exact ⟨R0.out.gr, by omega, by omega, rfl⟩
          · have k1 : decide ((s.size : Int) - (q : Int) < (b : Int)) = false := by simp; omega
            by_cases h2 : b < s.size - q
            · have k2 : decide ((b : Int) < (s.size : Int) - (q : Int)) = true := by simp; omega
              have HF := Lib.hid (HZ2.out.trans ((if_neg h1).trans (if_pos h2)))
              clear h1 h2
              go_wp2_with fail
              go_ret2
              rw [HF.out]
              exact ⟨R0.out.gr, by omega, by omega, rfl⟩
            · have k2 : decide ((b : Int) < (s.size : Int) - (q : Int)) = false := by simp; omega
              have HF := Lib.hid (HZ2.out.trans ((if_neg h1).trans (if_neg h2)))
              clear h1 h2
              generalize hM : s.extract q s.size = M at *
              go_wp2_with (at_builtin; refine wpList_app_k rfl (.tmp 91) (.tmp 96) 63 rfl w.heap.size 77 i3 _ 2 24 Tryd.underlying63 i3h i3z i3s i3b rfl (by decide) _ out.length 1 (rpcvs out) [.string M, .bool false] rfl (own_kept0 R0.out.own (galloc (grefl _ none) _)) _ rfl (by rw [← hM]; exact sl_two wr _ _ _) (by intro u hu; simp at hu; rcases hu with rfl | rfl <;> rfl) ?x2 ?x3 ?x4 ?_)
              case x2 => unfold maxLen; omega
              case x3 => omega
              case x4 => have := R0.out.gr.size; simp; omega
              intro v6 w6 ho6 hg6
              have G6 := Lib.hid (show w.grownBy w6 none from gstep R0.out.gr (gfr1 hg6) (fun r e => (World.ownsRow.lt R0.out.own r e).1))
              have O6 := Lib.hid ho6
              obtain ⟨A6, c6, rfl, _, _⟩ := own_shape ho6
              clear ho6 hg6
              go_wp2_with fail
              go_ret2
              rw [HF.out]
              exact ⟨G6.out, _, rfl, by rw [rpcvs_snoc, List.length_append]; exact O6.out⟩
end Go.Proofs.YtijjfdmklbncbaaDoor
