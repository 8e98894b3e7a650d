/-
  comp.Read at any place; the document's Read of layer 4.
-/
import Derived.Test.YtijjfdmklbncbaaDoorCo04a
namespace Go.Proofs.YtijjfdmklbncbaaDoor
open Go.RowKit

theorem cread_any (s : ByteArray) (at_ : Int) (w : World) (he : Et w) (hs : s.size ≤ 1000000) : Calls Tryd.prog 55 #[.string s, .int .i64 at_] w fun e w' => e = .returned (rdR (rdAt s at_)) ∧ w.grownBy w' none := by
  by_cases h : 0 ≤ at_ ∧ at_ ≤ (s.size : Int)
  · obtain ⟨k, rfl⟩ := Int.eq_ofNat_of_zero_le h.1
    rw [rdAt_in h.1 h.2]
    exact cread_in s k w he (by omega) hs
  · rw [rdAt_out (by omega)]
    go_enter Tryd.func55, Tryd.ntmps55
    go_wp2_with fail
    refine Calls.mono (new_ex s _) ?_
    rintro e w1 ⟨bc, rfl, hl, hc, hg⟩
    have E1 := Lib.hid (show w.grownBy w1 none ∧ Cur w1 bc s 0 from ⟨hg, hc⟩)
    clear hc hg
    go_wp2_with fail
    refine Calls.mono (seek_bad bc s 0 w1 at_ E1.out.2 (by omega)) ?_
    rintro e w2 ⟨rfl, hq⟩
    subst hq
    go_wp2_with fail
    go_ret3
    exact ⟨rfl, E1.out.1⟩

/-- The place behind, -1 where it is not known yet. -/
def nxI : Option Nat → Int
  | none => -1
  | some k => k
theorem str_lab (out : List UInt8) (s : ByteArray) (p : Nat) : (⟨out.toArray⟩ : ByteArray) ++ s.extract p (p + 1 + bt s p) = ⟨(out ++ lab s p).toArray⟩ := by
  rw [← mk_append_list]; rfl
theorem str_end (out : List UInt8) : (⟨out.toArray⟩ : ByteArray) ++ ⟨#[0]⟩ = ⟨(out ++ [0]).toArray⟩ := by
  rw [← mk_append_list]
theorem str_size (out : List UInt8) : (⟨out.toArray⟩ : ByteArray).size = out.length := by simp [ByteArray.size]

set_option maxRecDepth 100000 in
set_option maxHeartbeats 4000000 in
theorem cref_in (s : ByteArray) (p0 : Nat) (w : World) (hp0 : p0 ≤ s.size) (hs : s.size ≤ 1000000) : Calls Tryd.prog 43 #[.string s, .int .i64 p0] w fun e w' => e = .returned (rdR (rdF s p0 p0 none [])) ∧ w.grownBy w' none := by
  have hm : s.size ≤ maxLen := by unfold maxLen; omega
  go_enter Tryd.func43, Tryd.ntmps43
  go_wp2_with fail
  go_loopw [1, 7, 8, 9] (fun va vn vx vl wr => ∃ p lim nx out, va = .int .i64 (p : Nat) ∧ vn = .string ⟨List.toArray out⟩ ∧ vx = .int .i64 (nxI nx) ∧ vl = .int .i64 (lim : Nat) ∧ p ≤ s.size ∧ lim ≤ s.size ∧ out.length ≤ 254 ∧ w.grownBy wr none ∧ rdF s p0 p0 none [] = rdF s p lim nx out) (fun _ vn _ vl _ => (intOf vl).toNat * 300 + (300 - (match vn with | .string b => b.size | _ => 0)))
  case atStart => exact ⟨p0, p0, none, [], rfl, rfl, rfl, rfl, hp0, hp0, by simp, grefl _ _, rfl⟩
  case round =>
    obtain ⟨p, lim, nx, out, rfl, rfl, rfl, rfl, hp, hlim, hfew, hgr, hres⟩ := hrel
    have HR := Lib.hid hres
    have HG := Lib.hid hgr
    have hsz := str_size out
    clear hres hgr
    by_cases h1 : p < s.size
    · have hb := bt_lt s p
      have hg1 := (bt_get s p h1).symm
      have l1 := s[p].toNat_lt
      by_cases hz : bt s p = 0
      · have z0 : (((bt s p : Nat) : Int) == 0) = true := by simp; omega
        have HN := Lib.hid (HR.out.trans (rd_end h1 hz))
        have HS := Lib.hid (str_end out)
        generalize (⟨out.toArray⟩ : ByteArray) = O at *
        cases nx with
        | none =>
          unfold nxI
          go_wp2_with fail
          go_ret3
          rw [HN.out, HS.out]
          exact ⟨rfl, HG.out⟩
        | some nk =>
          unfold nxI
          go_wp2_with fail
          go_ret3
          rw [HN.out, HS.out]
          exact ⟨rfl, HG.out⟩
      · have z0 : (((bt s p : Nat) : Int) == 0) = false := by simp; omega
        by_cases h192 : 192 ≤ bt s p
        · by_cases h2 : p + 2 ≤ s.size
          · have hb2 := bt_lt s (p + 1)
            have hg2 := (bt_get s (p + 1) (by omega)).symm
            have hpt : ((ptr s p : Nat) : Int) = ((bt s p : Int) - 192) * 256 + (bt s (p + 1) : Int) := by unfold ptr; omega
            by_cases hlp : ptr s p < lim
            · have HN := Lib.hid (HR.out.trans (rd_ptr h192 h2 hlp))
              generalize hO : (⟨out.toArray⟩ : ByteArray) = O at *
              cases nx with
              | none =>
                unfold nxI
                go_wp2_with fail
                go_roundw
                case rel => exact ⟨ptr s p, ptr s p, some (p + 2), out, by rw [hpt], by rw [hO], rfl, by rw [hpt], by omega, by omega, hfew, HG.out, HN.out⟩
                case measure => simp [intOf]; omega
              | some nk =>
                unfold nxI
                go_wp2_with fail
                go_roundw
                case rel => exact ⟨ptr s p, ptr s p, some nk, out, by rw [hpt], by rw [hO], rfl, by rw [hpt], by omega, by omega, hfew, HG.out, HN.out⟩
                case measure => simp [intOf]; omega
            · have HN := Lib.hid (HR.out.trans (rd_loop h192 h2 hlp))
              generalize hO : (⟨out.toArray⟩ : ByteArray) = O at *
              cases nx with
              | none =>
                unfold nxI
                go_wp2_with fail
                go_ret3
                rw [HN.out]
                exact ⟨rfl, HG.out⟩
              | some nk =>
                unfold nxI
                go_wp2_with fail
                go_ret3
                rw [HN.out]
                exact ⟨rfl, HG.out⟩
          · have HN := Lib.hid (HR.out.trans (rd_pshort h1 h192 h2))
            go_wp2_with fail
            go_ret3
            rw [HN.out]
            exact ⟨rfl, HG.out⟩
        · by_cases h64 : bt s p < 64
          · have hLs : p + 1 + bt s p ≤ s.size → (s.extract p (p + 1 + bt s p)).size = 1 + bt s p := by intro h; rw [ByteArray.size_extract]; omega
            by_cases hl1 : p + 1 + bt s p ≤ s.size
            · have hL := hLs hl1
              have hlb := lab_len s p hl1
              clear hLs
              have HS := Lib.hid (str_lab out s p)
              by_cases h255 : out.length + 1 + bt s p + 1 ≤ 255
              · have HN := Lib.hid (HR.out.trans (rd_label hz h64 hl1 h255))
                generalize hO : (⟨out.toArray⟩ : ByteArray) = O at *
                generalize hE : s.extract p (p + 1 + bt s p) = L at *
                have hOL : (O ++ L).size = out.length + (1 + bt s p) := by rw [ByteArray.size_append, hsz, hL]
                go_wp2_with fail
                go_roundw
                case rel => exact ⟨p + 1 + bt s p, lim, nx, out ++ lab s p, by simp, by rw [HS.out], rfl, rfl, hl1, hlim, by simp; omega, HG.out, HN.out⟩
                case measure => simp [intOf]; omega
              · have HN := Lib.hid (HR.out.trans (rd_long hz h64 hl1 h255))
                generalize hO : (⟨out.toArray⟩ : ByteArray) = O at *
                generalize hE : s.extract p (p + 1 + bt s p) = L at *
                have hOL : (O ++ L).size = out.length + (1 + bt s p) := by rw [ByteArray.size_append, hsz, hL]
                go_wp2_with fail
                go_ret3
                rw [HN.out]
                exact ⟨rfl, HG.out⟩
            · have HN := Lib.hid (HR.out.trans (rd_lshort h1 hz h64 hl1))
              clear hLs
              go_wp2_with fail
              go_ret3
              rw [HN.out]
              exact ⟨rfl, HG.out⟩
          · have HN := Lib.hid (HR.out.trans (rd_form h1 (by omega) (by omega)))
            go_wp2_with fail
            go_ret3
            rw [HN.out]
            exact ⟨rfl, HG.out⟩
    · have HN := Lib.hid (HR.out.trans (rd_short h1))
      go_wp2_with fail
      go_ret3
      rw [HN.out]
      exact ⟨rfl, HG.out⟩

theorem cref_any (s : ByteArray) (at_ : Int) (w : World) (hs : s.size ≤ 1000000) : Calls Tryd.prog 43 #[.string s, .int .i64 at_] w fun e w' => e = .returned (rdR (rdAt s at_)) ∧ w.grownBy w' none := by
  by_cases h : 0 ≤ at_ ∧ at_ ≤ (s.size : Int)
  · obtain ⟨k, rfl⟩ := Int.eq_ofNat_of_zero_le h.1
    rw [rdAt_in h.1 h.2]
    exact cref_in s k w (by omega) hs
  · rw [rdAt_out (by omega)]
    by_cases h0 : at_ < 0
    · go_enter Tryd.func43, Tryd.ntmps43
      go_wp2_with fail
      go_ret3
      exact ⟨rfl, grefl _ _⟩
    · have h2 : (s.size : Int) < at_ := by omega
      go_enter Tryd.func43, Tryd.ntmps43
      go_wp2_with fail
      go_ret3
      exact ⟨rfl, grefl _ _⟩
end Go.Proofs.YtijjfdmklbncbaaDoor
