/-
  The document's data (layer 5): Write.
-/
import Derived.Test.YtijjfdmklbncbaaDoorDa05j
import Derived.Test.YtijjfdmklbncbaaDoorCo04m
import Derived.Deep.RegionWith
namespace Go.Proofs.YtijjfdmklbncbaaDoor
open Go.RowKit

theorem wrF_nz {cmp : Bool} : ∀ (l m : List Pc) (T : Tb) (out : List UInt8), nz l = nz m → wrF cmp l T out = wrF cmp m T out := by
  have key : ∀ (l : List Pc) (T : Tb) (out : List UInt8), wrF cmp l T out = (nz l).foldl (fun (s : List UInt8 × Tb) y => if y.2 = true then putF y.1 cmp cmp 0 s.2 s.1 else (s.1 ++ y.1.data.toList, s.2)) (out, T) := by
    intro l
    induction l with
    | nil => intro T out; rfl
    | cons x l ih =>
      intro T out
      unfold nz
      rw [List.map_cons, List.filter_cons]
      cases hn : x.name with
      | true =>
        rw [wrF_nam hn, ih]
        simp [nz]
      | false =>
        rw [wrF_txt hn, ih]
        by_cases h : x.text.size = 0
        · have : x.text.data.toList = [] := List.eq_nil_of_length_eq_zero (by rw [nlen]; exact h)
          simp [h, this, nz]
        · simp [h, nz]
  intro l m T out h
  rw [key, key, h]
def RwrPost (b : Nat) (T : Tb) (a : List UInt8) (kind : Nat) (d : ByteArray) (w : World) (e : Ending) (w' : World) : Prop :=
  match whF kind d with
  | none => e = .returned (.tuple #[.string ByteArray.empty, .int .i64 3]) ∧ w.grownBy w' none
  | some l => e = .returned (.tuple #[.string ⟨(wrF (cmpF kind) l T a).1.toArray⟩, .int .i64 0]) ∧ ∃ v', RT w' b v' (wrF (cmpF kind) l T a).2 ∧ w.grownBy w' (some b)
structure RwL (w : World) (b : Nat) (T : Tb) (a : List UInt8) (cmp : Bool) (l : List Pc) (i : Nat) (v : Value) (T' : Tb) (out : List UInt8) (wr : World) : Prop where
  tab : RT wr b v T'
  low : Low T'
  gr : w.grownBy wr (some b)
  eq : wrF cmp l T a = wrF cmp (l.drop i) T' out
  few : T'.length ≤ T.length + 255 * i
  len : out.length ≤ a.length + 5300 * i
set_option maxRecDepth 100000 in
set_option maxHeartbeats 4000000 in
theorem rwrite_any (b : Nat) (vt : Value) (T : Tb) (a : List UInt8) (kind : Nat) (d : ByteArray) (w : World) (h : RT w b vt T) (hlow : Low T) (hd : d.size ≤ 5000) (hT : T.length ≤ 900000) (hal : a.length ≤ 900000) :
    Calls Tryd.prog 17 #[.string ⟨a.toArray⟩, .pointer (some ⟨b, 0, none⟩), .int .u16 kind, .string d] w (RwrPost b T a kind d w) := by
  have HW := Lib.hid (rwhole_l kind d w (by omega))
  have HT := Lib.hid h
  have HLow := Lib.hid hlow
  have hbl := blt h.cell
  have HTB := Lib.hid h.cell
  obtain ⟨hl4, hgood⟩ := rwhL_good kind d
  have hOs : (⟨a.toArray⟩ : ByteArray).size ≤ 900000 := by rw [size_mk]; omega
  clear h hlow
  cases hm : whF kind d with
  | none =>
    have HP := Lib.hid hm
    rw [show mayD kind d = false by unfold mayD; rw [hm]; rfl] at HW
    clear hm hgood
    generalize (⟨a.toArray⟩ : ByteArray) = o at *
    go_enter Tryd.func17, Tryd.ntmps17
    go_wp2_with fail
    refine Calls.mono HW.out ?_
    rintro e w1 ⟨v, rfl, _, hg⟩
    have G1 := Lib.hid hg
    clear hg HW
    go_wp2_with fail
    go_ret2
    unfold RwrPost
    rw [HP.out]
    exact ⟨rfl, G1.out⟩
  | some l0 =>
    have HP := Lib.hid hm
    rw [show mayD kind d = true by unfold mayD; rw [hm]; rfl] at HW
    have hsame := (wh_same kind d).2
    rw [show whL kind d = l0 by unfold whL; rw [hm]; rfl] at hsame
    have HSame := Lib.hid hsame
    have HX := Lib.hid hgood
    clear hm hgood hsame
    generalize rwhL kind d = l at *
    have HC := Lib.hid (fun w0 => rcompr_any kind w0)
    have HQ := Lib.hid (show RwrPost b T a kind d w = fun e w' => e = .returned (.tuple #[.string ⟨(wrF (cmpF kind) l T a).1.toArray⟩, .int .i64 0]) ∧ ∃ v', RT w' b v' (wrF (cmpF kind) l T a).2 ∧ w.grownBy w' (some b) by
      funext e w'
      unfold RwrPost
      rw [HP.out]
      simp only
      rw [wrF_nz l l0 T a HSame.out])
    generalize cmpF kind = cmp at *
    go_enter Tryd.func17, Tryd.ntmps17
    go_wp2_with fail
    refine Calls.mono HW.out ?_
    rintro e w1 ⟨v, rfl, hp, hg⟩
    have P1 := Lib.hid hp
    obtain ⟨Ap, cp, rfl⟩ := FS.len hp
    have L0 := Lib.hid (show RwL w b T a cmp l 0 vt T a w1 from ⟨HT.out.kept0 hg, HLow.out, gmono hg, rfl, by omega, by omega⟩)
    have GW := Lib.hid hg
    clear hg hp HW HT HLow
    go_wp2_with fail
    go_loopw [0, 12] (fun vo vi wr => ∃ (i : Nat) (T' : Tb) (out : List UInt8) (v' : Value), vi = .int .i64 i ∧ vo = .string ⟨out.toArray⟩ ∧ i ≤ l.length ∧ RwL w b T a cmp l i v' T' out wr ∧ w1.grownBy wr (some b)) (fun _ vi _ => l.length - (intOf vi).toNat)
    case atStart => exact ⟨0, T, a, vt, rfl, rfl, by omega, L0.out, grefl _ _⟩
    case round =>
      clear L0
      obtain ⟨i, T', out, v', rfl, rfl, hil, hr, hg1⟩ := hrel
      have R0 := Lib.hid hr
      have HG1 := Lib.hid hg1
      have hfew := hr.few
      have hlen := hr.len
      have hOs2 : (⟨out.toArray⟩ : ByteArray).size ≤ 2000000 := by rw [size_mk]; omega
      clear hr hg1
      by_cases hlt : i < l.length
      · have k0 : decide ((i : Int) < (l.length : Int)) = true := by simp; omega
        have PP := Lib.hid (show RPcs wr (.slice Ap l.length cp) l from by
          refine FS.kept P1.out HG1.out ?_
          cases Ap with
          | none => exact .inl rfl
          | some ad =>
            right
            intro e
            have e' : ad.block = b := by simpa [Value.ownBlock] using e
            rcases P1.out.2 with ⟨h1, _⟩ | ⟨g, cap, cur, h1, _, hk, _⟩
            · cases h1
            · simp only [Value.slice.injEq, Option.some.injEq] at h1
              rw [h1.1] at e'
              simp only at e'
              subst e'
              have := gblock GW.out (HTB.out) (by simp)
              rw [hk] at this
              cases this)
        obtain ⟨g, rfl, _, hgl, c0, c1⟩ := PP.out.at hlt
        obtain ⟨hx1, hx2⟩ := HX.out l[i] (List.getElem_mem hlt)
        have HD := Lib.hid (show l.drop i = l[i] :: l.drop (i + 1) from List.drop_eq_getElem_cons hlt)
        cases hb : l[i].name with
        | false =>
          rw [hb] at c1
          have HN := Lib.hid (show wrF cmp l T a = wrF cmp (l.drop (i + 1)) T' (out ++ l[i].text.data.toList) by
            rw [R0.out.eq, HD.out, wrF_txt hb])
          have HS := Lib.hid (show (⟨out.toArray⟩ : ByteArray) ++ l[i].text = ⟨(out ++ l[i].text.data.toList).toArray⟩ from mk_append_list _ l[i].text.data.toList)
          have hnl := nlen l[i].text
          clear hb hx2 HD
          generalize l[i] = x at *
          generalize (⟨out.toArray⟩ : ByteArray) = O at *
          go_wp2_with fail
          go_roundw
          case rel => exact ⟨i + 1, T', out ++ x.text.data.toList, v', by go_num, by rw [HS.out], by omega, ⟨R0.out.tab, R0.out.low, R0.out.gr, HN.out, by omega, by simp only [List.length_append]; omega⟩, HG1.out⟩
          case measure => simp [intOf]; omega
        | true =>
          rw [hb] at c1
          have HN := Lib.hid (show wrF cmp l T a = wrF cmp (l.drop (i + 1)) (putF l[i].text cmp cmp 0 T' out).2 (putF l[i].text cmp cmp 0 T' out).1 by
            rw [R0.out.eq, HD.out, wrF_nam hb])
          have hmy := hx2 hb
          have HF := Lib.hid (putF_few' cmp T' out hmy)
          have h255 := (may_size hmy).1
          have HM := Lib.hid hmy
          have HPut := Lib.hid (fun wz (hz : RT wz b v' T') => rput_ok b v' T' out l[i].text cmp cmp wz hz R0.out.low HM.out (by omega) (by omega))
          clear hb hx2 HD hmy
          generalize l[i] = x at *
          generalize (⟨out.toArray⟩ : ByteArray) = O at *
          go_wp2_with fail
          go_region_with (first
            | (go_at_call 26; refine Calls.mono (HC.out _) ?_; rintro e wq ⟨rfl, hq⟩; subst hq)
            | (go_at_call 35; refine Calls.mono (HPut.out _ (R0.out.tab.kept0 (gdrew (grefl _ none)))) ?_; rintro e w6 ⟨rfl, v6, ht6, hg6⟩))
          all_goals
            have R6 := Lib.hid (show RwL w b T a cmp l (i + 1) v6 (putF x.text cmp cmp 0 T' out).2 (putF x.text cmp cmp 0 T' out).1 w6 from
              ⟨ht6, putF_low x.text cmp cmp _ 0 T' out rfl R0.out.low, gtrans R0.out.gr (gtrans (gdrew (grefl wr (some b))) hg6), HN.out, by have := HF.out.1; omega, by have := HF.out.2; omega⟩)
            have HG6 := Lib.hid (show w1.grownBy w6 (some b) from gtrans HG1.out (gtrans (gdrew (grefl wr (some b))) hg6))
            clear ht6 hg6 HN HF HPut
            generalize putF x.text cmp cmp 0 T' out = pq at *
            go_wp2_with fail
            go_roundw
            case rel => exact ⟨i + 1, pq.2, pq.1, v6, by go_num, rfl, by omega, R6.out, HG6.out⟩
            case measure => simp [intOf]; omega
      · have k0 : decide ((i : Int) < (l.length : Int)) = false := by simp; omega
        have HE := Lib.hid (show wrF cmp l T a = (out, T') by rw [R0.out.eq, List.drop_eq_nil_of_le (by omega)]; rfl)
        generalize hO : (⟨out.toArray⟩ : ByteArray) = O at *
        go_wp2_with fail
        go_ret2
        rw [HQ.out, HE.out]
        exact ⟨by rw [hO]; rfl, _, R0.out.tab, R0.out.gr⟩
end Go.Proofs.YtijjfdmklbncbaaDoor
