/-
  Wire: how long a message is with its names whole.
-/
import Derived.Test.YtncfjplolpgemaaDoorWjQ
namespace Go.Proofs.YtncfjplolpgemaaDoor
open Go.RowKit

def qnS (q : Qn) : Nat := q.name.size + 4
def rcS (r : Rc) : Nat := r.name.size + 10 + r.data.size
def opS (o : Opt) : Nat := 4 + o.2.size
def suF {α : Type} (f : α → Nat) (l : List α) : Nat := (l.map f).sum
theorem suF_at {α : Type} (f : α → Nat) {l : List α} {k : Nat} (h : k < l.length) : suF f (l.drop k) = f l[k] + suF f (l.drop (k + 1)) := by
  unfold suF
  rw [List.drop_eq_getElem_cons h, List.map_cons, List.sum_cons]
theorem suF_end {α : Type} (f : α → Nat) {l : List α} {k : Nat} (h : ¬ k < l.length) : suF f (l.drop k) = 0 := by
  unfold suF
  rw [List.drop_of_length_le (by omega)]
  rfl
def Ms.sec (m : Ms) : Nat → List Rc
  | 0 => m.an
  | 1 => m.au
  | _ => m.ex
theorem whole_eq (m : Ms) : m.whole = 12 + suF qnS m.qs + suF rcS m.an + suF rcS m.au + suF rcS m.ex + (if m.has = true then 11 + suF opS m.ops else 0) := rfl
def Ms.secS (m : Ms) : Nat → Nat
  | 0 => 0
  | 1 => suF rcS m.an
  | 2 => suF rcS m.an + suF rcS m.au
  | _ => suF rcS m.an + suF rcS m.au + suF rcS m.ex
theorem secS_at (m : Ms) {k : Nat} (h : k < 3) : m.secS (k + 1) = m.secS k + suF rcS (m.sec k) := by
  match k, h with
  | 0, _ => show suF rcS m.an = 0 + _; rw [Nat.zero_add]; rfl
  | 1, _ => rfl
  | 2, _ => rfl
theorem secS_le (m : Ms) (k : Nat) : m.secS k ≤ suF rcS m.an + suF rcS m.au + suF rcS m.ex := by
  match k with
  | 0 => exact Nat.zero_le _
  | 1 => show suF rcS m.an ≤ _; omega
  | 2 => show suF rcS m.an + suF rcS m.au ≤ _; omega
  | _ + 3 => exact Nat.le_refl _
theorem sec_len {m : Ms} (hm : m.mem) (k : Nat) : (m.sec k).length ≤ maxLen ∧ ∀ r ∈ m.sec k, r.name.size ≤ maxLen ∧ r.data.size ≤ maxLen := by
  match k with
  | 0 => exact ⟨hm.al, hm.a⟩
  | 1 => exact ⟨hm.ul, hm.u⟩
  | _ + 2 => exact ⟨hm.xl, hm.x⟩
theorem suF_drop_le {α : Type} (f : α → Nat) (l : List α) (k : Nat) : suF f (l.drop k) ≤ suF f l := by
  induction l generalizing k with
  | nil => simp [suF]
  | cons x l ih =>
    cases k with
    | zero => exact Nat.le_refl _
    | succ k =>
      have := ih k
      show suF f (l.drop k) ≤ suF f (x :: l)
      have e : suF f (x :: l) = f x + suF f l := by simp [suF]
      omega

def sel {α : Type} (a b c : α) : Nat → α
  | 0 => a
  | 1 => b
  | _ => c
theorem sec3 {AA AU AX : Option Addr} {la lu lx ca cu cx bl : Nat} {m : Ms} {w' : World} {vq vo : Value} (k : Nat) (h : k < 3) (e1 : la = m.an.length) (e2 : lu = m.au.length) (e3 : lx = m.ex.length)
    (hb : w'.heap[bl]? = some (.cells #[.slice AA la ca, .slice AU lu cu, .slice AX lx cx] 26 (0, 0))) (hv : MsV w' m vq (.slice AA la ca) (.slice AU lu cu) (.slice AX lx cx) vo) :
    w'.cell? ⟨bl, k, none⟩ = some (.slice (sel AA AU AX k) (m.sec k).length (sel ca cu cx k)) ∧ Rs w' (.slice (sel AA AU AX k) (m.sec k).length (sel ca cu cx k)) (m.sec k) := by
  subst e1 e2 e3
  match k, h with
  | 0, _ => exact ⟨bcellAt hb 0, hv.a⟩
  | 1, _ => exact ⟨bcellAt hb 1, hv.u⟩
  | 2, _ => exact ⟨bcellAt hb 2, hv.x⟩

set_option maxRecDepth 100000 in
set_option maxHeartbeats 4000000 in
theorem mwhole_any (w : World) (m : Ms) (vq va vu vx vo : Value) (hv : MsV w m vq va vu vx vo) (hm : m.mem) (hw : suF qnS m.qs + suF rcS m.an + suF rcS m.au + suF rcS m.ex + suF opS m.ops ≤ 1000000) :
    Calls Tryd.prog 20 #[m.val vq va vu vx vo] w fun e w' => e = .returned (.int .i64 m.whole) ∧ w.grownBy w' none := by
  have HV := Lib.hid hv
  have HM := Lib.hid hm
  have HW := Lib.hid hw
  obtain ⟨Aq, cq, rfl⟩ := hv.q.form
  obtain ⟨Aa, ca, rfl⟩ := hv.a.form
  obtain ⟨Au, cu, rfl⟩ := hv.u.form
  obtain ⟨Ax, cx, rfl⟩ := hv.x.form
  obtain ⟨Ao, co, rfl⟩ := hv.o.form
  clear hv hm hw
  have MQ := HM.out.ql
  have MO := HM.out.ol
  unfold maxLen at MQ MO
  unfold Ms.val
  go_enter Tryd.func20, Tryd.ntmps20
  have GA := galloc (grefl w none) (.cells #[.int .u16 m.h.id, .bool m.h.qr, .int .u8 m.h.op, .bool m.h.aa, .bool m.h.tc, .bool m.h.rd, .bool m.h.ra, .bool m.h.z, .bool m.h.ad, .bool m.h.cd, .int .u8 m.h.code, .slice Aq m.qs.length cq, .slice Aa m.an.length ca, .slice Au m.au.length cu, .slice Ax m.ex.length cx, .bool m.has, .int .u16 m.sz, .int .u8 m.e, .int .u8 m.v, .int .u16 m.f, .slice Ao m.ops.length co] 31)
  have B0 := Lib.hid (balloc w (.cells #[.int .u16 m.h.id, .bool m.h.qr, .int .u8 m.h.op, .bool m.h.aa, .bool m.h.tc, .bool m.h.rd, .bool m.h.ra, .bool m.h.z, .bool m.h.ad, .bool m.h.cd, .int .u8 m.h.code, .slice Aq m.qs.length cq, .slice Aa m.an.length ca, .slice Au m.au.length cu, .slice Ax m.ex.length cx, .bool m.has, .int .u16 m.sz, .int .u8 m.e, .int .u8 m.v, .int .u16 m.f, .slice Ao m.ops.length co] 31))
  go_wp2_with fail
  generalize w.alloc (.cells #[.int .u16 m.h.id, .bool m.h.qr, .int .u8 m.h.op, .bool m.h.aa, .bool m.h.tc, .bool m.h.rd, .bool m.h.ra, .bool m.h.z, .bool m.h.ad, .bool m.h.cd, .int .u8 m.h.code, .slice Aq m.qs.length cq, .slice Aa m.an.length ca, .slice Au m.au.length cu, .slice Ax m.ex.length cx, .bool m.has, .int .u16 m.sz, .int .u8 m.e, .int .u8 m.v, .int .u16 m.f, .slice Ao m.ops.length co] 31) = w0 at *
  have G0 := Lib.hid GA
  clear GA
  go_loopw [3, 4] (fun n i wr => ∃ k s : Nat, k ≤ m.qs.length ∧ i = .int .i64 k ∧ n = .int .i64 s ∧ 12 + suF qnS m.qs = s + suF qnS (m.qs.drop k) ∧ w0.grownBy wr none) (fun _ i _ => m.qs.length - (intOf i).toNat)
  case atStart => exact ⟨0, 12, by omega, rfl, rfl, rfl, grefl _ none⟩
  case round =>
    obtain ⟨k, s, hk, rfl, rfl, hsum, hg⟩ := hrel
    have HS := Lib.hid hsum
    have hs8 : s ≤ 2000000 := by have := HW.out; have := HS.out; omega
    clear hsum
    have HG := Lib.hid hg
    have BR := Lib.hid (gblock hg B0.out (by simp))
    have HV2 := Lib.hid (HV.out.kept (gtrans G0.out hg))
    have c11 := bcellAt BR.out 11
    clear hg
    by_cases hlt : k < m.qs.length
    · have k1 : decide ((k : Int) < (m.qs.length : Int)) = true := by simp; omega
      obtain ⟨b, off, rfl, l0, l1, l2⟩ := HV2.out.q.at hlt
      have HS2 := Lib.hid (HS.out.trans (congrArg (s + ·) (suF_at qnS hlt)))
      have q0 : (0 : Int) ≤ (k : Int) := by omega
      have q1 : (k : Int) < (m.qs.length : Int) := by omega
      generalize m.qs[k] = r at *
      have hn : r.name.size ≤ 2000000 := by
        have := HS2.out
        have := HW.out
        have e : qnS r = r.name.size + 4 := rfl
        omega
      clear l1 l2
      go_wp2_with fail
      go_roundw
      case rel =>
        refine ⟨k + 1, s + (r.name.size + 4), by omega, by go_num, by go_num, ?_, HG.out⟩
        have := HS2.out
        have e : qnS r = r.name.size + 4 := rfl
        omega
      case measure => simp [intOf]; omega
    · have k1 : decide ((k : Int) < (m.qs.length : Int)) = false := by simp; omega
      have HE := Lib.hid (show s = 12 + suF qnS m.qs by have := HS.out; rw [suF_end qnS hlt] at this; omega)
      have c12 := bcellAt BR.out 12
      have c13 := bcellAt BR.out 13
      have c14 := bcellAt BR.out 14
      go_wp2_with fail
      have HG1 := Lib.hid (gtrans G0.out (galloc HG.out (.cells #[.slice Aa m.an.length ca, .slice Au m.au.length cu, .slice Ax m.ex.length cx] 26)))
      have BR1 := Lib.hid (gblock (galloc (grefl wr none) (.cells #[.slice Aa m.an.length ca, .slice Au m.au.length cu, .slice Ax m.ex.length cx] 26)) BR.out (by simp))
      have BL := Lib.hid (balloc wr (.cells #[.slice Aa m.an.length ca, .slice Au m.au.length cu, .slice Ax m.ex.length cx] 26))
      generalize wr.alloc (.cells #[.slice Aa m.an.length ca, .slice Au m.au.length cu, .slice Ax m.ex.length cx] 26) = w2 at *
      generalize wr.heap.size = bl at *
      clear c11 c12 c13 c14 hk hs8 hlt k1 HV2 HG BR
      have HC := Lib.hid (fun (k : Nat) (h : k < 3) (w' : World) (g : w2.grownBy w' none) => sec3 (AA := Aa) (AU := Au) (AX := Ax) (la := m.an.length) (lu := m.au.length) (lx := m.ex.length) (ca := ca) (cu := cu) (cx := cx) (m := m) (w' := w') (bl := bl) k h rfl rfl rfl (gblock g BL.out (by simp)) (HV.out.kept (gtrans HG1.out g)))
      have HS0 := Lib.hid HE.out
      go_loopw [3, 6] (fun n i wr => ∃ k s' : Nat, k ≤ 3 ∧ i = .int .i64 k ∧ n = .int .i64 s' ∧ s' = s + m.secS k ∧ w2.grownBy wr none) (fun _ i _ => 3 - (intOf i).toNat)
      case atStart => exact ⟨0, s, by omega, rfl, rfl, rfl, grefl _ none⟩
      case round =>
        obtain ⟨k', s', hk', rfl, rfl, hsum', hg'⟩ := hrel
        have HS' := Lib.hid hsum'
        clear hsum'
        have HG' := Lib.hid hg'
        clear hg'
        obtain ⟨wo, hwo⟩ : ∃ wo : World, wo = wr := ⟨_, rfl⟩
        subst hwo
        by_cases hlt' : k' < 3
        · have k1 : decide ((k' : Int) < 3) = true := by simp; omega
          have p0 : (0 : Int) ≤ (k' : Int) := by omega
          have HD := Lib.hid (fun (w' : World) (g : wo.grownBy w' none) => HC.out k' hlt' w' (gtrans HG'.out g))
          have SL := Lib.hid (sec_len HM.out k')
          have SA := Lib.hid (secS_at m hlt')
          have SE := Lib.hid (secS_le m (k' + 1))
          have ML := SL.out.1
          unfold maxLen at ML
          generalize m.sec k' = l at *
          generalize sel Aa Au Ax k' = A at *
          generalize sel ca cu cx k' = cap at *
          go_wp2_with fail
          go_loopw [3, 7] (fun n i wr => ∃ j t : Nat, j ≤ l.length ∧ i = .int .i64 j ∧ n = .int .i64 t ∧ t + suF rcS (l.drop j) = s' + suF rcS l ∧ wo.grownBy wr none) (fun _ i _ => l.length - (intOf i).toNat)
          case atStart => exact ⟨0, s', by omega, rfl, rfl, rfl, grefl _ none⟩
          case round =>
            obtain ⟨j, t, hj, rfl, rfl, hsum2, hg2⟩ := hrel
            have HT := Lib.hid hsum2
            have HG2 := Lib.hid hg2
            have tb : t ≤ 3000000 := by have := HT.out; have := HS'.out; have := HE.out; have := SA.out; have := SE.out; have := HW.out; omega
            clear hsum2
            obtain ⟨hc2, hrs2⟩ := HD.out wr hg2
            clear hg2
            by_cases hj2 : j < l.length
            · have k2 : decide ((j : Int) < (l.length : Int)) = true := by simp; omega
              have j0 : (0 : Int) ≤ (j : Int) := by omega
              have j1 : (j : Int) < (l.length : Int) := by omega
              obtain ⟨b, off, rfl, l0, l1, l2, l3, l4⟩ := hrs2.at hj2
              have HT2 := Lib.hid (HT.out.symm.trans (congrArg (t + ·) (suF_at rcS hj2))).symm
              generalize l[j] = r at *
              have hn : r.name.size ≤ 3000000 ∧ r.data.size ≤ 3000000 := by
                have := HT2.out; have := HS'.out; have := HE.out; have := SA.out; have := SE.out; have := HW.out
                have e : rcS r = r.name.size + 10 + r.data.size := rfl
                omega
              obtain ⟨hn1, hn2⟩ := hn
              clear l1 l2 l3
              go_wp2_with fail
              go_region
              go_wp2_with fail
              go_roundw
              case rel =>
                refine ⟨j + 1, t + (r.name.size + 10 + r.data.size), by omega, by go_num, by go_num, ?_, gdrew HG2.out⟩
                have := HT2.out
                have e : rcS r = r.name.size + 10 + r.data.size := rfl
                omega
              case measure => simp [intOf]; omega
            · have k2 : decide ((j : Int) < (l.length : Int)) = false := by simp; omega
              have HX := Lib.hid (show t = s + m.secS (k' + 1) by have := HT.out; rw [suF_end rcS hj2] at this; rw [SA.out]; have := HS'.out; omega)
              clear hrs2
              go_wp2_with fail
              go_roundw
              case rel => exact ⟨k' + 1, t, by omega, by go_num, rfl, HX.out, gtrans HG'.out HG2.out⟩
              case measure => simp [intOf]; omega
        · have k1 : decide ((k' : Int) < 3) = false := by simp; omega
          obtain rfl : k' = 3 := by omega
          have HX := Lib.hid (show s' = 12 + suF qnS m.qs + suF rcS m.an + suF rcS m.au + suF rcS m.ex by have e : m.secS 3 = suF rcS m.an + suF rcS m.au + suF rcS m.ex := rfl; have := HS'.out; have := HE.out; omega)
          have B3 := Lib.hid (gblock HG'.out BR1.out (by simp))
          have G3 := Lib.hid (gtrans HG1.out HG'.out)
          have c15 := bcellAt B3.out 15
          have tb : s' ≤ 3000000 := by have := HX.out; have := HW.out; omega
          have WE := Lib.hid (whole_eq m)
          clear HC BL
          cases hh : m.has with
          | false =>
            rw [hh] at c15
            rw [hh] at WE
            go_wp2_with fail
            go_ret
            exact ⟨by rw [WE.out, HX.out]; simp, G3.out⟩
          | true =>
            rw [hh] at c15
            rw [hh] at WE
            go_wp2_with fail
            go_loopw [3, 8] (fun n i wr => ∃ j t : Nat, j ≤ m.ops.length ∧ i = .int .i64 j ∧ n = .int .i64 t ∧ t + suF opS (m.ops.drop j) = s' + 11 + suF opS m.ops ∧ wo.grownBy wr none) (fun _ i _ => m.ops.length - (intOf i).toNat)
            case atStart => exact ⟨0, s' + 11, by omega, rfl, by go_num, rfl, grefl _ none⟩
            case round =>
              obtain ⟨j, t, hj, rfl, rfl, hsum2, hg2⟩ := hrel
              have HT := Lib.hid hsum2
              have HG2 := Lib.hid hg2
              have tb : t ≤ 5000000 := by have := HT.out; have := HW.out; omega
              clear hsum2
              have B4 := Lib.hid (gblock hg2 B3.out (by simp))
              have c20 := bcellAt B4.out 20
              have HV4 := Lib.hid (HV.out.kept (gtrans G3.out hg2))
              clear hg2 c15
              by_cases hj2 : j < m.ops.length
              · have k2 : decide ((j : Int) < (m.ops.length : Int)) = true := by simp; omega
                have j0 : (0 : Int) ≤ (j : Int) := by omega
                have j1 : (j : Int) < (m.ops.length : Int) := by omega
                obtain ⟨b, off, rfl, l0, l1⟩ := HV4.out.o.at rfl hj2
                have HT2 := Lib.hid (HT.out.symm.trans (congrArg (t + ·) (suF_at opS hj2))).symm
                generalize m.ops[j] = r at *
                have hn : r.2.size ≤ 6000000 := by
                  have := HT2.out; have := HW.out
                  have e : opS r = 4 + r.2.size := rfl
                  omega
                clear l0
                go_wp2_with fail
                go_roundw
                case rel =>
                  refine ⟨j + 1, t + (4 + r.2.size), by omega, by go_num, by go_num, ?_, HG2.out⟩
                  have := HT2.out
                  have e : opS r = 4 + r.2.size := rfl
                  omega
                case measure => simp [intOf]; omega
              · have k2 : decide ((j : Int) < (m.ops.length : Int)) = false := by simp; omega
                have HX2 := Lib.hid (show t = s' + 11 + suF opS m.ops by have := HT.out; rw [suF_end opS hj2] at this; omega)
                go_wp2_with fail
                go_ret
                exact ⟨by rw [WE.out, HX2.out, HX.out]; simp; omega, gtrans G3.out HG2.out⟩
end Go.Proofs.YtncfjplolpgemaaDoor
