/-
  Wire: spoil writes over the slices of a message, and nothing else.
-/
import Derived.Test.YtfeeeoiojaffcaaGreatDoorWkJ
import Derived.Deep.Cut
namespace Go.Proofs.YtfeeeoiojaffcaaGreatDoor
open Go.RowKit

/-- While it is written over. -/
structure Sp (w : World) (base mb : Nat) (m : Ms) (Aq Aa Au Ax Ao : Option Addr) (cq ca cu cx co : Nat) (wr : World) : Prop where
  k : KB base w wr
  mw : MW wr base m (.slice Aq m.qs.length cq) (.slice Aa m.an.length ca) (.slice Au m.au.length cu) (.slice Ax m.ex.length cx) (.slice Ao m.ops.length co)
  b : wr.heap[mb]? = some (.cells #[.int .u16 m.h.id, .bool m.h.qr, .int .u8 m.h.op, .bool m.h.aa, .bool m.h.tc, .bool m.h.rd, .bool m.h.ra, .bool m.h.z, .bool m.h.ad, .bool m.h.cd, .int .u8 m.h.code, .slice Aq m.qs.length cq, .slice Aa m.an.length ca, .slice Au m.au.length cu, .slice Ax m.ex.length cx, .bool m.has, .int .u16 m.sz, .int .u8 m.e, .int .u8 m.v, .int .u16 m.f, .slice Ao m.ops.length co] 32 (0, 0))
theorem Sp.kept {w wr w' : World} {base mb : Nat} {m : Ms} {Aq Aa Au Ax Ao : Option Addr} {cq ca cu cx co : Nat} (h : Sp w base mb m Aq Aa Au Ax Ao cq ca cu cx co wr) (g : wr.grownBy w' none) (hb : base ≤ w.heap.size) : Sp w base mb m Aq Aa Au Ax Ao cq ca cu cx co w' :=
  ⟨h.k.trans (KB.of g (Nat.le_trans hb h.k.size)), h.mw.kept g, gblock g h.b (by simp)⟩
theorem Sp.set {w wr : World} {base mb : Nat} {m : Ms} {Aq Aa Au Ax Ao : Option Addr} {cq ca cu cx co : Nat} (h : Sp w base mb m Aq Aa Au Ax Ao cq ca cu cx co wr) (g i : Nat) (v : Value) (hg : base ≤ g) (hne : mb ≠ g) : Sp w base mb m Aq Aa Au Ax Ao cq ca cu cx co (wr.setCell ⟨g, i, none⟩ v) :=
  ⟨h.k.set g i v hg, h.mw.set g i v, (heap_setCell_other _ ⟨g, i, none⟩ _ _ hne).trans h.b⟩
theorem hl_set {w : World} {lb : Nat} {o : Obj} (h : w.heap[lb]? = some o) (g i : Nat) (v : Value) (hne : lb ≠ g) : (w.setCell ⟨g, i, none⟩ v).heap[lb]? = some o := (heap_setCell_other _ ⟨g, i, none⟩ _ _ hne).trans h
theorem ne_of_types {w : World} {a b : Nat} {c1 c2 : Array Value} {t1 t2 : TypeId} {z1 z2 : Nat × Nat} (h1 : w.heap[a]? = some (.cells c1 t1 z1)) (h2 : w.heap[b]? = some (.cells c2 t2 z2)) (ht : t1 ≠ t2) : a ≠ b := by
  rintro rfl
  rw [h1] at h2
  injection h2 with h2
  injection h2 with _ h4 _
  exact ht h4
set_option maxRecDepth 100000 in
set_option maxHeartbeats 8000000 in
theorem spoil_any (w : World) (base : Nat) (m : Ms) (vq va vu vx vo : Value) (hb : base ≤ w.heap.size) (hl : m.qs.length ≤ 1000000 ∧ m.an.length ≤ 1000000 ∧ m.au.length ≤ 1000000 ∧ m.ex.length ≤ 1000000 ∧ m.ops.length ≤ 1000000) (hf : MsF w base m vq va vu vx vo) :
    Calls Tryz.prog 9 #[m.val vq va vu vx vo] w fun e w' => e = .returned (.tuple #[]) ∧ KB base w w' := by
  obtain ⟨Aq, cq, rfl⟩ := hf.q.len
  obtain ⟨Aa, ca, rfl⟩ := hf.a.len
  obtain ⟨Au, cu, rfl⟩ := hf.u.len
  obtain ⟨Ax, cx, rfl⟩ := hf.x.len
  obtain ⟨Ao, co, rfl⟩ := hf.o.len
  have ga := galloc (grefl w none) (.cells #[.int .u16 m.h.id, .bool m.h.qr, .int .u8 m.h.op, .bool m.h.aa, .bool m.h.tc, .bool m.h.rd, .bool m.h.ra, .bool m.h.z, .bool m.h.ad, .bool m.h.cd, .int .u8 m.h.code, .slice Aq m.qs.length cq, .slice Aa m.an.length ca, .slice Au m.au.length cu, .slice Ax m.ex.length cx, .bool m.has, .int .u16 m.sz, .int .u8 m.e, .int .u8 m.v, .int .u16 m.f, .slice Ao m.ops.length co] 32)
  have S0 := Lib.hid (show Sp w base w.heap.size m Aq Aa Au Ax Ao cq ca cu cx co (w.alloc (.cells #[.int .u16 m.h.id, .bool m.h.qr, .int .u8 m.h.op, .bool m.h.aa, .bool m.h.tc, .bool m.h.rd, .bool m.h.ra, .bool m.h.z, .bool m.h.ad, .bool m.h.cd, .int .u8 m.h.code, .slice Aq m.qs.length cq, .slice Aa m.an.length ca, .slice Au m.au.length cu, .slice Ax m.ex.length cx, .bool m.has, .int .u16 m.sz, .int .u8 m.e, .int .u8 m.v, .int .u16 m.f, .slice Ao m.ops.length co] 32)) from ⟨KB.of ga hb, (MW.of hf).kept ga, balloc w _⟩)
  have HB := Lib.hid hb
  clear ga hf hb
  obtain ⟨l0, l1, l2, l3, l4⟩ := hl
  unfold Ms.val
  go_enter Tryz.func9, Tryz.ntmps9
  go_upto_region 1 with fail
  generalize w.alloc (.cells #[.int .u16 m.h.id, .bool m.h.qr, .int .u8 m.h.op, .bool m.h.aa, .bool m.h.tc, .bool m.h.rd, .bool m.h.ra, .bool m.h.z, .bool m.h.ad, .bool m.h.cd, .int .u8 m.h.code, .slice Aq m.qs.length cq, .slice Aa m.an.length ca, .slice Au m.au.length cu, .slice Ax m.ex.length cx, .bool m.has, .int .u16 m.sz, .int .u8 m.e, .int .u8 m.v, .int .u16 m.f, .slice Ao m.ops.length co] 32) = w1 at *
  obtain ⟨mb, hmb⟩ : ∃ b, w.heap.size = b := ⟨_, rfl⟩
  rw [hmb] at S0 ⊢
  clear hmb
  go_wp2_with fail
  go_loopw [2] (fun vi wr => ∃ j : Nat, vi = .int .i64 j ∧ j ≤ m.qs.length ∧ Sp w base mb m Aq Aa Au Ax Ao cq ca cu cx co wr) (fun vi _ => m.qs.length - (intOf vi).toNat)
  case atStart => exact ⟨0, rfl, by omega, S0.out⟩
  case round =>
    obtain ⟨j, rfl, hj, hs⟩ := hrel
    have S := Lib.hid hs
    clear hs
    have m11 : wr.cell? ⟨mb, 11, none⟩ = some (.slice Aq m.qs.length cq) := bcellAt S.out.b 11
    by_cases hjl : j < m.qs.length
    case pos =>
      obtain ⟨g, cur, he, hbg, hcur, hcs⟩ := S.out.mw.q.at_ hjl
      have NG := Lib.hid (ne_of_types S.out.b hcur (by decide))
      subst Aq
      have q0 : (0 : Int) ≤ (j : Int) := by omega
      have q1 : (j : Int) < (m.qs.length : Int) := by omega
      have z0 : wr.cell? ⟨g, j * 3, none⟩ = some (cur[j * 3]'(by omega)) := (bcellAt hcur _).trans (Array.getElem?_eq_getElem _)
      have y0 : wr.frozen? ⟨g, j * 3, none⟩ = false := bfree hcur _
      have z1 : wr.cell? ⟨g, j * 3 + 1, none⟩ = some (cur[j * 3 + 1]'(by omega)) := (bcellAt hcur _).trans (Array.getElem?_eq_getElem _)
      have y1 : wr.frozen? ⟨g, j * 3 + 1, none⟩ = false := bfree hcur _
      have z2 : wr.cell? ⟨g, j * 3 + 2, none⟩ = some (cur[j * 3 + 2]'(by omega)) := (bcellAt hcur _).trans (Array.getElem?_eq_getElem _)
      have y2 : wr.frozen? ⟨g, j * 3 + 2, none⟩ = false := bfree hcur _
      have HBG := Lib.hid hbg
      have HJ := Lib.hid hjl
      clear hcur hbg
      go_wp2_with fail
      go_roundw
      case rel =>
        have T0 := S.out.set g (j * 3) (.string ⟨#[115, 112, 111, 105, 108, 116]⟩) HBG.out NG.out
        have T1 := T0.set g (j * 3 + 1) (.int .u16 0) HBG.out NG.out
        have T2 := T1.set g (j * 3 + 2) (.int .u16 0) HBG.out NG.out
        exact ⟨j + 1, by go_num, HJ.out, T2⟩
      case measure => have := HJ.out; simp [intOf]; omega
    case neg =>
      have m12 : wr.cell? ⟨mb, 12, none⟩ = some (.slice Aa m.an.length ca) := bcellAt S.out.b 12
      have m13 : wr.cell? ⟨mb, 13, none⟩ = some (.slice Au m.au.length cu) := bcellAt S.out.b 13
      have m14 : wr.cell? ⟨mb, 14, none⟩ = some (.slice Ax m.ex.length cx) := bcellAt S.out.b 14
      go_upto_region 6 with fail
      have S1 := Lib.hid (S.out.kept (galloc (grefl wr none) (.cells #[.slice Aa m.an.length ca, .slice Au m.au.length cu, .slice Ax m.ex.length cx] 27)) HB.out)
      have LB := Lib.hid (balloc wr (.cells #[.slice Aa m.an.length ca, .slice Au m.au.length cu, .slice Ax m.ex.length cx] 27))
      clear m11 m12 m13 m14 S hjl
      generalize wr.alloc (.cells #[.slice Aa m.an.length ca, .slice Au m.au.length cu, .slice Ax m.ex.length cx] 27) = w2 at *
      generalize wr.heap.size = lb at *
      go_wp2_with fail
      go_loopw [4] (fun vi wr => ∃ i : Nat, vi = .int .i64 i ∧ i ≤ 3 ∧ Sp w base mb m Aq Aa Au Ax Ao cq ca cu cx co wr ∧ wr.heap[lb]? = some (.cells #[.slice Aa m.an.length ca, .slice Au m.au.length cu, .slice Ax m.ex.length cx] 27 (0, 0))) (fun vi _ => 3 - (intOf vi).toNat)
      case atStart => exact ⟨0, rfl, by omega, S1.out, LB.out⟩
      case round =>
        obtain ⟨i, rfl, hi3, hs, hl⟩ := hrel
        have S2 := Lib.hid hs
        have LB2 := Lib.hid hl
        clear hs hl S1 LB
        have hi : i = 0 ∨ i = 1 ∨ i = 2 ∨ i = 3 := by omega
        clear hi3
        rcases hi with rfl | rfl | rfl | rfl
        · skip
          rw [show ((0 : Nat) : Int) = 0 from rfl]
          have LB := LB2
          go_wp2_with fail
          go_loopw [5] (fun vi wr => ∃ j : Nat, vi = .int .i64 j ∧ j ≤ m.an.length ∧ Sp w base mb m Aq Aa Au Ax Ao cq ca cu cx co wr ∧ wr.heap[lb]? = some (.cells #[.slice Aa m.an.length ca, .slice Au m.au.length cu, .slice Ax m.ex.length cx] 27 (0, 0))) (fun vi _ => m.an.length - (intOf vi).toNat)
          case atStart => exact ⟨0, rfl, by omega, S2.out, LB.out⟩
          case round =>
            obtain ⟨j, rfl, hj, hs, hl⟩ := hrel
            have S := Lib.hid hs
            clear hs
            have LC := Lib.hid hl
            clear hl
            have mc : wr.cell? ⟨lb, 0, none⟩ = some (.slice Aa m.an.length ca) := bcellAt LC.out 0
            by_cases hjl : j < m.an.length
            case pos =>
              obtain ⟨g, cur, he, hbg, hcur, hcs⟩ := S.out.mw.a.at_ hjl
              have NG := Lib.hid (ne_of_types S.out.b hcur (by decide))
              have NL := Lib.hid (ne_of_types LC.out hcur (by decide))
              subst Aa
              have q0 : (0 : Int) ≤ (j : Int) := by omega
              have q1 : (j : Int) < (m.an.length : Int) := by omega
              have z0 : wr.cell? ⟨g, j * 5, none⟩ = some (cur[j * 5]'(by omega)) := (bcellAt hcur _).trans (Array.getElem?_eq_getElem _)
              have y0 : wr.frozen? ⟨g, j * 5, none⟩ = false := bfree hcur _
              have z1 : wr.cell? ⟨g, j * 5 + 1, none⟩ = some (cur[j * 5 + 1]'(by omega)) := (bcellAt hcur _).trans (Array.getElem?_eq_getElem _)
              have y1 : wr.frozen? ⟨g, j * 5 + 1, none⟩ = false := bfree hcur _
              have z2 : wr.cell? ⟨g, j * 5 + 2, none⟩ = some (cur[j * 5 + 2]'(by omega)) := (bcellAt hcur _).trans (Array.getElem?_eq_getElem _)
              have y2 : wr.frozen? ⟨g, j * 5 + 2, none⟩ = false := bfree hcur _
              have z3 : wr.cell? ⟨g, j * 5 + 3, none⟩ = some (cur[j * 5 + 3]'(by omega)) := (bcellAt hcur _).trans (Array.getElem?_eq_getElem _)
              have y3 : wr.frozen? ⟨g, j * 5 + 3, none⟩ = false := bfree hcur _
              have z4 : wr.cell? ⟨g, j * 5 + 4, none⟩ = some (cur[j * 5 + 4]'(by omega)) := (bcellAt hcur _).trans (Array.getElem?_eq_getElem _)
              have y4 : wr.frozen? ⟨g, j * 5 + 4, none⟩ = false := bfree hcur _
              have HBG := Lib.hid hbg
              have HJ := Lib.hid hjl
              clear hcur hbg
              go_wp2_with fail
              go_roundw
              case rel =>
                have T0 := S.out.set g (j * 5) (.string ⟨#[115, 112, 111, 105, 108, 116]⟩) HBG.out NG.out
                have U0 := hl_set LC.out g (j * 5) (.string ⟨#[115, 112, 111, 105, 108, 116]⟩) NL.out
                have T1 := T0.set g (j * 5 + 1) (.int .u16 0) HBG.out NG.out
                have U1 := hl_set U0 g (j * 5 + 1) (.int .u16 0) NL.out
                have T2 := T1.set g (j * 5 + 2) (.int .u16 0) HBG.out NG.out
                have U2 := hl_set U1 g (j * 5 + 2) (.int .u16 0) NL.out
                have T3 := T2.set g (j * 5 + 3) (.int .u32 0) HBG.out NG.out
                have U3 := hl_set U2 g (j * 5 + 3) (.int .u32 0) NL.out
                have T4 := T3.set g (j * 5 + 4) (.string { data := #[] }) HBG.out NG.out
                have U4 := hl_set U3 g (j * 5 + 4) (.string { data := #[] }) NL.out
                exact ⟨j + 1, by go_num, HJ.out, T4, U4⟩
              case measure => have := HJ.out; simp [intOf]; omega
            case neg =>
              go_wp2_with fail
              go_roundw
              case rel => exact ⟨1, by go_num, by omega, S.out, LC.out⟩
              case measure => simp [intOf]
        · skip
          rw [show ((1 : Nat) : Int) = 1 from rfl]
          have LB := LB2
          go_wp2_with fail
          go_loopw [5] (fun vi wr => ∃ j : Nat, vi = .int .i64 j ∧ j ≤ m.au.length ∧ Sp w base mb m Aq Aa Au Ax Ao cq ca cu cx co wr ∧ wr.heap[lb]? = some (.cells #[.slice Aa m.an.length ca, .slice Au m.au.length cu, .slice Ax m.ex.length cx] 27 (0, 0))) (fun vi _ => m.au.length - (intOf vi).toNat)
          case atStart => exact ⟨0, rfl, by omega, S2.out, LB.out⟩
          case round =>
            obtain ⟨j, rfl, hj, hs, hl⟩ := hrel
            have S := Lib.hid hs
            clear hs
            have LC := Lib.hid hl
            clear hl
            have mc : wr.cell? ⟨lb, 1, none⟩ = some (.slice Au m.au.length cu) := bcellAt LC.out 1
            by_cases hjl : j < m.au.length
            case pos =>
              obtain ⟨g, cur, he, hbg, hcur, hcs⟩ := S.out.mw.u.at_ hjl
              have NG := Lib.hid (ne_of_types S.out.b hcur (by decide))
              have NL := Lib.hid (ne_of_types LC.out hcur (by decide))
              subst Au
              have q0 : (0 : Int) ≤ (j : Int) := by omega
              have q1 : (j : Int) < (m.au.length : Int) := by omega
              have z0 : wr.cell? ⟨g, j * 5, none⟩ = some (cur[j * 5]'(by omega)) := (bcellAt hcur _).trans (Array.getElem?_eq_getElem _)
              have y0 : wr.frozen? ⟨g, j * 5, none⟩ = false := bfree hcur _
              have z1 : wr.cell? ⟨g, j * 5 + 1, none⟩ = some (cur[j * 5 + 1]'(by omega)) := (bcellAt hcur _).trans (Array.getElem?_eq_getElem _)
              have y1 : wr.frozen? ⟨g, j * 5 + 1, none⟩ = false := bfree hcur _
              have z2 : wr.cell? ⟨g, j * 5 + 2, none⟩ = some (cur[j * 5 + 2]'(by omega)) := (bcellAt hcur _).trans (Array.getElem?_eq_getElem _)
              have y2 : wr.frozen? ⟨g, j * 5 + 2, none⟩ = false := bfree hcur _
              have z3 : wr.cell? ⟨g, j * 5 + 3, none⟩ = some (cur[j * 5 + 3]'(by omega)) := (bcellAt hcur _).trans (Array.getElem?_eq_getElem _)
              have y3 : wr.frozen? ⟨g, j * 5 + 3, none⟩ = false := bfree hcur _
              have z4 : wr.cell? ⟨g, j * 5 + 4, none⟩ = some (cur[j * 5 + 4]'(by omega)) := (bcellAt hcur _).trans (Array.getElem?_eq_getElem _)
              have y4 : wr.frozen? ⟨g, j * 5 + 4, none⟩ = false := bfree hcur _
              have HBG := Lib.hid hbg
              have HJ := Lib.hid hjl
              clear hcur hbg
              go_wp2_with fail
              go_roundw
              case rel =>
                have T0 := S.out.set g (j * 5) (.string ⟨#[115, 112, 111, 105, 108, 116]⟩) HBG.out NG.out
                have U0 := hl_set LC.out g (j * 5) (.string ⟨#[115, 112, 111, 105, 108, 116]⟩) NL.out
                have T1 := T0.set g (j * 5 + 1) (.int .u16 0) HBG.out NG.out
                have U1 := hl_set U0 g (j * 5 + 1) (.int .u16 0) NL.out
                have T2 := T1.set g (j * 5 + 2) (.int .u16 0) HBG.out NG.out
                have U2 := hl_set U1 g (j * 5 + 2) (.int .u16 0) NL.out
                have T3 := T2.set g (j * 5 + 3) (.int .u32 0) HBG.out NG.out
                have U3 := hl_set U2 g (j * 5 + 3) (.int .u32 0) NL.out
                have T4 := T3.set g (j * 5 + 4) (.string { data := #[] }) HBG.out NG.out
                have U4 := hl_set U3 g (j * 5 + 4) (.string { data := #[] }) NL.out
                exact ⟨j + 1, by go_num, HJ.out, T4, U4⟩
              case measure => have := HJ.out; simp [intOf]; omega
            case neg =>
              go_wp2_with fail
              go_roundw
              case rel => exact ⟨2, by go_num, by omega, S.out, LC.out⟩
              case measure => simp [intOf]
        · skip
          rw [show ((2 : Nat) : Int) = 2 from rfl]
          have LB := LB2
          go_wp2_with fail
          go_loopw [5] (fun vi wr => ∃ j : Nat, vi = .int .i64 j ∧ j ≤ m.ex.length ∧ Sp w base mb m Aq Aa Au Ax Ao cq ca cu cx co wr ∧ wr.heap[lb]? = some (.cells #[.slice Aa m.an.length ca, .slice Au m.au.length cu, .slice Ax m.ex.length cx] 27 (0, 0))) (fun vi _ => m.ex.length - (intOf vi).toNat)
          case atStart => exact ⟨0, rfl, by omega, S2.out, LB.out⟩
          case round =>
            obtain ⟨j, rfl, hj, hs, hl⟩ := hrel
            have S := Lib.hid hs
            clear hs
            have LC := Lib.hid hl
            clear hl
            have mc : wr.cell? ⟨lb, 2, none⟩ = some (.slice Ax m.ex.length cx) := bcellAt LC.out 2
            by_cases hjl : j < m.ex.length
            case pos =>
              obtain ⟨g, cur, he, hbg, hcur, hcs⟩ := S.out.mw.x.at_ hjl
              have NG := Lib.hid (ne_of_types S.out.b hcur (by decide))
              have NL := Lib.hid (ne_of_types LC.out hcur (by decide))
              subst Ax
              have q0 : (0 : Int) ≤ (j : Int) := by omega
              have q1 : (j : Int) < (m.ex.length : Int) := by omega
              have z0 : wr.cell? ⟨g, j * 5, none⟩ = some (cur[j * 5]'(by omega)) := (bcellAt hcur _).trans (Array.getElem?_eq_getElem _)
              have y0 : wr.frozen? ⟨g, j * 5, none⟩ = false := bfree hcur _
              have z1 : wr.cell? ⟨g, j * 5 + 1, none⟩ = some (cur[j * 5 + 1]'(by omega)) := (bcellAt hcur _).trans (Array.getElem?_eq_getElem _)
              have y1 : wr.frozen? ⟨g, j * 5 + 1, none⟩ = false := bfree hcur _
              have z2 : wr.cell? ⟨g, j * 5 + 2, none⟩ = some (cur[j * 5 + 2]'(by omega)) := (bcellAt hcur _).trans (Array.getElem?_eq_getElem _)
              have y2 : wr.frozen? ⟨g, j * 5 + 2, none⟩ = false := bfree hcur _
              have z3 : wr.cell? ⟨g, j * 5 + 3, none⟩ = some (cur[j * 5 + 3]'(by omega)) := (bcellAt hcur _).trans (Array.getElem?_eq_getElem _)
              have y3 : wr.frozen? ⟨g, j * 5 + 3, none⟩ = false := bfree hcur _
              have z4 : wr.cell? ⟨g, j * 5 + 4, none⟩ = some (cur[j * 5 + 4]'(by omega)) := (bcellAt hcur _).trans (Array.getElem?_eq_getElem _)
              have y4 : wr.frozen? ⟨g, j * 5 + 4, none⟩ = false := bfree hcur _
              have HBG := Lib.hid hbg
              have HJ := Lib.hid hjl
              clear hcur hbg
              go_wp2_with fail
              go_roundw
              case rel =>
                have T0 := S.out.set g (j * 5) (.string ⟨#[115, 112, 111, 105, 108, 116]⟩) HBG.out NG.out
                have U0 := hl_set LC.out g (j * 5) (.string ⟨#[115, 112, 111, 105, 108, 116]⟩) NL.out
                have T1 := T0.set g (j * 5 + 1) (.int .u16 0) HBG.out NG.out
                have U1 := hl_set U0 g (j * 5 + 1) (.int .u16 0) NL.out
                have T2 := T1.set g (j * 5 + 2) (.int .u16 0) HBG.out NG.out
                have U2 := hl_set U1 g (j * 5 + 2) (.int .u16 0) NL.out
                have T3 := T2.set g (j * 5 + 3) (.int .u32 0) HBG.out NG.out
                have U3 := hl_set U2 g (j * 5 + 3) (.int .u32 0) NL.out
                have T4 := T3.set g (j * 5 + 4) (.string { data := #[] }) HBG.out NG.out
                have U4 := hl_set U3 g (j * 5 + 4) (.string { data := #[] }) NL.out
                exact ⟨j + 1, by go_num, HJ.out, T4, U4⟩
              case measure => have := HJ.out; simp [intOf]; omega
            case neg =>
              go_wp2_with fail
              go_roundw
              case rel => exact ⟨3, by go_num, by omega, S.out, LC.out⟩
              case measure => simp [intOf]
        · skip
          go_wp2_with fail
          go_loopw [6] (fun vi wr => ∃ j : Nat, vi = .int .i64 j ∧ j ≤ m.ops.length ∧ Sp w base mb m Aq Aa Au Ax Ao cq ca cu cx co wr) (fun vi _ => m.ops.length - (intOf vi).toNat)
          case atStart => exact ⟨0, rfl, by omega, S2.out⟩
          case round =>
            obtain ⟨j, rfl, hj, hs⟩ := hrel
            have S := Lib.hid hs
            clear hs
            have m20 : wr.cell? ⟨mb, 20, none⟩ = some (.slice Ao m.ops.length co) := bcellAt S.out.b 20
            by_cases hjl : j < m.ops.length
            case pos =>
              obtain ⟨g, cur, he, hbg, hcur, hcs⟩ := S.out.mw.o.at_ hjl
              have NG := Lib.hid (ne_of_types S.out.b hcur (by decide))
              subst Ao
              have q0 : (0 : Int) ≤ (j : Int) := by omega
              have q1 : (j : Int) < (m.ops.length : Int) := by omega
              have z0 : wr.cell? ⟨g, j * 2, none⟩ = some (cur[j * 2]'(by omega)) := (bcellAt hcur _).trans (Array.getElem?_eq_getElem _)
              have y0 : wr.frozen? ⟨g, j * 2, none⟩ = false := bfree hcur _
              have z1 : wr.cell? ⟨g, j * 2 + 1, none⟩ = some (cur[j * 2 + 1]'(by omega)) := (bcellAt hcur _).trans (Array.getElem?_eq_getElem _)
              have y1 : wr.frozen? ⟨g, j * 2 + 1, none⟩ = false := bfree hcur _
              have HBG := Lib.hid hbg
              have HJ := Lib.hid hjl
              clear hcur hbg
              go_wp2_with fail
              go_roundw
              case rel =>
                have T0 := S.out.set g (j * 2) (.int .u16 99) HBG.out NG.out
                have T1 := T0.set g (j * 2 + 1) (.string ⟨#[115, 112, 111, 105, 108, 116]⟩) HBG.out NG.out
                exact ⟨j + 1, by go_num, HJ.out, T1⟩
              case measure => have := HJ.out; simp [intOf]; omega
            case neg =>
              go_wp2_with fail
              go_end0
              exact ⟨rfl, S.out.k⟩
end Go.Proofs.YtfeeeoiojaffcaaGreatDoor
