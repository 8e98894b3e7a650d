/-
  Wire: the document's Encode.
-/
import Derived.Test.YtfeeeoiojaffcaaGreatDoorWkC
import Derived.Test.YtfeeeoiojaffcaaGreatDoorWkD
import Derived.Test.YtfeeeoiojaffcaaGreatDoorA17
import Derived.Deep.Cut
namespace Go.Proofs.YtfeeeoiojaffcaaGreatDoor
open Go.RowKit

theorem out_not {m : Ms} {e : Nat} (h : m.wE = e) (he : e ≠ 0) : m.out = ByteArray.empty := if_neg (by omega)
theorem nlB (x : Nat) (h : x ≤ 200000) : ¬ (9223372036854775807 < x) := by omega
theorem rs_lt {w : World} {v : Value} {l : List Rc} (h : Rs w v l) (hl : 0 < l.length) : ∀ k, v.ownBlock = some k → k < w.heap.size := by
  obtain ⟨A, cap, rfl, h1, h2, h3, h4⟩ := h
  obtain ⟨b, off, rfl, hc⟩ := h4 hl
  intro k hk
  have : b = k := by simpa [Value.ownBlock] using hk
  subst this
  have h5 : (rsV l)[0]? ≠ none := by
    rw [List.getElem?_eq_getElem (by rw [h2]; omega)]
    simp
  obtain ⟨u, hu⟩ := Option.ne_none_iff_exists'.1 h5
  have := World.block_lt_of_cell? w _ (hc 0 u hu)
  simpa using this
/-- The states between a message's sections. -/
def Ms.sk (m : Ms) : Nat → Ws
  | 0 => m.s1
  | 1 => m.s2
  | 2 => m.s3
  | _ => m.s4
def Ms.sx (m : Ms) : Nat → List Rc
  | 0 => m.an
  | 1 => m.au
  | _ => m.ex
theorem Ms.sk_step (m : Ms) (k : Nat) (h : k < 3) : m.sk (k + 1) = rsF (m.sk k) (m.sx k) := by
  match k, h with
  | 0, _ => rfl
  | 1, _ => rfl
  | 2, _ => rfl
theorem Ms.sk_le (m : Ms) (k : Nat) : (m.sk k).le m.s5 := by
  match k with
  | 0 => exact ((m.le12.trans m.le23).trans m.le34).trans m.le45
  | 1 => exact (m.le23.trans m.le34).trans m.le45
  | 2 => exact m.le34.trans m.le45
  | _ + 3 => exact m.le45
theorem Ms.sk_low (m : Ms) (k : Nat) : Low (m.sk k).2 := by
  have h1 : Low m.s1.2 := qsF_low (s := m.s0) Low.nil m.qs
  have h2 : Low m.s2.2 := rsF_low h1 m.an
  have h3 : Low m.s3.2 := rsF_low h2 m.au
  match k with
  | 0 => exact h1
  | 1 => exact h2
  | 2 => exact h3
  | _ + 3 => exact rsF_low h3 m.ex
theorem Ms.sk_few (m : Ms) (k : Nat) : (m.sk k).2.length ≤ (m.sk k).1.length := by
  have h1 : m.s1.2.length ≤ m.s1.1.length := (qsF_le m.qs m.s0).few (Nat.zero_le _)
  match k with
  | 0 => exact h1
  | 1 => exact m.le12.few h1
  | 2 => exact (m.le12.trans m.le23).few h1
  | _ + 3 => exact ((m.le12.trans m.le23).trans m.le34).few h1
theorem ttlN_lt' {e v f : Nat} (he : e < 256) (hv : v < 256) (hf : f < 65536) : ttlN e v f < 4294967296 := by unfold ttlN; omega
def sel_ {α : Type} (a b c : α) : Nat → α
  | 0 => a
  | 1 => b
  | _ => c
theorem sx_cell {AA AU AX : Option Addr} {ca cu cx bl : Nat} {m : Ms} {w0 w' : World} {vq vo : Value} (k : Nat) (h : k < 3)
    (hb : w'.heap[bl]? = some (.cells #[.slice AA m.an.length ca, .slice AU m.au.length cu, .slice AX m.ex.length cx] 27 (0, 0))) (hv : MsV w0 m vq (.slice AA m.an.length ca) (.slice AU m.au.length cu) (.slice AX m.ex.length cx) vo) :
    w'.cell? ⟨bl, k, none⟩ = some (.slice (sel_ AA AU AX k) (m.sx k).length (sel_ ca cu cx k)) ∧ Rs w0 (.slice (sel_ AA AU AX k) (m.sx k).length (sel_ ca cu cx k)) (m.sx k) := by
  match k, h with
  | 0, _ => exact ⟨bcellAt hb 0, hv.a⟩
  | 1, _ => exact ⟨bcellAt hb 1, hv.u⟩
  | 2, _ => exact ⟨bcellAt hb 2, hv.x⟩
theorem op_str (s : Ws) (sz ttl : Nat) (d : List UInt8) : (⟨s.1.toArray⟩ : ByteArray) ++ ⟨#[0]⟩ ++ ⟨(enc 2 41).toArray⟩ ++ ⟨(enc 2 sz).toArray⟩ ++ ⟨(enc 4 ttl).toArray⟩ ++ ⟨(enc 2 d.length).toArray⟩ ++ ⟨d.toArray⟩ = ⟨(opF sz ttl d s).1.toArray⟩ := by
  unfold opF
  rw [nmF_root, show (⟨#[0]⟩ : ByteArray) = ⟨([0] : List UInt8).toArray⟩ from rfl, mk_append_list, mk_append_list, mk_append_list, mk_append_list, mk_append_list, mk_append_list]
  unfold adF fx
  simp only [List.append_assoc]
/-- What the document can write. -/
structure Ms.doc (m : Ms) : Prop where
  rng : m.rng
  qn : ∀ q ∈ m.qs, q.name.size ≤ 1000000
  an : ∀ r ∈ m.an, r.name.size ≤ 1000000 ∧ r.data.size ≤ 5000
  un : ∀ r ∈ m.au, r.name.size ≤ 1000000 ∧ r.data.size ≤ 5000
  xn : ∀ r ∈ m.ex, r.name.size ≤ 1000000 ∧ r.data.size ≤ 5000
theorem Ms.doc.put {m : Ms} (h : m.doc) (hm : m.may = true) (k : Nat) : (∀ r ∈ m.sx k, r.put) ∧ (m.sx k).length ≤ 65535 := by
  have y := Ms.may_yes.1 hm
  have f : ∀ (l : List Rc), (∀ r ∈ l, r.rng) → (∀ r ∈ l, r.name.size ≤ 1000000 ∧ r.data.size ≤ 5000) → l.all okR = true → ∀ r ∈ l, r.put := fun l h1 h2 h3 r hr =>
    ⟨okR_same r ▸ List.all_eq_true.1 h3 r hr, (h1 r hr).kind, (h1 r hr).cls, (h1 r hr).ttl, (h2 r hr).2⟩
  match k with
  | 0 => exact ⟨f _ h.rng.a h.an y.a, y.al⟩
  | 1 => exact ⟨f _ h.rng.u h.un y.u, y.ul⟩
  | _ + 2 => exact ⟨f _ h.rng.x h.xn y.x, by have := y.xl; unfold Ms.xn at this; show m.ex.length ≤ 65535; omega⟩
set_option maxRecDepth 100000 in
set_option maxHeartbeats 8000000 in
theorem rencode_any (w : World) (m : Ms) (vq va vu vx vo : Value) (hv : MsV w m vq va vu vx vo) (hd : m.doc) :
    Calls Tryz.prog 13 #[m.val vq va vu vx vo] w fun e w' => e = .returned (.tuple #[.string m.out, .int .i64 m.wE]) ∧ w.grownBy w' none := by
  have HV := Lib.hid hv
  have HD := Lib.hid hd
  have RM := Lib.hid (fun (w' : World) (g : w.grownBy w' none) => rmay7_any w' m vq va vu vx vo (hv.kept g) hd.rng.few hd.qn (fun r hr => (hd.an r hr).1) (fun r hr => (hd.un r hr).1) (fun r hr => (hd.xn r hr).1))
  obtain ⟨Aq, cq, rfl⟩ := hv.q.form
  obtain ⟨Aa, ca, rfl⟩ := hv.a.form
  obtain ⟨Au, cu, rfl⟩ := hv.u.form
  obtain ⟨Ax, cx, rfl⟩ := hv.x.form
  obtain ⟨Ao, co, rfl⟩ := hv.o.form
  clear hv hd
  unfold Ms.val at RM ⊢
  have BA := Lib.hid (balloc w (.cells #[.int .u16 m.h.id, .bool m.h.qr, .int .u8 m.h.op, .bool m.h.aa, .bool m.h.tc, .bool m.h.rd, .bool m.h.ra, .bool m.h.z, .bool m.h.ad, .bool m.h.cd, .int .u8 m.h.code, .slice Aq m.qs.length cq, .slice Aa m.an.length ca, .slice Au m.au.length cu, .slice Ax m.ex.length cx, .bool m.has, .int .u16 m.sz, .int .u8 m.e, .int .u8 m.v, .int .u16 m.f, .slice Ao m.ops.length co] 32))
  have GA := Lib.hid (galloc (grefl w none) (.cells #[.int .u16 m.h.id, .bool m.h.qr, .int .u8 m.h.op, .bool m.h.aa, .bool m.h.tc, .bool m.h.rd, .bool m.h.ra, .bool m.h.z, .bool m.h.ad, .bool m.h.cd, .int .u8 m.h.code, .slice Aq m.qs.length cq, .slice Aa m.an.length ca, .slice Au m.au.length cu, .slice Ax m.ex.length cx, .bool m.has, .int .u16 m.sz, .int .u8 m.e, .int .u8 m.v, .int .u16 m.f, .slice Ao m.ops.length co] 32))
  go_enter Tryz.func13, Tryz.ntmps13
  go_upto_region 1 with fail
  generalize (w.alloc (.cells #[.int .u16 m.h.id, .bool m.h.qr, .int .u8 m.h.op, .bool m.h.aa, .bool m.h.tc, .bool m.h.rd, .bool m.h.ra, .bool m.h.z, .bool m.h.ad, .bool m.h.cd, .int .u8 m.h.code, .slice Aq m.qs.length cq, .slice Aa m.an.length ca, .slice Au m.au.length cu, .slice Ax m.ex.length cx, .bool m.has, .int .u16 m.sz, .int .u8 m.e, .int .u8 m.v, .int .u16 m.f, .slice Ao m.ops.length co] 32)) = w1 at *
  obtain ⟨b1, hb1⟩ : ∃ b, b = w.heap.size := ⟨_, rfl⟩
  rw [← hb1] at BA ⊢
  have L1 := Lib.hid (show w.heap.size ≤ b1 from by omega)
  clear hb1
  go_wp2_with (refine wpList_load_row rfl 32 _ rfl b1 rfl _ _ _ _ BA.out Tryz.underlying32 rfl (by kernel_rfl) ?_)
  refine Calls.mono (RM.out _ GA.out) ?_
  rintro e w2 ⟨rfl, hg⟩
  have G := Lib.hid (gtrans GA.out hg)
  have B := Lib.hid (gblock hg BA.out (by simp))
  clear hg GA BA RM
  by_cases hm : m.may = true
  case neg =>
    have hm' : m.may = false := by simpa using hm
    have HE := Lib.hid (wE_not hm')
    rw [hm']
    clear hm hm'
    go_wp2_with fail
    go_ret2
    exact ⟨by rw [out_not HE.out (by decide), HE.out]; rfl, G.out⟩
  have HM := Lib.hid hm
  rw [hm]
  clear hm
  have YS := Lib.hid (Ms.may_yes.1 HM.out)
  have OW : okW m.h m.qs.length m.an.length m.au.length m.xn := ⟨YS.out.h, ⟨by omega, by have := YS.out.ql; omega⟩, ⟨by omega, by have := YS.out.al; omega⟩, ⟨by omega, by have := YS.out.ul; omega⟩, ⟨by omega, by have := YS.out.xl; omega⟩⟩
  have HW := Lib.hid (fun w' => rhwrite_any m.h m.qs.length m.an.length m.au.length m.xn w' HD.out.rng.id)
  unfold wrS wrE at HW
  rw [if_pos OW, if_pos OW] at HW
  rw [show wrL m.h m.qs.length m.an.length m.au.length m.xn = m.s0.1 from rfl] at HW
  clear OW
  have HW := Lib.hid (fun w' => show Calls Tryz.prog 29 #[.agg #[.int .u16 m.h.id, .bool m.h.qr, .int .u8 m.h.op, .bool m.h.aa, .bool m.h.tc, .bool m.h.rd, .bool m.h.ra, .bool m.h.z, .bool m.h.ad, .bool m.h.cd, .int .u8 m.h.code], .agg #[.int .i64 m.qs.length, .int .i64 m.an.length, .int .i64 m.au.length, .int .i64 m.xn]] w' fun e w'' => e = .returned (.tuple #[.string ⟨m.s0.1.toArray⟩, .int .i64 0]) ∧ w'.grownBy w'' none from HW.out w')
  have XN := Lib.hid (show m.xn = m.ex.length + m.has.toNat from rfl)
  have XL := Lib.hid YS.out.xl
  have c0 := bcellAt B.out 0
  have c1 := bcellAt B.out 1
  have c2 := bcellAt B.out 2
  have c3 := bcellAt B.out 3
  have c4 := bcellAt B.out 4
  have c5 := bcellAt B.out 5
  have c6 := bcellAt B.out 6
  have c7 := bcellAt B.out 7
  have c8 := bcellAt B.out 8
  have c9 := bcellAt B.out 9
  have c10 := bcellAt B.out 10
  have c11 := bcellAt B.out 11
  have c12 := bcellAt B.out 12
  have c13 := bcellAt B.out 13
  have c14 := bcellAt B.out 14
  have c15 := bcellAt B.out 15
  have T0 : ∃ hs : Bool, m.has = hs := ⟨_, rfl⟩
  obtain ⟨hs, hhs⟩ := T0
  rw [hhs] at XN c15
  have HH := Lib.hid hhs
  clear hhs
  generalize m.xn = xn at *
  have FIN : ∀ (a : Nat), a = a := fun _ => rfl
  clear FIN
  have CC := Lib.hid (show hs = false ∧ wrap64 ((m.ex.length : Int) + 0) = xn ∨ hs = true ∧ wrap64 ((m.ex.length : Int) + 1) = xn from by
    have := XL.out
    cases hs with
    | false => exact .inl ⟨rfl, by rw [XN.out]; simp; unfold wrap64; rw [XN.out] at this; simp at this; omega⟩
    | true => exact .inr ⟨rfl, by rw [XN.out] at this ⊢; simp at this ⊢; unfold wrap64; omega⟩)
  rcases CC.out with ⟨rfl, hx⟩ | ⟨rfl, hx⟩
  case inl =>
    have hx' : wrap64 (m.ex.length : Int) = xn := by rw [← hx]; simp
    clear hx
    have hx := hx'
    clear hx'
    go_upto_region 6 with fail
    go_wp2_with fail
    refine Calls.mono (HW.out _) ?_
    rintro e w3 ⟨rfl, hg⟩
    have G3 := Lib.hid (gtrans G.out hg)
    have B3 := Lib.hid (gblock hg B.out (by simp))
    clear hg G B HW hx CC XN XL c0 c1 c2 c3 c4 c5 c6 c7 c8 c9 c10 c11 c12 c13 c14 c15
    have TB := Lib.hid (balloc w3 (.cells #[.slice none 0 0] 79))
    have ga := galloc (grefl w3 none) (.cells #[.slice none 0 0] 79)
    have G4 := Lib.hid (gtrans G3.out ga)
    have B4 := Lib.hid (gblock ga B3.out (by simp))
    have L7 := Lib.hid (show b1 < w3.heap.size from blt B3.out)
    have LW := Lib.hid (G3.out.size)
    have T4 := Lib.hid (show RT (w3.alloc (.cells #[.slice none 0 0] 79)) w3.heap.size (.slice none 0 0) m.s0.2 from ⟨TB.out, ⟨rfl, .inl ⟨rfl, rfl⟩⟩⟩)
    clear ga G3 B3 TB
    go_upto_region 8 with fail
    generalize (w3.alloc (.cells #[.slice none 0 0] 79)) = w4 at *
    generalize w3.heap.size = b7 at *
    have LE := Lib.hid (fun k => (qsF_take_le m.s0 m.qs k).trans (m.sk_le 0))
    have SN := Lib.hid (fun k h => qsF_snoc m.s0 m.qs k h)
    have LQ := Lib.hid (fun k => qsF_low Low.nil (m.qs.take k) (s := m.s0))
    have FQ := Lib.hid (fun k => (qsF_le (m.qs.take k) m.s0).few (Nat.zero_le _))
    have S1 := Lib.hid (show qsF m.s0 (m.qs.take m.qs.length) = m.s1 from by rw [List.take_length]; rfl)
    have S0L := Lib.hid (m.s0_len)
    have QOK := Lib.hid (YS.out.q)
    have QL := Lib.hid (YS.out.ql)
    go_wp2_with fail
    go_loopw [5, 8] (fun vs vi wr => ∃ (i : Nat) (vt' : Value), vi = .int .i64 i ∧ i ≤ m.qs.length ∧ vs = .string ⟨(qsF m.s0 (m.qs.take i)).1.toArray⟩ ∧ RT wr b7 vt' (qsF m.s0 (m.qs.take i)).2 ∧ (qsF m.s0 (m.qs.take i)).1.length ≤ 65535 ∧ w4.grownBy wr (some b7)) (fun _ vi _ => m.qs.length - (intOf vi).toNat)
    case atStart => exact ⟨0, _, rfl, by omega, rfl, T4.out, by show m.s0.1.length ≤ 65535; rw [S0L.out]; decide, grefl _ _⟩
    case round =>
      obtain ⟨i, vt', rfl, hil, rfl, hT, hl5, hg⟩ := hrel
      have GR := Lib.hid hg
      have GW := Lib.hid (gstepo G4.out hg LW.out)
      have T0 := Lib.hid hT
      have B5 := Lib.hid (gblock hg B4.out (by have := L7.out; simp; omega))
      clear hg hT
      have c11 := bcellAt B5.out 11
      by_cases hlt : i < m.qs.length
      · obtain ⟨bl, off, hA, l0, l1, l2⟩ := (HV.out.q.kept GW.out).at hlt
        subst hA
        have hbl : bl < b7 := by
          have h0 := (HV.out.q).at hlt
          obtain ⟨b', off', e', k0, _⟩ := h0
          cases e'
          have := World.block_lt_of_cell? w _ k0
          have := LW.out
          simp at *
          omega
        have q0 : (0 : Int) ≤ (i : Int) := by omega
        have q1 : (i : Int) < (m.qs.length : Int) := by omega
        have HP := Lib.hid (show may (m.qs[i]).name = true from List.all_eq_true.1 QOK.out _ (List.getElem_mem hlt))
        have HG := Lib.hid (HD.out.rng.q _ (List.getElem_mem hlt))
        have SI := Lib.hid (SN.out i hlt)
        have LI := Lib.hid (LQ.out i)
        have FI := Lib.hid (FQ.out i)
        have LN := Lib.hid (LE.out (i + 1))
        generalize m.qs[i] = q at *
        generalize qsF m.s0 (m.qs.take i) = S at *
        obtain ⟨S', hS'⟩ : ∃ s, qsF m.s0 (m.qs.take (i + 1)) = s := ⟨_, rfl⟩
        rw [hS'] at SI LN
        have ES := Lib.hid hS'
        clear hS'
        have P1 := rput_ok b7 vt' S.2 S.1 q.name true true _ T0.out LI.out HP.out (by have := (may_size HP.out).1; have := FI.out; omega) (by omega)
        have L5 := Lib.hid hl5
        clear hl5
        go_wp2_with fail
        refine Calls.mono P1 ?_
        clear P1
        rintro e w5 ⟨rfl, vt1, hT1, hg1⟩
        have T1 := Lib.hid hT1
        have GR1 := Lib.hid (gsome GR.out hg1)
        have B6 := Lib.hid (gblock hg1 B5.out (by have := L7.out; simp; omega))
        have N1 := Lib.hid (show putF q.name true true 0 S.2 S.1 = nmF q.name S from rfl)
        have LS1 := Lib.hid (show (nmF q.name S).1.length ≤ 65800 from by have := put_le_ q.name true true S.2 S.1 (may_size HP.out).2 LI.out; have := (may_size HP.out).1; have := L5.out; show (putF q.name true true 0 S.2 S.1).1.length ≤ 65800; omega)
        have l1' := gcell_ hg1 l1 (by simp; omega)
        have l2' := gcell_ hg1 l2 (by simp; omega)
        rw [N1.out] at T1 ⊢
        have QF := Lib.hid (show qF S q = adF (enc 2 q.kind ++ enc 2 q.cls) (nmF q.name S) from rfl)
        clear hT1 N1 T0 LI FI hg1 l0 l1 l2 B5 GR c11
        generalize nmF q.name S = S1' at *
        go_wp2_with fail
        have K2 := Lib.hid (fun w' => rput_any q.kind 2 (by have := HG.out.kind; omega) (by omega) w')
        have K3 := Lib.hid (fun w' => rput_any q.cls 2 (by have := HG.out.cls; omega) (by omega) w')
        have u2 : IntKind.u64.wrap (q.kind : Int) = q.kind := by rw [IntKind.wrap_u64]; have := HG.out.kind; omega
        have u3 : IntKind.u64.wrap (q.cls : Int) = q.cls := by rw [IntKind.wrap_u64]; have := HG.out.cls; omega
        have ZF := Lib.hid (cls_str S1' q.kind q.cls)
        rw [← QF.out] at ZF
        have S2T := Lib.hid (show (qF S q).2 = S1'.2 from by rw [QF.out]; rfl)
        generalize qF S q = S2 at *
        have c1 := Gr.cell l1'
        have c2 := Gr.cell l2'
        have c3 := Gr.cell (bcellAt B6.out 11)
        have nl1 : ¬ (9223372036854775807 < S1'.1.length + (enc 2 q.kind).length) := by rw [enc_len]; have := LS1.out; omega
        have nl2 : ¬ (9223372036854775807 < S1'.1.length + (enc 2 q.kind).length + (enc 2 q.cls).length) := by rw [enc_len, enc_len]; have := LS1.out; omega
        refine wp_region_noPanic ?_
        refine wp_region_gr (by kernel_rfl) (by kernel_rfl) ?_
        repeat (go_big_quiet_step (first | (go_at_call 31; with_reducible exact Calls.gr (K2.out _)) | (go_at_call 31; with_reducible exact Calls.gr (K3.out _))))
        refine wpQuiet_nil ?_
        rintro _ ⟨gq, rfl⟩
        refine NoPanic.normal ?_
        rw [ZF.out]
        have T2 := Lib.hid (T1.out.kept0 gq.h)
        have GR := Lib.hid (gsome GR1.out (gany' gq.h))
        clear c1 c2 c3 nl1 nl2 K2 K3 u2 u3 ZF l1' l2' T1 GR1 B6 QF
        generalize gq.w = w6 at *
        clear gq
        have hsz : (⟨S2.1.toArray⟩ : ByteArray).size = S2.1.length := size_mk _
        obtain ⟨X2, hX2⟩ : ∃ X : ByteArray, X = ⟨S2.1.toArray⟩ := ⟨_, rfl⟩
        rw [← hX2] at hsz ⊢
        have HX := Lib.hid hX2
        clear hX2
        by_cases h6 : 65535 < S2.1.length
        · have d6 : decide ((65535 : Int) < (S2.1.length : Int)) = true := decide_eq_true (by omega)
          have HE := Lib.hid (wE_long HM.out LN.out (by rw [SI.out]; exact h6))
          clear h6
          go_wp2_with fail
          go_ret2
          exact ⟨by rw [out_not HE.out (by decide), HE.out]; rfl, gstepo G4.out GR.out LW.out⟩
        have d6 : decide ((65535 : Int) < (S2.1.length : Int)) = false := decide_eq_false (by omega)
        have hLL : m.qs.length ≤ 65535 := QL.out
        have H6 := Lib.hid h6
        clear h6
        go_wp2_with fail
        go_roundw
        case rel => exact ⟨i + 1, vt1, by go_num, by omega, by rw [ES.out, SI.out, HX.out], by rw [ES.out, SI.out, S2T.out]; exact T2.out, by rw [ES.out, SI.out]; have := H6.out; omega, GR.out⟩
        case measure => simp [intOf]; omega
      · have k1 : decide ((i : Int) < (m.qs.length : Int)) = false := decide_eq_false (by omega)
        obtain rfl : i = m.qs.length := by omega
        rw [S1.out] at T0 hl5 ⊢
        have L5 := Lib.hid hl5
        clear hl5 SN LQ FQ LE S1 QOK S0L B4 G4 T4
        have c12 := bcellAt B5.out 12
        have c13 := bcellAt B5.out 13
        have c14 := bcellAt B5.out 14
        have ga := galloc (grefl wr none) (.cells #[.slice Aa m.an.length ca, .slice Au m.au.length cu, .slice Ax m.ex.length cx] 27)
        have BS := Lib.hid (balloc wr (.cells #[.slice Aa m.an.length ca, .slice Au m.au.length cu, .slice Ax m.ex.length cx] 27))
        have B6 := Lib.hid (gblock ga B5.out (by simp))
        have T6 := Lib.hid (T0.out.kept0 ga)
        have G6 := Lib.hid (gtrans GW.out ga)
        have L9 := Lib.hid (blt T0.out.cell)
        have LWW := Lib.hid (show w.heap.size ≤ b7 from LW.out)
        clear ga T0 B5 GR GW hil hlt
        go_upto_region 16 with fail
        clear k1 c11 c12 c13 c14
        generalize (wr.alloc (.cells #[.slice Aa m.an.length ca, .slice Au m.au.length cu, .slice Ax m.ex.length cx] 27)) = w7 at *
        generalize wr.heap.size = b9 at *
        go_wp2_with fail
        go_loopw [5, 10] (fun vs vi wx => ∃ (k : Nat) (vt' : Value), vi = .int .i64 k ∧ k ≤ 3 ∧ vs = .string ⟨(m.sk k).1.toArray⟩ ∧ RT wx b7 vt' (m.sk k).2 ∧ (m.sk k).1.length ≤ 65535 ∧ w7.grownBy wx (some b7)) (fun _ vi _ => 3 - (intOf vi).toNat)
        case atStart => exact ⟨0, _, rfl, by omega, rfl, T6.out, L5.out, grefl _ _⟩
        case round =>
          obtain ⟨k, vt2, rfl, hk3, rfl, hT, hl5, hg⟩ := hrel
          have GR := Lib.hid hg
          have GW := Lib.hid (gstepo G6.out hg LWW.out)
          have T0 := Lib.hid hT
          have B7 := Lib.hid (gblock hg B6.out (by have := L7.out; simp; omega))
          have BS' := Lib.hid (gblock hg BS.out (by have := L9.out; simp; omega))
          clear hg hT
          by_cases hlt : k < 3
          · obtain ⟨cc, hRs⟩ := sx_cell (m := m) (w0 := w) k hlt BS'.out HV.out
            have q0 : (0 : Int) ≤ (k : Int) := by omega
            have q1 : (k : Int) < 3 := by omega
            have KP := rputs_any b7 vt2 (m.sk k) (.slice (sel_ Aa Au Ax k) (m.sx k).length (sel_ ca cu cx k)) (m.sx k) wr T0.out (m.sk_low k) (m.sk_few k) hl5 (hRs.kept0 GW.out) (HD.out.put HM.out k).1 (fun h0 j hj => by have := rs_lt hRs h0 j hj; have := LWW.out; omega) (HD.out.put HM.out k).2
            rw [← m.sk_step k hlt] at KP
            have SL := Lib.hid (m.sk_le (k + 1))
            clear hRs hl5
            have HK := Lib.hid hlt
            go_wp2_with fail
            refine Calls.mono KP ?_
            clear KP
            rintro e w8 hp
            unfold PutsPost at hp
            obtain ⟨hg, hp⟩ := hp
            have GR1 := Lib.hid (gsome GR.out hg)
            have GW1 := Lib.hid (gstepo GW.out hg LWW.out)
            clear hg cc q0 q1 hlt
            by_cases h6 : 65535 < (m.sk (k + 1)).1.length
            · rw [if_pos h6] at hp
              subst hp
              have HE := Lib.hid (wE_long HM.out SL.out h6)
              clear h6
              go_wp2_with fail
              go_ret2
              exact ⟨by rw [out_not HE.out (by decide), HE.out]; rfl, GW1.out⟩
            rw [if_neg h6] at hp
            obtain ⟨rfl, vt3, hT3⟩ := hp
            have T3 := Lib.hid hT3
            have H6 := Lib.hid h6
            have hKK : k < 3 := HK.out
            clear h6 hT3
            go_wp2_with fail
            go_roundw
            case rel => exact ⟨k + 1, vt3, by go_num, by have := HK.out; omega, rfl, T3.out, by have := H6.out; omega, GR1.out⟩
            case measure => have := HK.out; simp [intOf]; omega
          · have k1 : decide ((k : Int) < 3) = false := decide_eq_false (by omega)
            obtain rfl : k = 3 := by omega
            have L4 := Lib.hid (show m.s4.1.length ≤ 65535 from hl5)
            rw [show m.sk 3 = m.s4 from rfl] at *
            clear hlt hk3 hl5
            have c15 : wr.cell? ⟨b1, 15, none⟩ = some (.bool false) := (bcellAt B7.out 15).trans (by rw [← HH.out]; rfl)
            have S5 := Lib.hid (show m.s5 = m.s4 from by unfold Ms.s5; rw [HH.out]; rfl)
            have HE := Lib.hid (wE_fine HM.out (by rw [HH.out]; simp) (by rw [S5.out]; exact L4.out))
            have HO := Lib.hid (show m.out = ⟨m.s4.1.toArray⟩ from by rw [← S5.out]; exact if_pos HE.out)
            have hsz : (⟨m.s4.1.toArray⟩ : ByteArray).size = m.s4.1.length := size_mk _
            obtain ⟨X2, hX2⟩ : ∃ X : ByteArray, X = ⟨m.s4.1.toArray⟩ := ⟨_, rfl⟩
            have HQ := Lib.hid (show m.out = X2 from HO.out.trans hX2.symm)
            rw [← hX2] at hsz ⊢
            clear hX2 HO
            have d6 : decide ((65535 : Int) < (m.s4.1.length : Int)) = false := decide_eq_false (by have := L4.out; omega)
            go_wp2_with fail
            go_ret2
            exact ⟨by rw [HQ.out, HE.out]; rfl, GW.out⟩
  case inr =>
    go_upto_region 6 with fail
    go_wp2_with fail
    refine Calls.mono (HW.out _) ?_
    rintro e w3 ⟨rfl, hg⟩
    have G3 := Lib.hid (gtrans G.out hg)
    have B3 := Lib.hid (gblock hg B.out (by simp))
    clear hg G B HW hx CC XN XL c0 c1 c2 c3 c4 c5 c6 c7 c8 c9 c10 c11 c12 c13 c14 c15
    have TB := Lib.hid (balloc w3 (.cells #[.slice none 0 0] 79))
    have ga := galloc (grefl w3 none) (.cells #[.slice none 0 0] 79)
    have G4 := Lib.hid (gtrans G3.out ga)
    have B4 := Lib.hid (gblock ga B3.out (by simp))
    have L7 := Lib.hid (show b1 < w3.heap.size from blt B3.out)
    have LW := Lib.hid (G3.out.size)
    have T4 := Lib.hid (show RT (w3.alloc (.cells #[.slice none 0 0] 79)) w3.heap.size (.slice none 0 0) m.s0.2 from ⟨TB.out, ⟨rfl, .inl ⟨rfl, rfl⟩⟩⟩)
    clear ga G3 B3 TB
    go_upto_region 8 with fail
    generalize (w3.alloc (.cells #[.slice none 0 0] 79)) = w4 at *
    generalize w3.heap.size = b7 at *
    have LE := Lib.hid (fun k => (qsF_take_le m.s0 m.qs k).trans (m.sk_le 0))
    have SN := Lib.hid (fun k h => qsF_snoc m.s0 m.qs k h)
    have LQ := Lib.hid (fun k => qsF_low Low.nil (m.qs.take k) (s := m.s0))
    have FQ := Lib.hid (fun k => (qsF_le (m.qs.take k) m.s0).few (Nat.zero_le _))
    have S1 := Lib.hid (show qsF m.s0 (m.qs.take m.qs.length) = m.s1 from by rw [List.take_length]; rfl)
    have S0L := Lib.hid (m.s0_len)
    have QOK := Lib.hid (YS.out.q)
    have QL := Lib.hid (YS.out.ql)
    go_wp2_with fail
    go_loopw [5, 8] (fun vs vi wr => ∃ (i : Nat) (vt' : Value), vi = .int .i64 i ∧ i ≤ m.qs.length ∧ vs = .string ⟨(qsF m.s0 (m.qs.take i)).1.toArray⟩ ∧ RT wr b7 vt' (qsF m.s0 (m.qs.take i)).2 ∧ (qsF m.s0 (m.qs.take i)).1.length ≤ 65535 ∧ w4.grownBy wr (some b7)) (fun _ vi _ => m.qs.length - (intOf vi).toNat)
    case atStart => exact ⟨0, _, rfl, by omega, rfl, T4.out, by show m.s0.1.length ≤ 65535; rw [S0L.out]; decide, grefl _ _⟩
    case round =>
      obtain ⟨i, vt', rfl, hil, rfl, hT, hl5, hg⟩ := hrel
      have GR := Lib.hid hg
      have GW := Lib.hid (gstepo G4.out hg LW.out)
      have T0 := Lib.hid hT
      have B5 := Lib.hid (gblock hg B4.out (by have := L7.out; simp; omega))
      clear hg hT
      have c11 := bcellAt B5.out 11
      by_cases hlt : i < m.qs.length
      · obtain ⟨bl, off, hA, l0, l1, l2⟩ := (HV.out.q.kept GW.out).at hlt
        subst hA
        have hbl : bl < b7 := by
          have h0 := (HV.out.q).at hlt
          obtain ⟨b', off', e', k0, _⟩ := h0
          cases e'
          have := World.block_lt_of_cell? w _ k0
          have := LW.out
          simp at *
          omega
        have q0 : (0 : Int) ≤ (i : Int) := by omega
        have q1 : (i : Int) < (m.qs.length : Int) := by omega
        have HP := Lib.hid (show may (m.qs[i]).name = true from List.all_eq_true.1 QOK.out _ (List.getElem_mem hlt))
        have HG := Lib.hid (HD.out.rng.q _ (List.getElem_mem hlt))
        have SI := Lib.hid (SN.out i hlt)
        have LI := Lib.hid (LQ.out i)
        have FI := Lib.hid (FQ.out i)
        have LN := Lib.hid (LE.out (i + 1))
        generalize m.qs[i] = q at *
        generalize qsF m.s0 (m.qs.take i) = S at *
        obtain ⟨S', hS'⟩ : ∃ s, qsF m.s0 (m.qs.take (i + 1)) = s := ⟨_, rfl⟩
        rw [hS'] at SI LN
        have ES := Lib.hid hS'
        clear hS'
        have P1 := rput_ok b7 vt' S.2 S.1 q.name true true _ T0.out LI.out HP.out (by have := (may_size HP.out).1; have := FI.out; omega) (by omega)
        have L5 := Lib.hid hl5
        clear hl5
        go_wp2_with fail
        refine Calls.mono P1 ?_
        clear P1
        rintro e w5 ⟨rfl, vt1, hT1, hg1⟩
        have T1 := Lib.hid hT1
        have GR1 := Lib.hid (gsome GR.out hg1)
        have B6 := Lib.hid (gblock hg1 B5.out (by have := L7.out; simp; omega))
        have N1 := Lib.hid (show putF q.name true true 0 S.2 S.1 = nmF q.name S from rfl)
        have LS1 := Lib.hid (show (nmF q.name S).1.length ≤ 65800 from by have := put_le_ q.name true true S.2 S.1 (may_size HP.out).2 LI.out; have := (may_size HP.out).1; have := L5.out; show (putF q.name true true 0 S.2 S.1).1.length ≤ 65800; omega)
        have l1' := gcell_ hg1 l1 (by simp; omega)
        have l2' := gcell_ hg1 l2 (by simp; omega)
        rw [N1.out] at T1 ⊢
        have QF := Lib.hid (show qF S q = adF (enc 2 q.kind ++ enc 2 q.cls) (nmF q.name S) from rfl)
        clear hT1 N1 T0 LI FI hg1 l0 l1 l2 B5 GR c11
        generalize nmF q.name S = S1' at *
        go_wp2_with fail
        have K2 := Lib.hid (fun w' => rput_any q.kind 2 (by have := HG.out.kind; omega) (by omega) w')
        have K3 := Lib.hid (fun w' => rput_any q.cls 2 (by have := HG.out.cls; omega) (by omega) w')
        have u2 : IntKind.u64.wrap (q.kind : Int) = q.kind := by rw [IntKind.wrap_u64]; have := HG.out.kind; omega
        have u3 : IntKind.u64.wrap (q.cls : Int) = q.cls := by rw [IntKind.wrap_u64]; have := HG.out.cls; omega
        have ZF := Lib.hid (cls_str S1' q.kind q.cls)
        rw [← QF.out] at ZF
        have S2T := Lib.hid (show (qF S q).2 = S1'.2 from by rw [QF.out]; rfl)
        generalize qF S q = S2 at *
        have c1 := Gr.cell l1'
        have c2 := Gr.cell l2'
        have c3 := Gr.cell (bcellAt B6.out 11)
        have nl1 : ¬ (9223372036854775807 < S1'.1.length + (enc 2 q.kind).length) := by rw [enc_len]; have := LS1.out; omega
        have nl2 : ¬ (9223372036854775807 < S1'.1.length + (enc 2 q.kind).length + (enc 2 q.cls).length) := by rw [enc_len, enc_len]; have := LS1.out; omega
        refine wp_region_noPanic ?_
        refine wp_region_gr (by kernel_rfl) (by kernel_rfl) ?_
        repeat (go_big_quiet_step (first | (go_at_call 31; with_reducible exact Calls.gr (K2.out _)) | (go_at_call 31; with_reducible exact Calls.gr (K3.out _))))
        refine wpQuiet_nil ?_
        rintro _ ⟨gq, rfl⟩
        refine NoPanic.normal ?_
        rw [ZF.out]
        have T2 := Lib.hid (T1.out.kept0 gq.h)
        have GR := Lib.hid (gsome GR1.out (gany' gq.h))
        clear c1 c2 c3 nl1 nl2 K2 K3 u2 u3 ZF l1' l2' T1 GR1 B6 QF
        generalize gq.w = w6 at *
        clear gq
        have hsz : (⟨S2.1.toArray⟩ : ByteArray).size = S2.1.length := size_mk _
        obtain ⟨X2, hX2⟩ : ∃ X : ByteArray, X = ⟨S2.1.toArray⟩ := ⟨_, rfl⟩
        rw [← hX2] at hsz ⊢
        have HX := Lib.hid hX2
        clear hX2
        by_cases h6 : 65535 < S2.1.length
        · have d6 : decide ((65535 : Int) < (S2.1.length : Int)) = true := decide_eq_true (by omega)
          have HE := Lib.hid (wE_long HM.out LN.out (by rw [SI.out]; exact h6))
          clear h6
          go_wp2_with fail
          go_ret2
          exact ⟨by rw [out_not HE.out (by decide), HE.out]; rfl, gstepo G4.out GR.out LW.out⟩
        have d6 : decide ((65535 : Int) < (S2.1.length : Int)) = false := decide_eq_false (by omega)
        have hLL : m.qs.length ≤ 65535 := QL.out
        have H6 := Lib.hid h6
        clear h6
        go_wp2_with fail
        go_roundw
        case rel => exact ⟨i + 1, vt1, by go_num, by omega, by rw [ES.out, SI.out, HX.out], by rw [ES.out, SI.out, S2T.out]; exact T2.out, by rw [ES.out, SI.out]; have := H6.out; omega, GR.out⟩
        case measure => simp [intOf]; omega
      · have k1 : decide ((i : Int) < (m.qs.length : Int)) = false := decide_eq_false (by omega)
        obtain rfl : i = m.qs.length := by omega
        rw [S1.out] at T0 hl5 ⊢
        have L5 := Lib.hid hl5
        clear hl5 SN LQ FQ LE S1 QOK S0L B4 G4 T4
        have c12 := bcellAt B5.out 12
        have c13 := bcellAt B5.out 13
        have c14 := bcellAt B5.out 14
        have ga := galloc (grefl wr none) (.cells #[.slice Aa m.an.length ca, .slice Au m.au.length cu, .slice Ax m.ex.length cx] 27)
        have BS := Lib.hid (balloc wr (.cells #[.slice Aa m.an.length ca, .slice Au m.au.length cu, .slice Ax m.ex.length cx] 27))
        have B6 := Lib.hid (gblock ga B5.out (by simp))
        have T6 := Lib.hid (T0.out.kept0 ga)
        have G6 := Lib.hid (gtrans GW.out ga)
        have L9 := Lib.hid (blt T0.out.cell)
        have LWW := Lib.hid (show w.heap.size ≤ b7 from LW.out)
        clear ga T0 B5 GR GW hil hlt
        go_upto_region 16 with fail
        clear k1 c11 c12 c13 c14
        generalize (wr.alloc (.cells #[.slice Aa m.an.length ca, .slice Au m.au.length cu, .slice Ax m.ex.length cx] 27)) = w7 at *
        generalize wr.heap.size = b9 at *
        go_wp2_with fail
        go_loopw [5, 10] (fun vs vi wx => ∃ (k : Nat) (vt' : Value), vi = .int .i64 k ∧ k ≤ 3 ∧ vs = .string ⟨(m.sk k).1.toArray⟩ ∧ RT wx b7 vt' (m.sk k).2 ∧ (m.sk k).1.length ≤ 65535 ∧ w7.grownBy wx (some b7)) (fun _ vi _ => 3 - (intOf vi).toNat)
        case atStart => exact ⟨0, _, rfl, by omega, rfl, T6.out, L5.out, grefl _ _⟩
        case round =>
          obtain ⟨k, vt2, rfl, hk3, rfl, hT, hl5, hg⟩ := hrel
          have GR := Lib.hid hg
          have GW := Lib.hid (gstepo G6.out hg LWW.out)
          have T0 := Lib.hid hT
          have B7 := Lib.hid (gblock hg B6.out (by have := L7.out; simp; omega))
          have BS' := Lib.hid (gblock hg BS.out (by have := L9.out; simp; omega))
          clear hg hT
          by_cases hlt : k < 3
          · obtain ⟨cc, hRs⟩ := sx_cell (m := m) (w0 := w) k hlt BS'.out HV.out
            have q0 : (0 : Int) ≤ (k : Int) := by omega
            have q1 : (k : Int) < 3 := by omega
            have KP := rputs_any b7 vt2 (m.sk k) (.slice (sel_ Aa Au Ax k) (m.sx k).length (sel_ ca cu cx k)) (m.sx k) wr T0.out (m.sk_low k) (m.sk_few k) hl5 (hRs.kept0 GW.out) (HD.out.put HM.out k).1 (fun h0 j hj => by have := rs_lt hRs h0 j hj; have := LWW.out; omega) (HD.out.put HM.out k).2
            rw [← m.sk_step k hlt] at KP
            have SL := Lib.hid (m.sk_le (k + 1))
            clear hRs hl5
            have HK := Lib.hid hlt
            go_wp2_with fail
            refine Calls.mono KP ?_
            clear KP
            rintro e w8 hp
            unfold PutsPost at hp
            obtain ⟨hg, hp⟩ := hp
            have GR1 := Lib.hid (gsome GR.out hg)
            have GW1 := Lib.hid (gstepo GW.out hg LWW.out)
            clear hg cc q0 q1 hlt
            by_cases h6 : 65535 < (m.sk (k + 1)).1.length
            · rw [if_pos h6] at hp
              subst hp
              have HE := Lib.hid (wE_long HM.out SL.out h6)
              clear h6
              go_wp2_with fail
              go_ret2
              exact ⟨by rw [out_not HE.out (by decide), HE.out]; rfl, GW1.out⟩
            rw [if_neg h6] at hp
            obtain ⟨rfl, vt3, hT3⟩ := hp
            have T3 := Lib.hid hT3
            have H6 := Lib.hid h6
            have hKK : k < 3 := HK.out
            clear h6 hT3
            go_wp2_with fail
            go_roundw
            case rel => exact ⟨k + 1, vt3, by go_num, by have := HK.out; omega, rfl, T3.out, by have := H6.out; omega, GR1.out⟩
            case measure => have := HK.out; simp [intOf]; omega
          · have k1 : decide ((k : Int) < 3) = false := decide_eq_false (by omega)
            obtain rfl : k = 3 := by omega
            have L4 := Lib.hid (show m.s4.1.length ≤ 65535 from hl5)
            rw [show m.sk 3 = m.s4 from rfl] at *
            clear hlt hk3 hl5
            have c15 : wr.cell? ⟨b1, 15, none⟩ = some (.bool true) := (bcellAt B7.out 15).trans (by rw [← HH.out]; rfl)
            have c16 := bcellAt B7.out 16
            have c17 := bcellAt B7.out 17
            have c18 := bcellAt B7.out 18
            have c19 := bcellAt B7.out 19
            have c20 := bcellAt B7.out 20
            have KW := rwrite6_any m.sz m.e m.v m.f Ao co m.ops wr HD.out.rng.e HD.out.rng.v HD.out.rng.f (HV.out.o.kept GW.out) (by have := HD.out.rng.ol; unfold maxLen; omega) HD.out.rng.o
            go_wp2_with fail
            refine Calls.mono KW ?_
            clear KW
            rintro e w8 ⟨rfl, hg⟩
            have GW1 := Lib.hid (gtrans GW.out hg)
            clear hg c15 c16 c17 c18 c19 c20
            unfold ewR
            by_cases ho : okO m.ops
            case neg =>
              rw [if_neg ho]
              have HE := Lib.hid (wE_opts HM.out HH.out ho)
              clear ho
              go_wp2_with fail
              go_ret2
              exact ⟨by rw [out_not HE.out (by decide), HE.out]; rfl, GW1.out⟩
            rw [if_pos ho]
            have HO := Lib.hid ho
            have tl := ttlN_lt' HD.out.rng.e HD.out.rng.v HD.out.rng.f
            have K1 := Lib.hid (fun w' => rput_any 41 2 (by omega) (by omega) w')
            have K2 := Lib.hid (fun w' => rput_any m.sz 2 (by have := HD.out.rng.sz; omega) (by omega) w')
            have K3 := Lib.hid (fun w' => rput_any (ttlN m.e m.v m.f) 4 tl (by omega) w')
            have K4 := Lib.hid (fun w' => rput_any (opsB m.ops).length 2 (by unfold okO at ho; omega) (by omega) w')
            have u2 : IntKind.u64.wrap (m.sz : Int) = m.sz := by rw [IntKind.wrap_u64]; have := HD.out.rng.sz; omega
            have u3 : IntKind.u64.wrap ((ttlN m.e m.v m.f : Nat) : Int) = (ttlN m.e m.v m.f : Nat) := by rw [IntKind.wrap_u64]; omega
            have u4 : IntKind.u64.wrap (((opsB m.ops).length : Nat) : Int) = ((opsB m.ops).length : Nat) := by rw [IntKind.wrap_u64]; unfold okO at ho; omega
            have hs8 : (⟨(opsB m.ops).toArray⟩ : ByteArray).size = (opsB m.ops).length := size_mk _
            have ZF := Lib.hid (op_str m.s4 m.sz (ttlN m.e m.v m.f) (opsB m.ops))
            have S5 := Lib.hid (show m.s5 = opF m.sz (ttlN m.e m.v m.f) (opsB m.ops) m.s4 from by unfold Ms.s5; rw [HH.out]; rfl)
            rw [← S5.out] at ZF
            generalize ttlN m.e m.v m.f = tt at *
            have ol : (opsB m.ops).length ≤ 65535 := ho
            have n1 : ¬ (9223372036854775807 < m.s4.1.length + 1) := nlB _ (by have := L4.out; omega)
            have n2 : ¬ (9223372036854775807 < m.s4.1.length + 1 + (enc 2 41).length) := nlB _ (by rw [enc_len]; have := L4.out; omega)
            have n3 : ¬ (9223372036854775807 < m.s4.1.length + 1 + (enc 2 41).length + (enc 2 m.sz).length) := nlB _ (by rw [enc_len, enc_len]; have := L4.out; omega)
            have n4 : ¬ (9223372036854775807 < m.s4.1.length + 1 + (enc 2 41).length + (enc 2 m.sz).length + (enc 4 tt).length) := nlB _ (by rw [enc_len, enc_len, enc_len]; have := L4.out; omega)
            have n5 : ¬ (9223372036854775807 < m.s4.1.length + 1 + (enc 2 41).length + (enc 2 m.sz).length + (enc 4 tt).length + (enc 2 (opsB m.ops).length).length) := nlB _ (by rw [enc_len, enc_len, enc_len, enc_len]; have := L4.out; omega)
            have n6 : ¬ (9223372036854775807 < m.s4.1.length + 1 + (enc 2 41).length + (enc 2 m.sz).length + (enc 4 tt).length + (enc 2 (opsB m.ops).length).length + (opsB m.ops).length) := nlB _ (by rw [enc_len, enc_len, enc_len, enc_len]; have := L4.out; omega)
            clear ho tl ol
            go_wp2_with fail
            refine Calls.mono (K1.out _) ?_
            rintro e w9 ⟨rfl, hg⟩
            have GW2 := Lib.hid (gtrans GW1.out hg)
            clear hg GW1
            go_wp2_with fail
            refine Calls.mono (K2.out _) ?_
            rintro e w10 ⟨rfl, hg⟩
            have GW3 := Lib.hid (gtrans GW2.out hg)
            clear hg GW2
            go_wp2_with fail
            refine Calls.mono (K3.out _) ?_
            rintro e w11 ⟨rfl, hg⟩
            have GW4 := Lib.hid (gtrans GW3.out hg)
            clear hg GW3
            go_wp2_with fail
            refine Calls.mono (K4.out _) ?_
            rintro e w12 ⟨rfl, hg⟩
            have GW5 := Lib.hid (gtrans GW4.out hg)
            clear hg GW4 u2 u3 u4
            have zf := ZF.out
            have hsz : (⟨m.s5.1.toArray⟩ : ByteArray).size = m.s5.1.length := size_mk _
            obtain ⟨X2, hX2⟩ : ∃ X : ByteArray, X = ⟨m.s5.1.toArray⟩ := ⟨_, rfl⟩
            rw [← hX2] at hsz zf
            have HX := Lib.hid hX2
            clear hX2
            by_cases h6 : 65535 < m.s5.1.length
            · have d6 : decide ((65535 : Int) < (m.s5.1.length : Int)) = true := decide_eq_true (by omega)
              have HE := Lib.hid (wE_long HM.out (Ws.le_refl m.s5) h6)
              clear h6
              go_wp2_with fail
              go_ret2
              exact ⟨by rw [out_not HE.out (by decide), HE.out]; rfl, GW5.out⟩
            have d6 : decide ((65535 : Int) < (m.s5.1.length : Int)) = false := decide_eq_false (by omega)
            have HE := Lib.hid (wE_fine HM.out (fun _ => HO.out) (by omega))
            have HQ := Lib.hid (show m.out = X2 from by rw [HX.out]; exact if_pos HE.out)
            clear h6
            go_wp2_with fail
            go_ret2
            exact ⟨by rw [HQ.out, HE.out]; rfl, GW5.out⟩
end Go.Proofs.YtfeeeoiojaffcaaGreatDoor
