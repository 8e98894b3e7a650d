/-
  Intake: what comes in as arguments.
-/
import Derived.Test.YtoncjhjnmomecaaDoorA22
import Derived.Test.YtoncjhjnmomecaaDoorIkD
namespace Go.Proofs.YtoncjhjnmomecaaDoor
open Go.ChangeShapes Go.WideShapes Go.RowKit Go.Deep

def Cm.v (c : Cm) : Value := .agg #[.int .u8 c.kind, .int .i64 c.code, .int .u16 c.h.id, .bool c.h.qr, .int .u8 c.h.op, .bool c.h.aa, .bool c.h.tc, .bool c.h.rd, .bool c.h.ra, .bool c.h.z, .bool c.h.ad, .bool c.h.cd, .int .u8 c.h.code, .bool c.hasQ, .string c.q.name, .int .u16 c.q.kind, .int .u16 c.q.cls, .bool c.hasE, .int .i64 c.size]
structure Cm.typ (c : Cm) : Prop where
  kind : c.kind < 256
  id : c.h.id < 65536
  op : c.h.op < 256
  q : c.q.rng ∧ c.q.name.size ≤ maxLen
theorem nat_u8' {x : Int} (h : (Lit.int .u8 x).wf = true) : ∃ n : Nat, x = n ∧ n < 256 := by
  have h' : 0 ≤ x ∧ x ≤ 255 := by simpa [Lit.wf, IntKind.min, IntKind.max, IntKind.signed, IntKind.bits] using h
  exact ⟨x.toNat, by omega, by omega⟩
set_option maxRecDepth 100000 in
theorem open_came {H : Type} {enc : TypeId × Value → H} {W : World} {r : Reach} {b0 : Nat} {v : Value} {d : DataW H} {p : List MemPlace}
    (hv : Value.okWide Tryd.prog W r b0 32 v) (h : DataW.Trod enc Tryd.prog W 0 (fun _ => true) true 32 v d p) : ∃ c : Cm, v = c.v ∧ c.typ := by
  obtain ⟨cs, rfl, hsz⟩ := okWide_struct Tryd.underlying32 hv
  obtain ⟨l⟩ := cs
  have hl : l.length = 19 := by simpa using hsz.trans (show Tryd.prog.cellsOf 32 = 19 from by kernel_rfl)
  obtain ⟨fuel, hf⟩ := h
  obtain ⟨xs, n, _, _, _, hlen, hg⟩ := DataW.trod_struct Tryd.underlying32 hf
  match l, hl with
  | [c0, c1, c2, c3, c4, c5, c6, c7, c8, c9, c10, c11, c12, c13, c14, c15, c16, c17, c18], _ =>
    have hlen' : xs.length = 7 := by simpa using hlen
    have z0 : DataW.trod enc Tryd.prog W 0 (fun _ => true) true n 5 (([c0, c1, c2, c3, c4, c5, c6, c7, c8, c9, c10, c11, c12, c13, c14, c15, c16, c17, c18].drop 0).take (Tryd.prog.cellsOf 5)) = xs[0]? := hg 0 _ rfl
    have z1 : DataW.trod enc Tryd.prog W 0 (fun _ => true) true n 3 (([c0, c1, c2, c3, c4, c5, c6, c7, c8, c9, c10, c11, c12, c13, c14, c15, c16, c17, c18].drop 1).take (Tryd.prog.cellsOf 3)) = xs[1]? := hg 1 _ rfl
    have z2 : DataW.trod enc Tryd.prog W 0 (fun _ => true) true n 24 (([c0, c1, c2, c3, c4, c5, c6, c7, c8, c9, c10, c11, c12, c13, c14, c15, c16, c17, c18].drop 2).take (Tryd.prog.cellsOf 24)) = xs[2]? := hg 2 _ rfl
    have z3 : DataW.trod enc Tryd.prog W 0 (fun _ => true) true n 4 (([c0, c1, c2, c3, c4, c5, c6, c7, c8, c9, c10, c11, c12, c13, c14, c15, c16, c17, c18].drop 13).take (Tryd.prog.cellsOf 4)) = xs[3]? := hg 3 _ rfl
    have z4 : DataW.trod enc Tryd.prog W 0 (fun _ => true) true n 26 (([c0, c1, c2, c3, c4, c5, c6, c7, c8, c9, c10, c11, c12, c13, c14, c15, c16, c17, c18].drop 14).take (Tryd.prog.cellsOf 26)) = xs[4]? := hg 4 _ rfl
    have z5 : DataW.trod enc Tryd.prog W 0 (fun _ => true) true n 4 (([c0, c1, c2, c3, c4, c5, c6, c7, c8, c9, c10, c11, c12, c13, c14, c15, c16, c17, c18].drop 17).take (Tryd.prog.cellsOf 4)) = xs[5]? := hg 5 _ rfl
    have z6 : DataW.trod enc Tryd.prog W 0 (fun _ => true) true n 3 (([c0, c1, c2, c3, c4, c5, c6, c7, c8, c9, c10, c11, c12, c13, c14, c15, c16, c17, c18].drop 18).take (Tryd.prog.cellsOf 3)) = xs[6]? := hg 6 _ rfl
    rw [show Tryd.prog.cellsOf 5 = 1 from by kernel_rfl, List.getElem?_eq_getElem (by omega)] at z0
    rw [show Tryd.prog.cellsOf 3 = 1 from by kernel_rfl, List.getElem?_eq_getElem (by omega)] at z1 z6
    rw [show Tryd.prog.cellsOf 24 = 11 from by kernel_rfl, List.getElem?_eq_getElem (by omega)] at z2
    rw [show Tryd.prog.cellsOf 4 = 1 from by kernel_rfl, List.getElem?_eq_getElem (by omega)] at z3 z5
    rw [show Tryd.prog.cellsOf 26 = 3 from by kernel_rfl, List.getElem?_eq_getElem (by omega)] at z4
    replace z0 : DataW.trod enc Tryd.prog W 0 (fun _ => true) true n 5 [c0] = some xs[0] := z0
    replace z1 : DataW.trod enc Tryd.prog W 0 (fun _ => true) true n 3 [c1] = some xs[1] := z1
    replace z2 : DataW.trod enc Tryd.prog W 0 (fun _ => true) true n 24 [c2, c3, c4, c5, c6, c7, c8, c9, c10, c11, c12] = some xs[2] := z2
    replace z3 : DataW.trod enc Tryd.prog W 0 (fun _ => true) true n 4 [c13] = some xs[3] := z3
    replace z4 : DataW.trod enc Tryd.prog W 0 (fun _ => true) true n 26 [c14, c15, c16] = some xs[4] := z4
    replace z5 : DataW.trod enc Tryd.prog W 0 (fun _ => true) true n 4 [c17] = some xs[5] := z5
    replace z6 : DataW.trod enc Tryd.prog W 0 (fun _ => true) true n 3 [c18] = some xs[6] := z6
    obtain ⟨_, hh⟩ := open_part Tryd.underlying24 (by kernel_rfl) z2
    obtain ⟨_, hq⟩ := open_part Tryd.underlying26 (by kernel_rfl) z4
    obtain ⟨ka, rfl, la⟩ := one_u8 Tryd.underlying5 z0
    obtain ⟨kb, rfl, lb⟩ := one_int Tryd.underlying3 z1
    obtain ⟨kc, rfl⟩ := one_bool Tryd.underlying4 z3
    obtain ⟨kd, rfl⟩ := one_bool Tryd.underlying4 z5
    obtain ⟨ke, rfl, le⟩ := one_int Tryd.underlying3 z6
    obtain ⟨_, hy0⟩ := hh 0 _ c2 rfl rfl
    obtain ⟨kh0, rfl, lh0⟩ := one_u16 Tryd.underlying22 hy0
    obtain ⟨_, hy1⟩ := hh 1 _ c3 rfl rfl
    obtain ⟨kh1, rfl⟩ := one_bool Tryd.underlying4 hy1
    obtain ⟨_, hy2⟩ := hh 2 _ c4 rfl rfl
    obtain ⟨kh2, rfl, lh2⟩ := one_u8 Tryd.underlying5 hy2
    obtain ⟨_, hy3⟩ := hh 3 _ c5 rfl rfl
    obtain ⟨kh3, rfl⟩ := one_bool Tryd.underlying4 hy3
    obtain ⟨_, hy4⟩ := hh 4 _ c6 rfl rfl
    obtain ⟨kh4, rfl⟩ := one_bool Tryd.underlying4 hy4
    obtain ⟨_, hy5⟩ := hh 5 _ c7 rfl rfl
    obtain ⟨kh5, rfl⟩ := one_bool Tryd.underlying4 hy5
    obtain ⟨_, hy6⟩ := hh 6 _ c8 rfl rfl
    obtain ⟨kh6, rfl⟩ := one_bool Tryd.underlying4 hy6
    obtain ⟨_, hy7⟩ := hh 7 _ c9 rfl rfl
    obtain ⟨kh7, rfl⟩ := one_bool Tryd.underlying4 hy7
    obtain ⟨_, hy8⟩ := hh 8 _ c10 rfl rfl
    obtain ⟨kh8, rfl⟩ := one_bool Tryd.underlying4 hy8
    obtain ⟨_, hy9⟩ := hh 9 _ c11 rfl rfl
    obtain ⟨kh9, rfl⟩ := one_bool Tryd.underlying4 hy9
    obtain ⟨_, hy10⟩ := hh 10 _ c12 rfl rfl
    obtain ⟨kh10, rfl, lh10⟩ := one_u8 Tryd.underlying5 hy10
    obtain ⟨_, q0⟩ := hq 0 _ c14 rfl rfl
    obtain ⟨_, q1⟩ := hq 1 _ c15 rfl rfl
    obtain ⟨_, q2⟩ := hq 2 _ c16 rfl rfl
    obtain ⟨s, e0, _, hs⟩ := DataW.trod_string Tryd.underlying9 q0
    obtain ⟨g1, e1, hg1⟩ := one_u16 Tryd.underlying22 q1
    obtain ⟨g2, e2, hg2⟩ := one_u16 Tryd.underlying22 q2
    have e0' : c14 = .string s := by simpa using e0
    subst e0' e1 e2
    exact ⟨⟨ka, kb, ⟨kh0, kh1, kh2, kh3, kh4, kh5, kh6, kh7, kh8, kh9, kh10⟩, kc, ⟨s, g1, g2⟩, kd, ke⟩, rfl, ⟨la, lh0, lh2, ⟨hg1, hg2⟩, hs⟩⟩
set_option maxRecDepth 100000 in
theorem open_qn {H : Type} {enc : TypeId × Value → H} {W : World} {r : Reach} {b0 : Nat} {v : Value} {d : DataW H} {p : List MemPlace}
    (hv : Value.okWide Tryd.prog W r b0 26 v) (h : DataW.Trod enc Tryd.prog W 0 (fun _ => true) true 26 v d p) : ∃ q : Qn, v = .agg #[.string q.name, .int .u16 q.kind, .int .u16 q.cls] ∧ q.rng ∧ q.name.size ≤ maxLen := by
  obtain ⟨cs, rfl, hsz⟩ := okWide_struct Tryd.underlying26 hv
  obtain ⟨l⟩ := cs
  have hl : l.length = 3 := by simpa using hsz.trans (show Tryd.prog.cellsOf 26 = 3 from by kernel_rfl)
  obtain ⟨fuel, hf⟩ := h
  match l, hl with
  | [c0, c1, c2], _ =>
    obtain ⟨_, hq⟩ := open_part Tryd.underlying26 (by kernel_rfl) hf
    obtain ⟨_, q0⟩ := hq 0 _ c0 rfl rfl
    obtain ⟨_, q1⟩ := hq 1 _ c1 rfl rfl
    obtain ⟨_, q2⟩ := hq 2 _ c2 rfl rfl
    obtain ⟨s, e0, _, hs⟩ := DataW.trod_string Tryd.underlying9 q0
    obtain ⟨g1, e1, hg1⟩ := one_u16 Tryd.underlying22 q1
    obtain ⟨g2, e2, hg2⟩ := one_u16 Tryd.underlying22 q2
    have e0' : c0 = .string s := by simpa using e0
    subst e0' e1 e2
    exact ⟨⟨s, g1, g2⟩, rfl, ⟨hg1, hg2⟩, hs⟩
set_option maxRecDepth 100000 in
theorem open_hd {H : Type} {enc : TypeId × Value → H} {W : World} {r : Reach} {b0 : Nat} {v : Value} {d : DataW H} {p : List MemPlace}
    (hv : Value.okWide Tryd.prog W r b0 24 v) (h : DataW.Trod enc Tryd.prog W 0 (fun _ => true) true 24 v d p) : ∃ x : Hd, v = x.v ∧ x.id < 65536 ∧ x.op < 256 ∧ x.code < 256 := by
  obtain ⟨cs, rfl, hsz⟩ := okWide_struct Tryd.underlying24 hv
  obtain ⟨l⟩ := cs
  have hl : l.length = 11 := by simpa using hsz.trans (show Tryd.prog.cellsOf 24 = 11 from by kernel_rfl)
  obtain ⟨fuel, hf⟩ := h
  match l, hl with
  | [c0, c1, c2, c3, c4, c5, c6, c7, c8, c9, c10], _ =>
    obtain ⟨_, hh⟩ := open_part Tryd.underlying24 (by kernel_rfl) hf
    obtain ⟨_, hy0⟩ := hh 0 _ c0 rfl rfl
    obtain ⟨kh0, rfl, lh0⟩ := one_u16 Tryd.underlying22 hy0
    obtain ⟨_, hy1⟩ := hh 1 _ c1 rfl rfl
    obtain ⟨kh1, rfl⟩ := one_bool Tryd.underlying4 hy1
    obtain ⟨_, hy2⟩ := hh 2 _ c2 rfl rfl
    obtain ⟨kh2, rfl, lh2⟩ := one_u8 Tryd.underlying5 hy2
    obtain ⟨_, hy3⟩ := hh 3 _ c3 rfl rfl
    obtain ⟨kh3, rfl⟩ := one_bool Tryd.underlying4 hy3
    obtain ⟨_, hy4⟩ := hh 4 _ c4 rfl rfl
    obtain ⟨kh4, rfl⟩ := one_bool Tryd.underlying4 hy4
    obtain ⟨_, hy5⟩ := hh 5 _ c5 rfl rfl
    obtain ⟨kh5, rfl⟩ := one_bool Tryd.underlying4 hy5
    obtain ⟨_, hy6⟩ := hh 6 _ c6 rfl rfl
    obtain ⟨kh6, rfl⟩ := one_bool Tryd.underlying4 hy6
    obtain ⟨_, hy7⟩ := hh 7 _ c7 rfl rfl
    obtain ⟨kh7, rfl⟩ := one_bool Tryd.underlying4 hy7
    obtain ⟨_, hy8⟩ := hh 8 _ c8 rfl rfl
    obtain ⟨kh8, rfl⟩ := one_bool Tryd.underlying4 hy8
    obtain ⟨_, hy9⟩ := hh 9 _ c9 rfl rfl
    obtain ⟨kh9, rfl⟩ := one_bool Tryd.underlying4 hy9
    obtain ⟨_, hy10⟩ := hh 10 _ c10 rfl rfl
    obtain ⟨kh10, rfl, lh10⟩ := one_u8 Tryd.underlying5 hy10
    exact ⟨⟨kh0, kh1, kh2, kh3, kh4, kh5, kh6, kh7, kh8, kh9, kh10⟩, rfl, lh0, lh2, lh10⟩
theorem open_rl {H : Type} {enc : TypeId × Value → H} {W : World} {v : Value} {d : DataW H} {p : List MemPlace}
    (h : DataW.Trod enc Tryd.prog W 0 (fun _ => true) true 36 v d p) (hv : ∃ A n c, v = .slice A n c) : ∃ l : List Rc, Rs W v l ∧ l.length ≤ maxLen ∧ ∀ x ∈ l, x.typ ∧ x.name.size ≤ maxLen ∧ x.data.size ≤ maxLen := by
  obtain ⟨fuel, hf⟩ := h
  obtain ⟨A, n, c, rfl⟩ := hv
  exact open_rs hf
end Go.Proofs.YtoncjhjnmomecaaDoor
