/-
  Wire: typed messages that are not large; WireSame's walk.
  An EDNS that came in.
  A message that came in.
-/
import Derived.Test.YthgendgmlpaglaaDoorWiZ
import Derived.Test.YthgendgmlpaglaaDoorA3
import Derived.Test.YthgendgmlpaglaaDoorA11
import Derived.Deep.SlicePairs
namespace Go.Proofs.YthgendgmlpaglaaDoor
open Go.RowKit

structure Rc.typ (r : Rc) : Prop where
  kind : r.kind < 65536
  cls : r.cls < 65536
  ttl : r.ttl < 4294967296
/-- A message as it comes in. -/
structure Ms.typ (m : Ms) : Prop where
  mem : m.mem
  id : m.h.id < 65536
  q : ∀ q ∈ m.qs, q.rng
  a : ∀ r ∈ m.an, r.typ
  u : ∀ r ∈ m.au, r.typ
  x : ∀ r ∈ m.ex, r.typ
  sz : m.sz < 65536
  e : m.e < 256
  v : m.v < 256
  f : m.f < 65536
  o : ∀ o ∈ m.ops, o.1 < 65536
theorem sum_of {α : Type} (f : α → Nat) {x : α} : ∀ {l : List α}, x ∈ l → f x ≤ (l.map f).sum := by
  intro l
  induction l with
  | nil => intro h; cases h
  | cons y l ih =>
    intro h
    rw [List.map_cons, List.sum_cons]
    rcases List.mem_cons.1 h with rfl | h
    · omega
    · have := ih h; omega
theorem sum_len {α : Type} (f : α → Nat) (hf : ∀ x, 5 ≤ f x) : ∀ l : List α, 5 * l.length ≤ (l.map f).sum := by
  intro l
  induction l with
  | nil => simp
  | cons y l ih =>
    rw [List.map_cons, List.sum_cons, List.length_cons]
    have := hf y
    omega
theorem big_sum {m : Ms} (h : m.big < 5000) : (m.an.map rcW).sum + (m.au.map rcW).sum + (m.ex.map rcW).sum + (m.qs.map qnW).sum + (m.ops.map opW).sum < 5000 := by
  have h' := h
  unfold Ms.big at h'
  obtain ⟨o1, o2⟩ := stS_sum opW m.ops (stS qnW m.qs m.n0)
  obtain ⟨q1, q2⟩ := stS_sum qnW m.qs m.n0
  have h1 : m.n0 = stS rcW m.an 0 + stS rcW m.au 0 + stS rcW m.ex 0 := rfl
  obtain ⟨a1, a2⟩ := stS_sum rcW m.an 0
  obtain ⟨u1, u2⟩ := stS_sum rcW m.au 0
  obtain ⟨x1, x2⟩ := stS_sum rcW m.ex 0
  have := o1 h'
  have := q1 (by omega)
  have := a1 (by omega)
  have := u1 (by omega)
  have := x1 (by omega)
  omega
structure Ms.small (m : Ms) : Prop where
  ql : m.qs.length ≤ 1000
  al : m.an.length ≤ 1000
  ul : m.au.length ≤ 1000
  xl : m.ex.length ≤ 1000
  ol : m.ops.length ≤ 1000
theorem rcW_5 (r : Rc) : 5 ≤ rcW r := by unfold rcW; omega
theorem qnW_5 (r : Qn) : 5 ≤ qnW r := by unfold qnW; omega
theorem opW_5 (r : Opt) : 5 ≤ opW r := by unfold opW; omega
theorem big_small {m : Ms} (h : m.big < 5000) : m.small := by
  have := big_sum h
  have := sum_len rcW rcW_5 m.an
  have := sum_len rcW rcW_5 m.au
  have := sum_len rcW rcW_5 m.ex
  have := sum_len qnW qnW_5 m.qs
  have := sum_len opW opW_5 m.ops
  exact ⟨by omega, by omega, by omega, by omega, by omega⟩
theorem rc_small {r : Rc} (h : rcW r < 5000) : rcW r = 12 + r.name.size + r.data.size := by unfold rcW at *; omega
theorem qn_small {r : Qn} (h : qnW r < 5000) : qnW r = 5 + r.name.size := by unfold qnW at *; omega
theorem op_small {r : Opt} (h : opW r < 5000) : opW r = 5 + r.2.size := by unfold opW at *; omega
theorem Ms.typ.rng {m : Ms} (h : m.typ) (hb : m.big < 5000) : m.rng := by
  have hs := big_sum hb
  have hl := big_small hb
  have ht : ∀ r : Rc, r.typ → rcW r < 5000 → r.rng := fun r ht hr => ⟨ht.kind, ht.cls, ht.ttl, by have := rc_small hr; omega⟩
  refine ⟨h.id, h.q, fun r hr => ht r (h.a r hr) ?_, fun r hr => ht r (h.u r hr) ?_, fun r hr => ht r (h.x r hr) ?_, by have := hl.xl; omega, by have := hl.ol; omega, h.sz, h.e, h.v, h.f, h.o⟩
  · have := sum_of rcW hr; omega
  · have := sum_of rcW hr; omega
  · have := sum_of rcW hr; omega
end Go.Proofs.YthgendgmlpaglaaDoor
namespace Go.Proofs.YthgendgmlpaglaaDoor
open Go.ChangeShapes Go.WideShapes Go.RowKit Go.Deep

def strOf : Value → ByteArray
  | .string s => s
  | _ => ByteArray.empty
theorem open_opts {H : Type} {enc : TypeId × Value → H} {W : World} {fuel : Nat} {v : Value} {y : DataW H × List MemPlace}
    (h : DataW.trod enc Tryd.prog W 0 (fun _ => true) true fuel 33 [v] = some y) : ∃ l : List Opt, Ops W v l ∧ l.length ≤ maxLen ∧ ∀ o ∈ l, o.1 < 65536 ∧ o.2.size ≤ maxLen := by
  rcases Deep.open_slice_pairs Tryd.underlying33 Tryd.underlying57 (by kernel_rfl) rfl rfl (by kernel_rfl) (by kernel_rfl) h with ⟨hcs, _⟩ | ⟨a, len, cap, m, n, V0, V1, D0, D1, P0, P1, hcs, _, hl, hm, hmm, _, hx⟩
  · obtain rfl : v = .slice none 0 0 := by simpa using hcs
    exact ⟨[], Sl.nil W 2, by simp, by simp⟩
  · obtain rfl : v = .slice (some a) len cap := by simpa using hcs
    have hlm : len ≤ m := by rw [hmm]; simpa using hl
    have hcell : ∀ i, i < len → ∃ (c : Nat) (s : ByteArray), V0 i = .int .u16 c ∧ V1 i = .string s ∧ c < 65536 ∧ s.size ≤ maxLen := by
      intro i hi
      obtain ⟨_, _, h3, h4⟩ := hx i (by omega)
      obtain ⟨c, e0, hc⟩ := one_u16 Tryd.underlying28 h3
      obtain ⟨s, e1, _, hs⟩ := DataW.trod_string Tryd.underlying9 h4
      exact ⟨c, s, e0, by simpa using e1, hc, hs⟩
    refine ⟨(List.range len).map fun i => ((intOf (V0 i)).toNat, strOf (V1 i)), ⟨some a, cap, by simp, by simpa using hl, ov_len _, by simp, fun h0 => ?_⟩, by simp; omega, ?_⟩
    · simp only [List.length_map, List.length_range] at h0
      have ha : a = ⟨a.block, a.off, none⟩ := by
        have := (hx 0 (by omega)).1
        exact lit_of_cell (by simpa [Addr.add] using this)
      generalize a.block = b at ha
      generalize a.off = off at ha
      subst ha
      refine ⟨b, off, rfl, fun j u hu => ?_⟩
      have hj : j < len * 2 := by
        have := (List.getElem?_eq_some_iff.1 hu).1
        rw [ov_len] at this
        simpa using this
      have hi : j / 2 < len := by omega
      obtain ⟨c, s, e0, e1, _, _⟩ := hcell (j / 2) hi
      obtain ⟨h1, h2, _, _⟩ := hx (j / 2) (by omega)
      rw [Addr.add_lit] at h1 h2
      have hget : ((List.range len).map fun i => ((intOf (V0 i)).toNat, strOf (V1 i)))[j / 2]? = some (c, s) := by
        simp [hi, e0, e1, intOf, strOf]
      have hg := flat_get (fun o : Opt => [.int .u16 o.1, .string o.2]) 2 (fun _ => rfl) _ (j / 2) (j % 2) (by omega) (c, s) hget
      rw [show j / 2 * 2 + j % 2 = j by omega] at hg
      have hu' : [Value.int .u16 (c : Int), .string s][j % 2]? = some u := by rw [← hg]; exact hu
      rcases Nat.mod_two_eq_zero_or_one j with hm0 | hm1
      · rw [hm0] at hu'
        have : u = .int .u16 c := by simpa using hu'.symm
        rw [this, ← e0, ← h1]
        congr 2
        omega
      · rw [hm1] at hu'
        have : u = .string s := by simpa using hu'.symm
        rw [this, ← e1, ← h2]
        congr 2
        omega
    · intro o ho
      simp only [List.mem_map, List.mem_range] at ho
      obtain ⟨i, hi, rfl⟩ := ho
      obtain ⟨c, s, e0, e1, hc, hs⟩ := hcell i hi
      simp only [e0, e1, intOf, strOf]
      exact ⟨by simpa using hc, hs⟩

set_option maxRecDepth 100000 in
theorem open_edns {H : Type} {enc : TypeId × Value → H} {W : World} {r : Reach} {b0 : Nat} {v : Value} {d : DataW H} {p : List MemPlace}
    (hv : Value.okWide Tryd.prog W r b0 35 v) (h : DataW.Trod enc Tryd.prog W 0 (fun _ => true) true 35 v d p) :
    ∃ (sz e x f : Nat) (A : Option Addr) (cap : Nat) (l : List Opt), v = .agg #[.int .u16 sz, .int .u8 e, .int .u8 x, .int .u16 f, .slice A l.length cap] ∧ sz < 65536 ∧ e < 256 ∧ x < 256 ∧ f < 65536 ∧ Ops W (.slice A l.length cap) l ∧ l.length ≤ maxLen ∧ ∀ o ∈ l, o.1 < 65536 ∧ o.2.size ≤ maxLen := by
  obtain ⟨cs, n, rfl, hl, hf⟩ := open_fields Tryd.underlying35 (by kernel_rfl) (by kernel_rfl) hv h
  match cs, hl with
  | [c0, c1, c2, c3, c4], _ =>
    obtain ⟨_, y0⟩ := hf 0 _ c0 rfl rfl
    obtain ⟨_, y1⟩ := hf 1 _ c1 rfl rfl
    obtain ⟨_, y2⟩ := hf 2 _ c2 rfl rfl
    obtain ⟨_, y3⟩ := hf 3 _ c3 rfl rfl
    obtain ⟨_, y4⟩ := hf 4 _ c4 rfl rfl
    obtain ⟨k0, rfl, l0⟩ := one_u16 Tryd.underlying28 y0
    obtain ⟨k1, rfl, l1⟩ := one_u8 Tryd.underlying5 y1
    obtain ⟨k2, rfl, l2⟩ := one_u8 Tryd.underlying5 y2
    obtain ⟨k3, rfl, l3⟩ := one_u16 Tryd.underlying28 y3
    obtain ⟨l, ho, hm, hc⟩ := open_opts y4
    obtain ⟨A, cap, rfl⟩ := ho.form
    exact ⟨k0, k1, k2, k3, A, cap, l, rfl, l0, l1, l2, l3, ho, hm, hc⟩
end Go.Proofs.YthgendgmlpaglaaDoor
namespace Go.Proofs.YthgendgmlpaglaaDoor
open Go.ChangeShapes Go.WideShapes Go.RowKit Go.Deep

theorem one_u32' {H : Type} {enc : TypeId × Value → H} {P : Program} {w : World} {base : Nat} {spare : Nat → Bool} {held : Bool} {t : TypeId} {n : Nat} {c : Value} {y : DataW H × List MemPlace} (ht : P.underlying t = some (.int .u32)) (h : DataW.trod enc P w base spare held n t [c] = some y) : ∃ k : Nat, c = .int .u32 k ∧ k < 4294967296 := by
  obtain ⟨x, e, _, wf⟩ := DataW.trod_int ht h
  obtain ⟨k, rfl, hk⟩ := nat_u32 wf
  exact ⟨k, by simpa using e, hk⟩
theorem open_part {H : Type} {enc : TypeId × Value → H} {P : Program} {w : World} {base : Nat} {spare : Nat → Bool} {held : Bool} {t : TypeId} {fs : Array Field} {n0 : Nat} {cs : List Value} {y : DataW H × List MemPlace}
    (hs : P.underlying t = some (.struct fs)) (hone : oneCellFields P fs = true) (h : DataW.trod enc P w base spare held n0 t cs = some y) :
    ∃ n : Nat, ∀ (j : Nat) (f : Field) (c : Value), fs[j]? = some f → cs[j]? = some c → ∃ y, DataW.trod enc P w base spare held n f.type [c] = some y := by
  obtain ⟨xs, n, _, _, _, hlen, hg⟩ := DataW.trod_struct hs h
  refine ⟨n, fun j f c hj hc => ?_⟩
  obtain ⟨o, k⟩ := hone_of hone j f hj
  have hjl : j < cs.length := (List.getElem?_eq_some_iff.1 hc).1
  have h1 := hg j f hj
  rw [o, k] at h1
  have e : (cs.drop j).take 1 = [c] := by
    rw [List.drop_eq_getElem_cons hjl, List.take_succ_cons, List.take_zero]
    rw [List.getElem?_eq_getElem hjl] at hc
    rw [Option.some.inj hc]
  have hjf : j < fs.size := (Array.getElem?_eq_some_iff.1 hj).1
  rw [e, List.getElem?_eq_getElem (by omega)] at h1
  exact ⟨_, h1⟩
theorem open_qs {H : Type} {enc : TypeId × Value → H} {W : World} {fuel : Nat} {v : Value} {y : DataW H × List MemPlace}
    (hf : DataW.trod enc Tryd.prog W 0 (fun _ => true) true fuel 31 [v] = some y) : ∃ l : List Qn, Qs W v l ∧ l.length ≤ maxLen ∧ ∀ x ∈ l, x.rng ∧ x.name.size ≤ maxLen := by
  rcases open_structs Tryd.underlying31 Tryd.underlying42 (by kernel_rfl) (by kernel_rfl) hf with h0 | ⟨a, len, cap, h0, hl, hm, hx⟩
  · refine ⟨[], ?_, by simp, by simp⟩
    rw [h0]
    exact Sl.nil W 3
  · rw [h0]
    obtain ⟨l, e1, e2, e3⟩ := sl_of_each (α := Qn) (W := W) (a := a) (len := len) (cap := cap) (k := 3) (by decide) hl qv (fun _ => rfl) (fun x => x.rng ∧ x.name.size ≤ maxLen) (by
      intro i hi
      obtain ⟨cs, hcl, hc, n, hy⟩ := hx i hi
      match cs, hcl with
      | [c0, c1, c2], _ =>
        obtain ⟨_, y0⟩ := hy 0 _ c0 rfl rfl
        obtain ⟨_, y1⟩ := hy 1 _ c1 rfl rfl
        obtain ⟨_, y2⟩ := hy 2 _ c2 rfl rfl
        obtain ⟨s, q0, _, hs⟩ := DataW.trod_string Tryd.underlying9 y0
        obtain ⟨g1, q1, hg1⟩ := one_u16 Tryd.underlying28 y1
        obtain ⟨g2, q2, hg2⟩ := one_u16 Tryd.underlying28 y2
        have q0' : c0 = .string s := by simpa using q0
        subst q0' q1 q2
        exact ⟨⟨s, g1, g2⟩, ⟨⟨hg1, hg2⟩, hs⟩, fun j hj => hc j hj⟩)
    refine ⟨l, ?_, by omega, e3⟩
    unfold Qs qsV
    rw [e1]
    exact e2
theorem open_rs {H : Type} {enc : TypeId × Value → H} {W : World} {fuel : Nat} {v : Value} {y : DataW H × List MemPlace}
    (hf : DataW.trod enc Tryd.prog W 0 (fun _ => true) true fuel 32 [v] = some y) : ∃ l : List Rc, Rs W v l ∧ l.length ≤ maxLen ∧ ∀ x ∈ l, x.typ ∧ x.name.size ≤ maxLen ∧ x.data.size ≤ maxLen := by
  rcases open_structs Tryd.underlying32 Tryd.underlying47 (by kernel_rfl) (by kernel_rfl) hf with h0 | ⟨a, len, cap, h0, hl, hm, hx⟩
  · refine ⟨[], ?_, by simp, by simp⟩
    rw [h0]
    exact Sl.nil W 5
  · rw [h0]
    obtain ⟨l, e1, e2, e3⟩ := sl_of_each (α := Rc) (W := W) (a := a) (len := len) (cap := cap) (k := 5) (by decide) hl rv (fun _ => rfl) (fun x => x.typ ∧ x.name.size ≤ maxLen ∧ x.data.size ≤ maxLen) (by
      intro i hi
      obtain ⟨cs, hcl, hc, n, hy⟩ := hx i hi
      match cs, hcl with
      | [c0, c1, c2, c3, c4], _ =>
        obtain ⟨_, y0⟩ := hy 0 _ c0 rfl rfl
        obtain ⟨_, y1⟩ := hy 1 _ c1 rfl rfl
        obtain ⟨_, y2⟩ := hy 2 _ c2 rfl rfl
        obtain ⟨_, y3⟩ := hy 3 _ c3 rfl rfl
        obtain ⟨_, y4⟩ := hy 4 _ c4 rfl rfl
        obtain ⟨s, q0, _, hs⟩ := DataW.trod_string Tryd.underlying9 y0
        obtain ⟨g1, q1, hg1⟩ := one_u16 Tryd.underlying28 y1
        obtain ⟨g2, q2, hg2⟩ := one_u16 Tryd.underlying28 y2
        obtain ⟨g3, q3, hg3⟩ := one_u32' Tryd.underlying45 y3
        obtain ⟨d, q4, _, hd⟩ := DataW.trod_string Tryd.underlying9 y4
        have q0' : c0 = .string s := by simpa using q0
        have q4' : c4 = .string d := by simpa using q4
        subst q0' q1 q2 q3 q4'
        exact ⟨⟨s, g1, g2, g3, d⟩, ⟨⟨hg1, hg2, hg3⟩, hs, hd⟩, fun j hj => hc j hj⟩)
    refine ⟨l, ?_, by omega, e3⟩
    unfold Rs rsV
    rw [e1]
    exact e2
set_option maxRecDepth 100000 in
theorem open_msg {H : Type} {enc : TypeId × Value → H} {W : World} {r : Reach} {b0 : Nat} {v : Value} {d : DataW H} {p : List MemPlace}
    (hv : Value.okWide Tryd.prog W r b0 37 v) (h : DataW.Trod enc Tryd.prog W 0 (fun _ => true) true 37 v d p) : ∃ (m : Ms) (vq va vu vx vo : Value), v = m.val vq va vu vx vo ∧ MsV W m vq va vu vx vo ∧ m.typ := by
  obtain ⟨cs, rfl, hsz⟩ := okWide_struct Tryd.underlying37 hv
  obtain ⟨l⟩ := cs
  have hl : l.length = 21 := by simpa using hsz.trans (show Tryd.prog.cellsOf 37 = 21 from by kernel_rfl)
  obtain ⟨fuel, hf⟩ := h
  obtain ⟨xs, n, _, _, _, hlen, hg⟩ := DataW.trod_struct Tryd.underlying37 hf
  match l, hl with
  | [c0, c1, c2, c3, c4, c5, c6, c7, c8, c9, c10, c11, c12, c13, c14, c15, c16, c17, c18, c19, c20], _ =>
    have hlen' : xs.length = 7 := by simpa using hlen
    have z0 : DataW.trod enc Tryd.prog W 0 (fun _ => true) true n 30 (([c0, c1, c2, c3, c4, c5, c6, c7, c8, c9, c10, c11, c12, c13, c14, c15, c16, c17, c18, c19, c20].drop 0).take (Tryd.prog.cellsOf 30)) = xs[0]? := hg 0 _ rfl
    have z1 : DataW.trod enc Tryd.prog W 0 (fun _ => true) true n 31 (([c0, c1, c2, c3, c4, c5, c6, c7, c8, c9, c10, c11, c12, c13, c14, c15, c16, c17, c18, c19, c20].drop 11).take (Tryd.prog.cellsOf 31)) = xs[1]? := hg 1 _ rfl
    have z2 : DataW.trod enc Tryd.prog W 0 (fun _ => true) true n 32 (([c0, c1, c2, c3, c4, c5, c6, c7, c8, c9, c10, c11, c12, c13, c14, c15, c16, c17, c18, c19, c20].drop 12).take (Tryd.prog.cellsOf 32)) = xs[2]? := hg 2 _ rfl
    have z3 : DataW.trod enc Tryd.prog W 0 (fun _ => true) true n 32 (([c0, c1, c2, c3, c4, c5, c6, c7, c8, c9, c10, c11, c12, c13, c14, c15, c16, c17, c18, c19, c20].drop 13).take (Tryd.prog.cellsOf 32)) = xs[3]? := hg 3 _ rfl
    have z4 : DataW.trod enc Tryd.prog W 0 (fun _ => true) true n 32 (([c0, c1, c2, c3, c4, c5, c6, c7, c8, c9, c10, c11, c12, c13, c14, c15, c16, c17, c18, c19, c20].drop 14).take (Tryd.prog.cellsOf 32)) = xs[4]? := hg 4 _ rfl
    have z5 : DataW.trod enc Tryd.prog W 0 (fun _ => true) true n 4 (([c0, c1, c2, c3, c4, c5, c6, c7, c8, c9, c10, c11, c12, c13, c14, c15, c16, c17, c18, c19, c20].drop 15).take (Tryd.prog.cellsOf 4)) = xs[5]? := hg 5 _ rfl
    have z6 : DataW.trod enc Tryd.prog W 0 (fun _ => true) true n 35 (([c0, c1, c2, c3, c4, c5, c6, c7, c8, c9, c10, c11, c12, c13, c14, c15, c16, c17, c18, c19, c20].drop 16).take (Tryd.prog.cellsOf 35)) = xs[6]? := hg 6 _ rfl
    rw [show Tryd.prog.cellsOf 30 = 11 from by kernel_rfl, List.getElem?_eq_getElem (by omega)] at z0
    rw [show Tryd.prog.cellsOf 31 = 1 from by kernel_rfl, List.getElem?_eq_getElem (by omega)] at z1
    rw [show Tryd.prog.cellsOf 32 = 1 from by kernel_rfl, List.getElem?_eq_getElem (by omega)] at z2 z3 z4
    rw [show Tryd.prog.cellsOf 4 = 1 from by kernel_rfl, List.getElem?_eq_getElem (by omega)] at z5
    rw [show Tryd.prog.cellsOf 35 = 5 from by kernel_rfl, List.getElem?_eq_getElem (by omega)] at z6
    replace z0 : DataW.trod enc Tryd.prog W 0 (fun _ => true) true n 30 [c0, c1, c2, c3, c4, c5, c6, c7, c8, c9, c10] = some xs[0] := z0
    replace z1 : DataW.trod enc Tryd.prog W 0 (fun _ => true) true n 31 [c11] = some xs[1] := z1
    replace z2 : DataW.trod enc Tryd.prog W 0 (fun _ => true) true n 32 [c12] = some xs[2] := z2
    replace z3 : DataW.trod enc Tryd.prog W 0 (fun _ => true) true n 32 [c13] = some xs[3] := z3
    replace z4 : DataW.trod enc Tryd.prog W 0 (fun _ => true) true n 32 [c14] = some xs[4] := z4
    replace z5 : DataW.trod enc Tryd.prog W 0 (fun _ => true) true n 4 [c15] = some xs[5] := z5
    replace z6 : DataW.trod enc Tryd.prog W 0 (fun _ => true) true n 35 [c16, c17, c18, c19, c20] = some xs[6] := z6
    obtain ⟨n0, hh⟩ := open_part Tryd.underlying30 (by kernel_rfl) z0
    obtain ⟨n6, he⟩ := open_part Tryd.underlying35 (by kernel_rfl) z6
    obtain ⟨qs, hq1, hq2, hq3⟩ := open_qs z1
    obtain ⟨an, ha1, ha2, ha3⟩ := open_rs z2
    obtain ⟨au, hu1, hu2, hu3⟩ := open_rs z3
    obtain ⟨ex, hx1, hx2, hx3⟩ := open_rs z4
    obtain ⟨_, y0⟩ := hh 0 _ c0 rfl rfl
    obtain ⟨_, y1⟩ := hh 1 _ c1 rfl rfl
    obtain ⟨_, y2⟩ := hh 2 _ c2 rfl rfl
    obtain ⟨_, y3⟩ := hh 3 _ c3 rfl rfl
    obtain ⟨_, y4⟩ := hh 4 _ c4 rfl rfl
    obtain ⟨_, y5⟩ := hh 5 _ c5 rfl rfl
    obtain ⟨_, y6⟩ := hh 6 _ c6 rfl rfl
    obtain ⟨_, y7⟩ := hh 7 _ c7 rfl rfl
    obtain ⟨_, y8⟩ := hh 8 _ c8 rfl rfl
    obtain ⟨_, y9⟩ := hh 9 _ c9 rfl rfl
    obtain ⟨_, y10⟩ := hh 10 _ c10 rfl rfl
    obtain ⟨_, x0⟩ := he 0 _ c16 rfl rfl
    obtain ⟨_, x1⟩ := he 1 _ c17 rfl rfl
    obtain ⟨_, x2⟩ := he 2 _ c18 rfl rfl
    obtain ⟨_, x3⟩ := he 3 _ c19 rfl rfl
    obtain ⟨_, x4⟩ := he 4 _ c20 rfl rfl
    obtain ⟨k0, rfl, l0⟩ := one_u16 Tryd.underlying28 y0
    obtain ⟨k1, rfl⟩ := one_bool Tryd.underlying4 y1
    obtain ⟨k2, rfl, l2⟩ := one_u8 Tryd.underlying5 y2
    obtain ⟨k3, rfl⟩ := one_bool Tryd.underlying4 y3
    obtain ⟨k4, rfl⟩ := one_bool Tryd.underlying4 y4
    obtain ⟨k5, rfl⟩ := one_bool Tryd.underlying4 y5
    obtain ⟨k6, rfl⟩ := one_bool Tryd.underlying4 y6
    obtain ⟨k7, rfl⟩ := one_bool Tryd.underlying4 y7
    obtain ⟨k8, rfl⟩ := one_bool Tryd.underlying4 y8
    obtain ⟨k9, rfl⟩ := one_bool Tryd.underlying4 y9
    obtain ⟨k10, rfl, l10⟩ := one_u8 Tryd.underlying5 y10
    obtain ⟨k15, rfl⟩ := one_bool Tryd.underlying4 z5
    obtain ⟨k16, rfl, l16⟩ := one_u16 Tryd.underlying28 x0
    obtain ⟨k17, rfl, l17⟩ := one_u8 Tryd.underlying5 x1
    obtain ⟨k18, rfl, l18⟩ := one_u8 Tryd.underlying5 x2
    obtain ⟨k19, rfl, l19⟩ := one_u16 Tryd.underlying28 x3
    obtain ⟨ops, ho1, ho2, ho3⟩ := open_opts x4
    refine ⟨⟨⟨k0, k1, k2, k3, k4, k5, k6, k7, k8, k9, k10⟩, qs, an, au, ex, k15, k16, k17, k18, k19, ops⟩, c11, c12, c13, c14, c20, rfl, ⟨hq1, ha1, hu1, hx1, ho1⟩, ?_⟩
    exact ⟨⟨hq2, ha2, hu2, hx2, ho2, fun x hx => (hq3 x hx).2, fun x hx => (ha3 x hx).2, fun x hx => (hu3 x hx).2, fun x hx => (hx3 x hx).2, fun x hx => (ho3 x hx).2⟩, l0, fun x hx => (hq3 x hx).1, fun x hx => (ha3 x hx).1, fun x hx => (hu3 x hx).1, fun x hx => (hx3 x hx).1, l16, l17, l18, l19, fun x hx => (ho3 x hx).1⟩
end Go.Proofs.YthgendgmlpaglaaDoor
