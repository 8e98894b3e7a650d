/-
  Wire: slices of questions and of records; patching two bytes.
  Wire: the writer's records.
  Wire: valid, counts.
-/
import Derived.Test.YthgendgmlpaglaaDoorA14
import Derived.Test.YthgendgmlpaglaaDoorA8
import Derived.Laws.CopyRow
import Derived.Test.YthgendgmlpaglaaDoorA10
import Derived.Test.YthgendgmlpaglaaDoorA11
namespace Go.Proofs.YthgendgmlpaglaaDoor
open Go.RowKit

def qv (q : Qn) : List Value := [.string q.name, .int .u16 q.kind, .int .u16 q.cls]
def rv (r : Rc) : List Value := [.string r.name, .int .u16 r.kind, .int .u16 r.cls, .int .u32 r.ttl, .string r.data]
def qsV (l : List Qn) : List Value := l.flatMap qv
def rsV (l : List Rc) : List Value := l.flatMap rv
/-- The slice value v reads as questions, as records. -/
def Qs (w : World) (v : Value) (l : List Qn) : Prop := Sl w 3 v l.length (qsV l)
def Rs (w : World) (v : Value) (l : List Rc) : Prop := Sl w 5 v l.length (rsV l)
theorem Qs.at {w : World} {A : Option Addr} {n cap : Nat} {l : List Qn} (h : Qs w (.slice A n cap) l) {k : Nat} (hk : k < l.length) :
    ∃ b off, A = some ⟨b, off, none⟩ ∧ w.cell? ⟨b, off + k * 3, none⟩ = some (.string l[k].name) ∧ w.cell? ⟨b, off + k * 3 + 1, none⟩ = some (.int .u16 l[k].kind) ∧ w.cell? ⟨b, off + k * 3 + 2, none⟩ = some (.int .u16 l[k].cls) := by
  obtain ⟨A', cap', h1, h2, h3, h4, h5⟩ := h
  simp only [Value.slice.injEq] at h1
  obtain ⟨rfl, _, rfl⟩ := h1
  obtain ⟨b, off, rfl, hc⟩ := h5 (by omega)
  have f := fun j (hj : j < 3) => flat_get qv 3 (fun _ => rfl) l k j hj l[k] (by simp)
  refine ⟨b, off, rfl, hc (k * 3) _ (f 0 (by omega)), ?_, ?_⟩
  · rw [Nat.add_assoc]; exact hc _ _ (f 1 (by omega))
  · rw [Nat.add_assoc]; exact hc _ _ (f 2 (by omega))
theorem Rs.at {w : World} {A : Option Addr} {n cap : Nat} {l : List Rc} (h : Rs w (.slice A n cap) l) {k : Nat} (hk : k < l.length) :
    ∃ b off, A = some ⟨b, off, none⟩ ∧ w.cell? ⟨b, off + k * 5, none⟩ = some (.string l[k].name) ∧ w.cell? ⟨b, off + k * 5 + 1, none⟩ = some (.int .u16 l[k].kind) ∧ w.cell? ⟨b, off + k * 5 + 2, none⟩ = some (.int .u16 l[k].cls) ∧ w.cell? ⟨b, off + k * 5 + 3, none⟩ = some (.int .u32 l[k].ttl) ∧ w.cell? ⟨b, off + k * 5 + 4, none⟩ = some (.string l[k].data) := by
  obtain ⟨A', cap', h1, h2, h3, h4, h5⟩ := h
  simp only [Value.slice.injEq] at h1
  obtain ⟨rfl, _, rfl⟩ := h1
  obtain ⟨b, off, rfl, hc⟩ := h5 (by omega)
  have f := fun j (hj : j < 5) => flat_get rv 5 (fun _ => rfl) l k j hj l[k] (by simp)
  refine ⟨b, off, rfl, hc (k * 5) _ (f 0 (by omega)), ?_, ?_, ?_, ?_⟩
  · rw [Nat.add_assoc]; exact hc _ _ (f 1 (by omega))
  · rw [Nat.add_assoc]; exact hc _ _ (f 2 (by omega))
  · rw [Nat.add_assoc]; exact hc _ _ (f 3 (by omega))
  · rw [Nat.add_assoc]; exact hc _ _ (f 4 (by omega))
theorem Qs.kept {w w' : World} {v : Value} {l : List Qn} (h : Qs w v l) (g : w.grownBy w' none) : Qs w' v l := Sl.kept0 h g
theorem Rs.kept {w w' : World} {v : Value} {l : List Rc} (h : Rs w v l) (g : w.grownBy w' none) : Rs w' v l := Sl.kept0 h g
theorem Qs.form {w : World} {v : Value} {l : List Qn} (h : Qs w v l) : ∃ A cap, v = .slice A l.length cap := by
  obtain ⟨A, cap, h1, _⟩ := h
  exact ⟨A, cap, h1⟩
theorem Rs.form {w : World} {v : Value} {l : List Rc} (h : Rs w v l) : ∃ A cap, v = .slice A l.length cap := by
  obtain ⟨A, cap, h1, _⟩ := h
  exact ⟨A, cap, h1⟩
theorem npR : ¬ pW 47 := by unfold pW; decide
theorem npQ : ¬ pW 42 := by unfold pW; decide
theorem ntR : ¬ pT 47 := by unfold pT; decide
theorem ntW : ¬ pT 87 := by unfold pT; decide
/-- A record that may be written. -/
structure Rc.ok (r : Rc) : Prop where
  name : may r.name = true
  kind : r.kind < 65536
  cls : r.cls < 65536
  ttl : r.ttl < 4294967296
  data : r.data.size ≤ 1000000
  pcs : ∃ l, whF r.kind r.data = some l
structure Qn.ok (q : Qn) : Prop where
  name : may q.name = true
  kind : q.kind < 65536
  cls : q.cls < 65536
theorem rsF_snoc (s : Ws) (l : List Rc) (k : Nat) (hk : k < l.length) : rsF s (l.take (k + 1)) = rF (rsF s (l.take k)) l[k] := by
  unfold rsF
  rw [List.take_succ_eq_append_getElem hk, List.foldl_append]
  rfl
theorem qsF_snoc (s : Ws) (l : List Qn) (k : Nat) (hk : k < l.length) : qsF s (l.take (k + 1)) = qF (qsF s (l.take k)) l[k] := by
  unfold qsF
  rw [List.take_succ_eq_append_getElem hk, List.foldl_append]
  rfl
theorem rsF_take (s : Ws) (l : List Rc) (k : Nat) : (rsF s (l.take k)).le (rsF s l) := by
  have : rsF s l = rsF (rsF s (l.take k)) (l.drop k) := by
    unfold rsF
    rw [← List.foldl_append, List.take_append_drop]
  rw [this]
  exact rsF_le _ _
theorem qsF_take (s : Ws) (l : List Qn) (k : Nat) : (qsF s (l.take k)).le (qsF s l) := by
  have : qsF s l = qsF (qsF s (l.take k)) (l.drop k) := by
    unfold qsF
    rw [← List.foldl_append, List.take_append_drop]
  rw [this]
  exact qsF_le _ _
theorem two0 (w : World) : SlB (w.alloc (.cells #[.int .u8 0, .int .u8 0] 5)) (.slice (some ⟨w.heap.size, 0, none⟩) 2 2) [0, 0] := by
  refine ⟨_, _, rfl, by simp, (fun hA => nomatch hA), fun ad had j u hu => ?_⟩
  obtain rfl := Option.some.inj had
  rw [Addr.add_lit, bcellAt (balloc w _), Nat.zero_add]
  match j, hu with
  | 0, hu => exact hu
  | 1, hu => exact hu
theorem base_at (w : World) (B b tb : Nat) (m : Option Nat) (A : Option Addr) (c : Nat) (bs : List UInt8) (T : Tb) (h : Wr w B b tb m (.slice A bs.length c) bs T) (hb : bs.length ≤ 65535) :
    Calls Tryd.prog 55 #[.pointer (some ⟨b, 0, none⟩)] w fun e w' => e = .returned (.slice A (min 16384 bs.length) c) ∧ w.grownBy w' none := by
  have HC := Lib.hid h.cell
  obtain ⟨A', c', e, hc, _⟩ := h.own.shape
  simp only [Value.slice.injEq, true_and] at e
  obtain ⟨rfl, rfl⟩ := e
  clear h
  have c0 : w.cell? ⟨b, 0, none⟩ = some (.slice A bs.length c) := bcellAt HC.out 0
  have hmin : ∀ i : Nat, i = min 16384 bs.length → Value.slice A i c = .slice A (min 16384 bs.length) c := fun i e => by rw [e]
  go_enter Tryd.func55, Tryd.ntmps55
  go_wp2_with fail
  go_quiet (fail)
  go_wp2_with fail
  all_goals
    go_ret
    exact ⟨congrArg _ (hmin _ (by omega)), gdrewN (grefl w none) _⟩
/-- The type of bytes. -/
def p8 (t : TypeId) : Prop := t = 5
theorem n8W : ¬ p8 87 := by unfold p8; decide
theorem grow_row (w : World) (g : Nat) (cs : Array Value) : w.grownBy (w.setRow g cs) (some g) :=
  ⟨rfl, rfl, rfl, by simp [World.setRow], fun i _ hn => setRow_other w g i cs (by simpa using hn)⟩
theorem copy_two (w : World) (g off n cap : Nat) (A : Option Addr) (c : Nat) (x : List UInt8) (cur : Array Value) (hx : x.length = 2) (hn : n = 2) (fz : Nat × Nat) (hg : w.heap[g]? = some (.cells cur 5 fz)) (hz : Unfz cur.size fz) (hs : SlB w (.slice A 2 c) x) (hfit : off + 2 ≤ cur.size) :
    (Builtin.copy_ #[26, 26] 3 #[.slice (some ⟨g, off, none⟩) n cap, .slice A 2 c]).run Tryd.prog w = .ok (.int .i64 2) (w.setRow g (cur.toList.take off ++ bv x ++ cur.toList.drop (off + 2)).toArray) := by
  obtain ⟨i0, hi, hz0, hz1, hz2⟩ := info_parts Tryd.infoByte
  obtain ⟨A', c', e, h1, h2, h3⟩ := hs
  simp only [Value.slice.injEq] at e
  obtain ⟨rfl, e2, rfl⟩ := e
  cases A with
  | none => have := (h2 rfl).1; omega
  | some ad =>
    have hl : (bv x).length = 2 := by rw [bv_len, hx]
    have h := run_copy_rowM (P := Tryd.prog) w 26 26 3 5 g off n cap ad 2 c cur 5 fz (bv x) Tryd.underlying26 (by rw [hi]; simp [hz1]) hg hz (by rw [hl, hn]; rfl) (fun j v hv => h3 ad rfl j v hv) (by rw [hl]; exact hfit) (bv_one x)
    rw [hl] at h
    exact h
theorem Wr.patch {w : World} {B b tb : Nat} {m : Option Nat} {g cap n : Nat} {bs : List UInt8} {T : Tb} {cur : Array Value} (h : Wr w B b tb m (.slice (some ⟨g, 0, none⟩) n cap) bs T) {fz : Nat × Nat} (hg : w.heap[g]? = some (.cells cur 5 fz)) (k : Nat) (x : List UInt8) (hx : x.length = 2) (hk : k + 2 ≤ bs.length) :
    Wr (w.setRow g (cur.toList.take k ++ bv x ++ cur.toList.drop (k + 2)).toArray) B b tb m (.slice (some ⟨g, 0, none⟩) n cap) (bs.take k ++ (x ++ bs.drop (k + 2))) T ∧ (B ≤ w.heap.size → KT p8 B w (w.setRow g (cur.toList.take k ++ bv x ++ cur.toList.drop (k + 2)).toArray)) := by
  have gr := grow_row w g (cur.toList.take k ++ bv x ++ cur.toList.drop (k + 2)).toArray
  have hne := h.ne
  have e0 : Value.ownBlock (.slice (some ⟨g, 0, none⟩) n cap) = some g := rfl
  rw [e0] at hne
  rcases h.own with ⟨h1, _⟩ | ⟨g', cap', cur', fz', h1, h2, h3, hz, h4, h5, h6, h7⟩
  · cases h1
  · simp only [Value.slice.injEq, Option.some.injEq, Addr.mk.injEq, and_true] at h1
    obtain ⟨rfl, rfl, rfl⟩ := h1
    rw [hg] at h3
    obtain ⟨rfl, rfl⟩ : cur = cur' ∧ fz = fz' := by injection h3 with h3; injection h3 with e1 _ e2; exact ⟨e1, e2⟩
    have hl : (bs.take k ++ (x ++ bs.drop (k + 2))).length = bs.length := by
      simp only [List.length_append, List.length_take, List.length_drop, hx]; omega
    have ec : cur.toList = bv bs ++ cur.toList.drop bs.length := by
      rw [← h7]; exact (List.take_append_drop _ _).symm
    have erow : cur.toList.take k ++ bv x ++ cur.toList.drop (k + 2) = bv (bs.take k ++ (x ++ bs.drop (k + 2))) ++ cur.toList.drop bs.length := by
      generalize cur.toList.drop bs.length = r at ec
      rw [ec, List.take_append_of_le_length (by rw [bv_len]; omega), List.drop_append_of_le_length (by rw [bv_len]; omega)]
      simp only [bv, List.map_append, List.map_take, List.map_drop, List.append_assoc]
    refine ⟨⟨gblock gr h.cell (fun e => hne.1 e.symm), .inr ⟨g, cap, _, fz, ?_, h2, setRow_heap w g cur _ _ _ hg, ?_, ?_, h5, ?_, ?_⟩, h.tab.kept gr hne.2.1 ?_, h.lb, h.lt, h.lm⟩, fun hB => ⟨⟨rfl, rfl, rfl, gr.size, fun i hi => setRow_other w g i _ (by omega)⟩, fun i c t z hi hp => setRow_other w g i _ (fun e => by
      subst e
      rw [hg] at hi
      cases hi
      exact hp rfl)⟩⟩
    · rw [hl]
    · have e2 : (cur.toList.take k ++ bv x ++ cur.toList.drop (k + 2)).toArray.size = cur.size := by
        rw [erow]
        have := congrArg List.length ec
        rw [List.length_append, bv_len, Array.length_toList] at this
        simp only [List.size_toArray, List.length_append, bv_len, hl]
        omega
      rw [e2]; exact hz
    · rw [hl]; exact h4
    · rw [erow]
      have := congrArg List.length ec
      rw [List.length_append, bv_len, Array.length_toList] at this
      simp only [List.size_toArray, List.length_append, bv_len, hl]
      omega
    · rw [erow]
      exact List.take_left' (bv_len _)
    · right
      cases m with
      | none => simp
      | some k => exact (hne.2.2.1 k rfl).1
end Go.Proofs.YthgendgmlpaglaaDoor
namespace Go.Proofs.YthgendgmlpaglaaDoor
open Go.RowKit

set_option maxRecDepth 100000 in
set_option maxHeartbeats 4000000 in
theorem records_any (w0 w : World) (b tb : Nat) (s : Ws) (v : Value) (l : List Rc) (g0 : w0.grownBy w none) (he : Et w0) (hv : Rs w0 v l) (ho : ∀ r ∈ l, r.ok) (hl : l.length ≤ 65535) (h : WS w w0.heap.size b tb s) :
    Calls Tryd.prog 40 #[.pointer (some ⟨b, 0, none⟩), v] w (WwPost w0.heap.size b tb (rsF s l) w) := by
  have HW := Lib.hid h
  have HV := Lib.hid hv
  have HE := Lib.hid he
  have HO := Lib.hid ho
  have G0 := Lib.hid g0
  have HB := Lib.hid g0.size
  obtain ⟨A, cap, rfl⟩ := hv.form
  clear h hv he ho g0
  go_enter Tryd.func40, Tryd.ntmps40
  go_wp2_with fail
  go_loopw [12] (fun vi wr => ∃ i : Nat, vi = .int .i64 i ∧ i ≤ l.length ∧ WS wr w0.heap.size b tb (rsF s (l.take i)) ∧ KW w0.heap.size w wr) (fun vi _ => l.length - (intOf vi).toNat)
  case atStart => exact ⟨0, rfl, by omega, HW.out, KT.refl _ _ _⟩
  case round =>
    obtain ⟨i, rfl, hil, hws, hkw⟩ := hrel
    have W0 := Lib.hid hws
    have K0 := Lib.hid hkw
    have GR := Lib.hid (KB.gr G0.out hkw.kb (Nat.le_refl _))
    have BR := Lib.hid (Nat.le_trans HB.out hkw.kb.size)
    clear hws hkw HW
    by_cases hlt : i < l.length
    · obtain ⟨bl, off, rfl, l0, l1, l2, l3, l4⟩ := (HV.out.kept GR.out).at hlt
      have q0 : (0 : Int) ≤ (i : Int) := by omega
      have q1 : (i : Int) < (l.length : Int) := by omega
      have HX := Lib.hid (rsF_snoc s l i hlt)
      have HL := Lib.hid (rsF_take s l (i + 1)).len
      have hok := HO.out l[i] (List.getElem_mem hlt)
      generalize l[i] = r at *
      have OK := Lib.hid hok
      obtain ⟨pcs, hpcs⟩ := hok.pcs
      have PC := Lib.hid hpcs
      clear hok hpcs
      rw [HX.out] at HL
      generalize rsF s (l.take i) = s0 at *
      go_wp2_with fail
      have WA := Lib.hid (W0.out.kept (galloc (grefl wr none) (.cells #[.string r.name, .int .u16 r.kind, .int .u16 r.cls, .int .u32 r.ttl, .string r.data] 47)))
      have KA := Lib.hid (K0.out.trans (KT.of (galloc (grefl wr none) (.cells #[.string r.name, .int .u16 r.kind, .int .u16 r.cls, .int .u32 r.ttl, .string r.data] 47)) BR.out))
      have CA := Lib.hid (balloc wr (.cells #[.string r.name, .int .u16 r.kind, .int .u16 r.cls, .int .u32 r.ttl, .string r.data] 47))
      have BA := Lib.hid (Nat.le_trans HB.out KA.out.kb.size)
      have hbr := BR.out
      refine Calls.mono (name_any _ w0.heap.size b tb s0 r.name WA.out BA.out OK.out.name) ?_
      rintro e w1 h1
      have F1 := Lib.hid (show (nmF r.name s0).1.length ≤ (rF s0 r).1.length from by
        have a := (((adF_le (fx r.kind r.cls r.ttl) (nmF r.name s0)).trans (adF_le [0, 0] _)).trans (rD_le s0 r)).len
        rw [rF_len]; exact a)
      by_cases hs1 : (nmF r.name s0).1.length ≤ 65535
      case neg =>
        obtain rfl := h1.no (by omega)
        have K1 := Lib.hid (KA.out.trans h1.1)
        have L1 := Lib.hid (show 65535 < (rsF s l).1.length from by have := HL.out; have := F1.out; omega)
        clear h1 hs1
        go_wp2_with fail
        exact ⟨rfl, WwPost.bad K1.out rfl L1.out⟩
      obtain ⟨rfl, hw1⟩ := h1.ok hs1
      have W1 := Lib.hid hw1
      have K1 := Lib.hid (KA.out.trans h1.1)
      have C1 := Lib.hid (h1.1.blk CA.out npR)
      have B1 := Lib.hid (Nat.le_trans HB.out K1.out.kb.size)
      clear h1 hw1 hs1 WA KA CA BA l0 l1 l2 l3 l4
      have c1 : w1.cell? ⟨wr.heap.size, 1, none⟩ = some (.int .u16 r.kind) := bcellAt C1.out 1
      have c2 : w1.cell? ⟨wr.heap.size, 2, none⟩ = some (.int .u16 r.cls) := bcellAt C1.out 2
      have c3 : w1.cell? ⟨wr.heap.size, 3, none⟩ = some (.int .u32 r.ttl) := bcellAt C1.out 3
      go_wp2_with fail
      refine Calls.mono (fixed_any w1 w0.heap.size b tb _ r.kind r.cls r.ttl W1.out B1.out OK.out.kind OK.out.cls OK.out.ttl) ?_
      rintro e w2 h2
      have F2 := Lib.hid (show (adF (fx r.kind r.cls r.ttl) (nmF r.name s0)).1.length ≤ (rF s0 r).1.length from by
        have a := ((adF_le [0, 0] (adF (fx r.kind r.cls r.ttl) (nmF r.name s0))).trans (rD_le s0 r)).len
        rw [rF_len]; exact a)
      by_cases hs2 : (adF (fx r.kind r.cls r.ttl) (nmF r.name s0)).1.length ≤ 65535
      case neg =>
        obtain rfl := h2.no (by omega)
        have K2 := Lib.hid (K1.out.trans h2.1)
        have L2 := Lib.hid (show 65535 < (rsF s l).1.length from by have := HL.out; have := F2.out; omega)
        clear h2 hs2
        go_wp2_with fail
        exact ⟨rfl, WwPost.bad K2.out rfl L2.out⟩
      obtain ⟨rfl, hw2⟩ := h2.ok hs2
      have W2 := Lib.hid hw2
      have K2 := Lib.hid (K1.out.trans h2.1)
      have C2 := Lib.hid (h2.1.blk C1.out npR)
      clear h2 hw2 hs2 W1 K1 C1 B1 c1 c2 c3
      go_wp2_with fail
      have S2 := Lib.hid (two0 w2)
      have W2' := Lib.hid (W2.out.kept (galloc (grefl w2 none) (.cells #[.int .u8 0, .int .u8 0] 5)))
      have K2' := Lib.hid (K2.out.trans (KT.of (galloc (grefl w2 none) (.cells #[.int .u8 0, .int .u8 0] 5)) (Nat.le_trans HB.out K2.out.kb.size)))
      have C2' := Lib.hid (gblock (galloc (grefl w2 none) (.cells #[.int .u8 0, .int .u8 0] 5)) C2.out (by simp))
      have B2 := Lib.hid (Nat.le_trans HB.out K2'.out.kb.size)
      refine Calls.mono (add_any _ w0.heap.size b tb _ _ [0, 0] W2'.out B2.out S2.out) ?_
      rintro e w3 h3
      have F3 := Lib.hid (show (rH s0 r).1.length ≤ (rF s0 r).1.length from by
        have a := (rD_le s0 r).len
        rw [rF_len]; exact a)
      rw [show adF [0, 0] (adF (fx r.kind r.cls r.ttl) (nmF r.name s0)) = rH s0 r from rfl] at h3
      by_cases hs3 : (rH s0 r).1.length ≤ 65535
      case neg =>
        obtain rfl := h3.no (by omega)
        have K3 := Lib.hid (K2'.out.trans h3.1)
        have L3 := Lib.hid (show 65535 < (rsF s l).1.length from by have := HL.out; have := F3.out; omega)
        clear h3 hs3
        go_wp2_with fail
        exact ⟨rfl, WwPost.bad K3.out rfl L3.out⟩
      obtain ⟨rfl, hw3⟩ := h3.ok hs3
      have K3 := Lib.hid (K2'.out.trans h3.1)
      have C3 := Lib.hid (h3.1.blk C2'.out npR)
      have B3 := Lib.hid (Nat.le_trans HB.out K3.out.kb.size)
      have ELn := Lib.hid (rH_two s0 r)
      have ED := Lib.hid (show rD s0 r = wrF (cmpF r.kind) pcs (rH s0 r).2 (rH s0 r).1 from by unfold rD; rw [PC.out]; rfl)
      have EF := Lib.hid (rF_eq s0 r)
      have EG := Lib.hid (wrF_base (cmpF r.kind) pcs (rH s0 r).2 (bas (rH s0 r).1) (rH s0 r).1 (bas_alike _))
      have FD := Lib.hid (rF_len s0 r)
      have FL := Lib.hid (rD_le s0 r)
      obtain ⟨⟨m3, v3, hw3⟩, hb3, hn3⟩ := hw3
      have W3 := Lib.hid hw3
      clear h3 hs3 W2 W2' K2 K2' C2 C2' B2 S2
      generalize rD s0 r = sd at *
      generalize rH s0 r = sh at *
      obtain ⟨A3, cp3, rfl, hcp3, _⟩ := hw3.own.shape
      clear hw3
      have b0 : ∀ g : Gr w3, g.w.cell? ⟨b, 0, none⟩ = some (.slice A3 sh.1.length cp3) := Gr.cell (bcellAt W3.out.cell 0)
      have KB3 := Lib.hid (fun g : Gr w3 => Calls.gr (base_at g.w w0.heap.size b tb m3 A3 cp3 sh.1 sh.2 (W3.out.kept g.h) hb3))
      go_wp2_with fail
      refine wp_region_noPanic ?_
      refine wp_region_gr (by kernel_rfl) (by kernel_rfl) ?_
      repeat (go_big_quiet_step ((go_at_call 55; with_reducible exact KB3.out _)))
      refine wpQuiet_nil ?_
      rintro w4 ⟨gq, hgq⟩
      have g4 : w3.grownBy w4 none := hgq ▸ gq.h
      refine NoPanic.normal ?_
      have W4 := Lib.hid (W3.out.kept g4)
      have K4 := Lib.hid (K3.out.trans (KT.of g4 B3.out))
      have C4 := Lib.hid (gblock g4 C3.out (by simp))
      have B4 := Lib.hid (Nat.le_trans HB.out K4.out.kb.size)
      clear b0 W3 K3 C3 B3 KB3 hgq gq g4
      have d0 : ∀ g : GrR (KT pT w0.heap.size) w4.drew, g.w.cell? ⟨b, 1, none⟩ = some (.pointer (some ⟨tb, 0, none⟩)) := fun g => bcellAt (g.h.blk W4.out.cell ntW) 1
      have d1 : ∀ g : GrR (KT pT w0.heap.size) w4.drew, g.w.cell? ⟨wr.heap.size, 1, none⟩ = some (.int .u16 r.kind) := fun g => bcellAt (g.h.blk C4.out ntR) 1
      have d4 : ∀ g : GrR (KT pT w0.heap.size) w4.drew, g.w.cell? ⟨wr.heap.size, 4, none⟩ = some (.string r.data) := fun g => bcellAt (g.h.blk C4.out ntR) 4
      go_wp2_with fail
      refine wp_region_segsR (KT.rt pT w0.heap.size) [(true, [0, 1, 2, 3, 4, 5, 6, 7, 8]), (false, [9]), (true, [10, 11, 12, 13, 14])] (by kernel_rfl) (by kernel_rfl) ?_
      refine wpSegsR_quiet rfl ?_
      simp only [List.filterMap_cons, List.filterMap_nil, List.getElem?_toArray, List.getElem?_cons_succ, List.getElem?_cons_zero]
      show wpQuiet _ _ _ _ [_, _, _, _, _, _, _, _, _] _
      repeat (go_big_quiet_step (fail))
      refine wpQuiet_nil ?_
      have W5 := Lib.hid (W4.out.kept (gdrew (grefl w4 none)))
      have K5 := Lib.hid (K4.out.trans (KT.of (gdrew (grefl w4 none)) B4.out))
      have C5 := Lib.hid (gblock (gdrew (grefl w4 none)) C4.out (by simp))
      clear d0 d1 d4 W4 K4 C4 B4
      generalize w4.drew = w5 at *
      have B5 := Lib.hid (Nat.le_trans HB.out K5.out.kb.size)
      have E5 := Lib.hid (HE.out.kept (KB.gr G0.out K5.out.kb (Nat.le_refl _)) (by simp))
      have S5 := Lib.hid (show SlB w5 (.slice A3 (min 16384 sh.1.length) cp3) (bas sh.1) from by
        have := W5.out.own.sl.take 16384
        rwa [List.length_take] at this)
      have hbl : (bas sh.1).length = min 16384 sh.1.length := by unfold bas; rw [List.length_take]
      refine wpSegsR_one (by simp only [List.getElem?_toArray, List.getElem?_cons_succ, List.getElem?_cons_zero]; exact rfl) ?_
      go_wp2_with fail
      refine Calls.mono (twrite_any tb m3 sh.2 (.slice A3 (min 16384 sh.1.length) cp3) (bas sh.1) r.kind r.data w5 E5.out W5.out.tab S5.out OK.out.data (by omega) (by omega)) ?_
      rintro e w6 h6
      unfold WrPost at h6
      rw [PC.out] at h6
      obtain ⟨v6, m6, rfl, ho6, ht6, hg6, hms6⟩ := h6
      obtain ⟨X, T', e1, e2⟩ := EG.out
      rw [e1] at ho6 ht6
      dsimp only at ho6 ht6
      have ED2 := Lib.hid (show sd = (sh.1 ++ X, T') from ED.out.trans e2)
      have T6 := Lib.hid (show KT pT w0.heap.size w5 w6 from kt_put W5.out.tab hg6 B5.out W5.out.lt W5.out.lm)
      have K6 := Lib.hid (K5.out.trans (kw_put W5.out.tab hg6 B5.out W5.out.lt W5.out.lm))
      have C6 := Lib.hid (T6.out.blk C5.out ntR)
      have W6 := Lib.hid (W5.out.putT hg6 ht6 hms6 B5.out)
      have S6 := Lib.hid ho6.sl
      have Q6 := Lib.hid (show T'.length ≤ sh.1.length + X.length from by
        have a := FL.out.few hn3
        rw [ED2.out] at a
        simpa using a)
      rcases ho6.2 with ⟨rfl, h0⟩ | ⟨gb, cap6, cur6, rfl, _, hgb, hcp6, _⟩
      · exfalso
        simp only [List.length_append] at h0
        have := ELn.out
        omega
      have B6 := Lib.hid (Nat.le_trans HB.out K6.out.kb.size)
      clear ho6 ht6 hg6 hms6 e1 e2 EG ED FL K5 C5 W5 S5 E5 B5 hgb
      go_wp2_with fail
      refine ⟨T6.out, ?_⟩
      refine wpSegsR_quiet rfl ?_
      simp only [List.filterMap_cons, List.filterMap_nil, List.getElem?_toArray, List.getElem?_cons_succ, List.getElem?_cons_zero]
      show wpQuiet _ _ _ _ [_, _, _, _, _] _
      repeat (go_big_quiet_step (fail))
      refine wpQuiet_nil ?_
      refine wpSegsR_done ?_
      go_wp2_with fail
      refine Calls.mono (must_ok w6) ?_
      rintro e w7 ⟨rfl, rfl⟩
      rw [List.length_append, hbl] at hcp6
      have D6 := Lib.hid (show SlB w6 (.slice (some ⟨gb, min 16384 sh.1.length, none⟩) X.length (cap6 - min 16384 sh.1.length)) X from by
        have a := S6.out.drop
        rwa [hbl] at a)
      clear S6 hbl
      by_cases hcap : min 16384 sh.1.length < cap6
      case neg =>
        have hq1 : X.length = 0 := by omega
        obtain rfl : cap6 = min 16384 sh.1.length := by omega
        have D6' := Lib.hid (show SlB w6 (.slice (some ⟨gb, 0, none⟩) 0 0) X from by
          obtain rfl : X = [] := List.eq_nil_of_length_eq_zero hq1
          exact ⟨_, _, rfl, by simp, (fun hA => nomatch hA), fun ad _ j u hu => by simp [bv] at hu⟩)
        go_wp2_with fail
        clear hq1 hcap D6
        have D6 := D6'
        clear D6'
        refine Calls.mono (add_l w6 w0.heap.size b tb m6 _ (sh.1, T') _ X W6.out hb3 Q6.out B6.out D6.out) ?_
        rintro e w7 h7
        have EA := Lib.hid (show adF X (sh.1, T') = sd from ED2.out.symm)
        rw [EA.out] at h7
        by_cases hs7 : sd.1.length ≤ 65535
        case neg =>
          obtain rfl := h7.no (by omega)
          have K7 := Lib.hid (K6.out.trans h7.1)
          have L7 := Lib.hid (show 65535 < (rsF s l).1.length from by have := HL.out; have := FD.out; omega)
          clear h7 hs7
          go_wp2_with fail
          exact ⟨rfl, WwPost.bad K7.out rfl L7.out⟩
        obtain ⟨rfl, ⟨m7, v7, hw7⟩, _, hf7⟩ := h7.ok hs7
        have K7 := Lib.hid (K6.out.trans h7.1)
        have W7 := Lib.hid hw7
        have B7 := Lib.hid (Nat.le_trans HB.out K7.out.kb.size)
        have EX := Lib.hid ED2.out
        rw [ED2.out] at hs7
        simp only [List.length_append] at hs7
        rcases hw7.own with ⟨_, h0⟩ | ⟨g7, cap7, cur7, fz7, rfl, hb7, hg7, hu7, hc7, hz7, hsz7, ht7⟩
        · exfalso
          rw [ED2.out, List.length_append] at h0
          have := ELn.out
          omega
        rw [ED2.out] at W7
        clear h7 hw7 W6 C6 K6 T6 D6 Q6 B6
        have f0 : w7.cell? ⟨b, 0, none⟩ = some (.slice (some ⟨g7, 0, none⟩) (sh.1.length + X.length) cap7) := by
          have := bcellAt W7.out.cell 0
          simpa using this
        have f1 : ∀ g : GrR (KT p8 w0.heap.size) w7.drew, g.w.cell? ⟨b, 0, none⟩ = some (.slice (some ⟨g7, 0, none⟩) (sh.1.length + X.length) cap7) := fun g => by
          have := bcellAt (g.h.blk W7.out.cell n8W) 0
          simpa using this
        rw [ED2.out] at hc7 ht7
        simp only [List.length_append] at hc7 ht7
        have e2 : (sh.1.length : Int) - 2 = ((sh.1.length - 2 : Nat) : Int) := by have := ELn.out; omega
        have e3 : ((sh.1.length + X.length : Nat) : Int) - (sh.1.length : Int) = (X.length : Int) := by omega
        have e4 : IntKind.u16.wrap (X.length : Int) = ((X.length : Nat) : Int) := by
          show (X.length : Int) % 65536 = _
          omega
        have h2 := ELn.out
        go_wp2_with fail
        refine wp_region_segsR (KT.rt p8 w0.heap.size) [(true, [0, 1, 2, 3, 4, 5, 6, 7, 8, 9, 10, 11, 12, 13, 14, 15]), (false, [16]), (false, [17])] (by kernel_rfl) (by kernel_rfl) ?_
        refine wpSegsR_quiet rfl ?_
        simp only [List.filterMap_cons, List.filterMap_nil, List.getElem?_toArray, List.getElem?_cons_succ, List.getElem?_cons_zero]
        show wpQuiet _ _ _ _ [_, _, _, _, _, _, _, _, _, _, _, _, _, _, _, _] _
        repeat (go_big_quiet_step (fail))
        refine wpQuiet_nil ?_
        have W8 := Lib.hid (W7.out.kept (gdrew (grefl w7 none)))
        have K8 := Lib.hid (K7.out.trans (KT.of (gdrew (grefl w7 none)) B7.out))
        have hg8 : w7.drew.heap[g7]? = some (.cells cur7 5 fz7) := hg7
        clear f0 f1 hg7 W7 K7
        generalize w7.drew = w8 at *
        have B8 := Lib.hid (Nat.le_trans HB.out K8.out.kb.size)
        refine wpSegsR_one (by simp only [List.getElem?_toArray, List.getElem?_cons_succ, List.getElem?_cons_zero]; exact rfl) ?_
        go_wp2_with fail
        rw [show ((sh.1.length : Int) + (X.length : Int) - (sh.1.length : Int)) = (X.length : Int) from by omega]
        refine Calls.mono (put2_x w8 _ [] X.length (by omega) (Own.nil _ 0).sl (by simp)) ?_
        rintro e w9 ⟨v9, rfl, hs9, hg9⟩
        have S9 := Lib.hid (show SlB w9 v9 (enc 2 X.length) from hs9)
        have W9 := Lib.hid (W8.out.kept hg9)
        have K9 := Lib.hid (K8.out.trans (KT.of hg9 B8.out))
        have T9 := Lib.hid (show KT p8 w0.heap.size w8 w9 from KT.of hg9 B8.out)
        have H9 := Lib.hid (gblock hg9 hg8 (by simp))
        clear W8 K8 B8 hg8 hg9 hs9
        go_wp2_with fail
        refine ⟨T9.out, ?_⟩
        refine wpSegsR_one (by simp only [List.getElem?_toArray, List.getElem?_cons_succ, List.getElem?_cons_zero]; exact rfl) ?_
        obtain ⟨xs, hxs, hxl⟩ : ∃ xs, enc 2 X.length = xs ∧ xs.length = 2 := ⟨_, rfl, enc_len _ _⟩
        have HXS := Lib.hid hxs
        rw [hxs] at S9
        obtain ⟨A9, c9, e9, _, _, _⟩ := S9.out
        rw [hxl] at e9
        subst e9
        have HX2 := Lib.hid hxl
        clear hxs hxl
        have hcp := copy_two w9 g7 (sh.1.length - 2) (sh.1.length - (sh.1.length - 2)) (cap7 - (sh.1.length - 2)) A9 c9 xs cur7 HX2.out (by omega) fz7 H9.out hu7 S9.out (by rw [hsz7]; omega)
        obtain ⟨W10, T10⟩ := Wr.patch W9.out H9.out (sh.1.length - 2) xs HX2.out (by simp; omega)
        have T10' := Lib.hid (T10 (Nat.le_trans HB.out K9.out.kb.size))
        have W10' := Lib.hid W10
        clear W10 T10
        generalize w9.setRow g7 (cur7.toList.take (sh.1.length - 2) ++ bv xs ++ cur7.toList.drop (sh.1.length - 2 + 2)).toArray = wz at *
        go_wp2_with fail
        refine ⟨T10'.out, ?_⟩
        refine wpSegsR_done ?_
        clear e2 e3 e4
        go_wp2_with fail
        go_roundw
        case rel =>
          refine ⟨i + 1, by go_num, by omega, ?_, K9.out.trans (T10'.out.mono fun _ ht => .inl ht)⟩
          rw [HX.out, EF.out, EX.out]
          have ex1 : (sh.1 ++ X, T').1 = sh.1 ++ X := rfl
          have hW := W10'.out
          have e10 : sh.1.length - 2 + 2 = sh.1.length := by have := ELn.out; omega
          rw [e10] at hW
          have e11 : enc 2 ((sh.1 ++ X, T').1.length - sh.1.length) = xs := by
            rw [← HXS.out, ex1, List.length_append, Nat.add_sub_cancel_left]
          have e12 : List.take (sh.1.length - 2) (sh.1 ++ X) = List.take (sh.1.length - 2) sh.1 := List.take_append_of_le_length (by omega)
          rw [e11]
          dsimp only at hW ⊢
          rw [e12] at hW
          have hlen : (List.take (sh.1.length - 2) sh.1 ++ (xs ++ List.drop sh.1.length (sh.1 ++ X))).length = sh.1.length + X.length := by
            simp only [List.length_append, List.length_take, List.drop_left, HX2.out]
            have := ELn.out
            omega
          refine ⟨⟨m7, _, hW⟩, ?_, ?_⟩
          · dsimp only; omega
          · dsimp only
            rw [hlen]
            have := hf7
            rw [EX.out] at this
            simpa using this
        case measure => simp [intOf]; omega
      go_wp2_with fail
      refine Calls.mono (add_l w6 w0.heap.size b tb m6 _ (sh.1, T') _ X W6.out hb3 Q6.out B6.out D6.out) ?_
      rintro e w7 h7
      have EA := Lib.hid (show adF X (sh.1, T') = sd from ED2.out.symm)
      rw [EA.out] at h7
      by_cases hs7 : sd.1.length ≤ 65535
      case neg =>
        obtain rfl := h7.no (by omega)
        have K7 := Lib.hid (K6.out.trans h7.1)
        have L7 := Lib.hid (show 65535 < (rsF s l).1.length from by have := HL.out; have := FD.out; omega)
        clear h7 hs7
        go_wp2_with fail
        exact ⟨rfl, WwPost.bad K7.out rfl L7.out⟩
      obtain ⟨rfl, ⟨m7, v7, hw7⟩, _, hf7⟩ := h7.ok hs7
      have K7 := Lib.hid (K6.out.trans h7.1)
      have W7 := Lib.hid hw7
      have B7 := Lib.hid (Nat.le_trans HB.out K7.out.kb.size)
      have EX := Lib.hid ED2.out
      rw [ED2.out] at hs7
      simp only [List.length_append] at hs7
      rcases hw7.own with ⟨_, h0⟩ | ⟨g7, cap7, cur7, fz7, rfl, hb7, hg7, hu7, hc7, hz7, hsz7, ht7⟩
      · exfalso
        rw [ED2.out, List.length_append] at h0
        have := ELn.out
        omega
      rw [ED2.out] at W7
      clear h7 hw7 W6 C6 K6 T6 D6 Q6 B6
      have f0 : w7.cell? ⟨b, 0, none⟩ = some (.slice (some ⟨g7, 0, none⟩) (sh.1.length + X.length) cap7) := by
        have := bcellAt W7.out.cell 0
        simpa using this
      have f1 : ∀ g : GrR (KT p8 w0.heap.size) w7.drew, g.w.cell? ⟨b, 0, none⟩ = some (.slice (some ⟨g7, 0, none⟩) (sh.1.length + X.length) cap7) := fun g => by
        have := bcellAt (g.h.blk W7.out.cell n8W) 0
        simpa using this
      rw [ED2.out] at hc7 ht7
      simp only [List.length_append] at hc7 ht7
      have e2 : (sh.1.length : Int) - 2 = ((sh.1.length - 2 : Nat) : Int) := by have := ELn.out; omega
      have e3 : ((sh.1.length + X.length : Nat) : Int) - (sh.1.length : Int) = (X.length : Int) := by omega
      have e4 : IntKind.u16.wrap (X.length : Int) = ((X.length : Nat) : Int) := by
        show (X.length : Int) % 65536 = _
        omega
      have h2 := ELn.out
      go_wp2_with fail
      refine wp_region_segsR (KT.rt p8 w0.heap.size) [(true, [0, 1, 2, 3, 4, 5, 6, 7, 8, 9, 10, 11, 12, 13, 14, 15]), (false, [16]), (false, [17])] (by kernel_rfl) (by kernel_rfl) ?_
      refine wpSegsR_quiet rfl ?_
      simp only [List.filterMap_cons, List.filterMap_nil, List.getElem?_toArray, List.getElem?_cons_succ, List.getElem?_cons_zero]
      show wpQuiet _ _ _ _ [_, _, _, _, _, _, _, _, _, _, _, _, _, _, _, _] _
      repeat (go_big_quiet_step (fail))
      refine wpQuiet_nil ?_
      have W8 := Lib.hid (W7.out.kept (gdrew (grefl w7 none)))
      have K8 := Lib.hid (K7.out.trans (KT.of (gdrew (grefl w7 none)) B7.out))
      have hg8 : w7.drew.heap[g7]? = some (.cells cur7 5 fz7) := hg7
      clear f0 f1 hg7 W7 K7
      generalize w7.drew = w8 at *
      have B8 := Lib.hid (Nat.le_trans HB.out K8.out.kb.size)
      refine wpSegsR_one (by simp only [List.getElem?_toArray, List.getElem?_cons_succ, List.getElem?_cons_zero]; exact rfl) ?_
      go_wp2_with fail
      rw [show ((sh.1.length : Int) + (X.length : Int) - (sh.1.length : Int)) = (X.length : Int) from by omega]
      refine Calls.mono (put2_x w8 _ [] X.length (by omega) (Own.nil _ 0).sl (by simp)) ?_
      rintro e w9 ⟨v9, rfl, hs9, hg9⟩
      have S9 := Lib.hid (show SlB w9 v9 (enc 2 X.length) from hs9)
      have W9 := Lib.hid (W8.out.kept hg9)
      have K9 := Lib.hid (K8.out.trans (KT.of hg9 B8.out))
      have T9 := Lib.hid (show KT p8 w0.heap.size w8 w9 from KT.of hg9 B8.out)
      have H9 := Lib.hid (gblock hg9 hg8 (by simp))
      clear W8 K8 B8 hg8 hg9 hs9
      go_wp2_with fail
      refine ⟨T9.out, ?_⟩
      refine wpSegsR_one (by simp only [List.getElem?_toArray, List.getElem?_cons_succ, List.getElem?_cons_zero]; exact rfl) ?_
      obtain ⟨xs, hxs, hxl⟩ : ∃ xs, enc 2 X.length = xs ∧ xs.length = 2 := ⟨_, rfl, enc_len _ _⟩
      have HXS := Lib.hid hxs
      rw [hxs] at S9
      obtain ⟨A9, c9, e9, _, _, _⟩ := S9.out
      rw [hxl] at e9
      subst e9
      have HX2 := Lib.hid hxl
      clear hxs hxl
      have hcp := copy_two w9 g7 (sh.1.length - 2) (sh.1.length - (sh.1.length - 2)) (cap7 - (sh.1.length - 2)) A9 c9 xs cur7 HX2.out (by omega) fz7 H9.out hu7 S9.out (by rw [hsz7]; omega)
      obtain ⟨W10, T10⟩ := Wr.patch W9.out H9.out (sh.1.length - 2) xs HX2.out (by simp; omega)
      have T10' := Lib.hid (T10 (Nat.le_trans HB.out K9.out.kb.size))
      have W10' := Lib.hid W10
      clear W10 T10
      generalize w9.setRow g7 (cur7.toList.take (sh.1.length - 2) ++ bv xs ++ cur7.toList.drop (sh.1.length - 2 + 2)).toArray = wz at *
      go_wp2_with fail
      refine ⟨T10'.out, ?_⟩
      refine wpSegsR_done ?_
      clear e2 e3 e4
      go_wp2_with fail
      go_roundw
      case rel =>
        refine ⟨i + 1, by go_num, by omega, ?_, K9.out.trans (T10'.out.mono fun _ ht => .inl ht)⟩
        rw [HX.out, EF.out, EX.out]
        have ex1 : (sh.1 ++ X, T').1 = sh.1 ++ X := rfl
        have hW := W10'.out
        have e10 : sh.1.length - 2 + 2 = sh.1.length := by have := ELn.out; omega
        rw [e10] at hW
        have e11 : enc 2 ((sh.1 ++ X, T').1.length - sh.1.length) = xs := by
          rw [← HXS.out, ex1, List.length_append, Nat.add_sub_cancel_left]
        have e12 : List.take (sh.1.length - 2) (sh.1 ++ X) = List.take (sh.1.length - 2) sh.1 := List.take_append_of_le_length (by omega)
        rw [e11]
        dsimp only at hW ⊢
        rw [e12] at hW
        have hlen : (List.take (sh.1.length - 2) sh.1 ++ (xs ++ List.drop sh.1.length (sh.1 ++ X))).length = sh.1.length + X.length := by
          simp only [List.length_append, List.length_take, List.drop_left, HX2.out]
          have := ELn.out
          omega
        refine ⟨⟨m7, _, hW⟩, ?_, ?_⟩
        · dsimp only; omega
        · dsimp only
          rw [hlen]
          have := hf7
          rw [EX.out] at this
          simpa using this
      case measure => simp [intOf]; omega
    · have k0 : decide ((i : Int) < (l.length : Int)) = false := by simp; omega
      go_wp2_with fail
      go_end0
      refine .yes K0.out rfl ?_
      have := W0.out
      rwa [List.take_of_length_le (by omega)] at this
end Go.Proofs.YthgendgmlpaglaaDoor
namespace Go.Proofs.YthgendgmlpaglaaDoor
open Go.RowKit

/-- Is a record valid? -/
def okR (r : Rc) : Bool := decide (r.kind ≠ 41) && may r.name && mayD r.kind r.data
def okQ (q : Qn) : Bool := may q.name
theorem all_snoc {α : Type} (f : α → Bool) (l : List α) (k : Nat) (hk : k < l.length) : (l.take (k + 1)).all f = ((l.take k).all f && f l[k]) := by
  rw [List.take_succ_eq_append_getElem hk, List.all_append]; simp
theorem all_not {α : Type} (f : α → Bool) (l : List α) (k : Nat) (hk : k < l.length) (h : f l[k] = false) : l.all f = false := by
  rw [List.all_eq_false]
  exact ⟨l[k], List.getElem_mem hk, by rw [h]; simp⟩

set_option maxRecDepth 100000 in
set_option maxHeartbeats 4000000 in
theorem valid_any (w : World) (v : Value) (l : List Rc) (he : Et w) (hv : Rs w v l) (hl : l.length ≤ 65535) (hd : ∀ r ∈ l, r.data.size ≤ 1000000) :
    Calls Tryd.prog 34 #[v] w fun e w' => e = .returned (.bool (l.all okR)) ∧ w.grownBy w' none := by
  have HV := Lib.hid hv
  have HE := Lib.hid he
  have HD := Lib.hid hd
  obtain ⟨A, cap, rfl⟩ := hv.form
  clear hv he hd
  go_enter Tryd.func34, Tryd.ntmps34
  go_wp2_with fail
  go_loopw [7] (fun vi wr => ∃ i : Nat, vi = .int .i64 i ∧ i ≤ l.length ∧ (l.take i).all okR = true ∧ w.grownBy wr none) (fun vi _ => l.length - (intOf vi).toNat)
  case atStart => exact ⟨0, rfl, by omega, rfl, grefl _ _⟩
  case round =>
    obtain ⟨i, rfl, hil, hall, hg⟩ := hrel
    have HA := Lib.hid hall
    have GR := Lib.hid hg
    clear hall hg
    by_cases hlt : i < l.length
    · obtain ⟨bl, off, rfl, l0, l1, l2, l3, l4⟩ := (HV.out.kept GR.out).at hlt
      have q0 : (0 : Int) ≤ (i : Int) := by omega
      have q1 : (i : Int) < (l.length : Int) := by omega
      have HX := Lib.hid (all_snoc okR l i hlt)
      have HN := Lib.hid (all_not okR l i hlt)
      have hdd := HD.out l[i] (List.getElem_mem hlt)
      generalize l[i] = r at *
      have HDD := Lib.hid hdd
      clear hdd
      by_cases hk : r.kind = 41
      · have k1 : ((r.kind : Int) == 41) = true := by simp; omega
        have HF := Lib.hid (HN.out (by unfold okR; simp [hk]))
        clear hk
        go_wp2_with fail
        all_goals (
          try go_ret
          exact ⟨by rw [HF.out]; rfl, galloc GR.out _⟩)
      · have k1 : ((r.kind : Int) == 41) = false := by simp; omega
        have HK := Lib.hid hk
        clear hk
        go_wp2_with fail
        refine Calls.mono (may_any r.name _) ?_
        rintro e w1 ⟨rfl, hw1⟩
        have G1 := Lib.hid (show w.grownBy w1 none from hw1 ▸ galloc GR.out _)
        have C1 := Lib.hid (show w1.heap[wr.heap.size]? = some (.cells #[.string r.name, .int .u16 r.kind, .int .u16 r.cls, .int .u32 r.ttl, .string r.data] 47 (0, 0)) from hw1 ▸ balloc wr _)
        clear hw1
        have c1 : w1.cell? ⟨wr.heap.size, 1, none⟩ = some (.int .u16 r.kind) := bcellAt C1.out 1
        have c4 : w1.cell? ⟨wr.heap.size, 4, none⟩ = some (.string r.data) := bcellAt C1.out 4
        cases hm : may r.name with
        | false =>
          have HF := Lib.hid (HN.out (by unfold okR; simp [hm]))
          clear hm
          go_wp2_with fail
          go_ret
          exact ⟨by rw [HF.out]; rfl, G1.out⟩
        | true =>
          have HM := Lib.hid hm
          clear hm
          go_wp2_with fail
          refine Calls.mono (mayd_any r.kind r.data w1 (HE.out.kept G1.out (by simp)) HDD.out) ?_
          rintro e w2 ⟨rfl, hg2⟩
          have G2 := Lib.hid (gtrans G1.out hg2)
          clear hg2
          cases hq : mayD r.kind r.data with
          | false =>
            have HF := Lib.hid (HN.out (by unfold okR; simp [hq]))
            clear hq
            go_wp2_with fail
            go_ret
            exact ⟨by rw [HF.out]; rfl, G2.out⟩
          | true =>
            have HT := Lib.hid (show okR r = true by unfold okR; have := HK.out; simp [hq, HM.out, this])
            clear hq
            go_wp2_with fail
            go_roundw
            case rel => exact ⟨i + 1, by go_num, by omega, by rw [HX.out, HA.out, HT.out]; rfl, G2.out⟩
            case measure => simp [intOf]; omega
    · have k0 : decide ((i : Int) < (l.length : Int)) = false := by simp; omega
      go_wp2_with fail
      go_ret
      have := HA.out
      rw [List.take_of_length_le (by omega)] at this
      exact ⟨by rw [this]; rfl, GR.out⟩

/-- A message. -/
structure Ms where
  h : Hd
  qs : List Qn
  an : List Rc
  au : List Rc
  ex : List Rc
  has : Bool
  sz : Nat
  e : Nat
  v : Nat
  f : Nat
  ops : List Opt
/-- The value of a message over its five slices. -/
def Ms.val (m : Ms) (vq va vu vx vo : Value) : Value := .agg #[.int .u16 m.h.id, .bool m.h.qr, .int .u8 m.h.op, .bool m.h.aa, .bool m.h.tc, .bool m.h.rd, .bool m.h.ra, .bool m.h.z, .bool m.h.ad, .bool m.h.cd, .int .u8 m.h.code, vq, va, vu, vx, .bool m.has, .int .u16 m.sz, .int .u8 m.e, .int .u8 m.v, .int .u16 m.f, vo]
def Ms.xn (m : Ms) : Nat := m.ex.length + m.has.toNat

set_option maxRecDepth 100000 in
set_option maxHeartbeats 4000000 in
theorem counts_any (w : World) (m : Ms) (vq va vu vx vo : Value) (hq : Qs w vq m.qs) (ha : Rs w va m.an) (hu : Rs w vu m.au) (hx : Rs w vx m.ex) (hl : m.ex.length ≤ 1000000) :
    Calls Tryd.prog 32 #[m.val vq va vu vx vo] w fun e w' => e = .returned (cv m.qs.length m.an.length m.au.length m.xn) ∧ w.grownBy w' none := by
  obtain ⟨Aq, cq, rfl⟩ := hq.form
  obtain ⟨Aa, ca, rfl⟩ := ha.form
  obtain ⟨Au, cu, rfl⟩ := hu.form
  obtain ⟨Ax, cx, rfl⟩ := hx.form
  clear hq ha hu hx
  unfold Ms.xn Ms.val cv
  obtain ⟨⟨i0, i1, i2, i3, i4, i5, i6, i7, i8, i9, i10⟩, qs, an, au, ex, has, sz, e, v, f, ops⟩ := m
  dsimp only at hl ⊢
  generalize qs.length = nq
  generalize an.length = na
  generalize au.length = nu
  generalize ex.length = nx at *
  cases has
  all_goals
    go_enter Tryd.func32, Tryd.ntmps32
    go_wp2_with fail
  · refine bodyPost_ret (results_cell_row rfl _ _ (w.heap.size + 1) _ _ _ _ rfl (heap_alloc2_new w _ _) Tryd.underlying66 rfl (by kernel_rfl)) rfl ?_
    exact ⟨by simp, galloc (galloc (grefl w none) _) _⟩
  · refine bodyPost_ret (results_cell_row rfl _ _ (w.heap.size + 1) _ _ _ _ rfl (heap_alloc2_new w _ _) Tryd.underlying66 rfl (by kernel_rfl)) rfl ?_
    exact ⟨by simp, galloc (galloc (grefl w none) _) _⟩
end Go.Proofs.YthgendgmlpaglaaDoor
