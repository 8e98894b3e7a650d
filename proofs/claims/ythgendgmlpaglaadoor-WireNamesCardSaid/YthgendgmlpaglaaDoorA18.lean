/-
  Wire: the reader's two, name.
  Wire: the reader's option.
  Wire: reading records, plain.
-/
import Derived.Test.YthgendgmlpaglaaDoorA17
import Derived.Test.YthgendgmlpaglaaDoorA5
import Derived.Test.YthgendgmlpaglaaDoorA4
import Derived.Test.YthgendgmlpaglaaDoorA2
import Derived.Test.YthgendgmlpaglaaDoorA11
namespace Go.Proofs.YthgendgmlpaglaaDoor
open Go.RowKit

theorem rd_no' {s : ByteArray} : ∀ p lim nx out, ∀ e, rdF s p lim nx out = .no e → e ≠ 0 := by
  refine rd_ind (s := s) ?_ ?_ ?_ ?_ ?_ ?_ ?_ ?_ ?_
  · intro p lim nx out h e he; rw [rd_short h] at he; cases he; decide
  · intro p lim nx out h h0 e he; rw [rd_end h h0] at he; cases he
  · intro p lim nx out h0 h64 h1 h2 ih e he; rw [rd_label h0 h64 h1 h2] at he; exact ih e he
  · intro p lim nx out h0 h64 h1 h2 e he; rw [rd_long h0 h64 h1 h2] at he; cases he; decide
  · intro p lim nx out h h0 h64 h1 e he; rw [rd_lshort h h0 h64 h1] at he; cases he; decide
  · intro p lim nx out h h64 h192 e he; rw [rd_form h h64 h192] at he; cases he; decide
  · intro p lim nx out h192 h2 h3 ih e he; rw [rd_ptr h192 h2 h3] at he; exact ih e he
  · intro p lim nx out h192 h2 h3 e he; rw [rd_loop h192 h2 h3] at he; cases he; decide
  · intro p lim nx out h h192 h2 e he; rw [rd_pshort h h192 h2] at he; cases he; decide
/-- A reader: its text, its cursor. -/
structure Rdr (w : World) (rb bc : Nat) (s : ByteArray) (p : Nat) : Prop where
  c0 : w.cell? ⟨rb, 0, none⟩ = some (.string s)
  c1 : w.cell? ⟨rb, 1, none⟩ = some (.pointer (some ⟨bc, 0, none⟩))
  cur : Cur w bc s p
  ne : rb ≠ bc
  le : p ≤ s.size
theorem Rdr.kept {w w' : World} {rb bc p : Nat} {s : ByteArray} (h : Rdr w rb bc s p) (g : w.grownBy w' none) : Rdr w' rb bc s p :=
  ⟨g.cell h.c0 (by simp), g.cell h.c1 (by simp), gblock g h.cur (by simp), h.ne, h.le⟩
theorem Rdr.step {w w' : World} {rb bc p q : Nat} {s : ByteArray} (h : Rdr w rb bc s p) (g : w.grownBy w' (some bc)) (c : Cur w' bc s q) (hq : q ≤ s.size) : Rdr w' rb bc s q :=
  ⟨g.cell h.c0 (by simpa using h.ne), g.cell h.c1 (by simpa using h.ne), c, h.ne, hq⟩
/-- A reader's part: it returned a value and stands further on, or it panicked. -/
def RdPost (rb bc : Nat) (s : ByteArray) (r : Except Nat (Value × Nat)) (w : World) (e : Ending) (w' : World) : Prop :=
  w.grownBy w' (some bc) ∧ match r with
    | .ok (v, q) => e = .returned v ∧ Rdr w' rb bc s q
    | .error x => e = .panicked [{ v := fault x, recovered := false }]
theorem RdPost.yes {rb bc : Nat} {s : ByteArray} {r : Except Nat (Value × Nat)} {w w' : World} {e : Ending} {v : Value} {q : Nat} (hr : r = .ok (v, q)) (g : w.grownBy w' (some bc)) (he : e = .returned v) (h : Rdr w' rb bc s q) : RdPost rb bc s r w e w' := by
  subst hr
  exact ⟨g, he, h⟩
theorem RdPost.no {rb bc : Nat} {s : ByteArray} {r : Except Nat (Value × Nat)} {w w' : World} {e : Ending} {x : Nat} (hr : r = .error x) (g : w.grownBy w' (some bc)) (he : e = .panicked [{ v := fault x, recovered := false }]) : RdPost rb bc s r w e w' := by
  subst hr
  exact ⟨g, he⟩
theorem gany {w w' : World} {row : Option Nat} (g : w.grownBy w' none) : w.grownBy w' row := ⟨g.os, g.tape, g.output, g.size, fun k hk _ => g.block k hk (by simp)⟩
theorem gstep0 {a b c : World} {row : Option Nat} (g : a.grownBy b none) (h : b.grownBy c row) : a.grownBy c row :=
  ⟨h.os.trans g.os, h.tape.trans g.tape, h.output.trans g.output, Nat.le_trans g.size h.size, fun k hk hn => (h.block k (Nat.lt_of_lt_of_le hk g.size) hn).trans (g.block k hk (by simp))⟩
def rdTwo (s : ByteArray) (p : Nat) : Except Nat (Value × Nat) := if p + 2 ≤ s.size then .ok (.int .u16 (num s p 2), p + 2) else .error 4
def rdNm (s : ByteArray) (p : Nat) : Except Nat (Value × Nat) := match rdF s p p none [] with
  | .ok n q => .ok (.string ⟨n.toArray⟩, q)
  | .no e => .error e
set_option maxRecDepth 100000 in
set_option maxHeartbeats 2000000 in
theorem rtwo_any (w : World) (rb bc p : Nat) (s : ByteArray) (he : Et w) (h : Rdr w rb bc s p) (hs : s.size ≤ 100000) :
    Calls Tryd.prog 26 #[.pointer (some ⟨rb, 0, none⟩)] w (RdPost rb bc s (rdTwo s p) w) := by
  have HR := Lib.hid h
  have HE := Lib.hid he
  have c1 := h.c1
  have hm := Lib.hid (show s.size ≤ maxLen from by unfold maxLen; omega)
  clear h he
  go_enter Tryd.func26, Tryd.ntmps26
  go_wp2_with fail
  refine Calls.mono (two_any bc s p w HR.out.cur HE.out HR.out.le hm.out) ?_
  rintro e w1 ⟨rfl, hc, hg⟩
  have G1 := Lib.hid hg
  have R1 := Lib.hid (HR.out.step hg hc (rdP_le s p 2 HR.out.le))
  clear hc hg
  unfold rdV rdE
  unfold rdP at R1
  by_cases hp : p + 2 ≤ s.size
  · rw [if_pos hp] at R1
    rw [if_pos hp, if_pos hp]
    have HP := Lib.hid (show rdTwo s p = .ok (.int .u16 (num s p 2), p + 2) from if_pos hp)
    clear hp
    go_wp2_with fail
    refine Calls.mono (must_ok w1) ?_
    rintro e w2 ⟨rfl, rfl⟩
    go_wp2_with fail
    go_ret
    exact RdPost.yes HP.out G1.out rfl R1.out
  · rw [if_neg hp, if_neg hp]
    have HP := Lib.hid (show rdTwo s p = .error 4 from if_neg hp)
    clear hp
    go_wp2_with fail
    refine Calls.mono (must_no 4 (by decide) w1) ?_
    rintro e w2 ⟨rfl, rfl⟩
    go_wp2_with fail
    exact ⟨rfl, RdPost.no HP.out G1.out rfl⟩
set_option maxRecDepth 100000 in
set_option maxHeartbeats 4000000 in
theorem rname_any (w : World) (rb bc p : Nat) (s : ByteArray) (he : Et w) (h : Rdr w rb bc s p) (hs : s.size ≤ 100000) :
    Calls Tryd.prog 25 #[.pointer (some ⟨rb, 0, none⟩)] w (RdPost rb bc s (rdNm s p) w) := by
  have HR := Lib.hid h
  have HE := Lib.hid he
  have hm := Lib.hid (show s.size ≤ 1000000 from by omega)
  have b0 : ∀ g : Gr w, g.w.cell? ⟨rb, 0, none⟩ = some (.string s) := Gr.cell h.c0
  have b1 : ∀ g : Gr w, g.w.cell? ⟨rb, 1, none⟩ = some (.pointer (some ⟨bc, 0, none⟩)) := Gr.cell h.c1
  have KA := Lib.hid (fun g : Gr w => Calls.gr ((at_any bc s p g.w (gblock g.h h.cur (by simp))).mono (fun e w' (hh : e = .returned (.int .i64 p) ∧ g.w = w') => ⟨hh.1, hh.2 ▸ grefl _ _⟩)))
  have KR := fun g : Gr w => Calls.gr (cread_any s p g.w (he.kept g.h (by simp)) (by omega))
  have hle := h.le
  have hin : rdAt s (p : Int) = rdF s p p none [] := rdAt_in (by omega) (by omega)
  rw [hin] at KR
  have OK := fun n q hq => rdAt_ok (s := s) (at_ := (p : Int)) (m := n) (next := q) (hin.trans hq)
  clear h he hin hle
  cases hF : rdF s p p none [] with
  | ok n q =>
    rw [hF] at KR
    unfold rdR at KR
    have KR := Lib.hid KR
    have HQ := Lib.hid (OK n q hF).2.2.1
    have HF := Lib.hid (show rdNm s p = .ok (.string ⟨n.toArray⟩, q) from by unfold rdNm; rw [hF])
    clear hF OK
    go_enter Tryd.func25, Tryd.ntmps25
    go_wp2_with fail
    refine wp_region_noPanic ?_
    refine wp_region_gr (by kernel_rfl) (by kernel_rfl) ?_
    repeat (go_big_quiet_step ((first | (go_at_call 48; with_reducible exact KA.out _) | (go_at_call 47; with_reducible exact KR.out _))))
    refine wpQuiet_nil ?_
    rintro w2 ⟨gq, hgq⟩
    have G2 := Lib.hid (show w.grownBy w2 none from hgq ▸ gq.h)
    refine NoPanic.normal ?_
    have R2 := Lib.hid (HR.out.kept G2.out)
    clear hgq gq KA KR b0 b1
    have b1 := R2.out.c1
    go_wp2_with fail
    refine Calls.mono (must_ok w2) ?_
    rintro e w3 ⟨rfl, rfl⟩
    go_wp2_with fail
    refine Calls.mono (seek_ok bc s p w2 q R2.out.cur (by omega) (by have := HQ.out; omega)) ?_
    rintro e w4 ⟨rfl, hc, hg⟩
    have G4 := Lib.hid (show w.grownBy w4 (some bc) from gstep0 G2.out hg)
    have R4 := Lib.hid (R2.out.step hg (by simpa using hc) HQ.out)
    clear hc hg R2 G2 b1
    go_wp2_with fail
    refine Calls.mono (must_ok w4) ?_
    rintro e w5 ⟨rfl, rfl⟩
    go_wp2_with fail
    go_ret
    exact RdPost.yes HF.out G4.out rfl R4.out
  | no x =>
    rw [hF] at KR
    unfold rdR at KR
    have KR := Lib.hid KR
    have HF := Lib.hid (show rdNm s p = .error x from by unfold rdNm; rw [hF])
    have HX := Lib.hid (rd_no' _ _ _ _ _ hF)
    clear hF OK
    go_enter Tryd.func25, Tryd.ntmps25
    go_wp2_with fail
    refine wp_region_noPanic ?_
    refine wp_region_gr (by kernel_rfl) (by kernel_rfl) ?_
    repeat (go_big_quiet_step ((first | (go_at_call 48; with_reducible exact KA.out _) | (go_at_call 47; with_reducible exact KR.out _))))
    refine wpQuiet_nil ?_
    rintro w2 ⟨gq, hgq⟩
    have G2 := Lib.hid (show w.grownBy w2 none from hgq ▸ gq.h)
    refine NoPanic.normal ?_
    clear hgq gq KA KR b0 b1
    go_wp2_with fail
    refine Calls.mono (must_no x (by have := HX.out; omega) w2) ?_
    rintro e w3 ⟨rfl, rfl⟩
    go_wp2_with fail
    exact ⟨rfl, RdPost.no HF.out (gany G2.out) rfl⟩
end Go.Proofs.YthgendgmlpaglaaDoor
namespace Go.Proofs.YthgendgmlpaglaaDoor
open Go.RowKit

theorem FS.keptb {w w' : World} {base k n b : Nat} {e : TypeId} {v : Value} {xs : List Value} (h : FS w base e k v n xs) (g : w.grownBy w' (some b)) (hb : b < base) : FS w' base e k v n xs := by
  refine h.kept g ?_
  rcases h.2 with ⟨rfl, _⟩ | ⟨g', cap, cur, rfl, h4, _⟩
  · exact .inl rfl
  · right
    simp only [Value.ownBlock, ne_eq, Option.some.injEq]
    omega
theorem FS.none {w : World} {base k : Nat} {e : TypeId} : FS w base e k (.slice none 0 0) 0 [] := ⟨by simp, .inl ⟨rfl, rfl⟩⟩
structure Ed where
  has : Bool
  sz : Nat
  e : Nat
  v : Nat
  f : Nat
  ops : List Opt
def rcs (s : ByteArray) (bc : Nat) (h : Hd) (vq va vu vx : Value) (d : Ed) (vo : Value) : Array Value :=
  #[.string s, .pointer (some ⟨bc, 0, none⟩), .int .u16 h.id, .bool h.qr, .int .u8 h.op, .bool h.aa, .bool h.tc, .bool h.rd, .bool h.ra, .bool h.z, .bool h.ad, .bool h.cd, .int .u8 h.code, vq, va, vu, vx, .bool d.has, .int .u16 d.sz, .int .u8 d.e, .int .u8 d.v, .int .u16 d.f, vo]
/-- The reader's block. -/
structure Rb (w : World) (rb bc : Nat) (s : ByteArray) (p : Nat) (h : Hd) (vq va vu vx : Value) (d : Ed) (vo : Value) : Prop where
  blk : w.heap[rb]? = some (.cells (rcs s bc h vq va vu vx d vo) 72 (0, 0))
  cur : Cur w bc s p
  le : p ≤ s.size
  ne : rb ≠ bc
  ops : FS w (max rb bc + 1) 57 2 vo d.ops.length (ov d.ops)
theorem Rb.rdr {w : World} {rb bc p : Nat} {s : ByteArray} {h : Hd} {vq va vu vx : Value} {d : Ed} {vo : Value} (r : Rb w rb bc s p h vq va vu vx d vo) : Rdr w rb bc s p :=
  ⟨bcellAt r.blk 0, bcellAt r.blk 1, r.cur, r.ne, r.le⟩
theorem Rb.kept {w w' : World} {rb bc p : Nat} {s : ByteArray} {h : Hd} {vq va vu vx : Value} {d : Ed} {vo : Value} (r : Rb w rb bc s p h vq va vu vx d vo) (g : w.grownBy w' none) : Rb w' rb bc s p h vq va vu vx d vo :=
  ⟨gblock g r.blk (by simp), gblock g r.cur (by simp), r.le, r.ne, r.ops.kept0 g⟩
theorem Rb.step {w w' : World} {rb bc p q : Nat} {s : ByteArray} {h : Hd} {vq va vu vx : Value} {d : Ed} {vo : Value} (r : Rb w rb bc s p h vq va vu vx d vo) (g : w.grownBy w' (some bc)) (k : Rdr w' rb bc s q) : Rb w' rb bc s q h vq va vu vx d vo :=
  ⟨gblock g r.blk (by have := r.ne; simp; omega), k.cur, k.le, r.ne, r.ops.keptb g (by omega)⟩
set_option maxRecDepth 100000 in
set_option maxHeartbeats 2000000 in
theorem Rb.opt {w : World} {rb bc p : Nat} {s : ByteArray} {h : Hd} {vq va vu vx : Value} {d : Ed} {vo : Value} (r : Rb w rb bc s p h vq va vu vx d vo) (cls t1 t2 t3 : Nat) (l : List Opt) (v : Value) (hl : FS w (max rb bc + 1) 57 2 v l.length (ov l)) :
    w.grownBy (((((((w.setCell ⟨rb, 17, none⟩ (.bool true)).setCell ⟨rb, 18, none⟩ (.int .u16 cls)).setCell ⟨rb, 19, none⟩ (.int .u8 t1)).setCell ⟨rb, 20, none⟩ (.int .u8 t2)).setCell ⟨rb, 21, none⟩ (.int .u16 t3)).setCell ⟨rb, 22, none⟩ v).drew) (some rb) ∧
    Rb (((((((w.setCell ⟨rb, 17, none⟩ (.bool true)).setCell ⟨rb, 18, none⟩ (.int .u16 cls)).setCell ⟨rb, 19, none⟩ (.int .u8 t1)).setCell ⟨rb, 20, none⟩ (.int .u8 t2)).setCell ⟨rb, 21, none⟩ (.int .u16 t3)).setCell ⟨rb, 22, none⟩ v).drew) rb bc s p h vq va vu vx ⟨true, cls, t1, t2, t3, l⟩ v := by
  have gs : w.grownBy (((((((w.setCell ⟨rb, 17, none⟩ (.bool true)).setCell ⟨rb, 18, none⟩ (.int .u16 cls)).setCell ⟨rb, 19, none⟩ (.int .u8 t1)).setCell ⟨rb, 20, none⟩ (.int .u8 t2)).setCell ⟨rb, 21, none⟩ (.int .u16 t3)).setCell ⟨rb, 22, none⟩ v).drew) (some rb) :=
    gdrew (gset (gset (gset (gset (gset (gset (grefl w _) (p := ⟨rb, 17, none⟩) (.inl rfl) _) (p := ⟨rb, 18, none⟩) (.inl rfl) _) (p := ⟨rb, 19, none⟩) (.inl rfl) _) (p := ⟨rb, 20, none⟩) (.inl rfl) _) (p := ⟨rb, 21, none⟩) (.inl rfl) _) (p := ⟨rb, 22, none⟩) (.inl rfl) _)
  refine ⟨gs, ?_, gblock gs r.cur (by have := r.ne; simp; omega), r.le, r.ne, hl.keptb gs (by omega)⟩
  have b := r.blk
  unfold rcs at b ⊢
  have b1 := bset b 17 (.bool true)
  have b2 := bset b1 18 (.int .u16 cls)
  have b3 := bset b2 19 (.int .u8 t1)
  have b4 := bset b3 20 (.int .u8 t2)
  have b5 := bset b4 21 (.int .u16 t3)
  have b6 := bset b5 22 v
  simp only [List.setIfInBounds_toArray, List.set_cons_succ, List.set_cons_zero] at b6
  clear b b1 b2 b3 b4 b5
  exact gblock (gdrew (grefl _ none)) b6 (by simp)
/-- What option makes of the contents so far. -/
def optF (add : Bool) (d : Ed) (r : Rc) : Except Nat Ed :=
  if add = true ∧ d.has = false ∧ r.name = root0 then
    match opsAt r.data 0 with
    | some l => .ok ⟨true, r.cls, r.ttl / 16777216, r.ttl / 65536 % 256, r.ttl % 65536, l⟩
    | none => .error 4
  else .error 3
def OpPost (rb bc : Nat) (s : ByteArray) (p : Nat) (h : Hd) (vq va vu vx : Value) (r : Except Nat Ed) (w : World) (e : Ending) (w' : World) : Prop :=
  w.grownBy w' (some rb) ∧ match r with
    | .ok d => e = .returned (.tuple #[]) ∧ ∃ vo, Rb w' rb bc s p h vq va vu vx d vo
    | .error x => e = .panicked [{ v := fault x, recovered := false }]
theorem OpPost.yes {rb bc p : Nat} {s : ByteArray} {h : Hd} {vq va vu vx : Value} {r : Except Nat Ed} {w w' : World} {e : Ending} {d : Ed} {vo : Value} (hr : r = .ok d) (g : w.grownBy w' (some rb)) (he : e = .returned (.tuple #[])) (k : Rb w' rb bc s p h vq va vu vx d vo) : OpPost rb bc s p h vq va vu vx r w e w' := by
  subst hr
  exact ⟨g, he, vo, k⟩
theorem OpPost.no {rb bc p : Nat} {s : ByteArray} {h : Hd} {vq va vu vx : Value} {r : Except Nat Ed} {w w' : World} {e : Ending} {x : Nat} (hr : r = .error x) (g : w.grownBy w' (some rb)) (he : e = .panicked [{ v := fault x, recovered := false }]) : OpPost rb bc s p h vq va vu vx r w e w' := by
  subst hr
  exact ⟨g, he⟩
def rcv (r : Rc) : Value := .agg #[.string r.name, .int .u16 r.kind, .int .u16 r.cls, .int .u32 r.ttl, .string r.data]

set_option maxRecDepth 100000 in
set_option maxHeartbeats 4000000 in
theorem option_any (w : World) (rb bc p : Nat) (s : ByteArray) (h : Hd) (vq va vu vx : Value) (d : Ed) (vo : Value) (r : Rc) (add : Bool) (he : Et w) (hb : Rb w rb bc s p h vq va vu vx d vo) (ht : r.ttl < 4294967296) (hd : r.data.size ≤ 100000) :
    Calls Tryd.prog 51 #[.pointer (some ⟨rb, 0, none⟩), rcv r, .bool add] w (OpPost rb bc s p h vq va vu vx (optF add d r) w) := by
  have HR := Lib.hid hb
  have HE := Lib.hid he
  have G1 := Lib.hid (galloc (grefl w none) (.cells #[.string r.name, .int .u16 r.kind, .int .u16 r.cls, .int .u32 r.ttl, .string r.data] 47))
  have R1 := Lib.hid (hb.kept G1.out)
  have EA := Lib.hid (eread_any r.cls r.ttl r.data (w.alloc (.cells #[.string r.name, .int .u16 r.kind, .int .u16 r.cls, .int .u32 r.ttl, .string r.data] 47)) (he.kept G1.out (by simp)) ht hd)
  have e17 : (w.alloc (.cells #[.string r.name, .int .u16 r.kind, .int .u16 r.cls, .int .u32 r.ttl, .string r.data] 47)).cell? ⟨rb, 17, none⟩ = some (.bool d.has) := bcellAt R1.out.blk 17
  clear hb he
  unfold rcv
  by_cases hok : add = true ∧ d.has = false ∧ r.name = root0
  · obtain ⟨rfl, h2, h3⟩ := hok
    have HF := Lib.hid (show optF true d r = match opsAt r.data 0 with | some l => .ok ⟨true, r.cls, r.ttl / 16777216, r.ttl / 65536 % 256, r.ttl % 65536, l⟩ | none => .error 4 from if_pos ⟨rfl, h2, h3⟩)
    rw [h2] at e17
    clear h2
    have hn : (r.name.toList == [0]) = true := by rw [h3]; decide +kernel
    clear h3
    go_enter Tryd.func51, Tryd.ntmps51
    go_wp2_with fail
    refine Calls.mono EA.out ?_
    rintro e w2 h2
    unfold EdPost at h2
    obtain ⟨hg2, h2⟩ := h2
    have R2 := Lib.hid (R1.out.kept hg2)
    have G2 := Lib.hid (gtrans G1.out hg2)
    clear hg2 e17 EA R1 G1 hn
    cases hop : opsAt r.data 0 with
    | none =>
      rw [hop] at h2
      subst h2
      have HX := Lib.hid (show optF true d r = .error 4 from by rw [HF.out, hop])
      clear hop
      go_wp2_with fail
      refine Calls.mono (must_no 4 (by decide) _) ?_
      rintro e w3 ⟨rfl, rfl⟩
      go_wp2_with fail
      exact ⟨rfl, OpPost.no HX.out (gany (galloc G2.out _)) rfl⟩
    | some l =>
      rw [hop] at h2
      obtain ⟨t1, ht1⟩ : ∃ t, r.ttl / 16777216 = t := ⟨_, rfl⟩
      obtain ⟨t2, ht2⟩ : ∃ t, r.ttl / 65536 % 256 = t := ⟨_, rfl⟩
      obtain ⟨t3, ht3⟩ : ∃ t, r.ttl % 65536 = t := ⟨_, rfl⟩
      rw [ht1, ht2, ht3] at h2
      obtain ⟨v, rfl, hfs⟩ := h2
      have HX := Lib.hid (show optF true d r = .ok ⟨true, r.cls, t1, t2, t3, l⟩ from by rw [HF.out, hop, ← ht1, ← ht2, ← ht3])
      obtain ⟨As, cs, rfl⟩ := hfs.len
      have OL := Lib.hid (show FS w2 (max rb bc + 1) 57 2 (.slice As l.length cs) l.length (ov l) from hfs.mono (by have := blt HR.out.blk; have := blt HR.out.cur; simp; omega))
      clear hop hfs HF ht1 ht2 ht3
      go_wp2_with fail
      refine Calls.mono (must_ok _) ?_
      rintro e w3 ⟨rfl, rfl⟩
      have ga := galloc (grefl w2 none) (.cells #[.int .u16 r.cls, .int .u8 t1, .int .u8 t2, .int .u16 t3, .slice As l.length cs] 35)
      have R3 := Lib.hid (R2.out.kept ga)
      have G3 := Lib.hid (gtrans G2.out ga)
      have O3 := Lib.hid (OL.out.kept0 ga)
      have B3 := Lib.hid (balloc w2 (.cells #[.int .u16 r.cls, .int .u8 t1, .int .u8 t2, .int .u16 t3, .slice As l.length cs] 35))
      clear ga OL R2 G2
      go_wp2_with fail
      have nb : rb ≠ w2.heap.size := fun e => by
        have h1 := R3.out.blk
        rw [e, B3.out] at h1
        simp at h1
      generalize w2.alloc (.cells #[.int .u16 r.cls, .int .u8 t1, .int .u8 t2, .int .u16 t3, .slice As l.length cs] 35) = w3 at *
      generalize w2.heap.size = nn at *
      have b0 := bcellAt B3.out 0
      have b1 := bcellAt B3.out 1
      have b2 := bcellAt B3.out 2
      have b3 := bcellAt B3.out 3
      have b4 := bcellAt B3.out 4
      have c17 : w3.cell? ⟨rb, 17, none⟩ = some (.bool d.has) := bcellAt R3.out.blk 17
      have f17 := bfree R3.out.blk 17
      have c18 : w3.cell? ⟨rb, 18, none⟩ = some (.int .u16 d.sz) := bcellAt R3.out.blk 18
      have f18 := bfree R3.out.blk 18
      have c19 : w3.cell? ⟨rb, 19, none⟩ = some (.int .u8 d.e) := bcellAt R3.out.blk 19
      have f19 := bfree R3.out.blk 19
      have c20 : w3.cell? ⟨rb, 20, none⟩ = some (.int .u8 d.v) := bcellAt R3.out.blk 20
      have f20 := bfree R3.out.blk 20
      have c21 : w3.cell? ⟨rb, 21, none⟩ = some (.int .u16 d.f) := bcellAt R3.out.blk 21
      have f21 := bfree R3.out.blk 21
      have c22 : w3.cell? ⟨rb, 22, none⟩ = some (vo) := bcellAt R3.out.blk 22
      have f22 := bfree R3.out.blk 22
      go_region
      go_end0
      obtain ⟨gs, k⟩ := R3.out.opt r.cls t1 t2 t3 l _ O3.out
      exact OpPost.yes HX.out (gstep0 G3.out gs) rfl k
  · have HF := Lib.hid (show optF add d r = .error 3 from if_neg hok)
    have hc : add = false ∨ (add = true ∧ d.has = true) ∨ (add = true ∧ d.has = false ∧ (r.name.toList == [0]) = false) := by
      cases add
      · exact .inl rfl
      · cases hd : d.has
        · refine .inr (.inr ⟨rfl, rfl, ?_⟩)
          have hn : ¬ r.name = root0 := fun e => hok ⟨rfl, hd, e⟩
          have := str_ne hn
          rwa [show root0.toList = [0] from by decide +kernel] at this
        · exact .inr (.inl ⟨rfl, rfl⟩)
    clear hok EA R1
    rcases hc with rfl | ⟨rfl, h2⟩ | ⟨rfl, h2, h3⟩
    · go_enter Tryd.func51, Tryd.ntmps51
      go_wp2_with fail
      refine Calls.mono (must_no 3 (by decide) _) ?_
      rintro e w3 ⟨rfl, rfl⟩
      go_wp2_with fail
      exact ⟨rfl, OpPost.no HF.out (gany G1.out) rfl⟩
    · rw [h2] at e17
      clear h2
      go_enter Tryd.func51, Tryd.ntmps51
      go_wp2_with fail
      refine Calls.mono (must_no 3 (by decide) _) ?_
      rintro e w3 ⟨rfl, rfl⟩
      go_wp2_with fail
      exact ⟨rfl, OpPost.no HF.out (gany G1.out) rfl⟩
    · rw [h2] at e17
      clear h2
      go_enter Tryd.func51, Tryd.ntmps51
      go_wp2_with fail
      refine Calls.mono (must_no 3 (by decide) _) ?_
      rintro e w3 ⟨rfl, rfl⟩
      go_wp2_with fail
      exact ⟨rfl, OpPost.no HF.out (gany G1.out) rfl⟩
end Go.Proofs.YthgendgmlpaglaaDoor
namespace Go.Proofs.YthgendgmlpaglaaDoor
open Go.RowKit

/-- One record read: an error, an OPT one, another one. -/
inductive R1 where
  | no (e : Nat)
  | opt (q : Nat) (d : Ed)
  | put (r : Rc) (q : Nat)
/-- The record at q behind its name, with all its data raw. -/
def rawR (s : ByteArray) (n : List UInt8) (q : Nat) : Rc := ⟨⟨n.toArray⟩, num s q 2, num s (q + 2) 2, num s (q + 4) 4, s.extract (q + 10) (q + 10 + num s (q + 8) 2)⟩
def rd1 (s : ByteArray) (add : Bool) (p : Nat) (d : Ed) : R1 :=
  match rdF s p p none [] with
  | .no e => .no e
  | .ok n q =>
    if q + 10 ≤ s.size ∧ q + 10 + num s (q + 8) 2 ≤ s.size then
      if num s q 2 = 41 then match optF add d (rawR s n q) with
        | .ok d' => .opt (q + 10 + num s (q + 8) 2) d'
        | .error x => .no x
      else if (rdD s (q + 10 : Nat) (num s (q + 8) 2 : Nat) (num s q 2)).2 = 0 then .put { rawR s n q with data := (rdD s (q + 10 : Nat) (num s (q + 8) 2 : Nat) (num s q 2)).1 } (q + 10 + num s (q + 8) 2)
      else .no (rdD s (q + 10 : Nat) (num s (q + 8) 2 : Nat) (num s q 2)).2
    else .no 4
theorem rd1_name {s : ByteArray} {add : Bool} {p e : Nat} {d : Ed} (h : rdF s p p none [] = .no e) : rd1 s add p d = .no e := by unfold rd1; rw [h]
theorem rd1_short {s : ByteArray} {add : Bool} {p q : Nat} {n : List UInt8} {d : Ed} (h : rdF s p p none [] = .ok n q) (hs : ¬ (q + 10 ≤ s.size ∧ q + 10 + num s (q + 8) 2 ≤ s.size)) : rd1 s add p d = .no 4 := by unfold rd1; rw [h]; exact if_neg hs
theorem rd1_opt {s : ByteArray} {add : Bool} {p q : Nat} {n : List UInt8} {d : Ed} (h : rdF s p p none [] = .ok n q) (hs : q + 10 ≤ s.size ∧ q + 10 + num s (q + 8) 2 ≤ s.size) (hk : num s q 2 = 41) :
    rd1 s add p d = match optF add d (rawR s n q) with | .ok d' => .opt (q + 10 + num s (q + 8) 2) d' | .error x => .no x := by
  unfold rd1; rw [h]; dsimp only; rw [if_pos hs, if_pos hk]
theorem rd1_rec {s : ByteArray} {add : Bool} {p q : Nat} {n : List UInt8} {d : Ed} {dat : ByteArray} {x : Nat} (h : rdF s p p none [] = .ok n q) (hs : q + 10 ≤ s.size ∧ q + 10 + num s (q + 8) 2 ≤ s.size) (hk : ¬ num s q 2 = 41) (hd : rdD s (q + 10 : Nat) (num s (q + 8) 2 : Nat) (num s q 2) = (dat, x)) :
    rd1 s add p d = if x = 0 then .put { rawR s n q with data := dat } (q + 10 + num s (q + 8) 2) else .no x := by
  unfold rd1; rw [h]; dsimp only; rw [if_pos hs, if_neg hk, hd]
/-- Records read. -/
inductive Rq where
  | no (e : Nat)
  | ok (l : List Rc) (q : Nat) (d : Ed)
def Rq.pre (l : List Rc) : Rq → Rq
  | .no e => .no e
  | .ok l' q d => .ok (l ++ l') q d
def rdRs (s : ByteArray) (add : Bool) : Nat → Nat → Ed → Rq
  | 0, p, d => .ok [] p d
  | k + 1, p, d => match rd1 s add p d with
    | .no e => .no e
    | .opt q d' => rdRs s add k q d'
    | .put r q => (rdRs s add k q d).pre [r]
theorem Rq.pre_pre (a b : List Rc) (r : Rq) : (r.pre b).pre a = r.pre (a ++ b) := by cases r <;> simp [Rq.pre]
theorem Rq.pre_nil (r : Rq) : r.pre [] = r := by cases r <;> simp [Rq.pre]
theorem rdRs_no {s : ByteArray} {add : Bool} {k p e : Nat} {d : Ed} (h : rd1 s add p d = .no e) : rdRs s add (k + 1) p d = .no e := by rw [rdRs, h]
theorem rdRs_opt {s : ByteArray} {add : Bool} {k p q : Nat} {d d' : Ed} (h : rd1 s add p d = .opt q d') : rdRs s add (k + 1) p d = rdRs s add k q d' := by rw [rdRs, h]
theorem rdRs_rec {s : ByteArray} {add : Bool} {k p q : Nat} {d : Ed} {r : Rc} (h : rd1 s add p d = .put r q) : rdRs s add (k + 1) p d = (rdRs s add k q d).pre [r] := by rw [rdRs, h]
/-- What is still to be read, behind what has been. -/
def RsSo (s : ByteArray) (add : Bool) (R : Rq) (k : Nat) (l : List Rc) (p : Nat) (d : Ed) : Prop := R = (rdRs s add k p d).pre l
theorem RsSo.no {s : ByteArray} {add : Bool} {R : Rq} {k p e : Nat} {l : List Rc} {d : Ed} (h : RsSo s add R (k + 1) l p d) (h1 : rd1 s add p d = .no e) : R = .no e := by
  unfold RsSo at h; rw [h, rdRs_no h1]; rfl
theorem RsSo.opt {s : ByteArray} {add : Bool} {R : Rq} {k p q : Nat} {l : List Rc} {d d' : Ed} (h : RsSo s add R (k + 1) l p d) (h1 : rd1 s add p d = .opt q d') : RsSo s add R k l q d' := by
  unfold RsSo at h ⊢; rw [h, rdRs_opt h1]
theorem RsSo.put {s : ByteArray} {add : Bool} {R : Rq} {k p q : Nat} {l : List Rc} {d : Ed} {r : Rc} (h : RsSo s add R (k + 1) l p d) (h1 : rd1 s add p d = .put r q) : RsSo s add R k (l ++ [r]) q d := by
  unfold RsSo at h ⊢; rw [h, rdRs_rec h1, Rq.pre_pre]
theorem RsSo.done {s : ByteArray} {add : Bool} {R : Rq} {p : Nat} {l : List Rc} {d : Ed} (h : RsSo s add R 0 l p d) : R = .ok l p d := by
  unfold RsSo at h; rw [h, rdRs, Rq.pre, List.append_nil]
theorem four_k (b : Nat) (s : ByteArray) (p : Nat) (w : World) (h : Cur w b s p) (he : Et w) (hp : p + 4 ≤ s.size) (hs : s.size ≤ maxLen) : Calls Tryd.prog 50 #[.pointer (some ⟨b, 0, none⟩)] w fun e w' => e = .returned (.tuple #[.int .u32 (num s p 4), .int .i64 0]) ∧ Cur w' b s (p + 4) ∧ w.grownBy w' (some b) := by
  have e := four_any b s p w h he (by omega) hs
  rw [rdV_ok hp, rdE_ok hp, rdP_ok hp] at e
  exact e
theorem four_no (b : Nat) (s : ByteArray) (p : Nat) (w : World) (h : Cur w b s p) (he : Et w) (hl : p ≤ s.size) (hp : ¬ p + 4 ≤ s.size) (hs : s.size ≤ maxLen) : Calls Tryd.prog 50 #[.pointer (some ⟨b, 0, none⟩)] w fun e w' => e = .returned (.tuple #[.int .u32 0, .int .i64 4]) ∧ Cur w' b s p ∧ w.grownBy w' (some b) := by
  have e := four_any b s p w h he hl hs
  unfold rdV rdE rdP at e
  rw [if_neg hp, if_neg hp, if_neg hp] at e
  exact e
theorem rtwo_yes (w : World) (rb bc p : Nat) (s : ByteArray) (he : Et w) (h : Rdr w rb bc s p) (hs : s.size ≤ 100000) (hp : p + 2 ≤ s.size) :
    Calls Tryd.prog 26 #[.pointer (some ⟨rb, 0, none⟩)] w fun e w' => e = .returned (.int .u16 (num s p 2)) ∧ w.grownBy w' (some bc) ∧ Rdr w' rb bc s (p + 2) :=
  (rtwo_any w rb bc p s he h hs).mono fun e w' hh => by
    unfold RdPost rdTwo at hh
    rw [if_pos hp] at hh
    exact ⟨hh.2.1, hh.1, hh.2.2⟩
theorem rtwo_no (w : World) (rb bc p : Nat) (s : ByteArray) (he : Et w) (h : Rdr w rb bc s p) (hs : s.size ≤ 100000) (hp : ¬ p + 2 ≤ s.size) :
    Calls Tryd.prog 26 #[.pointer (some ⟨rb, 0, none⟩)] w fun e w' => e = .panicked [{ v := fault 4, recovered := false }] ∧ w.grownBy w' (some bc) :=
  (rtwo_any w rb bc p s he h hs).mono fun e w' hh => by
    unfold RdPost rdTwo at hh
    rw [if_neg hp] at hh
    exact ⟨hh.2, hh.1⟩
theorem rname_yes (w : World) (rb bc p : Nat) (s : ByteArray) (he : Et w) (h : Rdr w rb bc s p) (hs : s.size ≤ 100000) {n : List UInt8} {q : Nat} (hp : rdF s p p none [] = .ok n q) :
    Calls Tryd.prog 25 #[.pointer (some ⟨rb, 0, none⟩)] w fun e w' => e = .returned (.string ⟨n.toArray⟩) ∧ w.grownBy w' (some bc) ∧ Rdr w' rb bc s q :=
  (rname_any w rb bc p s he h hs).mono fun e w' hh => by
    unfold RdPost rdNm at hh
    rw [hp] at hh
    exact ⟨hh.2.1, hh.1, hh.2.2⟩
theorem rname_no (w : World) (rb bc p : Nat) (s : ByteArray) (he : Et w) (h : Rdr w rb bc s p) (hs : s.size ≤ 100000) {x : Nat} (hp : rdF s p p none [] = .no x) :
    Calls Tryd.prog 25 #[.pointer (some ⟨rb, 0, none⟩)] w fun e w' => e = .panicked [{ v := fault x, recovered := false }] ∧ w.grownBy w' (some bc) :=
  (rname_any w rb bc p s he h hs).mono fun e w' hh => by
    unfold RdPost rdNm at hh
    rw [hp] at hh
    exact ⟨hh.2, hh.1⟩
theorem Tryd.infoRec : (Tryd.prog.info? 47).map (fun i => (i.zero, i.size, i.bytes)) = some (some (.agg #[.string ByteArray.empty, .int .u16 0, .int .u16 0, .int .u32 0, .string ByteArray.empty]), 5, 40) := by kernel_rfl
theorem Tryd.infoQue : (Tryd.prog.info? 42).map (fun i => (i.zero, i.size, i.bytes)) = some (some (.agg #[.string ByteArray.empty, .int .u16 0, .int .u16 0]), 3, 24) := by kernel_rfl
theorem new_row (w : World) (l : List Value) (t : TypeId) : ∀ j u, l[j]? = some u → (w.alloc (.cells l.toArray t)).cell? ((⟨w.heap.size, 0, none⟩ : Addr).add j) = some u := by
  intro j u hu
  rw [Addr.add_lit, bcellAt (balloc w _)]
  simpa using hu
/-- What records leaves. -/
def RqPost (rb bc : Nat) (s : ByteArray) (h : Hd) (vq va vu vx : Value) (r : Rq) (w : World) (e : Ending) (w' : World) : Prop :=
  TG w w' bc (some rb) ∧ match r with
    | .ok l q d => ∃ v vo, e = .returned v ∧ FS w' w.heap.size 47 5 v l.length (rsV l) ∧ Rb w' rb bc s q h vq va vu vx d vo
    | .no x => e = .panicked [{ v := fault x, recovered := false }]
theorem RqPost.no {rb bc : Nat} {s : ByteArray} {h : Hd} {vq va vu vx : Value} {r : Rq} {w w' : World} {e : Ending} {x : Nat} (hr : r = .no x) (g : TG w w' bc (some rb)) (he : e = .panicked [{ v := fault x, recovered := false }]) : RqPost rb bc s h vq va vu vx r w e w' := by
  subst hr
  exact ⟨g, he⟩
theorem RqPost.yes {rb bc q : Nat} {s : ByteArray} {h : Hd} {vq va vu vx : Value} {r : Rq} {w w' : World} {e : Ending} {l : List Rc} {d : Ed} {v vo : Value} (hr : r = .ok l q d) (g : TG w w' bc (some rb)) (he : e = .returned v) (hf : FS w' w.heap.size 47 5 v l.length (rsV l)) (hb : Rb w' rb bc s q h vq va vu vx d vo) : RqPost rb bc s h vq va vu vx r w e w' := by
  subst hr
  exact ⟨g, v, vo, he, hf, hb⟩
end Go.Proofs.YthgendgmlpaglaaDoor
