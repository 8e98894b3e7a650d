/-
  EdnsReads.
-/
import Derived.Test.YtcednhpelbdoiaaDoorEd06c
import Derived.Test.YtcednhpelbdoiaaDoorEd06h
namespace Go.Proofs.YtcednhpelbdoiaaDoor
open Go.RowKit

theorem FS.at2 {w : World} {base n cap k : Nat} {e : TypeId} {A : Option Addr} {xs : List Value} (h : FS w base e 2 (.slice A n cap) n xs) (hk : k < n) : ∃ g cur, A = some ⟨g, 0, none⟩ ∧ base ≤ g ∧ w.heap[g]? = some (.cells cur e (0, 0)) ∧ n ≤ cap ∧ cap * 2 ≤ cur.size := by
  rcases h.2 with ⟨h2, rfl⟩ | ⟨g, cap', cur, h3, h4, h5, h6, h7, _⟩
  · omega
  · simp only [Value.slice.injEq] at h3
    obtain ⟨rfl, _, rfl⟩ := h3
    exact ⟨g, cur, rfl, h4, h5, h6, h7⟩
theorem FS.put2 {w : World} {base n cap g : Nat} {e : TypeId} {cur : Array Value} (hb : base ≤ g) (hg : w.heap[g]? = some (.cells cur e (0, 0))) (hn : n ≤ cap) (hc : cap * 2 ≤ cur.size) (i j : Nat) (u v : Value) :
    ∃ xs, FS ((w.setCell ⟨g, i, none⟩ u).setCell ⟨g, j, none⟩ v) base e 2 (.slice (some ⟨g, 0, none⟩) n cap) n xs := by
  refine ⟨((cur.setIfInBounds i u).setIfInBounds j v).toList.take (n * 2), ?_, .inr ⟨g, cap, (cur.setIfInBounds i u).setIfInBounds j v, rfl, hb, bset (bset hg i u) j v, hn, by simpa using hc, rfl⟩⟩
  simp
  omega
/-- What Read returns, in one form. -/
def EdU (a b c d er : Int) (l : List Opt) (w : World) (e : Ending) (w' : World) : Prop :=
  ∃ A cap, e = .returned (.tuple #[.agg #[.int .u16 a, .int .u8 b, .int .u8 c, .int .u16 d, .slice A l.length cap], .int .i64 er]) ∧ FS w' w.heap.size 33 2 (.slice A l.length cap) l.length (ov l) ∧ w.grownBy w' none
theorem read_u (class_ ttl : Nat) (s : ByteArray) (ht : ttl < 4294967296) (hs : s.size ≤ 100000) : ∃ (a b c d er : Int) (l : List Opt), l.length ≤ 100000 ∧
    (∀ w, Et w → Calls Tryd.prog 12 #[.int .u16 class_, .int .u32 ttl, .string s] w (EdU a b c d er l w)) ∧
    (∀ w, Calls Tryd.prog 11 #[.int .u16 class_, .int .u32 ttl, .string s] w (EdU a b c d er l w)) := by
  cases h : opsAt s 0 with
  | none =>
    refine ⟨0, 0, 0, 0, 4, [], by simp, fun w he => ?_, fun w => ?_⟩
    · refine (eread_any class_ ttl s w he ht hs).mono fun e w' hp => ?_
      unfold EdPost at hp
      rw [h] at hp
      exact ⟨none, 0, hp.2, ⟨by simp [ov], .inl ⟨rfl, rfl⟩⟩, hp.1⟩
    · refine (rread_any class_ ttl s w ht hs).mono fun e w' hp => ?_
      unfold EdPost at hp
      rw [h] at hp
      exact ⟨none, 0, hp.2, ⟨by simp [ov], .inl ⟨rfl, rfl⟩⟩, hp.1⟩
  | some l =>
    refine ⟨class_, ((ttl / 16777216 : Nat) : Int), ((ttl / 65536 % 256 : Nat) : Int), ((ttl % 65536 : Nat) : Int), 0, l, opsAt_few h hs, fun w he => ?_, fun w => ?_⟩
    · refine (eread_any class_ ttl s w he ht hs).mono fun e w' hp => ?_
      unfold EdPost at hp
      rw [h] at hp
      obtain ⟨hg, v, rfl, hf⟩ := hp
      obtain ⟨A, cap, rfl⟩ := hf.len
      exact ⟨A, cap, rfl, hf, hg⟩
    · refine (rread_any class_ ttl s w ht hs).mono fun e w' hp => ?_
      unfold EdPost at hp
      rw [h] at hp
      obtain ⟨hg, v, rfl, hf⟩ := hp
      obtain ⟨A, cap, rfl⟩ := hf.len
      exact ⟨A, cap, rfl, hf, hg⟩

set_option maxRecDepth 100000 in
theorem reads6_big (class_ ttl : Nat) (s : ByteArray) (w : World) (he : Et w) (hs : 20000 < s.size) : Calls Tryd.prog 3 #[.int .u16 class_, .int .u32 ttl, .string s] w fun e w' => e = .returned (.bool true) ∧ w.grownBy w' none := by
  have hb : decide ((20000 : Int) < (s.size : Int)) = true := by simp; omega
  go_enter Tryd.func3, Tryd.ntmps3
  go_wp2_with fail
  refine Calls.mono (awake06 w he) ?_
  rintro e w1 ⟨rfl, hg⟩
  go_wp2_with fail
  go_ret
  exact ⟨rfl, hg⟩

set_option maxRecDepth 100000 in
set_option maxHeartbeats 2000000 in
theorem reads6_small (class_ ttl : Nat) (s : ByteArray) (w : World) (he : Et w) (ht : ttl < 4294967296) (hs : s.size ≤ 20000) : Calls Tryd.prog 3 #[.int .u16 class_, .int .u32 ttl, .string s] w fun e w' => e = .returned (.bool true) ∧ w.grownBy w' none := by
  have hb : decide ((20000 : Int) < (s.size : Int)) = false := by simp; omega
  have HE := Lib.hid he
  obtain ⟨a, b, c, d, er, l, hl, k1, k2⟩ := read_u class_ ttl s ht (by omega)
  have K1 := Lib.hid k1
  have K2 := Lib.hid k2
  clear he k1 k2
  go_enter Tryd.func3, Tryd.ntmps3
  go_wp2_with fail
  refine Calls.mono (K2.out _) ?_
  rintro e w1 ⟨A1, c1, rfl, hf, hg⟩
  have G1 := Lib.hid hg
  have V1 := Lib.hid hf.sl
  clear hf hg hb
  go_wp2_with fail
  go_loopw [9] (fun i wr => ∃ k : Nat, k ≤ 2 ∧ i = .int .i64 k ∧ w1.grownBy wr none ∧ wr.heap[w1.heap.size]? = some (.cells #[.int .u16 a, .int .u8 b, .int .u8 c, .int .u16 d, .slice A1 l.length c1] 27 (0, 0))) (fun i _ => 2 - (intOf i).toNat)
  case atStart => exact ⟨0, by omega, rfl, galloc (grefl _ none) _, balloc1_0 _ _⟩
  case round =>
    obtain ⟨k, hk, rfl, hg, hr⟩ := hrel
    have HG := Lib.hid hg
    have HR := Lib.hid hr
    clear hg hr
    obtain ⟨W0, rfl⟩ : ∃ W0 : World, W0 = wr := ⟨_, rfl⟩
    by_cases hlt : k < 2
    · go_wp2_with fail
      refine Calls.mono (K1.out _ (HE.out.kept (gtrans G1.out HG.out) (by simp))) ?_
      rintro e w3 ⟨A3, c3, rfl, hf3, hg3⟩
      have G3 := Lib.hid hg3
      have F3 := Lib.hid hf3
      have R3 := Lib.hid (gblock hg3 HR.out (by simp))
      clear hf3 hg3
      have m0 : w3.cell? ⟨w1.heap.size, 0, none⟩ = some (.int .u16 a) := bcellAt R3.out 0
      have m1 : w3.cell? ⟨w1.heap.size, 1, none⟩ = some (.int .u8 b) := bcellAt R3.out 1
      have m2 : w3.cell? ⟨w1.heap.size, 2, none⟩ = some (.int .u8 c) := bcellAt R3.out 2
      have m3 : w3.cell? ⟨w1.heap.size, 3, none⟩ = some (.int .u16 d) := bcellAt R3.out 3
      have m4 : w3.cell? ⟨w1.heap.size, 4, none⟩ = some (.slice A1 l.length c1) := bcellAt R3.out 4
      have lt1 : w1.heap.size < w3.heap.size := blt R3.out
      go_wp2_with fail
      refine Calls.mono (rsame_any a b c d a b c d _ _ l l _ (F3.out.sl.kept0 (galloc (grefl _ none) _)) (V1.out.kept0 (galloc (gtrans HG.out G3.out) _)) (by omega)) ?_
      rw [show edB a b c d l a b c d l = true by simp [edB]]
      rintro e w4 ⟨rfl, hg4⟩
      have G4 := Lib.hid (gtrans G3.out (gfr1 hg4))
      have F4 := Lib.hid (F3.out.kept0 (gfr1 hg4))
      have X4 := Lib.hid (gblock hg4 (balloc1_0 w3 _) (by simp))
      have LT := Lib.hid (show W0.heap.size ≤ w3.heap.size from G3.out.size)
      clear hg4 m0 m1 m2 m3 m4 lt1 R3 F3 G3
      go_wp2_with fail
      go_loopw [12] (fun i wr => ∃ j xs, j ≤ l.length ∧ i = .int .i64 ((j : Nat) : Int) ∧ W0.grownBy wr none ∧ FS wr W0.heap.size 33 2 (.slice A3 l.length c3) l.length xs ∧ wr.heap[w3.heap.size]? = some (.cells #[.int .u16 a, .int .u8 b, .int .u8 c, .int .u16 d, .slice A3 l.length c3] 27 (0, 0))) (fun i _ => l.length - (intOf i).toNat)
      case atStart => exact ⟨0, _, by omega, rfl, G4.out, F4.out, X4.out⟩
      case round =>
        obtain ⟨j, xs, hj, rfl, hgr, hfs, hx⟩ := hrel
        have HGR := Lib.hid hgr
        have HFS := Lib.hid hfs
        have HX := Lib.hid hx
        have n4 : wr.cell? ⟨w3.heap.size, 4, none⟩ = some (.slice A3 l.length c3) := bcellAt hx 4
        clear hgr hfs hx
        by_cases hjl : j < l.length
        · obtain ⟨g, cur, rfl, hbg, hcur, hnc, hcs⟩ := HFS.out.at2 hjl
          have q0 : (0 : Int) ≤ (j : Int) := by omega
          have q1 : (j : Int) < (l.length : Int) := by omega
          have z0 : wr.cell? ⟨g, j * 2, none⟩ = some (cur[j * 2]'(by omega)) := (bcellAt hcur _).trans (Array.getElem?_eq_getElem _)
          have z1 : wr.cell? ⟨g, j * 2 + 1, none⟩ = some (cur[j * 2 + 1]'(by omega)) := (bcellAt hcur _).trans (Array.getElem?_eq_getElem _)
          have y0 : wr.frozen? ⟨g, j * 2, none⟩ = false := bfree hcur _
          have y1 : wr.frozen? ⟨g, j * 2 + 1, none⟩ = false := bfree hcur _
          have HCU := Lib.hid hcur
          clear hcur
          go_wp2_with fail
          go_roundw
          case rel =>
            obtain ⟨xs', hf'⟩ := FS.put2 hbg HCU.out hnc hcs (j * 2) (j * 2 + 1) (.int .u16 7) (.string ⟨#[115, 112, 111, 105, 108, 116]⟩)
            have hne : w3.heap.size ≠ g := by
              intro e
              have h1 := HCU.out
              rw [← e, HX.out] at h1
              simp at h1
            exact ⟨j + 1, xs', by omega, by go_num, gset (gset HGR.out (.inr hbg) _) (.inr hbg) _, hf', (heap_setCell_other _ ⟨g, j * 2 + 1, none⟩ _ _ hne).trans ((heap_setCell_other _ ⟨g, j * 2, none⟩ _ _ hne).trans HX.out)⟩
          case measure => simp [intOf]; omega
        · go_wp2_with fail
          go_roundw
          case rel => exact ⟨k + 1, by omega, by go_num, gtrans HG.out HGR.out, gblock HGR.out HR.out (by simp)⟩
          case measure => simp [intOf]; omega
    · go_wp2_with fail
      refine Calls.mono (awake06 _ (HE.out.kept (gtrans G1.out HG.out) (by simp))) ?_
      rintro e w2 ⟨rfl, hg⟩
      go_wp2_with fail
      go_ret
      exact ⟨rfl, gtrans (gtrans G1.out HG.out) hg⟩

theorem reads6_walk (class_ ttl : Nat) (s : ByteArray) (w : World) (he : Et w) (ht : ttl < 4294967296) : Calls Tryd.prog 3 #[.int .u16 class_, .int .u32 ttl, .string s] w fun e w' => e = .returned (.bool true) ∧ w.grownBy w' none := by
  by_cases h : 20000 < s.size
  · exact reads6_big class_ ttl s w he h
  · exact reads6_small class_ ttl s w he ht (by omega)
end Go.Proofs.YtcednhpelbdoiaaDoor
