/-
  Wire: WireNames, its loop.
-/
import Derived.Test.YthgendgmlpaglaaDoorWnL
import Derived.Test.YthgendgmlpaglaaDoorA21
namespace Go.Proofs.YthgendgmlpaglaaDoor
open Go.RowKit

theorem wx_at {w : World} {n cap i g : Nat} {l : List Wx} {e : TypeId} (h : FS w 0 e 2 (.slice (some ⟨g, 0, none⟩) n cap) l.length (l.flatMap wxV)) (hi : i < l.length) :
    ∃ gg, w.cell? ⟨gg, i * 2, none⟩ = some (.string l[i].s) ∧ w.cell? ⟨gg, i * 2 + 1, none⟩ = some (.int .i64 l[i].e) ∧ gg = g := by
  obtain ⟨g', h1, _, _, _, h4⟩ := FS.cellAt (f := wxV) (fun _ => rfl) h hi
  injection h1 with h1
  injection h1 with h1 _ _
  exact ⟨g', h4 0 (by omega), h4 1 (by omega), h1.symm⟩
/-- What Decode leaves where there is an error, as cells: the document says it is the empty message. -/
def DcZ (s : ByteArray) (w : World) (e : Ending) (w' : World) : Prop :=
  ∃ C : Array Value, e = .returned (.tuple #[.agg C, .int .i64 (dcE s)]) ∧ C.size = 21 ∧ C.all (·.oneCell') = true ∧ w.grownBy w' none ∧
    ∀ w'', w'.grownBy w'' none → Calls Tryd.prog 7 #[.agg C, .agg #[.int .u16 0, .bool false, .int .u8 0, .bool false, .bool false, .bool false, .bool false, .bool false, .bool false, .bool false, .int .u8 0, .slice none 0 0, .slice none 0 0, .slice none 0 0, .slice none 0 0, .bool false, .int .u16 0, .int .u8 0, .int .u8 0, .int .u16 0, .slice none 0 0]] w'' fun e w3 => e = .returned (.bool true) ∧ w''.grownBy w3 none
theorem dec_z (w : World) (s : ByteArray) (he : Et w) (hb : Bt w) (h0 : dcM s = ms0) : Calls Tryd.prog 6 #[.string s] w (DcZ s w) :=
  (decode_any w s he hb).mono fun e w' h => by
    obtain ⟨hg, vq, va, vu, vx, vo, rfl, hf⟩ := h
    rw [h0] at hf ⊢
    have hv := hf.v
    obtain ⟨B2q, d2q, rfl⟩ := hf.q.len
    obtain ⟨B2a, d2a, rfl⟩ := hf.a.len
    obtain ⟨B2u, d2u, rfl⟩ := hf.u.len
    obtain ⟨B2x, d2x, rfl⟩ := hf.x.len
    obtain ⟨B2o, d2o, rfl⟩ := hf.o.len
    refine ⟨_, rfl, rfl, (by kernel_rfl), hg, fun w'' g => ?_⟩
    have c := rfsame_any w'' ms0 ms0 _ _ _ _ _ (.slice none 0 0) (.slice none 0 0) (.slice none 0 0) (.slice none 0 0) (.slice none 0 0) (hv.kept g) (ms0_f w'' 0).v (by decide) (by decide) (by decide) (by decide) (by decide)
    rw [decide_eq_true (rfl : ms0 = ms0)] at c
    exact c
set_option maxRecDepth 100000 in
set_option maxHeartbeats 16000000 in
theorem wn_loop {K : Act → World → Prop} {Q : Exit → Act → World → Prop} {c0 c1 c2 c3 c4 c5 c6 c7 c8 c9 c10 c11 c12 c13 c14 c15 c16 c17 c18 c19 c20 c21 c22 c23 c24 c25 c26 c27 c28 c29 c30 c31 c32 c33 c34 c35 c36 c37 c38 c39 c40 c41 c42 c43 c44 c45 c46 c47 c48 c49 c50 c51 c52 c53 c54 c55 c56 c57 c58 c59 c60 c61 c62 c63 c64 c65 c66 c67 c68 c69 c70 c71 c72 c73 c74 c75 c76 c77 c78 c79 c80 c81 c82 c83 c84 c85 c86 c87 c88 c89 c90 c91 c92 c93 c94 c95 c96 c97 c98 c99 c100 c101 c102 c103 c104 c105 c106 c107 c108 c109 c110 c111 c112 c113 c114 c115 c116 c117 c118 c119 c120 c121 c125 c126 c127 c128 c129 c130 c131 c132 c133 c134 c135 c136 c137 c138 c139 c140 c141 c142 c143 c144 c145 c146 c147 c148 c149 : Value} (wc : World) (he : Et wc) (hb : Bt wc) (g : Nat) (l : List Wx) (ln : l.length = 22) (hf : FS wc 0 24 2 (.slice (some ⟨g, 0, none⟩) 22 22) l.length (l.flatMap wxV)) (RO : ∀ r ∈ l, r.ok)
    (hK : ∀ (u0 u4 u5 u6 u124 u125 u126 u127 u128 u129 u130 u131 u132 u133 u134 u135 u136 u137 u138 u139 u140 u141 u142 u143 u144 u145 u146 u147 u148 : Value) (wr : World), wc.grownBy wr none → K ⟨#[u0, c1, c2, c3, u4, u5, u6, c7, c8, c9, c10, c11, c12, c13, c14, c15, c16, c17, c18, c19, c20, c21, c22, c23, c24, c25, c26, c27, c28, c29, c30, c31, c32, c33, c34, c35, c36, c37, c38, c39, c40, c41, c42, c43, c44, c45, c46, c47, c48, c49, c50, c51, c52, c53, c54, c55, c56, c57, c58, c59, c60, c61, c62, c63, c64, c65, c66, c67, c68, c69, c70, c71, c72, c73, c74, c75, c76, c77, c78, c79, c80, c81, c82, c83, c84, c85, c86, c87, c88, c89, c90, c91, c92, c93, c94, c95, c96, c97, c98, c99, c100, c101, c102, c103, c104, c105, c106, c107, c108, c109, c110, c111, c112, c113, c114, c115, c116, c117, c118, c119, c120, c121, .slice (some ⟨g, 0, none⟩) 22 22, .int .i64 22, u124, u125, u126, u127, u128, u129, u130, u131, u132, u133, u134, u135, u136, u137, u138, u139, u140, u141, u142, u143, u144, u145, u146, u147, u148, c149], []⟩ wr) :
    Code.wp Tryd.prog (cSnd (cFst (cTail 4 (Tryd.f3.body.getD .skip)))) (Exit.then K Q) ⟨#[c0, c1, c2, c3, c4, c5, c6, c7, c8, c9, c10, c11, c12, c13, c14, c15, c16, c17, c18, c19, c20, c21, c22, c23, c24, c25, c26, c27, c28, c29, c30, c31, c32, c33, c34, c35, c36, c37, c38, c39, c40, c41, c42, c43, c44, c45, c46, c47, c48, c49, c50, c51, c52, c53, c54, c55, c56, c57, c58, c59, c60, c61, c62, c63, c64, c65, c66, c67, c68, c69, c70, c71, c72, c73, c74, c75, c76, c77, c78, c79, c80, c81, c82, c83, c84, c85, c86, c87, c88, c89, c90, c91, c92, c93, c94, c95, c96, c97, c98, c99, c100, c101, c102, c103, c104, c105, c106, c107, c108, c109, c110, c111, c112, c113, c114, c115, c116, c117, c118, c119, c120, c121, .slice (some ⟨g, 0, none⟩) 22 22, .int .i64 22, .int .i64 0, c125, c126, c127, c128, c129, c130, c131, c132, c133, c134, c135, c136, c137, c138, c139, c140, c141, c142, c143, c144, c145, c146, c147, c148, c149], []⟩ wc := by
  conv => arg 2; whnf
  have HE := Lib.hid he
  have HT := Lib.hid hb
  have LN := Lib.hid ln
  have F := Lib.hid hf
  have RO := Lib.hid RO
  have HK := Lib.hid hK
  clear he hb ln hf hK
  go_wp2_with fail
  go_loopw [124] (fun vi wr => ∃ i : Nat, vi = .int .i64 i ∧ i ≤ 22 ∧ wc.grownBy wr none) (fun vi _ => 22 - (intOf vi).toNat)
  case atStart => exact ⟨0, rfl, by omega, grefl _ _⟩
  case round =>
    obtain ⟨i, rfl, hi, hgr⟩ := hrel
    have GR := Lib.hid hgr
    clear hgr
    by_cases hlt : i < 22
    case pos =>
      have hil : i < l.length := by rw [LN.out]; exact hlt
      have RI := RO.out l[i] (List.getElem_mem hil)
      obtain ⟨gg, y0, y1, hgg⟩ : ∃ gg, wr.cell? ⟨gg, i * 2, none⟩ = some (.string l[i].s) ∧ wr.cell? ⟨gg, i * 2 + 1, none⟩ = some (.int .i64 l[i].e) ∧ gg = g := wx_at (F.out.kept0 GR.out) hil
      subst hgg
      generalize l[i] = r at *
      have HI := Lib.hid hlt
      have q0 : (0 : Int) ≤ (i : Int) := by omega
      have q1 : (i : Int) < 22 := by omega
      clear hil hlt hi
      obtain ⟨rs, re⟩ := r
      dsimp only at y0 y1
      unfold Wx.ok at RI
      dsimp only at RI
      have R1 := Lib.hid RI.1
      have R2 := Lib.hid RI.2.1
      clear RI
      have gk : wr.grownBy (wr.alloc (.cells #[.string rs, .int .i64 re] 24)) none := galloc (grefl wr none) _
      have RB := Lib.hid (balloc wr (.cells #[.string rs, .int .i64 re] 24))
      have GA := Lib.hid (gtrans GR.out gk)
      clear gk
      go_upto_region 8 with fail
      clear y0 y1 q0
      generalize (wr.alloc (.cells #[.string rs, .int .i64 re] 24)) = x0 at *
      generalize wr.heap.size = rb at *
      have r0 := bcellAt RB.out 0
      by_cases he0 : re = 0
      · subst he0
        have CL := dec_c x0 rs (HE.out.kept GA.out (by simp)) (HT.out.kept GA.out (by simp))
        unfold DcC at CL
        rw [R1.out] at CL
        have CL := Lib.hid CL
        go_wp2_with fail
        refine Calls.mono CL.out ?_
        clear CL r0 R1 R2
        rintro e x1 ⟨C, rfl, hC1, hC2, _, hg⟩
        have GA' := Lib.hid (gtrans GA.out hg)
        have RB' := Lib.hid (gblock hg RB.out (by simp))
        clear GA hg RB
        have GA := GA'
        clear GA'
        have RB := RB'
        clear RB'
        have hg : x1.grownBy ((x1.alloc (.cells #[.int .u16 0, .bool false, .int .u8 0, .bool false, .bool false, .bool false, .bool false, .bool false, .bool false, .bool false, .int .u8 0, .slice none 0 0, .slice none 0 0, .slice none 0 0, .slice none 0 0, .bool false, .int .u16 0, .int .u8 0, .int .u8 0, .int .u16 0, .slice none 0 0] 37)).setRow x1.heap.size C) none := gsetRow (galloc (grefl x1 none) _) (Nat.le_refl _) _
        have CB := Lib.hid (show ((x1.alloc (.cells #[.int .u16 0, .bool false, .int .u8 0, .bool false, .bool false, .bool false, .bool false, .bool false, .bool false, .bool false, .int .u8 0, .slice none 0 0, .slice none 0 0, .slice none 0 0, .slice none 0 0, .bool false, .int .u16 0, .int .u8 0, .int .u8 0, .int .u16 0, .slice none 0 0] 37)).setRow x1.heap.size C).heap[x1.heap.size]? = some (.cells C 37 (0, 0)) from bsetR (balloc x1 (.cells #[.int .u16 0, .bool false, .int .u8 0, .bool false, .bool false, .bool false, .bool false, .bool false, .bool false, .bool false, .int .u8 0, .slice none 0 0, .slice none 0 0, .slice none 0 0, .slice none 0 0, .bool false, .int .u16 0, .int .u8 0, .int .u8 0, .int .u16 0, .slice none 0 0] 37)) C)
        have ZA := Lib.hid (balloc x1 (.cells #[.int .u16 0, .bool false, .int .u8 0, .bool false, .bool false, .bool false, .bool false, .bool false, .bool false, .bool false, .int .u8 0, .slice none 0 0, .slice none 0 0, .slice none 0 0, .slice none 0 0, .bool false, .int .u16 0, .int .u8 0, .int .u8 0, .int .u16 0, .slice none 0 0] 37))
        have GA' := Lib.hid (gtrans GA.out hg)
        have RB' := Lib.hid (gblock hg RB.out (by simp))
        clear GA hg RB
        have GA := GA'
        clear GA'
        have RB := RB'
        clear RB'
        go_upto_region 9 with (refine wpList_store_row rfl 37 _ _ rfl x1.heap.size C rfl rfl 37 _ ZA.out (by rw [hC1]; kernel_rfl) hC1.symm hC2 ?_)
        clear ZA
        generalize ((x1.alloc (.cells #[.int .u16 0, .bool false, .int .u8 0, .bool false, .bool false, .bool false, .bool false, .bool false, .bool false, .bool false, .int .u8 0, .slice none 0 0, .slice none 0 0, .slice none 0 0, .slice none 0 0, .bool false, .int .u16 0, .int .u8 0, .int .u8 0, .int .u16 0, .slice none 0 0] 37)).setRow x1.heap.size C) = x2 at *
        generalize x1.heap.size = cb at *
        have r1 : x2.cell? ⟨rb, 1, none⟩ = some (.int .i64 0) := bcellAt RB.out 1
        go_wp2_with fail
        go_roundw
        case rel => exact ⟨i + 1, by go_num, HI.out, GA.out⟩
        case measure => have := HI.out; simp [intOf]; omega
      · skip
        have CL := dec_z x0 rs (HE.out.kept GA.out (by simp)) (HT.out.kept GA.out (by simp)) (R2.out he0)
        unfold DcZ at CL
        rw [R1.out] at CL
        have CL := Lib.hid CL
        go_wp2_with fail
        refine Calls.mono CL.out ?_
        clear CL r0 R1 R2
        rintro e x1 ⟨C, rfl, hC1, hC2, hg, hsame⟩
        have HS := Lib.hid hsame
        clear hsame
        have GS := Lib.hid (grefl x1 none)
        have GA' := Lib.hid (gtrans GA.out hg)
        have RB' := Lib.hid (gblock hg RB.out (by simp))
        clear GA hg RB
        have GA := GA'
        clear GA'
        have RB := RB'
        clear RB'
        have GS' := Lib.hid (show x1.grownBy ((x1.alloc (.cells #[.int .u16 0, .bool false, .int .u8 0, .bool false, .bool false, .bool false, .bool false, .bool false, .bool false, .bool false, .int .u8 0, .slice none 0 0, .slice none 0 0, .slice none 0 0, .slice none 0 0, .bool false, .int .u16 0, .int .u8 0, .int .u8 0, .int .u16 0, .slice none 0 0] 37)).setRow x1.heap.size C) none from gsetRow (galloc (grefl x1 none) _) (Nat.le_refl _) _)
        clear GS
        have GS := GS'
        clear GS'
        have hg : x1.grownBy ((x1.alloc (.cells #[.int .u16 0, .bool false, .int .u8 0, .bool false, .bool false, .bool false, .bool false, .bool false, .bool false, .bool false, .int .u8 0, .slice none 0 0, .slice none 0 0, .slice none 0 0, .slice none 0 0, .bool false, .int .u16 0, .int .u8 0, .int .u8 0, .int .u16 0, .slice none 0 0] 37)).setRow x1.heap.size C) none := gsetRow (galloc (grefl x1 none) _) (Nat.le_refl _) _
        have CB := Lib.hid (show ((x1.alloc (.cells #[.int .u16 0, .bool false, .int .u8 0, .bool false, .bool false, .bool false, .bool false, .bool false, .bool false, .bool false, .int .u8 0, .slice none 0 0, .slice none 0 0, .slice none 0 0, .slice none 0 0, .bool false, .int .u16 0, .int .u8 0, .int .u8 0, .int .u16 0, .slice none 0 0] 37)).setRow x1.heap.size C).heap[x1.heap.size]? = some (.cells C 37 (0, 0)) from bsetR (balloc x1 (.cells #[.int .u16 0, .bool false, .int .u8 0, .bool false, .bool false, .bool false, .bool false, .bool false, .bool false, .bool false, .int .u8 0, .slice none 0 0, .slice none 0 0, .slice none 0 0, .slice none 0 0, .bool false, .int .u16 0, .int .u8 0, .int .u8 0, .int .u16 0, .slice none 0 0] 37)) C)
        have ZA := Lib.hid (balloc x1 (.cells #[.int .u16 0, .bool false, .int .u8 0, .bool false, .bool false, .bool false, .bool false, .bool false, .bool false, .bool false, .int .u8 0, .slice none 0 0, .slice none 0 0, .slice none 0 0, .slice none 0 0, .bool false, .int .u16 0, .int .u8 0, .int .u8 0, .int .u16 0, .slice none 0 0] 37))
        have GA' := Lib.hid (gtrans GA.out hg)
        have RB' := Lib.hid (gblock hg RB.out (by simp))
        clear GA hg RB
        have GA := GA'
        clear GA'
        have RB := RB'
        clear RB'
        go_upto_region 9 with (refine wpList_store_row rfl 37 _ _ rfl x1.heap.size C rfl rfl 37 _ ZA.out (by rw [hC1]; kernel_rfl) hC1.symm hC2 ?_)
        clear ZA
        generalize ((x1.alloc (.cells #[.int .u16 0, .bool false, .int .u8 0, .bool false, .bool false, .bool false, .bool false, .bool false, .bool false, .bool false, .int .u8 0, .slice none 0 0, .slice none 0 0, .slice none 0 0, .slice none 0 0, .bool false, .int .u16 0, .int .u8 0, .int .u8 0, .int .u16 0, .slice none 0 0] 37)).setRow x1.heap.size C) = x2 at *
        generalize x1.heap.size = cb at *
        have r1 := bcellAt RB.out 1
        have e1 : ((re : Int) != (re : Int)) = false := by simp
        have e2 : ((re : Int) != 0) = true := by simp; omega
        go_wp2_with (refine wpList_load_rowG rfl 37 _ rfl cb rfl _ _ _ _ CB.out Tryd.underlying37 rfl (by rw [hC1]; kernel_rfl) ?_)
        refine Calls.mono (HS.out _ GS.out) ?_
        clear HS r1
        rintro e x3 ⟨rfl, hg⟩
        have GA' := Lib.hid (gtrans GA.out hg)
        have RB' := Lib.hid (gblock hg RB.out (by simp))
        clear GA hg RB
        have GA := GA'
        clear GA'
        have RB := RB'
        clear RB'
        go_wp2_with fail
        go_roundw
        case rel => exact ⟨i + 1, by go_num, HI.out, GA.out⟩
        case measure => have := HI.out; simp [intOf]; omega
    case neg =>
      go_wp2_with fail
      exact HK.out _ _ _ _ _ _ _ _ _ _ _ _ _ _ _ _ _ _ _ _ _ _ _ _ _ _ _ _ _ _ GR.out
end Go.Proofs.YthgendgmlpaglaaDoor
