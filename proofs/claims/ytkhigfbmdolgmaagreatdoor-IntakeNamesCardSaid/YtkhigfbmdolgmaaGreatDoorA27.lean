/-
  Intake: IntakeNames' walk.
  Intake: IntakeNames, in parts.
  Intake: IntakeNames, in parts.
-/
import Derived.Test.YtkhigfbmdolgmaaGreatDoorA26
import Derived.Test.YtkhigfbmdolgmaaGreatDoorIkI
import Derived.Test.YtkhigfbmdolgmaaGreatDoorA25
import Derived.Test.YtkhigfbmdolgmaaGreatDoorA23
import Derived.Deep.CutBlock
import Derived.Deep.Cut
namespace Go.Proofs.YtkhigfbmdolgmaaGreatDoor
open Go.RowKit

/-- The code of a sequence, in pieces. -/
def cFst : Code → Code | .seq x _ => x | c => c
def cSnd : Code → Code | .seq _ y => y | c => c
def cTail : Nat → Code → Code | 0, c => c | n + 1, c => cTail n (cSnd c)
/-- What the rows' building leaves. -/
def P16 (w : World) (l : List Rw) (a b c : Value) (wx : World) : Prop := w.grownBy wx none ∧ b = .int .i64 19 ∧ c = .int .i64 0 ∧ ∃ g, a = .slice (some ⟨g, 0, none⟩) 19 19 ∧ FS wx 0 37 4 a l.length (l.flatMap rwV)
theorem rw_at {w : World} {n cap i g : Nat} {l : List Rw} {e : TypeId} (h : FS w 0 e 4 (.slice (some ⟨g, 0, none⟩) n cap) l.length (l.flatMap rwV)) (hi : i < l.length) :
    ∃ gg, w.cell? ⟨gg, i * 4, none⟩ = some (.string l[i].s) ∧ w.cell? ⟨gg, i * 4 + 1, none⟩ = some (.int .u8 l[i].kind) ∧ w.cell? ⟨gg, i * 4 + 2, none⟩ = some (.int .i64 l[i].code) ∧ w.cell? ⟨gg, i * 4 + 3, none⟩ = some (.bool l[i].has) ∧ gg = g := by
  obtain ⟨g', h1, _, _, _, h4⟩ := FS.cellAt (f := rwV) (fun _ => rfl) h hi
  injection h1 with h1
  injection h1 with h1 _ _
  exact ⟨g', h4 0 (by omega), h4 1 (by omega), h4 2 (by omega), h4 3 (by omega), h1.symm⟩
theorem pr_at {w : World} {n cap i g : Nat} {l : List (Int × Int)} {e : TypeId} (h : FS w 0 e 2 (.slice (some ⟨g, 0, none⟩) n cap) l.length (l.flatMap fun p => [.int .i64 p.1, .int .i64 p.2])) (hi : i < l.length) :
    ∃ gg, w.cell? ⟨gg, i * 2, none⟩ = some (.int .i64 l[i].1) ∧ w.cell? ⟨gg, i * 2 + 1, none⟩ = some (.int .i64 l[i].2) ∧ gg = g := by
  obtain ⟨g', h1, _, _, _, h4⟩ := FS.cellAt (f := fun p => [.int .i64 p.1, .int .i64 p.2]) (fun _ => rfl) h hi
  injection h1 with h1
  injection h1 with h1 _ _
  exact ⟨g', h4 0 (by omega), h4 1 (by omega), h1.symm⟩
set_option maxRecDepth 100000 in
theorem cm_eq (w : World) : (Op.equalIn 10000 40 (.agg #[.int .u8 1, .int .i64 0, .int .u16 0, .bool false, .int .u8 0, .bool false, .bool false, .bool false, .bool false, .bool false, .bool false, .bool false, .int .u8 0, .bool false, .string { data := #[] }, .int .u16 0, .int .u16 0, .bool false, .int .i64 0]) (.agg #[.int .u8 1, .int .i64 0, .int .u16 0, .bool false, .int .u8 0, .bool false, .bool false, .bool false, .bool false, .bool false, .bool false, .bool false, .int .u8 0, .bool false, .string { data := #[] }, .int .u16 0, .int .u16 0, .bool false, .int .i64 0])).run Tryz.prog w = .ok true w := by kernel_rfl
end Go.Proofs.YtkhigfbmdolgmaaGreatDoor
namespace Go.Proofs.YtkhigfbmdolgmaaGreatDoor
open Go.RowKit

set_option maxRecDepth 100000 in
set_option maxHeartbeats 16000000 in
theorem inames_loop {K : Act → World → Prop} {Q : Exit → Act → World → Prop} {c1 c2 c3 c4 c5 c6 c7 c8 c9 c10 c11 c12 c13 c14 c15 c16 c17 c18 c19 c20 c21 c22 c23 c24 c25 c26 c27 c28 c29 c30 c31 c32 c33 c34 c35 c36 c37 c38 c39 c40 c41 c42 c43 c44 c45 c46 c47 c48 c49 c50 c51 c52 c53 c54 c55 c56 c57 c58 c59 c60 c61 c62 c63 c64 c65 c66 c67 c68 c69 c70 c71 c72 c73 c74 c75 c76 c77 c78 c79 c80 c81 c82 c83 c84 c85 c86 c87 c88 c89 c90 c91 c92 c93 c94 c95 c96 c97 c98 c99 c100 c101 c102 c103 c104 c105 c106 c110 c111 c112 c113 c114 c115 c116 c117 c118 c119 c120 c121 c122 c123 c124 c125 c126 c127 c128 c129 c130 c131 c132 c133 c134 c135 c136 c137 c138 c139 c140 c141 c142 c143 c144 c145 c146 c147 c148 c149 c150 c151 c152 c153 c154 c155 c156 c157 c158 c159 c160 c161 c162 c163 c164 c165 c166 c167 c168 c169 c170 c171 c172 c173 c174 c175 c176 c177 c178 c179 c180 c181 c182 c183 c184 c185 c186 c187 c188 c189 c190 c191 c192 c193 c194 c195 c196 c197 c198 c199 c200 c201 c202 c203 c204 c205 c206 c207 c208 c209 c210 c211 c212 c213 c214 c215 c216 c217 c218 c219 c220 c221 c222 c223 c224 c225 c226 c227 c228 c229 c230 c231 c232 c233 c234 c235 c236 c237 c238 c239 c240 c241 c242 c243 c244 c245 c246 c247 c248 c249 c250 c251 c252 c253 c254 c255 : Value} (wc : World) (he : Et wc) (hb : Bt wc) (lb : Nat) (l : List Rw) (ln : l.length = 19) (hf : FS wc 0 37 4 (.slice (some ⟨lb, 0, none⟩) 19 19) l.length (l.flatMap rwV)) (RO : ∀ r ∈ l, r.ok) (RL : ∀ r ∈ l, r.s.size ≤ 100000)
    (hK : ∀ (u0 u8 u9 u109 u110 u111 u112 u113 u114 u115 u116 u117 u118 u119 u120 u121 u122 u123 u124 u125 u126 u127 u128 u129 u130 u131 u132 u133 u134 u135 u136 u137 u138 u139 u140 u141 u142 u143 u144 u145 u146 u147 u148 u149 u150 u151 u152 u153 u154 u155 u156 u157 u158 u159 u160 u161 u162 : Value) (wr : World), wc.grownBy wr none → K ⟨#[u0, c1, c2, c3, c4, c5, c6, c7, u8, u9, c10, c11, c12, c13, c14, c15, c16, c17, c18, c19, c20, c21, c22, c23, c24, c25, c26, c27, c28, c29, c30, c31, c32, c33, c34, c35, c36, c37, c38, c39, c40, c41, c42, c43, c44, c45, c46, c47, c48, c49, c50, c51, c52, c53, c54, c55, c56, c57, c58, c59, c60, c61, c62, c63, c64, c65, c66, c67, c68, c69, c70, c71, c72, c73, c74, c75, c76, c77, c78, c79, c80, c81, c82, c83, c84, c85, c86, c87, c88, c89, c90, c91, c92, c93, c94, c95, c96, c97, c98, c99, c100, c101, c102, c103, c104, c105, c106, .slice (some ⟨lb, 0, none⟩) 19 19, .int .i64 19, u109, u110, u111, u112, u113, u114, u115, u116, u117, u118, u119, u120, u121, u122, u123, u124, u125, u126, u127, u128, u129, u130, u131, u132, u133, u134, u135, u136, u137, u138, u139, u140, u141, u142, u143, u144, u145, u146, u147, u148, u149, u150, u151, u152, u153, u154, u155, u156, u157, u158, u159, u160, u161, u162, c163, c164, c165, c166, c167, c168, c169, c170, c171, c172, c173, c174, c175, c176, c177, c178, c179, c180, c181, c182, c183, c184, c185, c186, c187, c188, c189, c190, c191, c192, c193, c194, c195, c196, c197, c198, c199, c200, c201, c202, c203, c204, c205, c206, c207, c208, c209, c210, c211, c212, c213, c214, c215, c216, c217, c218, c219, c220, c221, c222, c223, c224, c225, c226, c227, c228, c229, c230, c231, c232, c233, c234, c235, c236, c237, c238, c239, c240, c241, c242, c243, c244, c245, c246, c247, c248, c249, c250, c251, c252, c253, c254, c255], []⟩ wr) :
    Code.wp Tryz.prog (cSnd (cFst (cTail 15 (Tryz.f3.body.getD .skip)))) (Exit.then K Q) ⟨#[.bool false, c1, c2, c3, c4, c5, c6, c7, c8, c9, c10, c11, c12, c13, c14, c15, c16, c17, c18, c19, c20, c21, c22, c23, c24, c25, c26, c27, c28, c29, c30, c31, c32, c33, c34, c35, c36, c37, c38, c39, c40, c41, c42, c43, c44, c45, c46, c47, c48, c49, c50, c51, c52, c53, c54, c55, c56, c57, c58, c59, c60, c61, c62, c63, c64, c65, c66, c67, c68, c69, c70, c71, c72, c73, c74, c75, c76, c77, c78, c79, c80, c81, c82, c83, c84, c85, c86, c87, c88, c89, c90, c91, c92, c93, c94, c95, c96, c97, c98, c99, c100, c101, c102, c103, c104, c105, c106, .slice (some ⟨lb, 0, none⟩) 19 19, .int .i64 19, .int .i64 0, c110, c111, c112, c113, c114, c115, c116, c117, c118, c119, c120, c121, c122, c123, c124, c125, c126, c127, c128, c129, c130, c131, c132, c133, c134, c135, c136, c137, c138, c139, c140, c141, c142, c143, c144, c145, c146, c147, c148, c149, c150, c151, c152, c153, c154, c155, c156, c157, c158, c159, c160, c161, c162, c163, c164, c165, c166, c167, c168, c169, c170, c171, c172, c173, c174, c175, c176, c177, c178, c179, c180, c181, c182, c183, c184, c185, c186, c187, c188, c189, c190, c191, c192, c193, c194, c195, c196, c197, c198, c199, c200, c201, c202, c203, c204, c205, c206, c207, c208, c209, c210, c211, c212, c213, c214, c215, c216, c217, c218, c219, c220, c221, c222, c223, c224, c225, c226, c227, c228, c229, c230, c231, c232, c233, c234, c235, c236, c237, c238, c239, c240, c241, c242, c243, c244, c245, c246, c247, c248, c249, c250, c251, c252, c253, c254, c255], []⟩ wc := by
  conv => arg 2; whnf
  have HE := Lib.hid he
  have HT := Lib.hid hb
  have LN := Lib.hid ln
  have F := Lib.hid hf
  have RO := Lib.hid RO
  have RL := Lib.hid RL
  have HK := Lib.hid hK
  clear he hb ln hf hK
  go_wp2_with fail
  go_loopw [109] (fun vi wr => ∃ i : Nat, vi = .int .i64 i ∧ i ≤ 19 ∧ wc.grownBy wr none) (fun vi _ => 19 - (intOf vi).toNat)
  case atStart => exact ⟨0, rfl, by omega, grefl _ _⟩
  case round =>
    obtain ⟨i, rfl, hi, hgr⟩ := hrel
    have GR := Lib.hid hgr
    clear hgr
    by_cases hlt : i < 19
    case pos =>
      have hil : i < l.length := by rw [LN.out]; exact hlt
      have RI := RO.out l[i] (List.getElem_mem hil)
      have RZ := RL.out l[i] (List.getElem_mem hil)
      obtain ⟨gg, y0, y1, y2, y3, hgg⟩ : ∃ gg, wr.cell? ⟨gg, i * 4, none⟩ = some (.string l[i].s) ∧ wr.cell? ⟨gg, i * 4 + 1, none⟩ = some (.int .u8 l[i].kind) ∧ wr.cell? ⟨gg, i * 4 + 2, none⟩ = some (.int .i64 l[i].code) ∧ wr.cell? ⟨gg, i * 4 + 3, none⟩ = some (.bool l[i].has) ∧ gg = lb := rw_at (F.out.kept0 GR.out) hil
      subst hgg
      generalize l[i] = r at *
      have HI := Lib.hid hlt
      have q0 : (0 : Int) ≤ (i : Int) := by omega
      have q1 : (i : Int) < 19 := by omega
      obtain ⟨W0, rfl⟩ : ∃ W0 : World, W0 = wr := ⟨_, rfl⟩
      clear hil hlt
      obtain ⟨rs, rk, rc, rh⟩ := r
      dsimp only at y0 y1 y2 y3 RI RZ
      unfold Rw.ok at RI
      dsimp only at RI
      have RZ := Lib.hid RZ
      rcases RI with ⟨rfl, rfl, rfl, hlk⟩ | ⟨h1, h2, h3, h4, h5, h6⟩
      · have HL := Lib.hid (show (look rs).val = .agg #[.int .u8 1, .int .i64 0, .int .u16 0, .bool false, .int .u8 0, .bool false, .bool false, .bool false, .bool false, .bool false, .bool false, .bool false, .int .u8 0, .bool false, .string { data := #[] }, .int .u16 0, .int .u16 0, .bool false, .int .i64 0] from by rw [hlk]; rfl)
        clear hlk
        have y1 : W0.cell? ⟨_, i * 4 + 1, none⟩ = some (.int .u8 1) := y1
        have y2 : W0.cell? ⟨_, i * 4 + 2, none⟩ = some (.int .i64 0) := y2
        have y3 : W0.cell? ⟨_, i * 4 + 3, none⟩ = some (.bool false) := y3
        have gk : W0.grownBy (W0.alloc (.cells #[.string rs, .int .u8 1, .int .i64 0, .bool false] 37)) none := galloc (grefl W0 none) _
        have RB := Lib.hid (balloc W0 (.cells #[.string rs, .int .u8 1, .int .i64 0, .bool false] 37))
        have GA := Lib.hid (gtrans GR.out gk)
        clear gk
        go_upto_region 19 with fail
        clear y0 y1 y2 y3 q0
        generalize (W0.alloc (.cells #[.string rs, .int .u8 1, .int .i64 0, .bool false] 37)) = x0 at *
        generalize W0.heap.size = rb at *
        have r0 := bcellAt RB.out 0
        have CL := look_any x0 rs (HE.out.kept GA.out (by simp)) (HT.out.kept GA.out (by simp)) (by have h := RZ.out; unfold maxLen; omega)
        rw [HL.out] at CL
        have CL := Lib.hid CL
        go_wp2_with fail
        refine Calls.mono CL.out ?_
        clear CL r0
        rintro e x1 ⟨rfl, hg⟩
        have RB' := Lib.hid (gblock hg RB.out (by simp))
        have GA' := Lib.hid (gtrans GA.out hg)
        clear RB GA hg
        have RB := RB'
        have GA := GA'
        clear RB' GA'
        have hg : x1.grownBy ((x1.alloc (.cells #[.int .u8 0, .int .i64 0, .int .u16 0, .bool false, .int .u8 0, .bool false, .bool false, .bool false, .bool false, .bool false, .bool false, .bool false, .int .u8 0, .bool false, .string { data := #[] }, .int .u16 0, .int .u16 0, .bool false, .int .i64 0] 40)).setRow x1.heap.size #[.int .u8 1, .int .i64 0, .int .u16 0, .bool false, .int .u8 0, .bool false, .bool false, .bool false, .bool false, .bool false, .bool false, .bool false, .int .u8 0, .bool false, .string { data := #[] }, .int .u16 0, .int .u16 0, .bool false, .int .i64 0]) none := gsetRow (galloc (grefl x1 none) _) (Nat.le_refl _) _
        have CB := Lib.hid (show ((x1.alloc (.cells #[.int .u8 0, .int .i64 0, .int .u16 0, .bool false, .int .u8 0, .bool false, .bool false, .bool false, .bool false, .bool false, .bool false, .bool false, .int .u8 0, .bool false, .string { data := #[] }, .int .u16 0, .int .u16 0, .bool false, .int .i64 0] 40)).setRow x1.heap.size #[.int .u8 1, .int .i64 0, .int .u16 0, .bool false, .int .u8 0, .bool false, .bool false, .bool false, .bool false, .bool false, .bool false, .bool false, .int .u8 0, .bool false, .string { data := #[] }, .int .u16 0, .int .u16 0, .bool false, .int .i64 0]).heap[x1.heap.size]? = some (.cells #[.int .u8 1, .int .i64 0, .int .u16 0, .bool false, .int .u8 0, .bool false, .bool false, .bool false, .bool false, .bool false, .bool false, .bool false, .int .u8 0, .bool false, .string { data := #[] }, .int .u16 0, .int .u16 0, .bool false, .int .i64 0] 40 (0, 0)) from bsetR (balloc x1 (.cells #[.int .u8 0, .int .i64 0, .int .u16 0, .bool false, .int .u8 0, .bool false, .bool false, .bool false, .bool false, .bool false, .bool false, .bool false, .int .u8 0, .bool false, .string { data := #[] }, .int .u16 0, .int .u16 0, .bool false, .int .i64 0] 40)) _)
        have ZA := Lib.hid (balloc x1 (.cells #[.int .u8 0, .int .i64 0, .int .u16 0, .bool false, .int .u8 0, .bool false, .bool false, .bool false, .bool false, .bool false, .bool false, .bool false, .int .u8 0, .bool false, .string { data := #[] }, .int .u16 0, .int .u16 0, .bool false, .int .i64 0] 40))
        have RB' := Lib.hid (gblock hg RB.out (by simp))
        have GA' := Lib.hid (gtrans GA.out hg)
        clear RB GA hg
        have RB := RB'
        have GA := GA'
        clear RB' GA'
        go_upto_region 20 with (refine wpList_store_row rfl 40 _ _ rfl x1.heap.size #[.int .u8 1, .int .i64 0, .int .u16 0, .bool false, .int .u8 0, .bool false, .bool false, .bool false, .bool false, .bool false, .bool false, .bool false, .int .u8 0, .bool false, .string { data := #[] }, .int .u16 0, .int .u16 0, .bool false, .int .i64 0] rfl rfl 40 _ ZA.out (by kernel_rfl) rfl (by kernel_rfl) ?_)
        clear ZA
        generalize ((x1.alloc (.cells #[.int .u8 0, .int .i64 0, .int .u16 0, .bool false, .int .u8 0, .bool false, .bool false, .bool false, .bool false, .bool false, .bool false, .bool false, .int .u8 0, .bool false, .string { data := #[] }, .int .u16 0, .int .u16 0, .bool false, .int .i64 0] 40)).setRow x1.heap.size #[.int .u8 1, .int .i64 0, .int .u16 0, .bool false, .int .u8 0, .bool false, .bool false, .bool false, .bool false, .bool false, .bool false, .bool false, .int .u8 0, .bool false, .string { data := #[] }, .int .u16 0, .int .u16 0, .bool false, .int .i64 0]) = x2 at *
        generalize x1.heap.size = kb at *
        have r1 := bcellAt RB.out 1
        have r2 := bcellAt RB.out 2
        have r3 := bcellAt RB.out 3
        have k0 := bcellAt CB.out 0
        have k1 := bcellAt CB.out 1
        have k13 := bcellAt CB.out 13
        have oe := cm_eq
        iterate 96 (first | go_values | go_skip | go_guarded | go_step | go_upon | go_back)
        refine wp_load_row 40 _ rfl kb rfl _ _ _ _ CB.out Tryz.underlying40 rfl (by kernel_rfl) ?_
        go_wp2_with fail
        go_roundw
        case rel => exact ⟨i + 1, by go_num, HI.out, GA.out⟩
        case measure => have := HI.out; simp [intOf]; omega
      · skip
        have hv : ∃ c : Cm, (look rs).val = .agg #[.int .u8 rk, .int .i64 rc, .int .u16 9, .bool c.h.qr, .int .u8 c.h.op, .bool c.h.aa, .bool c.h.tc, .bool true, .bool c.h.ra, .bool c.h.z, .bool c.h.ad, .bool c.h.cd, .int .u8 c.h.code, .bool rh, .string c.q.name, .int .u16 c.q.kind, .int .u16 c.q.cls, .bool c.hasE, .int .i64 c.size] := ⟨look rs, by unfold Cm.val; rw [h2, h3, h4, h5, h6]; rfl⟩
        obtain ⟨c, hv⟩ := hv
        have HL := Lib.hid hv
        have H1 := Lib.hid h1
        clear hv h1 h2 h3 h4 h5 h6
        have gk : W0.grownBy (W0.alloc (.cells #[.string rs, .int .u8 rk, .int .i64 rc, .bool rh] 37)) none := galloc (grefl W0 none) _
        have RB := Lib.hid (balloc W0 (.cells #[.string rs, .int .u8 rk, .int .i64 rc, .bool rh] 37))
        have GA := Lib.hid (gtrans GR.out gk)
        clear gk
        go_upto_region 19 with fail
        clear y0 y1 y2 y3 q0
        generalize (W0.alloc (.cells #[.string rs, .int .u8 rk, .int .i64 rc, .bool rh] 37)) = x0 at *
        generalize W0.heap.size = rb at *
        have r0 := bcellAt RB.out 0
        have CL := look_any x0 rs (HE.out.kept GA.out (by simp)) (HT.out.kept GA.out (by simp)) (by have h := RZ.out; unfold maxLen; omega)
        rw [HL.out] at CL
        have CL := Lib.hid CL
        go_wp2_with fail
        refine Calls.mono CL.out ?_
        clear CL r0
        rintro e x1 ⟨rfl, hg⟩
        have RB' := Lib.hid (gblock hg RB.out (by simp))
        have GA' := Lib.hid (gtrans GA.out hg)
        clear RB GA hg
        have RB := RB'
        have GA := GA'
        clear RB' GA'
        have hg : x1.grownBy ((x1.alloc (.cells #[.int .u8 0, .int .i64 0, .int .u16 0, .bool false, .int .u8 0, .bool false, .bool false, .bool false, .bool false, .bool false, .bool false, .bool false, .int .u8 0, .bool false, .string { data := #[] }, .int .u16 0, .int .u16 0, .bool false, .int .i64 0] 40)).setRow x1.heap.size #[.int .u8 rk, .int .i64 rc, .int .u16 9, .bool c.h.qr, .int .u8 c.h.op, .bool c.h.aa, .bool c.h.tc, .bool true, .bool c.h.ra, .bool c.h.z, .bool c.h.ad, .bool c.h.cd, .int .u8 c.h.code, .bool rh, .string c.q.name, .int .u16 c.q.kind, .int .u16 c.q.cls, .bool c.hasE, .int .i64 c.size]) none := gsetRow (galloc (grefl x1 none) _) (Nat.le_refl _) _
        have CB := Lib.hid (show ((x1.alloc (.cells #[.int .u8 0, .int .i64 0, .int .u16 0, .bool false, .int .u8 0, .bool false, .bool false, .bool false, .bool false, .bool false, .bool false, .bool false, .int .u8 0, .bool false, .string { data := #[] }, .int .u16 0, .int .u16 0, .bool false, .int .i64 0] 40)).setRow x1.heap.size #[.int .u8 rk, .int .i64 rc, .int .u16 9, .bool c.h.qr, .int .u8 c.h.op, .bool c.h.aa, .bool c.h.tc, .bool true, .bool c.h.ra, .bool c.h.z, .bool c.h.ad, .bool c.h.cd, .int .u8 c.h.code, .bool rh, .string c.q.name, .int .u16 c.q.kind, .int .u16 c.q.cls, .bool c.hasE, .int .i64 c.size]).heap[x1.heap.size]? = some (.cells #[.int .u8 rk, .int .i64 rc, .int .u16 9, .bool c.h.qr, .int .u8 c.h.op, .bool c.h.aa, .bool c.h.tc, .bool true, .bool c.h.ra, .bool c.h.z, .bool c.h.ad, .bool c.h.cd, .int .u8 c.h.code, .bool rh, .string c.q.name, .int .u16 c.q.kind, .int .u16 c.q.cls, .bool c.hasE, .int .i64 c.size] 40 (0, 0)) from bsetR (balloc x1 (.cells #[.int .u8 0, .int .i64 0, .int .u16 0, .bool false, .int .u8 0, .bool false, .bool false, .bool false, .bool false, .bool false, .bool false, .bool false, .int .u8 0, .bool false, .string { data := #[] }, .int .u16 0, .int .u16 0, .bool false, .int .i64 0] 40)) _)
        have ZA := Lib.hid (balloc x1 (.cells #[.int .u8 0, .int .i64 0, .int .u16 0, .bool false, .int .u8 0, .bool false, .bool false, .bool false, .bool false, .bool false, .bool false, .bool false, .int .u8 0, .bool false, .string { data := #[] }, .int .u16 0, .int .u16 0, .bool false, .int .i64 0] 40))
        have RB' := Lib.hid (gblock hg RB.out (by simp))
        have GA' := Lib.hid (gtrans GA.out hg)
        clear RB GA hg
        have RB := RB'
        have GA := GA'
        clear RB' GA'
        go_upto_region 20 with (refine wpList_store_row rfl 40 _ _ rfl x1.heap.size #[.int .u8 rk, .int .i64 rc, .int .u16 9, .bool c.h.qr, .int .u8 c.h.op, .bool c.h.aa, .bool c.h.tc, .bool true, .bool c.h.ra, .bool c.h.z, .bool c.h.ad, .bool c.h.cd, .int .u8 c.h.code, .bool rh, .string c.q.name, .int .u16 c.q.kind, .int .u16 c.q.cls, .bool c.hasE, .int .i64 c.size] rfl rfl 40 _ ZA.out (by kernel_rfl) rfl (by kernel_rfl) ?_)
        clear ZA
        generalize ((x1.alloc (.cells #[.int .u8 0, .int .i64 0, .int .u16 0, .bool false, .int .u8 0, .bool false, .bool false, .bool false, .bool false, .bool false, .bool false, .bool false, .int .u8 0, .bool false, .string { data := #[] }, .int .u16 0, .int .u16 0, .bool false, .int .i64 0] 40)).setRow x1.heap.size #[.int .u8 rk, .int .i64 rc, .int .u16 9, .bool c.h.qr, .int .u8 c.h.op, .bool c.h.aa, .bool c.h.tc, .bool true, .bool c.h.ra, .bool c.h.z, .bool c.h.ad, .bool c.h.cd, .int .u8 c.h.code, .bool rh, .string c.q.name, .int .u16 c.q.kind, .int .u16 c.q.cls, .bool c.hasE, .int .i64 c.size]) = x2 at *
        generalize x1.heap.size = kb at *
        have r1 := bcellAt RB.out 1
        have r2 := bcellAt RB.out 2
        have r3 := bcellAt RB.out 3
        have k0 := bcellAt CB.out 0
        have k1 := bcellAt CB.out 1
        have k2 := bcellAt CB.out 2
        have k7 := bcellAt CB.out 7
        have k13 := bcellAt CB.out 13
        have e4 : ((rk : Int) != 1) = true := by have := H1.out; simp; omega
        have e5 : ((rk : Int) == 1) = false := by have := H1.out; simp; omega
        have e3 : (rh != rh) = false := by simp
        go_wp2_with fail
        go_roundw
        case rel => exact ⟨i + 1, by go_num, HI.out, GA.out⟩
        case measure => have := HI.out; simp [intOf]; omega
    case neg =>
      go_wp2_with fail
      exact HK.out _ _ _ _ _ _ _ _ _ _ _ _ _ _ _ _ _ _ _ _ _ _ _ _ _ _ _ _ _ _ _ _ _ _ _ _ _ _ _ _ _ _ _ _ _ _ _ _ _ _ _ _ _ _ _ _ _ _ GR.out
end Go.Proofs.YtkhigfbmdolgmaaGreatDoor
namespace Go.Proofs.YtkhigfbmdolgmaaGreatDoor
open Go.RowKit

set_option maxRecDepth 100000 in
set_option maxHeartbeats 16000000 in
theorem inames_rest {c0 c2 c3 c4 c5 c6 c7 c8 c9 c10 c11 c12 c13 c14 c15 c16 c17 c18 c19 c20 c21 c22 c23 c24 c25 c26 c27 c28 c29 c30 c31 c32 c33 c34 c35 c36 c37 c38 c39 c40 c41 c42 c43 c44 c45 c46 c47 c48 c49 c50 c51 c52 c53 c54 c55 c56 c57 c58 c59 c60 c61 c62 c63 c64 c65 c66 c67 c68 c69 c70 c71 c72 c73 c74 c75 c76 c77 c78 c79 c80 c81 c82 c83 c84 c85 c86 c87 c88 c89 c90 c91 c92 c93 c94 c95 c96 c97 c98 c99 c100 c101 c102 c103 c104 c105 c106 c107 c108 c109 c110 c111 c112 c113 c114 c115 c116 c117 c118 c119 c120 c121 c122 c123 c124 c125 c126 c127 c128 c129 c130 c131 c132 c133 c134 c135 c136 c137 c138 c139 c140 c141 c142 c143 c144 c145 c146 c147 c148 c149 c150 c151 c152 c153 c154 c155 c156 c157 c158 c159 c160 c161 c162 c163 c164 c165 c166 c167 c168 c169 c170 c171 c172 c173 c174 c175 c176 c177 c178 c179 c180 c181 c182 c183 c184 c185 c186 c187 c188 c189 c190 c191 c192 c193 c194 c195 c196 c197 c198 c199 c200 c201 c202 c203 c204 c205 c206 c207 c208 c209 c210 c211 c212 c213 c214 c215 c216 c217 c218 c219 c220 c221 c222 c223 c224 c225 c226 c227 c228 c229 c230 c231 c232 c233 c234 c235 c236 c237 c238 c239 c240 c241 c242 c243 c244 c245 c246 c247 c248 c249 c250 c251 c252 c253 c254 c255 : Value} (w wr : World) (he : Et w) (hb : Bt w) (hg0 : w.grownBy wr none) (b1 : Nat) (R1 : Array Value) (hS1 : R1.size = 21) (hB1 : wr.heap[b1]? = some (.cells R1 32 (0, 0))) (s1 a2 : ByteArray)
    (BY1 : ∀ w' : World, wr.grownBy w' none → Calls Tryz.prog 6 #[.agg R1] w' fun e w'' => e = .returned (.string s1) ∧ w'.grownBy w'' none)
    (AK2 : ∀ (w' : World) (g : Nat), w'.heap[g]? = some (.cells #[.string ⟨#[0]⟩, .int .u16 ((1 : Nat) : Int), .int .u16 ((1 : Nat) : Int)] 35 (0, 0)) → Calls Tryz.prog 6 #[.agg (row25 false 0 false 0 0 (.slice (some ⟨g, 0, none⟩) 1 1))] w' fun e w'' => e = .returned (.string a2) ∧ w'.grownBy w'' none)
    (SZL : s1.size ≤ 65535) (SZA : a2.size ≤ 65535) (LK1 : look s1 = ⟨3, 0, ⟨9, false, 0, false, false, true, false, false, false, false, 0⟩, true, qr0 1 1, true, 4000⟩) (LK2 : look a2 = ⟨3, 0, ⟨9, false, 0, false, false, true, false, false, false, false, 0⟩, true, qr0 1 1, false, 0⟩) :
    Code.wp Tryz.prog (cTail 16 (Tryz.f3.body.getD .skip)) (bodyPost Tryz.prog Tryz.f3 fun e w' => e = .returned (.bool true) ∧ w.grownBy w' none) ⟨#[c0, .pointer (some ⟨b1, 0, none⟩), c2, c3, c4, c5, c6, c7, c8, c9, c10, c11, c12, c13, c14, c15, c16, c17, c18, c19, c20, c21, c22, c23, c24, c25, c26, c27, c28, c29, c30, c31, c32, c33, c34, c35, c36, c37, c38, c39, c40, c41, c42, c43, c44, c45, c46, c47, c48, c49, c50, c51, c52, c53, c54, c55, c56, c57, c58, c59, c60, c61, c62, c63, c64, c65, c66, c67, c68, c69, c70, c71, c72, c73, c74, c75, c76, c77, c78, c79, c80, c81, c82, c83, c84, c85, c86, c87, c88, c89, c90, c91, c92, c93, c94, c95, c96, c97, c98, c99, c100, c101, c102, c103, c104, c105, c106, c107, c108, c109, c110, c111, c112, c113, c114, c115, c116, c117, c118, c119, c120, c121, c122, c123, c124, c125, c126, c127, c128, c129, c130, c131, c132, c133, c134, c135, c136, c137, c138, c139, c140, c141, c142, c143, c144, c145, c146, c147, c148, c149, c150, c151, c152, c153, c154, c155, c156, c157, c158, c159, c160, c161, c162, c163, c164, c165, c166, c167, c168, c169, c170, c171, c172, c173, c174, c175, c176, c177, c178, c179, c180, c181, c182, c183, c184, c185, c186, c187, c188, c189, c190, c191, c192, c193, c194, c195, c196, c197, c198, c199, c200, c201, c202, c203, c204, c205, c206, c207, c208, c209, c210, c211, c212, c213, c214, c215, c216, c217, c218, c219, c220, c221, c222, c223, c224, c225, c226, c227, c228, c229, c230, c231, c232, c233, c234, c235, c236, c237, c238, c239, c240, c241, c242, c243, c244, c245, c246, c247, c248, c249, c250, c251, c252, c253, c254, c255], []⟩ wr := by
  conv => arg 2; whnf
  have HE := Lib.hid he
  have HT := Lib.hid hb
  have G := Lib.hid hg0
  have B1 := Lib.hid hB1
  have BY1 := Lib.hid BY1
  have AK2 := Lib.hid AK2
  have SZL := Lib.hid SZL
  have SZA := Lib.hid SZA
  have LK1 := Lib.hid LK1
  have LK2 := Lib.hid LK2
  clear he hb hg0 hB1
  have GX := G
  have B1x := B1
  clear G B1
  go_wp2_with (refine wpList_load_row rfl 32 _ rfl b1 rfl _ _ _ _ B1x.out Tryz.underlying32 rfl (by rw [hS1]; kernel_rfl) ?_)
  refine Calls.mono (BY1.out wr (grefl _ _)) ?_
  rintro e v1 ⟨rfl, hg⟩
  have GY := Lib.hid (gtrans GX.out hg)
  clear hg B1x GX
  have CL : Calls Tryz.prog 7 #[.string s1] v1 fun e w' => e = .returned (.agg #[.int .u8 3, .int .i64 0, .int .u16 9, .bool false, .int .u8 0, .bool false, .bool false, .bool true, .bool false, .bool false, .bool false, .bool false, .int .u8 0, .bool true, .string root0, .int .u16 1, .int .u16 1, .bool true, .int .i64 4000]) ∧ v1.grownBy w' none := by
    have h := look_any v1 s1 (HE.out.kept GY.out (by simp)) (HT.out.kept GY.out (by simp)) (by have := SZL.out; unfold maxLen; omega)
    rw [LK1.out] at h
    exact h
  have CL := Lib.hid CL
  go_wp2_with fail
  refine Calls.mono CL.out ?_
  clear CL
  rintro e v2 ⟨rfl, hg⟩
  have GZ := Lib.hid (gtrans GY.out hg)
  clear hg GY
  have hg : v2.grownBy ((v2.alloc (.cells #[.int .u8 0, .int .i64 0, .int .u16 0, .bool false, .int .u8 0, .bool false, .bool false, .bool false, .bool false, .bool false, .bool false, .bool false, .int .u8 0, .bool false, .string { data := #[] }, .int .u16 0, .int .u16 0, .bool false, .int .i64 0] 40)).setRow v2.heap.size #[.int .u8 3, .int .i64 0, .int .u16 9, .bool false, .int .u8 0, .bool false, .bool false, .bool true, .bool false, .bool false, .bool false, .bool false, .int .u8 0, .bool true, .string root0, .int .u16 1, .int .u16 1, .bool true, .int .i64 4000]) none := gsetRow (galloc (grefl v2 none) _) (Nat.le_refl _) _
  have CB := Lib.hid (show ((v2.alloc (.cells #[.int .u8 0, .int .i64 0, .int .u16 0, .bool false, .int .u8 0, .bool false, .bool false, .bool false, .bool false, .bool false, .bool false, .bool false, .int .u8 0, .bool false, .string { data := #[] }, .int .u16 0, .int .u16 0, .bool false, .int .i64 0] 40)).setRow v2.heap.size #[.int .u8 3, .int .i64 0, .int .u16 9, .bool false, .int .u8 0, .bool false, .bool false, .bool true, .bool false, .bool false, .bool false, .bool false, .int .u8 0, .bool true, .string root0, .int .u16 1, .int .u16 1, .bool true, .int .i64 4000]).heap[v2.heap.size]? = some (.cells #[.int .u8 3, .int .i64 0, .int .u16 9, .bool false, .int .u8 0, .bool false, .bool false, .bool true, .bool false, .bool false, .bool false, .bool false, .int .u8 0, .bool true, .string root0, .int .u16 1, .int .u16 1, .bool true, .int .i64 4000] 40 (0, 0)) from bsetR (balloc v2 (.cells #[.int .u8 0, .int .i64 0, .int .u16 0, .bool false, .int .u8 0, .bool false, .bool false, .bool false, .bool false, .bool false, .bool false, .bool false, .int .u8 0, .bool false, .string { data := #[] }, .int .u16 0, .int .u16 0, .bool false, .int .i64 0] 40)) _)
  have ZA := Lib.hid (balloc v2 (.cells #[.int .u8 0, .int .i64 0, .int .u16 0, .bool false, .int .u8 0, .bool false, .bool false, .bool false, .bool false, .bool false, .bool false, .bool false, .int .u8 0, .bool false, .string { data := #[] }, .int .u16 0, .int .u16 0, .bool false, .int .i64 0] 40))
  have GV := Lib.hid (gtrans GZ.out hg)
  clear hg GZ
  go_upto_region 24 with (refine wpList_store_row rfl 40 _ _ rfl v2.heap.size #[.int .u8 3, .int .i64 0, .int .u16 9, .bool false, .int .u8 0, .bool false, .bool false, .bool true, .bool false, .bool false, .bool false, .bool false, .int .u8 0, .bool true, .string root0, .int .u16 1, .int .u16 1, .bool true, .int .i64 4000] rfl rfl 40 _ ZA.out (by kernel_rfl) rfl (by kernel_rfl) ?_)
  clear ZA
  generalize ((v2.alloc (.cells #[.int .u8 0, .int .i64 0, .int .u16 0, .bool false, .int .u8 0, .bool false, .bool false, .bool false, .bool false, .bool false, .bool false, .bool false, .int .u8 0, .bool false, .string { data := #[] }, .int .u16 0, .int .u16 0, .bool false, .int .i64 0] 40)).setRow v2.heap.size #[.int .u8 3, .int .i64 0, .int .u16 9, .bool false, .int .u8 0, .bool false, .bool false, .bool true, .bool false, .bool false, .bool false, .bool false, .int .u8 0, .bool true, .string root0, .int .u16 1, .int .u16 1, .bool true, .int .i64 4000]) = v3 at *
  generalize v2.heap.size = kb at *
  have gk : v3.grownBy (v3.alloc (.cells #[.int .i64 1232, .int .i64 1232, .int .i64 4000, .int .i64 4000, .int .i64 5000, .int .i64 4000, .int .i64 511, .int .i64 512, .int .i64 (-7), .int .i64 512, .int .i64 512, .int .i64 512] 42)) none := galloc (grefl v3 none) _
  have FP := Lib.hid (show FS (v3.alloc (.cells #[.int .i64 1232, .int .i64 1232, .int .i64 4000, .int .i64 4000, .int .i64 5000, .int .i64 4000, .int .i64 511, .int .i64 512, .int .i64 (-7), .int .i64 512, .int .i64 512, .int .i64 512] 42)) 0 42 2 (.slice (some ⟨v3.heap.size, 0, none⟩) 6 6) ([(1232, 1232), (4000, 4000), (5000, 4000), (511, 512), ((-7), 512), (512, 512)] : List (Int × Int)).length (([(1232, 1232), (4000, 4000), (5000, 4000), (511, 512), ((-7), 512), (512, 512)] : List (Int × Int)).flatMap fun p => [.int .i64 p.1, .int .i64 p.2]) from ⟨rfl, .inr ⟨v3.heap.size, 6, _, rfl, Nat.zero_le _, balloc _ _, Nat.le_refl _, by simp, rfl⟩⟩)
  have CB' := Lib.hid (gblock gk CB.out (by simp))
  have GV' := Lib.hid (gtrans GV.out gk)
  clear gk CB GV
  have CB := CB'
  have GV := GV'
  clear CB' GV'
  go_wp2_with fail
  generalize (v3.alloc (.cells #[.int .i64 1232, .int .i64 1232, .int .i64 4000, .int .i64 4000, .int .i64 5000, .int .i64 4000, .int .i64 511, .int .i64 512, .int .i64 (-7), .int .i64 512, .int .i64 512, .int .i64 512] 42)) = v4 at *
  generalize v3.heap.size = pb at *
  have RM := Lib.hid (show ∀ p ∈ ([(1232, 1232), (4000, 4000), (5000, 4000), (511, 512), ((-7), 512), (512, 512)] : List (Int × Int)), room (⟨3, 0, ⟨9, false, 0, false, false, true, false, false, false, false, 0⟩, true, qr0 1 1, true, 4000⟩ : Cm) p.1 = p.2 from by decide)
  obtain ⟨pl, hpl⟩ : ∃ l, l = ([(1232, 1232), (4000, 4000), (5000, 4000), (511, 512), ((-7), 512), (512, 512)] : List (Int × Int)) := ⟨_, rfl⟩
  have LP := Lib.hid (show pl.length = 6 from by rw [hpl]; rfl)
  rw [← hpl] at FP RM
  clear hpl
  go_loopw [174] (fun vi wr => ∃ i : Nat, vi = .int .i64 i ∧ i ≤ 6 ∧ v4.grownBy wr none) (fun vi _ => 6 - (intOf vi).toNat)
  case atStart => exact ⟨0, rfl, by omega, grefl _ _⟩
  case round =>
        obtain ⟨j, rfl, hj, hgr⟩ := hrel
        have GJ := Lib.hid hgr
        clear hgr
        by_cases hjl : j < 6
        case pos =>
          have hil : j < pl.length := by rw [LP.out]; exact hjl
          have RI := RM.out pl[j] (List.getElem_mem hil)
          obtain ⟨gg, y0, y1, hgg⟩ : ∃ gg, wr.cell? ⟨gg, j * 2, none⟩ = some (.int .i64 pl[j].1) ∧ wr.cell? ⟨gg, j * 2 + 1, none⟩ = some (.int .i64 pl[j].2) ∧ gg = pb := pr_at (FP.out.kept0 GJ.out) hil
          subst hgg
          generalize pl[j] = pp at *
          obtain ⟨p1, p2⟩ := pp
          dsimp only at y0 y1 RI
          have HJ := Lib.hid hjl
          have q0 : (0 : Int) ≤ (j : Int) := by omega
          have q1 : (j : Int) < 6 := by omega
          have RI := Lib.hid RI
          clear hil hjl
          have gk : wr.grownBy (wr.alloc (.cells #[.int .i64 p1, .int .i64 p2] 42)) none := galloc (grefl wr none) _
          have PB := Lib.hid (balloc wr (.cells #[.int .i64 p1, .int .i64 p2] 42))
          have GK := Lib.hid (gtrans GJ.out gk)
          clear gk
          go_upto_region 27 with fail
          clear y0 y1 q0
          generalize (wr.alloc (.cells #[.int .i64 p1, .int .i64 p2] 42)) = x0 at *
          generalize wr.heap.size = qb at *
          have CX := Lib.hid (gblock GK.out CB.out (by simp))
          have LX := Lib.hid (fun (w' : World) (h : ∃ g : Gr x0, w' = g.w) => (by obtain ⟨g, rfl⟩ := h; exact gblock g.h CX.out (by simp) : w'.heap[kb]? = some (.cells #[.int .u8 3, .int .i64 0, .int .u16 9, .bool false, .int .u8 0, .bool false, .bool false, .bool true, .bool false, .bool false, .bool false, .bool false, .int .u8 0, .bool true, .string root0, .int .u16 1, .int .u16 1, .bool true, .int .i64 4000] 40 (0, 0))))
          have z0 : ∀ g : Gr x0, g.w.cell? ⟨qb, 0, none⟩ = some (.int .i64 p1) := Gr.cell (bcellAt PB.out 0)
          have z1 : ∀ g : Gr x0, g.w.cell? ⟨qb, 1, none⟩ = some (.int .i64 p2) := Gr.cell (bcellAt PB.out 1)
          have RC : ∀ w' : World, Calls Tryz.prog 8 #[.agg #[.int .u8 3, .int .i64 0, .int .u16 9, .bool false, .int .u8 0, .bool false, .bool false, .bool true, .bool false, .bool false, .bool false, .bool false, .int .u8 0, .bool true, .string root0, .int .u16 1, .int .u16 1, .bool true, .int .i64 4000], .int .i64 p1] w' fun e w'' => e = .returned (.int .i64 p2) ∧ w'.grownBy w'' none := fun w' => by have h := room_any w' (⟨3, 0, ⟨9, false, 0, false, false, true, false, false, false, false, 0⟩, true, qr0 1 1, true, 4000⟩ : Cm) p1; rw [RI.out] at h; exact h
          have RC := Lib.hid RC
          have nn : (p2 != p2) = false := by simp
          refine wp_region_gr (by kernel_rfl) (by kernel_rfl) ?_
          refine wpQuiet_load_row rfl 40 _ rfl kb rfl _ _ _ _ LX.out Tryz.underlying40 rfl (by kernel_rfl) ?_
          simp only [Act.put, List.setIfInBounds_toArray, List.set_cons_succ, List.set_cons_zero]
          go_big_quiet_step (fail)
          go_big_quiet_step (fail)
          go_big_quiet_step ((go_at_call 8; with_reducible exact Calls.gr (RC.out _)))
          repeat (go_big_quiet_step (fail))
          refine wpQuiet_nil ?_
          rintro _ ⟨gq, rfl⟩
          have GE := Lib.hid (gtrans GK.out gq.h)
          go_wp2_with fail
          go_roundw
          case rel => exact ⟨j + 1, by go_num, HJ.out, GE.out⟩
          case measure => have := HJ.out; simp [intOf]; omega
        case neg =>
          have GA := Lib.hid (gtrans GV.out GJ.out)
          have CX := Lib.hid (gblock GJ.out CB.out (by simp))
          clear GV GJ CB FP RM LP
          have CK : Calls Tryz.prog 9 #[.agg #[.int .u8 3, .int .i64 0, .int .u16 9, .bool false, .int .u8 0, .bool false, .bool false, .bool true, .bool false, .bool false, .bool false, .bool false, .int .u8 0, .bool true, .string root0, .int .u16 1, .int .u16 1, .bool true, .int .i64 4000], .int .i64 16, .int .i64 1232] wr fun e w' => ∃ A1 c1, e = .returned (.agg #[.int .u16 9, .bool true, .int .u8 0, .bool false, .bool false, .bool true, .bool true, .bool false, .bool false, .bool false, .int .u8 0, .slice A1 1 c1, .slice none 0 0, .slice none 0 0, .slice none 0 0, .bool true, .int .u16 1232, .int .u8 1, .int .u8 0, .int .u16 0, .slice none 0 0]) ∧ wr.grownBy w' none := (blank_any wr (⟨3, 0, ⟨9, false, 0, false, false, true, false, false, false, false, 0⟩, true, qr0 1 1, true, 4000⟩ : Cm) 16 1232).mono fun e w' h => by
            obtain ⟨hg, vq, he, hf⟩ := h
            obtain ⟨A, cap, rfl⟩ := hf.q.len
            exact ⟨A, cap, he, hg⟩
          have CK := Lib.hid CK
          go_wp2_with (refine wpList_load_row rfl 40 _ rfl kb rfl _ _ _ _ CX.out Tryz.underlying40 rfl (by kernel_rfl) ?_)
          refine Calls.mono CK.out ?_
          clear CK
          rintro e u1 ⟨A1, c1, rfl, hg⟩
          have GB := Lib.hid (gtrans GA.out hg)
          clear hg GA CX
          have hg : u1.grownBy ((u1.alloc (.cells #[.int .u16 0, .bool false, .int .u8 0, .bool false, .bool false, .bool false, .bool false, .bool false, .bool false, .bool false, .int .u8 0, .slice none 0 0, .slice none 0 0, .slice none 0 0, .slice none 0 0, .bool false, .int .u16 0, .int .u8 0, .int .u8 0, .int .u16 0, .slice none 0 0] 32)).setRow u1.heap.size #[.int .u16 9, .bool true, .int .u8 0, .bool false, .bool false, .bool true, .bool true, .bool false, .bool false, .bool false, .int .u8 0, .slice A1 1 c1, .slice none 0 0, .slice none 0 0, .slice none 0 0, .bool true, .int .u16 1232, .int .u8 1, .int .u8 0, .int .u16 0, .slice none 0 0]) none := gsetRow (galloc (grefl u1 none) _) (Nat.le_refl _) _
          have X3 := Lib.hid (show ((u1.alloc (.cells #[.int .u16 0, .bool false, .int .u8 0, .bool false, .bool false, .bool false, .bool false, .bool false, .bool false, .bool false, .int .u8 0, .slice none 0 0, .slice none 0 0, .slice none 0 0, .slice none 0 0, .bool false, .int .u16 0, .int .u8 0, .int .u8 0, .int .u16 0, .slice none 0 0] 32)).setRow u1.heap.size #[.int .u16 9, .bool true, .int .u8 0, .bool false, .bool false, .bool true, .bool true, .bool false, .bool false, .bool false, .int .u8 0, .slice A1 1 c1, .slice none 0 0, .slice none 0 0, .slice none 0 0, .bool true, .int .u16 1232, .int .u8 1, .int .u8 0, .int .u16 0, .slice none 0 0]).heap[u1.heap.size]? = some (.cells #[.int .u16 9, .bool true, .int .u8 0, .bool false, .bool false, .bool true, .bool true, .bool false, .bool false, .bool false, .int .u8 0, .slice A1 1 c1, .slice none 0 0, .slice none 0 0, .slice none 0 0, .bool true, .int .u16 1232, .int .u8 1, .int .u8 0, .int .u16 0, .slice none 0 0] 32 (0, 0)) from bsetR (balloc u1 (.cells #[.int .u16 0, .bool false, .int .u8 0, .bool false, .bool false, .bool false, .bool false, .bool false, .bool false, .bool false, .int .u8 0, .slice none 0 0, .slice none 0 0, .slice none 0 0, .slice none 0 0, .bool false, .int .u16 0, .int .u8 0, .int .u8 0, .int .u16 0, .slice none 0 0] 32)) _)
          have ZA := Lib.hid (balloc u1 (.cells #[.int .u16 0, .bool false, .int .u8 0, .bool false, .bool false, .bool false, .bool false, .bool false, .bool false, .bool false, .int .u8 0, .slice none 0 0, .slice none 0 0, .slice none 0 0, .slice none 0 0, .bool false, .int .u16 0, .int .u8 0, .int .u8 0, .int .u16 0, .slice none 0 0] 32))
          have GB' := Lib.hid (gtrans GB.out hg)
          clear hg GB
          have GB := GB'
          clear GB'
          go_upto_region 31 with (refine wpList_store_row rfl 32 _ _ rfl u1.heap.size #[.int .u16 9, .bool true, .int .u8 0, .bool false, .bool false, .bool true, .bool true, .bool false, .bool false, .bool false, .int .u8 0, .slice A1 1 c1, .slice none 0 0, .slice none 0 0, .slice none 0 0, .bool true, .int .u16 1232, .int .u8 1, .int .u8 0, .int .u16 0, .slice none 0 0] rfl rfl 32 _ ZA.out (by kernel_rfl) rfl (by kernel_rfl) ?_)
          clear ZA
          generalize ((u1.alloc (.cells #[.int .u16 0, .bool false, .int .u8 0, .bool false, .bool false, .bool false, .bool false, .bool false, .bool false, .bool false, .int .u8 0, .slice none 0 0, .slice none 0 0, .slice none 0 0, .slice none 0 0, .bool false, .int .u16 0, .int .u8 0, .int .u8 0, .int .u16 0, .slice none 0 0] 32)).setRow u1.heap.size #[.int .u16 9, .bool true, .int .u8 0, .bool false, .bool false, .bool true, .bool true, .bool false, .bool false, .bool false, .int .u8 0, .slice A1 1 c1, .slice none 0 0, .slice none 0 0, .slice none 0 0, .bool true, .int .u16 1232, .int .u8 1, .int .u8 0, .int .u16 0, .slice none 0 0]) = u2 at *
          generalize u1.heap.size = x3 at *
          go_wp2_with fail
          refine Calls.mono (asks_any u2 1 1) ?_
          rintro e u3 ⟨gq, rfl, hq, hg⟩
          have GB' := Lib.hid (gtrans GB.out hg)
          have X3' := Lib.hid (gblock hg X3.out (by simp))
          clear GB hg X3
          have GB := GB'
          clear GB'
          have X3 := X3'
          clear X3'
          have HQ := Lib.hid hq
          clear hq
          go_wp2_with fail
          refine Calls.mono (AK2.out u3 gq HQ.out) ?_
          rintro e u4 ⟨rfl, hg⟩
          have GB' := Lib.hid (gtrans GB.out hg)
          have X3' := Lib.hid (gblock hg X3.out (by simp))
          clear GB hg X3
          have GB := GB'
          clear GB'
          have X3 := X3'
          clear X3'
          clear HQ
          have CL : Calls Tryz.prog 7 #[.string a2] u4 fun e w' => e = .returned (.agg #[.int .u8 3, .int .i64 0, .int .u16 9, .bool false, .int .u8 0, .bool false, .bool false, .bool true, .bool false, .bool false, .bool false, .bool false, .int .u8 0, .bool true, .string root0, .int .u16 1, .int .u16 1, .bool false, .int .i64 0]) ∧ u4.grownBy w' none := by
            have h := look_any u4 a2 (HE.out.kept GB.out (by simp)) (HT.out.kept GB.out (by simp)) (by have := SZA.out; unfold maxLen; omega)
            rw [LK2.out] at h
            exact h
          have CL := Lib.hid CL
          go_wp2_with fail
          refine Calls.mono (CL.out) ?_
          rintro e u5 ⟨rfl, hg⟩
          have GB' := Lib.hid (gtrans GB.out hg)
          have X3' := Lib.hid (gblock hg X3.out (by simp))
          clear GB hg X3
          have GB := GB'
          clear GB'
          have X3 := X3'
          clear X3'
          clear CL
          have CK : Calls Tryz.prog 9 #[.agg #[.int .u8 3, .int .i64 0, .int .u16 9, .bool false, .int .u8 0, .bool false, .bool false, .bool true, .bool false, .bool false, .bool false, .bool false, .int .u8 0, .bool true, .string root0, .int .u16 1, .int .u16 1, .bool false, .int .i64 0], .int .i64 5, .int .i64 1232] u5 fun e w' => ∃ A2 c2, e = .returned (.agg #[.int .u16 9, .bool true, .int .u8 0, .bool false, .bool false, .bool true, .bool true, .bool false, .bool false, .bool false, .int .u8 5, .slice A2 1 c2, .slice none 0 0, .slice none 0 0, .slice none 0 0, .bool false, .int .u16 0, .int .u8 0, .int .u8 0, .int .u16 0, .slice none 0 0]) ∧ u5.grownBy w' none := (blank_any u5 (⟨3, 0, ⟨9, false, 0, false, false, true, false, false, false, false, 0⟩, true, qr0 1 1, false, 0⟩ : Cm) 5 1232).mono fun e w' h => by
            obtain ⟨hg, vq, he, hf⟩ := h
            obtain ⟨A, cap, rfl⟩ := hf.q.len
            exact ⟨A, cap, he, hg⟩
          have CK := Lib.hid CK
          go_wp2_with fail
          refine Calls.mono (CK.out) ?_
          rintro e u6 ⟨A2, c2, rfl, hg⟩
          have GB' := Lib.hid (gtrans GB.out hg)
          have X3' := Lib.hid (gblock hg X3.out (by simp))
          clear GB hg X3
          have GB := GB'
          clear GB'
          have X3 := X3'
          clear X3'
          clear CK
          have hg : u6.grownBy ((u6.alloc (.cells #[.int .u16 0, .bool false, .int .u8 0, .bool false, .bool false, .bool false, .bool false, .bool false, .bool false, .bool false, .int .u8 0, .slice none 0 0, .slice none 0 0, .slice none 0 0, .slice none 0 0, .bool false, .int .u16 0, .int .u8 0, .int .u8 0, .int .u16 0, .slice none 0 0] 32)).setRow u6.heap.size #[.int .u16 9, .bool true, .int .u8 0, .bool false, .bool false, .bool true, .bool true, .bool false, .bool false, .bool false, .int .u8 5, .slice A2 1 c2, .slice none 0 0, .slice none 0 0, .slice none 0 0, .bool false, .int .u16 0, .int .u8 0, .int .u8 0, .int .u16 0, .slice none 0 0]) none := gsetRow (galloc (grefl u6 none) _) (Nat.le_refl _) _
          have X4 := Lib.hid (show ((u6.alloc (.cells #[.int .u16 0, .bool false, .int .u8 0, .bool false, .bool false, .bool false, .bool false, .bool false, .bool false, .bool false, .int .u8 0, .slice none 0 0, .slice none 0 0, .slice none 0 0, .slice none 0 0, .bool false, .int .u16 0, .int .u8 0, .int .u8 0, .int .u16 0, .slice none 0 0] 32)).setRow u6.heap.size #[.int .u16 9, .bool true, .int .u8 0, .bool false, .bool false, .bool true, .bool true, .bool false, .bool false, .bool false, .int .u8 5, .slice A2 1 c2, .slice none 0 0, .slice none 0 0, .slice none 0 0, .bool false, .int .u16 0, .int .u8 0, .int .u8 0, .int .u16 0, .slice none 0 0]).heap[u6.heap.size]? = some (.cells #[.int .u16 9, .bool true, .int .u8 0, .bool false, .bool false, .bool true, .bool true, .bool false, .bool false, .bool false, .int .u8 5, .slice A2 1 c2, .slice none 0 0, .slice none 0 0, .slice none 0 0, .bool false, .int .u16 0, .int .u8 0, .int .u8 0, .int .u16 0, .slice none 0 0] 32 (0, 0)) from bsetR (balloc u6 (.cells #[.int .u16 0, .bool false, .int .u8 0, .bool false, .bool false, .bool false, .bool false, .bool false, .bool false, .bool false, .int .u8 0, .slice none 0 0, .slice none 0 0, .slice none 0 0, .slice none 0 0, .bool false, .int .u16 0, .int .u8 0, .int .u8 0, .int .u16 0, .slice none 0 0] 32)) _)
          have ZA := Lib.hid (balloc u6 (.cells #[.int .u16 0, .bool false, .int .u8 0, .bool false, .bool false, .bool false, .bool false, .bool false, .bool false, .bool false, .int .u8 0, .slice none 0 0, .slice none 0 0, .slice none 0 0, .slice none 0 0, .bool false, .int .u16 0, .int .u8 0, .int .u8 0, .int .u16 0, .slice none 0 0] 32))
          have GB' := Lib.hid (gtrans GB.out hg)
          have X3' := Lib.hid (gblock hg X3.out (by simp))
          clear hg GB X3
          have GB := GB'
          have X3 := X3'
          clear GB' X3'
          go_wp2_with (refine wpList_store_row rfl 32 _ _ rfl u6.heap.size #[.int .u16 9, .bool true, .int .u8 0, .bool false, .bool false, .bool true, .bool true, .bool false, .bool false, .bool false, .int .u8 5, .slice A2 1 c2, .slice none 0 0, .slice none 0 0, .slice none 0 0, .bool false, .int .u16 0, .int .u8 0, .int .u8 0, .int .u16 0, .slice none 0 0] rfl rfl 32 _ ZA.out (by kernel_rfl) rfl (by kernel_rfl) ?_)
          clear ZA
          generalize ((u6.alloc (.cells #[.int .u16 0, .bool false, .int .u8 0, .bool false, .bool false, .bool false, .bool false, .bool false, .bool false, .bool false, .int .u8 0, .slice none 0 0, .slice none 0 0, .slice none 0 0, .slice none 0 0, .bool false, .int .u16 0, .int .u8 0, .int .u8 0, .int .u16 0, .slice none 0 0] 32)).setRow u6.heap.size #[.int .u16 9, .bool true, .int .u8 0, .bool false, .bool false, .bool true, .bool true, .bool false, .bool false, .bool false, .int .u8 5, .slice A2 1 c2, .slice none 0 0, .slice none 0 0, .slice none 0 0, .bool false, .int .u16 0, .int .u8 0, .int .u8 0, .int .u16 0, .slice none 0 0]) = u7 at *
          generalize u6.heap.size = x4 at *
          refine Calls.mono (asks_any u7 1 1) ?_
          rintro e u8 ⟨gq, rfl, hq, hg⟩
          have GB' := Lib.hid (gtrans GB.out hg)
          have X3' := Lib.hid (gblock hg X3.out (by simp))
          have X4' := Lib.hid (gblock hg X4.out (by simp))
          clear GB hg X3 X4
          have GB := GB'
          clear GB'
          have X3 := X3'
          clear X3'
          have X4 := X4'
          clear X4'
          have HQ := Lib.hid hq
          clear hq
          go_wp2_with fail
          refine Calls.mono (AK2.out u8 gq HQ.out) ?_
          rintro e u9 ⟨rfl, hg⟩
          have GB' := Lib.hid (gtrans GB.out hg)
          have X3' := Lib.hid (gblock hg X3.out (by simp))
          have X4' := Lib.hid (gblock hg X4.out (by simp))
          clear GB hg X3 X4
          have GB := GB'
          clear GB'
          have X3 := X3'
          clear X3'
          have X4 := X4'
          clear X4'
          clear HQ
          have CL : Calls Tryz.prog 7 #[.string a2] u9 fun e w' => e = .returned (.agg #[.int .u8 3, .int .i64 0, .int .u16 9, .bool false, .int .u8 0, .bool false, .bool false, .bool true, .bool false, .bool false, .bool false, .bool false, .int .u8 0, .bool true, .string root0, .int .u16 1, .int .u16 1, .bool false, .int .i64 0]) ∧ u9.grownBy w' none := by
            have h := look_any u9 a2 (HE.out.kept GB.out (by simp)) (HT.out.kept GB.out (by simp)) (by have := SZA.out; unfold maxLen; omega)
            rw [LK2.out] at h
            exact h
          have CL := Lib.hid CL
          go_wp2_with fail
          refine Calls.mono (CL.out) ?_
          rintro e ua ⟨rfl, hg⟩
          have GB' := Lib.hid (gtrans GB.out hg)
          have X3' := Lib.hid (gblock hg X3.out (by simp))
          have X4' := Lib.hid (gblock hg X4.out (by simp))
          clear GB hg X3 X4
          have GB := GB'
          clear GB'
          have X3 := X3'
          clear X3'
          have X4 := X4'
          clear X4'
          clear CL
          have RC : Calls Tryz.prog 8 #[.agg #[.int .u8 3, .int .i64 0, .int .u16 9, .bool false, .int .u8 0, .bool false, .bool false, .bool true, .bool false, .bool false, .bool false, .bool false, .int .u8 0, .bool true, .string root0, .int .u16 1, .int .u16 1, .bool false, .int .i64 0], .int .i64 4096] ua fun e w'' => e = .returned (.int .i64 512) ∧ ua.grownBy w'' none := room_any ua (⟨3, 0, ⟨9, false, 0, false, false, true, false, false, false, false, 0⟩, true, qr0 1 1, false, 0⟩ : Cm) 4096
          have RC := Lib.hid RC
          go_wp2_with fail
          refine Calls.mono (RC.out) ?_
          rintro e ub ⟨rfl, hg⟩
          have GB' := Lib.hid (gtrans GB.out hg)
          have X3' := Lib.hid (gblock hg X3.out (by simp))
          have X4' := Lib.hid (gblock hg X4.out (by simp))
          clear GB hg X3 X4
          have GB := GB'
          clear GB'
          have X3 := X3'
          clear X3'
          have X4 := X4'
          clear X4'
          clear RC
          have RC : Calls Tryz.prog 8 #[.agg #[.int .u8 0, .int .i64 0, .int .u16 0, .bool false, .int .u8 0, .bool false, .bool false, .bool false, .bool false, .bool false, .bool false, .bool false, .int .u8 0, .bool false, .string { data := #[] }, .int .u16 0, .int .u16 0, .bool true, .int .i64 100], .int .i64 4096] ub fun e w'' => e = .returned (.int .i64 512) ∧ ub.grownBy w'' none := room_any ub ⟨0, 0, hd0, false, q0, true, 100⟩ 4096
          have RC := Lib.hid RC
          go_wp2_with fail
          refine Calls.mono (RC.out) ?_
          rintro e uc ⟨rfl, hg⟩
          have GB' := Lib.hid (gtrans GB.out hg)
          have X3' := Lib.hid (gblock hg X3.out (by simp))
          have X4' := Lib.hid (gblock hg X4.out (by simp))
          clear GB hg X3 X4
          have GB := GB'
          clear GB'
          have X3 := X3'
          clear X3'
          have X4 := X4'
          clear X4'
          clear RC
          have m10 := bcellAt X3.out 10
          have m15 := bcellAt X3.out 15
          have m16 := bcellAt X3.out 16
          have m17 := bcellAt X3.out 17
          have n1 := bcellAt X4.out 1
          have n5 := bcellAt X4.out 5
          have n6 := bcellAt X4.out 6
          have n9 := bcellAt X4.out 9
          have n10 := bcellAt X4.out 10
          have n15 := bcellAt X4.out 15
          go_wp2_with fail
          go_ret
          exact ⟨rfl, GB.out⟩
end Go.Proofs.YtkhigfbmdolgmaaGreatDoor
