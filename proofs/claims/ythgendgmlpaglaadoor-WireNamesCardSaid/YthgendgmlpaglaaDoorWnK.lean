/-
  Wire: limits, the long name.
-/
import Derived.Test.YthgendgmlpaglaaDoorA30
namespace Go.Proofs.YthgendgmlpaglaaDoor
open Go.RowKit

section
variable {R : World → World → Prop} {P : Program} {Q : Exit → Act → World → Prop}
/-- Four operations that make memory come up side by side, first of all. -/
theorem wp_region_ur4 (hR : Rt R) {id : Nat} {l : List Oper} {a : Act} {w : World} (i j k m : Nat) (r s t u : Ur) (hm : P.follows .mixedOrders = true)
    (hB : (Region.noSelect l.toArray && decide (urLen r + 1 = l.length) && decide (Region.ready .any l.toArray (Array.replicate l.toArray.size false) = [i, j, k, m]) && (l.toArray[i]?).isSome && (l.toArray[j]?).isSome && (l.toArray[k]?).isSome && (l.toArray[m]?).isSome && decide (urLen s = urLen r) && decide (urLen t = urLen r) && decide (urLen u = urLen r)
      && urB .any l.toArray r ((Array.replicate l.toArray.size false).setIfInBounds i true) && urB .any l.toArray s ((Array.replicate l.toArray.size false).setIfInBounds j true) && urB .any l.toArray t ((Array.replicate l.toArray.size false).setIfInBounds k true) && urB .any l.toArray u ((Array.replicate l.toArray.size false).setIfInBounds m true)) = true)
    (h1 : wpList P l.toArray (Exit.then (fun a' w' => R w.drew w' ∧ wpUr R P l.toArray (NoPanic Q) r a' w') (NoPanic Q)) ([i].filterMap fun i => l.toArray[i]?) a w.drew)
    (h2 : wpList P l.toArray (Exit.then (fun a' w' => R w.drew w' ∧ wpUr R P l.toArray (NoPanic Q) s a' w') (NoPanic Q)) ([j].filterMap fun i => l.toArray[i]?) a w.drew)
    (h3 : wpList P l.toArray (Exit.then (fun a' w' => R w.drew w' ∧ wpUr R P l.toArray (NoPanic Q) t a' w') (NoPanic Q)) ([k].filterMap fun i => l.toArray[i]?) a w.drew)
    (h4 : wpList P l.toArray (Exit.then (fun a' w' => R w.drew w' ∧ wpUr R P l.toArray (NoPanic Q) u a' w') (NoPanic Q)) ([m].filterMap fun i => l.toArray[i]?) a w.drew) : (Code.region id l.toArray true).wp P Q a w := by
  simp only [Bool.and_eq_true, decide_eq_true_eq] at hB
  obtain ⟨⟨⟨⟨⟨⟨⟨⟨⟨⟨⟨⟨⟨hs, hn⟩, hr⟩, e1⟩, e2⟩, e3⟩, e4⟩, f2⟩, f3⟩, f4⟩, b1⟩, b2⟩, b3⟩, b4⟩ := hB
  refine wp_region_noPanic (wp_region_any hm (wpAny_of_R (R := R) _ _ _ _ ?_))
  have key : wpAnyR R P .any l.toArray (NoPanic Q) (urLen r + 1) (Array.replicate l.toArray.size false) a w.drew := by
    have c1 := fun a' w' => wpAnyR_of_ur (R := R) (P := P) (Q := NoPanic Q) (md := .any) hR hs (fun _ _ _ _ _ h => h) r _ a' w' b1
    have c2 := fun a' w' => wpAnyR_of_ur (R := R) (P := P) (Q := NoPanic Q) (md := .any) hR hs (fun _ _ _ _ _ h => h) s _ a' w' b2
    have c3 := fun a' w' => wpAnyR_of_ur (R := R) (P := P) (Q := NoPanic Q) (md := .any) hR hs (fun _ _ _ _ _ h => h) t _ a' w' b3
    have c4 := fun a' w' => wpAnyR_of_ur (R := R) (P := P) (Q := NoPanic Q) (md := .any) hR hs (fun _ _ _ _ _ h => h) u _ a' w' b4
    rw [f2] at c2
    rw [f3] at c3
    rw [f4] at c4
    refine ⟨fun h0 => (by rw [hr] at h0; cases h0), fun n hn => ?_⟩
    rw [hr] at hn
    simp only [List.mem_cons, List.not_mem_nil, or_false] at hn
    rcases hn with rfl | rfl | rfl | rfl
    · exact wpOp_of_listU e1 (fun a' w' hh => ⟨hh.1, c1 _ _ hh.2⟩) h1
    · exact wpOp_of_listU e2 (fun a' w' hh => ⟨hh.1, c2 _ _ hh.2⟩) h2
    · exact wpOp_of_listU e3 (fun a' w' hh => ⟨hh.1, c3 _ _ hh.2⟩) h3
    · exact wpOp_of_listU e4 (fun a' w' hh => ⟨hh.1, c4 _ _ hh.2⟩) h4
  rw [hn] at key
  simpa using key
end
/-- Worlds with new memory behind. -/
def Nw (w w' : World) : Prop := w.grownBy w' none
theorem Nw.rt : Rt Nw := ⟨fun w => grefl w none, fun h k => gtrans h k⟩
instance (w0 : World) : Inhabited (GrR Nw w0) := ⟨⟨w0, grefl w0 none⟩⟩
theorem nlW (x : Nat) (h : x ≤ 200000) : ¬ (9223372036854775807 < x) := by omega
theorem far_cat (X Y : ByteArray) (hX : zs 63 = X) (hY : zs 61 = Y) : (⟨#[63]⟩ : ByteArray) ++ X ++ ⟨#[63]⟩ ++ X ++ ⟨#[63]⟩ ++ X ++ ⟨#[61]⟩ ++ Y ++ ⟨#[0]⟩ = far := by
  subst hX hY
  kernel_rfl
theorem cv_all {w : World} {v : Value} {n : Nat} {X : ByteArray} (h : Own w w.heap.size v (List.replicate n 0) ∨ SlB w v (List.replicate n 0)) (hX : zs n = X) : ∀ g : GrR Nw w, (convert 26 9 v).run Tryd.prog g.w = .ok (.string X) g.w := fun g => by
  have hs : SlB w v (List.replicate n 0) := by
    rcases h with h | h
    · exact h.sl
    · exact h
  have := cvs (hs.kept g.h (by simp))
  rw [← hX]
  exact this
set_option maxRecDepth 100000 in
set_option maxHeartbeats 32000000 in
theorem limits_far {K : Act → World → Prop} {Q : Exit → Act → World → Prop} {c0 c1 c2 c3 c4 c5 c6 c7 c8 c9 c10 c11 c12 c13 c14 c15 c16 c17 c18 c19 c20 c21 c22 c23 c24 c25 c26 c27 c28 c29 c30 c31 c32 c33 c34 c35 c36 c37 c38 c39 c40 c41 c42 c43 c44 c45 c46 c47 c48 c49 c50 c51 c52 c53 c54 c55 c56 c57 c58 c59 c60 c61 c62 c63 c64 c65 c66 c67 c68 c69 c70 c71 c72 c73 c74 c75 c76 c77 c78 c79 c80 c81 c82 c83 c84 c85 c86 c87 c88 c89 c90 c91 c92 c93 c94 c95 c96 c97 c98 c99 c100 c101 c102 c103 c104 c105 c106 c107 c108 c109 c110 c111 c112 c113 c114 c115 c116 c117 c118 c119 c120 c121 c122 c123 c124 c125 c126 c127 c128 c129 c130 c131 c132 c133 c134 c135 c136 c137 c138 c139 c140 c141 c142 c143 c144 c145 c146 c147 c148 c149 c150 c151 c152 c153 c154 c155 c156 c157 c158 c159 c160 c161 c162 c163 c164 c165 c166 c167 c168 c169 c170 c171 c172 c173 c174 c175 c176 c177 c178 c179 c180 c181 c182 c183 c184 c185 c186 c187 c188 c189 c190 c191 c192 c193 c194 c195 c196 c197 c198 c199 c200 c201 c202 c203 c204 c205 c206 c207 c208 c209 c210 c211 c212 c213 c214 c215 c216 c217 c218 c219 c220 c221 c222 : Value} (w : World)
    (hK : ∀ (u145 u146 u147 u148 u149 u150 u151 u152 u153 u154 u155 u156 u157 u158 u159 u160 : Value) (wx : World), w.grownBy wx none → K ⟨#[c0, c1, c2, c3, c4, c5, c6, c7, c8, c9, c10, c11, c12, c13, c14, c15, c16, .string far, c18, c19, c20, c21, c22, c23, c24, c25, c26, c27, c28, c29, c30, c31, c32, c33, c34, c35, c36, c37, c38, c39, c40, c41, c42, c43, c44, c45, c46, c47, c48, c49, c50, c51, c52, c53, c54, c55, c56, c57, c58, c59, c60, c61, c62, c63, c64, c65, c66, c67, c68, c69, c70, c71, c72, c73, c74, c75, c76, c77, c78, c79, c80, c81, c82, c83, c84, c85, c86, c87, c88, c89, c90, c91, c92, c93, c94, c95, c96, c97, c98, c99, c100, c101, c102, c103, c104, c105, c106, c107, c108, c109, c110, c111, c112, c113, c114, c115, c116, c117, c118, c119, c120, c121, c122, c123, c124, c125, c126, c127, c128, c129, c130, c131, c132, c133, c134, c135, c136, c137, c138, c139, c140, c141, c142, c143, c144, u145, u146, u147, u148, u149, u150, u151, u152, u153, u154, u155, u156, u157, u158, u159, u160, c161, c162, c163, c164, c165, c166, c167, c168, c169, c170, c171, c172, c173, c174, c175, c176, c177, c178, c179, c180, c181, c182, c183, c184, c185, c186, c187, c188, c189, c190, c191, c192, c193, c194, c195, c196, c197, c198, c199, c200, c201, c202, c203, c204, c205, c206, c207, c208, c209, c210, c211, c212, c213, c214, c215, c216, c217, c218, c219, c220, c221, c222], []⟩ wx) :
    Code.wp Tryd.prog (cFst (cTail 9 (Tryd.f8.body.getD .skip))) (Exit.then K Q) ⟨#[c0, c1, c2, c3, c4, c5, c6, c7, c8, c9, c10, c11, c12, c13, c14, c15, c16, c17, c18, c19, c20, c21, c22, c23, c24, c25, c26, c27, c28, c29, c30, c31, c32, c33, c34, c35, c36, c37, c38, c39, c40, c41, c42, c43, c44, c45, c46, c47, c48, c49, c50, c51, c52, c53, c54, c55, c56, c57, c58, c59, c60, c61, c62, c63, c64, c65, c66, c67, c68, c69, c70, c71, c72, c73, c74, c75, c76, c77, c78, c79, c80, c81, c82, c83, c84, c85, c86, c87, c88, c89, c90, c91, c92, c93, c94, c95, c96, c97, c98, c99, c100, c101, c102, c103, c104, c105, c106, c107, c108, c109, c110, c111, c112, c113, c114, c115, c116, c117, c118, c119, c120, c121, c122, c123, c124, c125, c126, c127, c128, c129, c130, c131, c132, c133, c134, c135, c136, c137, c138, c139, c140, c141, c142, c143, c144, c145, c146, c147, c148, c149, c150, c151, c152, c153, c154, c155, c156, c157, c158, c159, c160, c161, c162, c163, c164, c165, c166, c167, c168, c169, c170, c171, c172, c173, c174, c175, c176, c177, c178, c179, c180, c181, c182, c183, c184, c185, c186, c187, c188, c189, c190, c191, c192, c193, c194, c195, c196, c197, c198, c199, c200, c201, c202, c203, c204, c205, c206, c207, c208, c209, c210, c211, c212, c213, c214, c215, c216, c217, c218, c219, c220, c221, c222], []⟩ w := by
  conv => arg 2; whnf
  have HK := Lib.hid hK
  clear hK
  obtain ⟨i0, hi, hz0, hz1, hz2⟩ := info_parts Tryd.infoByte
  obtain ⟨X, hX⟩ : ∃ X, zs 63 = X := ⟨_, rfl⟩
  obtain ⟨Y, hY⟩ : ∃ Y, zs 61 = Y := ⟨_, rfl⟩
  have fc := far_cat X Y hX hY
  have sX : X.size = 63 := by rw [← hX, zs_size]
  have sY : Y.size = 61 := by rw [← hY, zs_size]
  obtain ⟨A1, eA1⟩ : ∃ F, (⟨#[63]⟩ : ByteArray) ++ X = F := ⟨_, rfl⟩
  rw [eA1] at fc
  have sA1 : A1.size = 64 := by rw [← eA1, ByteArray.size_append, sX]; rfl
  obtain ⟨F1, eF1⟩ : ∃ F, A1 ++ ⟨#[63]⟩ = F := ⟨_, rfl⟩
  rw [eF1] at fc
  have sF1 : F1.size = 65 := by rw [← eF1, ByteArray.size_append, sA1]; rfl
  obtain ⟨A2, eA2⟩ : ∃ F, F1 ++ X = F := ⟨_, rfl⟩
  rw [eA2] at fc
  have sA2 : A2.size = 128 := by rw [← eA2, ByteArray.size_append, sX, sF1]
  obtain ⟨F2, eF2⟩ : ∃ F, A2 ++ ⟨#[63]⟩ = F := ⟨_, rfl⟩
  rw [eF2] at fc
  have sF2 : F2.size = 129 := by rw [← eF2, ByteArray.size_append, sA2]; rfl
  obtain ⟨A3, eA3⟩ : ∃ F, F2 ++ X = F := ⟨_, rfl⟩
  rw [eA3] at fc
  have sA3 : A3.size = 192 := by rw [← eA3, ByteArray.size_append, sX, sF2]
  obtain ⟨F3, eF3⟩ : ∃ F, A3 ++ ⟨#[61]⟩ = F := ⟨_, rfl⟩
  rw [eF3] at fc
  have sF3 : F3.size = 193 := by rw [← eF3, ByteArray.size_append, sA3]; rfl
  obtain ⟨A4, eA4⟩ : ∃ F, F3 ++ Y = F := ⟨_, rfl⟩
  rw [eA4] at fc
  have sA4 : A4.size = 254 := by rw [← eA4, ByteArray.size_append, sY, sF3]
  have nl0 := nlW ((⟨#[63]⟩ : ByteArray).size + X.size) (by rw [sX]; decide)
  have nl1 := nlW (A1.size + (⟨#[63]⟩ : ByteArray).size) (by rw [sA1]; decide)
  have nl2 := nlW (F1.size + X.size) (by rw [sF1, sX]; decide)
  have nl3 := nlW (A2.size + (⟨#[63]⟩ : ByteArray).size) (by rw [sA2]; decide)
  have nl4 := nlW (F2.size + X.size) (by rw [sF2, sX]; decide)
  have nl5 := nlW (A3.size + (⟨#[61]⟩ : ByteArray).size) (by rw [sA3]; decide)
  have nl6 := nlW (F3.size + Y.size) (by rw [sF3, sY]; decide)
  have nl7 := nlW (A4.size + (⟨#[0]⟩ : ByteArray).size) (by rw [sA4]; decide)
  clear sX sY sA1 sF1 sA2 sF2 sA3 sF3 sA4
  have nl0 := Lib.hid nl0
  have nl1 := Lib.hid nl1
  have nl2 := Lib.hid nl2
  have nl3 := Lib.hid nl3
  have nl4 := Lib.hid nl4
  have nl5 := Lib.hid nl5
  have nl6 := Lib.hid nl6
  have nl7 := Lib.hid nl7
  have eA1 := Lib.hid eA1
  have eF1 := Lib.hid eF1
  have eA2 := Lib.hid eA2
  have eF2 := Lib.hid eF2
  have eA3 := Lib.hid eA3
  have eF3 := Lib.hid eF3
  have eA4 := Lib.hid eA4
  have fc := Lib.hid fc
  have hX := Lib.hid hX
  have hY := Lib.hid hY
  refine wp_region_ur4 Nw.rt 0 4 8 12 (.quiet [1, 2, 3] (.three 4 (.quiet [5, 6, 7] (.two 8 (.quiet [9, 10, 11] (.one 12 (.quiet [13, 14, 15, 16] .done))) 12 (.quiet [13] (.one 8 (.quiet [9, 10, 11, 14, 15, 16] .done))))) 8 (.quiet [9] (.two 4 (.quiet [5, 6, 7, 10, 11] (.one 12 (.quiet [13, 14, 15, 16] .done))) 12 (.quiet [13] (.one 4 (.quiet [5, 6, 7, 10, 11, 14, 15, 16] .done))))) 12 (.quiet [13] (.two 4 (.quiet [5, 6, 7] (.one 8 (.quiet [9, 10, 11, 14, 15, 16] .done))) 8 (.quiet [9] (.one 4 (.quiet [5, 6, 7, 10, 11, 14, 15, 16] .done))))))) (.quiet [5] (.three 0 (.quiet [1, 2, 3, 6, 7] (.two 8 (.quiet [9, 10, 11] (.one 12 (.quiet [13, 14, 15, 16] .done))) 12 (.quiet [13] (.one 8 (.quiet [9, 10, 11, 14, 15, 16] .done))))) 8 (.quiet [9] (.two 0 (.quiet [1, 2, 3, 6, 7, 10, 11] (.one 12 (.quiet [13, 14, 15, 16] .done))) 12 (.quiet [13] (.one 0 (.quiet [1, 2, 3, 6, 7, 10, 11, 14, 15, 16] .done))))) 12 (.quiet [13] (.two 0 (.quiet [1, 2, 3, 6, 7] (.one 8 (.quiet [9, 10, 11, 14, 15, 16] .done))) 8 (.quiet [9] (.one 0 (.quiet [1, 2, 3, 6, 7, 10, 11, 14, 15, 16] .done))))))) (.quiet [9] (.three 0 (.quiet [1, 2, 3] (.two 4 (.quiet [5, 6, 7, 10, 11] (.one 12 (.quiet [13, 14, 15, 16] .done))) 12 (.quiet [13] (.one 4 (.quiet [5, 6, 7, 10, 11, 14, 15, 16] .done))))) 4 (.quiet [5] (.two 0 (.quiet [1, 2, 3, 6, 7, 10, 11] (.one 12 (.quiet [13, 14, 15, 16] .done))) 12 (.quiet [13] (.one 0 (.quiet [1, 2, 3, 6, 7, 10, 11, 14, 15, 16] .done))))) 12 (.quiet [13] (.two 0 (.quiet [1, 2, 3] (.one 4 (.quiet [5, 6, 7, 10, 11, 14, 15, 16] .done))) 4 (.quiet [5] (.one 0 (.quiet [1, 2, 3, 6, 7, 10, 11, 14, 15, 16] .done))))))) (.quiet [13] (.three 0 (.quiet [1, 2, 3] (.two 4 (.quiet [5, 6, 7] (.one 8 (.quiet [9, 10, 11, 14, 15, 16] .done))) 8 (.quiet [9] (.one 4 (.quiet [5, 6, 7, 10, 11, 14, 15, 16] .done))))) 4 (.quiet [5] (.two 0 (.quiet [1, 2, 3, 6, 7] (.one 8 (.quiet [9, 10, 11, 14, 15, 16] .done))) 8 (.quiet [9] (.one 0 (.quiet [1, 2, 3, 6, 7, 10, 11, 14, 15, 16] .done))))) 8 (.quiet [9] (.two 0 (.quiet [1, 2, 3] (.one 4 (.quiet [5, 6, 7, 10, 11, 14, 15, 16] .done))) 4 (.quiet [5] (.one 0 (.quiet [1, 2, 3, 6, 7, 10, 11, 14, 15, 16] .done))))))) (by kernel_rfl) (by kernel_rfl) ?_ ?_ ?_ ?_
  all_goals (simp only [List.filterMap_cons, List.filterMap_nil, List.getElem?_toArray, List.getElem?_cons_succ, List.getElem?_cons_zero])
  · skip
    have G0 := Lib.hid (gdrew (grefl w none))
    generalize w.drew = v0 at *
    refine (wpList_make_z rfl _ _ 26 rfl v0.heap.size i0 Tryd.underlying26 hi hz0 hz1 hz2 .i64 .i64 63 63 63 rfl rfl rfl rfl (by omega) (Nat.le_refl _) ?_)
    intro v1 ho hg
    have cv := cv_all (.inr ho.sl) hX.out
    clear ho
    generalize v0.heap.size = zb at *
    go_wp2_with fail
    refine ⟨hg, ?_⟩
    try simp only [Act.put, List.setIfInBounds_toArray, List.set_cons_succ, List.set_cons_zero]
    have G' := Lib.hid (gtrans G0.out hg)
    clear hg
    have CV := Lib.hid cv
    clear cv
    refine wpUr_quiet rfl ?_
    simp only [List.filterMap_cons, List.filterMap_nil, List.getElem?_toArray, List.getElem?_cons_succ, List.getElem?_cons_zero]
    show wpQuiet _ _ _ _ [_, _, _] _
    have cv := CV.out
    have q_nl0 := nl0.out
    have q_eA1 := eA1.out
    have q_nl1 := nl1.out
    have q_eF1 := eF1.out
    repeat (go_big_quiet_step (fail))
    refine wpQuiet_nil ?_
    clear cv CV q_nl0 q_eA1 q_nl1 q_eF1
    have G1 := G'
    clear G'
    refine wpUr_three (by simp only [List.getElem?_toArray, List.getElem?_cons_succ, List.getElem?_cons_zero]; exact rfl) (by simp only [List.getElem?_toArray, List.getElem?_cons_succ, List.getElem?_cons_zero]; exact rfl) (by simp only [List.getElem?_toArray, List.getElem?_cons_succ, List.getElem?_cons_zero]; exact rfl) ?_ ?_ ?_
    · skip
      refine (wpList_make_z rfl _ _ 26 rfl v1.heap.size i0 Tryd.underlying26 hi hz0 hz1 hz2 .i64 .i64 63 63 63 rfl rfl rfl rfl (by omega) (Nat.le_refl _) ?_)
      intro v2 ho hg
      have cv := cv_all (.inr ho.sl) hX.out
      clear ho
      generalize v1.heap.size = zb at *
      go_wp2_with fail
      refine ⟨hg, ?_⟩
      try simp only [Act.put, List.setIfInBounds_toArray, List.set_cons_succ, List.set_cons_zero]
      have G' := Lib.hid (gtrans G1.out hg)
      clear hg
      have CV := Lib.hid cv
      clear cv
      refine wpUr_quiet rfl ?_
      simp only [List.filterMap_cons, List.filterMap_nil, List.getElem?_toArray, List.getElem?_cons_succ, List.getElem?_cons_zero]
      show wpQuiet _ _ _ _ [_, _, _] _
      have cv := CV.out
      have q_nl2 := nl2.out
      have q_eA2 := eA2.out
      have q_nl3 := nl3.out
      have q_eF2 := eF2.out
      repeat (go_big_quiet_step (fail))
      refine wpQuiet_nil ?_
      clear cv CV q_nl2 q_eA2 q_nl3 q_eF2
      have G2 := G'
      clear G'
      refine wpUr_two (by simp only [List.getElem?_toArray, List.getElem?_cons_succ, List.getElem?_cons_zero]; exact rfl) (by simp only [List.getElem?_toArray, List.getElem?_cons_succ, List.getElem?_cons_zero]; exact rfl) ?_ ?_
      · skip
        refine (wpList_make_z rfl _ _ 26 rfl v2.heap.size i0 Tryd.underlying26 hi hz0 hz1 hz2 .i64 .i64 63 63 63 rfl rfl rfl rfl (by omega) (Nat.le_refl _) ?_)
        intro v3 ho hg
        have cv := cv_all (.inr ho.sl) hX.out
        clear ho
        generalize v2.heap.size = zb at *
        go_wp2_with fail
        refine ⟨hg, ?_⟩
        try simp only [Act.put, List.setIfInBounds_toArray, List.set_cons_succ, List.set_cons_zero]
        have G' := Lib.hid (gtrans G2.out hg)
        clear hg
        have CV := Lib.hid cv
        clear cv
        refine wpUr_quiet rfl ?_
        simp only [List.filterMap_cons, List.filterMap_nil, List.getElem?_toArray, List.getElem?_cons_succ, List.getElem?_cons_zero]
        show wpQuiet _ _ _ _ [_, _, _] _
        have cv := CV.out
        have q_nl4 := nl4.out
        have q_eA3 := eA3.out
        have q_nl5 := nl5.out
        have q_eF3 := eF3.out
        repeat (go_big_quiet_step (fail))
        refine wpQuiet_nil ?_
        clear cv CV q_nl4 q_eA3 q_nl5 q_eF3
        have G3 := G'
        clear G'
        refine wpUr_one (by simp only [List.getElem?_toArray, List.getElem?_cons_succ, List.getElem?_cons_zero]; exact rfl) ?_
        refine (wpList_make_z rfl _ _ 26 rfl v3.heap.size i0 Tryd.underlying26 hi hz0 hz1 hz2 .i64 .i64 61 61 61 rfl rfl rfl rfl (by omega) (Nat.le_refl _) ?_)
        intro v4 ho hg
        have cv := cv_all (.inr ho.sl) hY.out
        clear ho
        generalize v3.heap.size = zb at *
        go_wp2_with fail
        refine ⟨hg, ?_⟩
        try simp only [Act.put, List.setIfInBounds_toArray, List.set_cons_succ, List.set_cons_zero]
        have G' := Lib.hid (gtrans G3.out hg)
        clear hg
        have CV := Lib.hid cv
        clear cv
        refine wpUr_quiet rfl ?_
        simp only [List.filterMap_cons, List.filterMap_nil, List.getElem?_toArray, List.getElem?_cons_succ, List.getElem?_cons_zero]
        show wpQuiet _ _ _ _ [_, _, _, _] _
        have cv := CV.out
        have q_nl6 := nl6.out
        have q_eA4 := eA4.out
        have q_nl7 := nl7.out
        have q_fc := fc.out
        repeat (go_big_quiet_step (fail))
        refine wpQuiet_nil ?_
        clear cv CV q_nl6 q_eA4 q_nl7 q_fc
        have G4 := G'
        clear G'
        refine wpUr_done ?_
        go_wp2_with fail
        exact HK.out _ _ _ _ _ _ _ _ _ _ _ _ _ _ _ _ _ G4.out
      · skip
        refine (wpList_make_z rfl _ _ 26 rfl v2.heap.size i0 Tryd.underlying26 hi hz0 hz1 hz2 .i64 .i64 61 61 61 rfl rfl rfl rfl (by omega) (Nat.le_refl _) ?_)
        intro v5 ho hg
        have cv := cv_all (.inr ho.sl) hY.out
        clear ho
        generalize v2.heap.size = zb at *
        go_wp2_with fail
        refine ⟨hg, ?_⟩
        try simp only [Act.put, List.setIfInBounds_toArray, List.set_cons_succ, List.set_cons_zero]
        have G' := Lib.hid (gtrans G2.out hg)
        clear hg
        have CV := Lib.hid cv
        clear cv
        refine wpUr_quiet rfl ?_
        simp only [List.filterMap_cons, List.filterMap_nil, List.getElem?_toArray, List.getElem?_cons_succ, List.getElem?_cons_zero]
        show wpQuiet _ _ _ _ [_] _
        have cv := CV.out
        repeat (go_big_quiet_step (fail))
        refine wpQuiet_nil ?_
        clear cv CV 
        have G5 := G'
        clear G'
        refine wpUr_one (by simp only [List.getElem?_toArray, List.getElem?_cons_succ, List.getElem?_cons_zero]; exact rfl) ?_
        refine (wpList_make_z rfl _ _ 26 rfl v5.heap.size i0 Tryd.underlying26 hi hz0 hz1 hz2 .i64 .i64 63 63 63 rfl rfl rfl rfl (by omega) (Nat.le_refl _) ?_)
        intro v6 ho hg
        have cv := cv_all (.inr ho.sl) hX.out
        clear ho
        generalize v5.heap.size = zb at *
        go_wp2_with fail
        refine ⟨hg, ?_⟩
        try simp only [Act.put, List.setIfInBounds_toArray, List.set_cons_succ, List.set_cons_zero]
        have G' := Lib.hid (gtrans G5.out hg)
        clear hg
        have CV := Lib.hid cv
        clear cv
        refine wpUr_quiet rfl ?_
        simp only [List.filterMap_cons, List.filterMap_nil, List.getElem?_toArray, List.getElem?_cons_succ, List.getElem?_cons_zero]
        show wpQuiet _ _ _ _ [_, _, _, _, _, _] _
        have cv := CV.out
        have q_nl4 := nl4.out
        have q_eA3 := eA3.out
        have q_nl5 := nl5.out
        have q_eF3 := eF3.out
        have q_nl6 := nl6.out
        have q_eA4 := eA4.out
        have q_nl7 := nl7.out
        have q_fc := fc.out
        repeat (go_big_quiet_step (fail))
        refine wpQuiet_nil ?_
        clear cv CV q_nl4 q_eA3 q_nl5 q_eF3 q_nl6 q_eA4 q_nl7 q_fc
        have G6 := G'
        clear G'
        refine wpUr_done ?_
        go_wp2_with fail
        exact HK.out _ _ _ _ _ _ _ _ _ _ _ _ _ _ _ _ _ G6.out
    · skip
      refine (wpList_make_z rfl _ _ 26 rfl v1.heap.size i0 Tryd.underlying26 hi hz0 hz1 hz2 .i64 .i64 63 63 63 rfl rfl rfl rfl (by omega) (Nat.le_refl _) ?_)
      intro v7 ho hg
      have cv := cv_all (.inr ho.sl) hX.out
      clear ho
      generalize v1.heap.size = zb at *
      go_wp2_with fail
      refine ⟨hg, ?_⟩
      try simp only [Act.put, List.setIfInBounds_toArray, List.set_cons_succ, List.set_cons_zero]
      have G' := Lib.hid (gtrans G1.out hg)
      clear hg
      have CV := Lib.hid cv
      clear cv
      refine wpUr_quiet rfl ?_
      simp only [List.filterMap_cons, List.filterMap_nil, List.getElem?_toArray, List.getElem?_cons_succ, List.getElem?_cons_zero]
      show wpQuiet _ _ _ _ [_] _
      have cv := CV.out
      repeat (go_big_quiet_step (fail))
      refine wpQuiet_nil ?_
      clear cv CV 
      have G7 := G'
      clear G'
      refine wpUr_two (by simp only [List.getElem?_toArray, List.getElem?_cons_succ, List.getElem?_cons_zero]; exact rfl) (by simp only [List.getElem?_toArray, List.getElem?_cons_succ, List.getElem?_cons_zero]; exact rfl) ?_ ?_
      · skip
        refine (wpList_make_z rfl _ _ 26 rfl v7.heap.size i0 Tryd.underlying26 hi hz0 hz1 hz2 .i64 .i64 63 63 63 rfl rfl rfl rfl (by omega) (Nat.le_refl _) ?_)
        intro v8 ho hg
        have cv := cv_all (.inr ho.sl) hX.out
        clear ho
        generalize v7.heap.size = zb at *
        go_wp2_with fail
        refine ⟨hg, ?_⟩
        try simp only [Act.put, List.setIfInBounds_toArray, List.set_cons_succ, List.set_cons_zero]
        have G' := Lib.hid (gtrans G7.out hg)
        clear hg
        have CV := Lib.hid cv
        clear cv
        refine wpUr_quiet rfl ?_
        simp only [List.filterMap_cons, List.filterMap_nil, List.getElem?_toArray, List.getElem?_cons_succ, List.getElem?_cons_zero]
        show wpQuiet _ _ _ _ [_, _, _, _, _] _
        have cv := CV.out
        have q_nl2 := nl2.out
        have q_eA2 := eA2.out
        have q_nl3 := nl3.out
        have q_eF2 := eF2.out
        have q_nl4 := nl4.out
        have q_eA3 := eA3.out
        have q_nl5 := nl5.out
        have q_eF3 := eF3.out
        repeat (go_big_quiet_step (fail))
        refine wpQuiet_nil ?_
        clear cv CV q_nl2 q_eA2 q_nl3 q_eF2 q_nl4 q_eA3 q_nl5 q_eF3
        have G8 := G'
        clear G'
        refine wpUr_one (by simp only [List.getElem?_toArray, List.getElem?_cons_succ, List.getElem?_cons_zero]; exact rfl) ?_
        refine (wpList_make_z rfl _ _ 26 rfl v8.heap.size i0 Tryd.underlying26 hi hz0 hz1 hz2 .i64 .i64 61 61 61 rfl rfl rfl rfl (by omega) (Nat.le_refl _) ?_)
        intro v9 ho hg
        have cv := cv_all (.inr ho.sl) hY.out
        clear ho
        generalize v8.heap.size = zb at *
        go_wp2_with fail
        refine ⟨hg, ?_⟩
        try simp only [Act.put, List.setIfInBounds_toArray, List.set_cons_succ, List.set_cons_zero]
        have G' := Lib.hid (gtrans G8.out hg)
        clear hg
        have CV := Lib.hid cv
        clear cv
        refine wpUr_quiet rfl ?_
        simp only [List.filterMap_cons, List.filterMap_nil, List.getElem?_toArray, List.getElem?_cons_succ, List.getElem?_cons_zero]
        show wpQuiet _ _ _ _ [_, _, _, _] _
        have cv := CV.out
        have q_nl6 := nl6.out
        have q_eA4 := eA4.out
        have q_nl7 := nl7.out
        have q_fc := fc.out
        repeat (go_big_quiet_step (fail))
        refine wpQuiet_nil ?_
        clear cv CV q_nl6 q_eA4 q_nl7 q_fc
        have G9 := G'
        clear G'
        refine wpUr_done ?_
        go_wp2_with fail
        exact HK.out _ _ _ _ _ _ _ _ _ _ _ _ _ _ _ _ _ G9.out
      · skip
        refine (wpList_make_z rfl _ _ 26 rfl v7.heap.size i0 Tryd.underlying26 hi hz0 hz1 hz2 .i64 .i64 61 61 61 rfl rfl rfl rfl (by omega) (Nat.le_refl _) ?_)
        intro v10 ho hg
        have cv := cv_all (.inr ho.sl) hY.out
        clear ho
        generalize v7.heap.size = zb at *
        go_wp2_with fail
        refine ⟨hg, ?_⟩
        try simp only [Act.put, List.setIfInBounds_toArray, List.set_cons_succ, List.set_cons_zero]
        have G' := Lib.hid (gtrans G7.out hg)
        clear hg
        have CV := Lib.hid cv
        clear cv
        refine wpUr_quiet rfl ?_
        simp only [List.filterMap_cons, List.filterMap_nil, List.getElem?_toArray, List.getElem?_cons_succ, List.getElem?_cons_zero]
        show wpQuiet _ _ _ _ [_] _
        have cv := CV.out
        repeat (go_big_quiet_step (fail))
        refine wpQuiet_nil ?_
        clear cv CV 
        have G10 := G'
        clear G'
        refine wpUr_one (by simp only [List.getElem?_toArray, List.getElem?_cons_succ, List.getElem?_cons_zero]; exact rfl) ?_
        refine (wpList_make_z rfl _ _ 26 rfl v10.heap.size i0 Tryd.underlying26 hi hz0 hz1 hz2 .i64 .i64 63 63 63 rfl rfl rfl rfl (by omega) (Nat.le_refl _) ?_)
        intro v11 ho hg
        have cv := cv_all (.inr ho.sl) hX.out
        clear ho
        generalize v10.heap.size = zb at *
        go_wp2_with fail
        refine ⟨hg, ?_⟩
        try simp only [Act.put, List.setIfInBounds_toArray, List.set_cons_succ, List.set_cons_zero]
        have G' := Lib.hid (gtrans G10.out hg)
        clear hg
        have CV := Lib.hid cv
        clear cv
        refine wpUr_quiet rfl ?_
        simp only [List.filterMap_cons, List.filterMap_nil, List.getElem?_toArray, List.getElem?_cons_succ, List.getElem?_cons_zero]
        show wpQuiet _ _ _ _ [_, _, _, _, _, _, _, _] _
        have cv := CV.out
        have q_nl2 := nl2.out
        have q_eA2 := eA2.out
        have q_nl3 := nl3.out
        have q_eF2 := eF2.out
        have q_nl4 := nl4.out
        have q_eA3 := eA3.out
        have q_nl5 := nl5.out
        have q_eF3 := eF3.out
        have q_nl6 := nl6.out
        have q_eA4 := eA4.out
        have q_nl7 := nl7.out
        have q_fc := fc.out
        repeat (go_big_quiet_step (fail))
        refine wpQuiet_nil ?_
        clear cv CV q_nl2 q_eA2 q_nl3 q_eF2 q_nl4 q_eA3 q_nl5 q_eF3 q_nl6 q_eA4 q_nl7 q_fc
        have G11 := G'
        clear G'
        refine wpUr_done ?_
        go_wp2_with fail
        exact HK.out _ _ _ _ _ _ _ _ _ _ _ _ _ _ _ _ _ G11.out
    · skip
      refine (wpList_make_z rfl _ _ 26 rfl v1.heap.size i0 Tryd.underlying26 hi hz0 hz1 hz2 .i64 .i64 61 61 61 rfl rfl rfl rfl (by omega) (Nat.le_refl _) ?_)
      intro v12 ho hg
      have cv := cv_all (.inr ho.sl) hY.out
      clear ho
      generalize v1.heap.size = zb at *
      go_wp2_with fail
      refine ⟨hg, ?_⟩
      try simp only [Act.put, List.setIfInBounds_toArray, List.set_cons_succ, List.set_cons_zero]
      have G' := Lib.hid (gtrans G1.out hg)
      clear hg
      have CV := Lib.hid cv
      clear cv
      refine wpUr_quiet rfl ?_
      simp only [List.filterMap_cons, List.filterMap_nil, List.getElem?_toArray, List.getElem?_cons_succ, List.getElem?_cons_zero]
      show wpQuiet _ _ _ _ [_] _
      have cv := CV.out
      repeat (go_big_quiet_step (fail))
      refine wpQuiet_nil ?_
      clear cv CV 
      have G12 := G'
      clear G'
      refine wpUr_two (by simp only [List.getElem?_toArray, List.getElem?_cons_succ, List.getElem?_cons_zero]; exact rfl) (by simp only [List.getElem?_toArray, List.getElem?_cons_succ, List.getElem?_cons_zero]; exact rfl) ?_ ?_
      · skip
        refine (wpList_make_z rfl _ _ 26 rfl v12.heap.size i0 Tryd.underlying26 hi hz0 hz1 hz2 .i64 .i64 63 63 63 rfl rfl rfl rfl (by omega) (Nat.le_refl _) ?_)
        intro v13 ho hg
        have cv := cv_all (.inr ho.sl) hX.out
        clear ho
        generalize v12.heap.size = zb at *
        go_wp2_with fail
        refine ⟨hg, ?_⟩
        try simp only [Act.put, List.setIfInBounds_toArray, List.set_cons_succ, List.set_cons_zero]
        have G' := Lib.hid (gtrans G12.out hg)
        clear hg
        have CV := Lib.hid cv
        clear cv
        refine wpUr_quiet rfl ?_
        simp only [List.filterMap_cons, List.filterMap_nil, List.getElem?_toArray, List.getElem?_cons_succ, List.getElem?_cons_zero]
        show wpQuiet _ _ _ _ [_, _, _] _
        have cv := CV.out
        have q_nl2 := nl2.out
        have q_eA2 := eA2.out
        have q_nl3 := nl3.out
        have q_eF2 := eF2.out
        repeat (go_big_quiet_step (fail))
        refine wpQuiet_nil ?_
        clear cv CV q_nl2 q_eA2 q_nl3 q_eF2
        have G13 := G'
        clear G'
        refine wpUr_one (by simp only [List.getElem?_toArray, List.getElem?_cons_succ, List.getElem?_cons_zero]; exact rfl) ?_
        refine (wpList_make_z rfl _ _ 26 rfl v13.heap.size i0 Tryd.underlying26 hi hz0 hz1 hz2 .i64 .i64 63 63 63 rfl rfl rfl rfl (by omega) (Nat.le_refl _) ?_)
        intro v14 ho hg
        have cv := cv_all (.inr ho.sl) hX.out
        clear ho
        generalize v13.heap.size = zb at *
        go_wp2_with fail
        refine ⟨hg, ?_⟩
        try simp only [Act.put, List.setIfInBounds_toArray, List.set_cons_succ, List.set_cons_zero]
        have G' := Lib.hid (gtrans G13.out hg)
        clear hg
        have CV := Lib.hid cv
        clear cv
        refine wpUr_quiet rfl ?_
        simp only [List.filterMap_cons, List.filterMap_nil, List.getElem?_toArray, List.getElem?_cons_succ, List.getElem?_cons_zero]
        show wpQuiet _ _ _ _ [_, _, _, _, _, _] _
        have cv := CV.out
        have q_nl4 := nl4.out
        have q_eA3 := eA3.out
        have q_nl5 := nl5.out
        have q_eF3 := eF3.out
        have q_nl6 := nl6.out
        have q_eA4 := eA4.out
        have q_nl7 := nl7.out
        have q_fc := fc.out
        repeat (go_big_quiet_step (fail))
        refine wpQuiet_nil ?_
        clear cv CV q_nl4 q_eA3 q_nl5 q_eF3 q_nl6 q_eA4 q_nl7 q_fc
        have G14 := G'
        clear G'
        refine wpUr_done ?_
        go_wp2_with fail
        exact HK.out _ _ _ _ _ _ _ _ _ _ _ _ _ _ _ _ _ G14.out
      · skip
        refine (wpList_make_z rfl _ _ 26 rfl v12.heap.size i0 Tryd.underlying26 hi hz0 hz1 hz2 .i64 .i64 63 63 63 rfl rfl rfl rfl (by omega) (Nat.le_refl _) ?_)
        intro v15 ho hg
        have cv := cv_all (.inr ho.sl) hX.out
        clear ho
        generalize v12.heap.size = zb at *
        go_wp2_with fail
        refine ⟨hg, ?_⟩
        try simp only [Act.put, List.setIfInBounds_toArray, List.set_cons_succ, List.set_cons_zero]
        have G' := Lib.hid (gtrans G12.out hg)
        clear hg
        have CV := Lib.hid cv
        clear cv
        refine wpUr_quiet rfl ?_
        simp only [List.filterMap_cons, List.filterMap_nil, List.getElem?_toArray, List.getElem?_cons_succ, List.getElem?_cons_zero]
        show wpQuiet _ _ _ _ [_] _
        have cv := CV.out
        repeat (go_big_quiet_step (fail))
        refine wpQuiet_nil ?_
        clear cv CV 
        have G15 := G'
        clear G'
        refine wpUr_one (by simp only [List.getElem?_toArray, List.getElem?_cons_succ, List.getElem?_cons_zero]; exact rfl) ?_
        refine (wpList_make_z rfl _ _ 26 rfl v15.heap.size i0 Tryd.underlying26 hi hz0 hz1 hz2 .i64 .i64 63 63 63 rfl rfl rfl rfl (by omega) (Nat.le_refl _) ?_)
        intro v16 ho hg
        have cv := cv_all (.inr ho.sl) hX.out
        clear ho
        generalize v15.heap.size = zb at *
        go_wp2_with fail
        refine ⟨hg, ?_⟩
        try simp only [Act.put, List.setIfInBounds_toArray, List.set_cons_succ, List.set_cons_zero]
        have G' := Lib.hid (gtrans G15.out hg)
        clear hg
        have CV := Lib.hid cv
        clear cv
        refine wpUr_quiet rfl ?_
        simp only [List.filterMap_cons, List.filterMap_nil, List.getElem?_toArray, List.getElem?_cons_succ, List.getElem?_cons_zero]
        show wpQuiet _ _ _ _ [_, _, _, _, _, _, _, _] _
        have cv := CV.out
        have q_nl2 := nl2.out
        have q_eA2 := eA2.out
        have q_nl3 := nl3.out
        have q_eF2 := eF2.out
        have q_nl4 := nl4.out
        have q_eA3 := eA3.out
        have q_nl5 := nl5.out
        have q_eF3 := eF3.out
        have q_nl6 := nl6.out
        have q_eA4 := eA4.out
        have q_nl7 := nl7.out
        have q_fc := fc.out
        repeat (go_big_quiet_step (fail))
        refine wpQuiet_nil ?_
        clear cv CV q_nl2 q_eA2 q_nl3 q_eF2 q_nl4 q_eA3 q_nl5 q_eF3 q_nl6 q_eA4 q_nl7 q_fc
        have G16 := G'
        clear G'
        refine wpUr_done ?_
        go_wp2_with fail
        exact HK.out _ _ _ _ _ _ _ _ _ _ _ _ _ _ _ _ _ G16.out
  · skip
    have G0 := Lib.hid (gdrew (grefl w none))
    generalize w.drew = v0 at *
    refine (wpList_make_z rfl _ _ 26 rfl v0.heap.size i0 Tryd.underlying26 hi hz0 hz1 hz2 .i64 .i64 63 63 63 rfl rfl rfl rfl (by omega) (Nat.le_refl _) ?_)
    intro v17 ho hg
    have cv := cv_all (.inr ho.sl) hX.out
    clear ho
    generalize v0.heap.size = zb at *
    go_wp2_with fail
    refine ⟨hg, ?_⟩
    try simp only [Act.put, List.setIfInBounds_toArray, List.set_cons_succ, List.set_cons_zero]
    have G' := Lib.hid (gtrans G0.out hg)
    clear hg
    have CV := Lib.hid cv
    clear cv
    refine wpUr_quiet rfl ?_
    simp only [List.filterMap_cons, List.filterMap_nil, List.getElem?_toArray, List.getElem?_cons_succ, List.getElem?_cons_zero]
    show wpQuiet _ _ _ _ [_] _
    have cv := CV.out
    repeat (go_big_quiet_step (fail))
    refine wpQuiet_nil ?_
    clear cv CV 
    have G17 := G'
    clear G'
    refine wpUr_three (by simp only [List.getElem?_toArray, List.getElem?_cons_zero]; exact rfl) (by simp only [List.getElem?_toArray, List.getElem?_cons_succ, List.getElem?_cons_zero]; exact rfl) (by simp only [List.getElem?_toArray, List.getElem?_cons_succ, List.getElem?_cons_zero]; exact rfl) ?_ ?_ ?_
    · skip
      refine (wpList_make_z rfl _ _ 26 rfl v17.heap.size i0 Tryd.underlying26 hi hz0 hz1 hz2 .i64 .i64 63 63 63 rfl rfl rfl rfl (by omega) (Nat.le_refl _) ?_)
      intro v18 ho hg
      have cv := cv_all (.inr ho.sl) hX.out
      clear ho
      generalize v17.heap.size = zb at *
      go_wp2_with fail
      refine ⟨hg, ?_⟩
      try simp only [Act.put, List.setIfInBounds_toArray, List.set_cons_succ, List.set_cons_zero]
      have G' := Lib.hid (gtrans G17.out hg)
      clear hg
      have CV := Lib.hid cv
      clear cv
      refine wpUr_quiet rfl ?_
      simp only [List.filterMap_cons, List.filterMap_nil, List.getElem?_toArray, List.getElem?_cons_succ, List.getElem?_cons_zero]
      show wpQuiet _ _ _ _ [_, _, _, _, _] _
      have cv := CV.out
      have q_nl0 := nl0.out
      have q_eA1 := eA1.out
      have q_nl1 := nl1.out
      have q_eF1 := eF1.out
      have q_nl2 := nl2.out
      have q_eA2 := eA2.out
      have q_nl3 := nl3.out
      have q_eF2 := eF2.out
      repeat (go_big_quiet_step (fail))
      refine wpQuiet_nil ?_
      clear cv CV q_nl0 q_eA1 q_nl1 q_eF1 q_nl2 q_eA2 q_nl3 q_eF2
      have G18 := G'
      clear G'
      refine wpUr_two (by simp only [List.getElem?_toArray, List.getElem?_cons_succ, List.getElem?_cons_zero]; exact rfl) (by simp only [List.getElem?_toArray, List.getElem?_cons_succ, List.getElem?_cons_zero]; exact rfl) ?_ ?_
      · skip
        refine (wpList_make_z rfl _ _ 26 rfl v18.heap.size i0 Tryd.underlying26 hi hz0 hz1 hz2 .i64 .i64 63 63 63 rfl rfl rfl rfl (by omega) (Nat.le_refl _) ?_)
        intro v19 ho hg
        have cv := cv_all (.inr ho.sl) hX.out
        clear ho
        generalize v18.heap.size = zb at *
        go_wp2_with fail
        refine ⟨hg, ?_⟩
        try simp only [Act.put, List.setIfInBounds_toArray, List.set_cons_succ, List.set_cons_zero]
        have G' := Lib.hid (gtrans G18.out hg)
        clear hg
        have CV := Lib.hid cv
        clear cv
        refine wpUr_quiet rfl ?_
        simp only [List.filterMap_cons, List.filterMap_nil, List.getElem?_toArray, List.getElem?_cons_succ, List.getElem?_cons_zero]
        show wpQuiet _ _ _ _ [_, _, _] _
        have cv := CV.out
        have q_nl4 := nl4.out
        have q_eA3 := eA3.out
        have q_nl5 := nl5.out
        have q_eF3 := eF3.out
        repeat (go_big_quiet_step (fail))
        refine wpQuiet_nil ?_
        clear cv CV q_nl4 q_eA3 q_nl5 q_eF3
        have G19 := G'
        clear G'
        refine wpUr_one (by simp only [List.getElem?_toArray, List.getElem?_cons_succ, List.getElem?_cons_zero]; exact rfl) ?_
        refine (wpList_make_z rfl _ _ 26 rfl v19.heap.size i0 Tryd.underlying26 hi hz0 hz1 hz2 .i64 .i64 61 61 61 rfl rfl rfl rfl (by omega) (Nat.le_refl _) ?_)
        intro v20 ho hg
        have cv := cv_all (.inr ho.sl) hY.out
        clear ho
        generalize v19.heap.size = zb at *
        go_wp2_with fail
        refine ⟨hg, ?_⟩
        try simp only [Act.put, List.setIfInBounds_toArray, List.set_cons_succ, List.set_cons_zero]
        have G' := Lib.hid (gtrans G19.out hg)
        clear hg
        have CV := Lib.hid cv
        clear cv
        refine wpUr_quiet rfl ?_
        simp only [List.filterMap_cons, List.filterMap_nil, List.getElem?_toArray, List.getElem?_cons_succ, List.getElem?_cons_zero]
        show wpQuiet _ _ _ _ [_, _, _, _] _
        have cv := CV.out
        have q_nl6 := nl6.out
        have q_eA4 := eA4.out
        have q_nl7 := nl7.out
        have q_fc := fc.out
        repeat (go_big_quiet_step (fail))
        refine wpQuiet_nil ?_
        clear cv CV q_nl6 q_eA4 q_nl7 q_fc
        have G20 := G'
        clear G'
        refine wpUr_done ?_
        go_wp2_with fail
        exact HK.out _ _ _ _ _ _ _ _ _ _ _ _ _ _ _ _ _ G20.out
      · skip
        refine (wpList_make_z rfl _ _ 26 rfl v18.heap.size i0 Tryd.underlying26 hi hz0 hz1 hz2 .i64 .i64 61 61 61 rfl rfl rfl rfl (by omega) (Nat.le_refl _) ?_)
        intro v21 ho hg
        have cv := cv_all (.inr ho.sl) hY.out
        clear ho
        generalize v18.heap.size = zb at *
        go_wp2_with fail
        refine ⟨hg, ?_⟩
        try simp only [Act.put, List.setIfInBounds_toArray, List.set_cons_succ, List.set_cons_zero]
        have G' := Lib.hid (gtrans G18.out hg)
        clear hg
        have CV := Lib.hid cv
        clear cv
        refine wpUr_quiet rfl ?_
        simp only [List.filterMap_cons, List.filterMap_nil, List.getElem?_toArray, List.getElem?_cons_succ, List.getElem?_cons_zero]
        show wpQuiet _ _ _ _ [_] _
        have cv := CV.out
        repeat (go_big_quiet_step (fail))
        refine wpQuiet_nil ?_
        clear cv CV 
        have G21 := G'
        clear G'
        refine wpUr_one (by simp only [List.getElem?_toArray, List.getElem?_cons_succ, List.getElem?_cons_zero]; exact rfl) ?_
        refine (wpList_make_z rfl _ _ 26 rfl v21.heap.size i0 Tryd.underlying26 hi hz0 hz1 hz2 .i64 .i64 63 63 63 rfl rfl rfl rfl (by omega) (Nat.le_refl _) ?_)
        intro v22 ho hg
        have cv := cv_all (.inr ho.sl) hX.out
        clear ho
        generalize v21.heap.size = zb at *
        go_wp2_with fail
        refine ⟨hg, ?_⟩
        try simp only [Act.put, List.setIfInBounds_toArray, List.set_cons_succ, List.set_cons_zero]
        have G' := Lib.hid (gtrans G21.out hg)
        clear hg
        have CV := Lib.hid cv
        clear cv
        refine wpUr_quiet rfl ?_
        simp only [List.filterMap_cons, List.filterMap_nil, List.getElem?_toArray, List.getElem?_cons_succ, List.getElem?_cons_zero]
        show wpQuiet _ _ _ _ [_, _, _, _, _, _] _
        have cv := CV.out
        have q_nl4 := nl4.out
        have q_eA3 := eA3.out
        have q_nl5 := nl5.out
        have q_eF3 := eF3.out
        have q_nl6 := nl6.out
        have q_eA4 := eA4.out
        have q_nl7 := nl7.out
        have q_fc := fc.out
        repeat (go_big_quiet_step (fail))
        refine wpQuiet_nil ?_
        clear cv CV q_nl4 q_eA3 q_nl5 q_eF3 q_nl6 q_eA4 q_nl7 q_fc
        have G22 := G'
        clear G'
        refine wpUr_done ?_
        go_wp2_with fail
        exact HK.out _ _ _ _ _ _ _ _ _ _ _ _ _ _ _ _ _ G22.out
    · skip
      refine (wpList_make_z rfl _ _ 26 rfl v17.heap.size i0 Tryd.underlying26 hi hz0 hz1 hz2 .i64 .i64 63 63 63 rfl rfl rfl rfl (by omega) (Nat.le_refl _) ?_)
      intro v23 ho hg
      have cv := cv_all (.inr ho.sl) hX.out
      clear ho
      generalize v17.heap.size = zb at *
      go_wp2_with fail
      refine ⟨hg, ?_⟩
      try simp only [Act.put, List.setIfInBounds_toArray, List.set_cons_succ, List.set_cons_zero]
      have G' := Lib.hid (gtrans G17.out hg)
      clear hg
      have CV := Lib.hid cv
      clear cv
      refine wpUr_quiet rfl ?_
      simp only [List.filterMap_cons, List.filterMap_nil, List.getElem?_toArray, List.getElem?_cons_succ, List.getElem?_cons_zero]
      show wpQuiet _ _ _ _ [_] _
      have cv := CV.out
      repeat (go_big_quiet_step (fail))
      refine wpQuiet_nil ?_
      clear cv CV 
      have G23 := G'
      clear G'
      refine wpUr_two (by simp only [List.getElem?_toArray, List.getElem?_cons_zero]; exact rfl) (by simp only [List.getElem?_toArray, List.getElem?_cons_succ, List.getElem?_cons_zero]; exact rfl) ?_ ?_
      · skip
        refine (wpList_make_z rfl _ _ 26 rfl v23.heap.size i0 Tryd.underlying26 hi hz0 hz1 hz2 .i64 .i64 63 63 63 rfl rfl rfl rfl (by omega) (Nat.le_refl _) ?_)
        intro v24 ho hg
        have cv := cv_all (.inr ho.sl) hX.out
        clear ho
        generalize v23.heap.size = zb at *
        go_wp2_with fail
        refine ⟨hg, ?_⟩
        try simp only [Act.put, List.setIfInBounds_toArray, List.set_cons_succ, List.set_cons_zero]
        have G' := Lib.hid (gtrans G23.out hg)
        clear hg
        have CV := Lib.hid cv
        clear cv
        refine wpUr_quiet rfl ?_
        simp only [List.filterMap_cons, List.filterMap_nil, List.getElem?_toArray, List.getElem?_cons_succ, List.getElem?_cons_zero]
        show wpQuiet _ _ _ _ [_, _, _, _, _, _, _] _
        have cv := CV.out
        have q_nl0 := nl0.out
        have q_eA1 := eA1.out
        have q_nl1 := nl1.out
        have q_eF1 := eF1.out
        have q_nl2 := nl2.out
        have q_eA2 := eA2.out
        have q_nl3 := nl3.out
        have q_eF2 := eF2.out
        have q_nl4 := nl4.out
        have q_eA3 := eA3.out
        have q_nl5 := nl5.out
        have q_eF3 := eF3.out
        repeat (go_big_quiet_step (fail))
        refine wpQuiet_nil ?_
        clear cv CV q_nl0 q_eA1 q_nl1 q_eF1 q_nl2 q_eA2 q_nl3 q_eF2 q_nl4 q_eA3 q_nl5 q_eF3
        have G24 := G'
        clear G'
        refine wpUr_one (by simp only [List.getElem?_toArray, List.getElem?_cons_succ, List.getElem?_cons_zero]; exact rfl) ?_
        refine (wpList_make_z rfl _ _ 26 rfl v24.heap.size i0 Tryd.underlying26 hi hz0 hz1 hz2 .i64 .i64 61 61 61 rfl rfl rfl rfl (by omega) (Nat.le_refl _) ?_)
        intro v25 ho hg
        have cv := cv_all (.inr ho.sl) hY.out
        clear ho
        generalize v24.heap.size = zb at *
        go_wp2_with fail
        refine ⟨hg, ?_⟩
        try simp only [Act.put, List.setIfInBounds_toArray, List.set_cons_succ, List.set_cons_zero]
        have G' := Lib.hid (gtrans G24.out hg)
        clear hg
        have CV := Lib.hid cv
        clear cv
        refine wpUr_quiet rfl ?_
        simp only [List.filterMap_cons, List.filterMap_nil, List.getElem?_toArray, List.getElem?_cons_succ, List.getElem?_cons_zero]
        show wpQuiet _ _ _ _ [_, _, _, _] _
        have cv := CV.out
        have q_nl6 := nl6.out
        have q_eA4 := eA4.out
        have q_nl7 := nl7.out
        have q_fc := fc.out
        repeat (go_big_quiet_step (fail))
        refine wpQuiet_nil ?_
        clear cv CV q_nl6 q_eA4 q_nl7 q_fc
        have G25 := G'
        clear G'
        refine wpUr_done ?_
        go_wp2_with fail
        exact HK.out _ _ _ _ _ _ _ _ _ _ _ _ _ _ _ _ _ G25.out
      · skip
        refine (wpList_make_z rfl _ _ 26 rfl v23.heap.size i0 Tryd.underlying26 hi hz0 hz1 hz2 .i64 .i64 61 61 61 rfl rfl rfl rfl (by omega) (Nat.le_refl _) ?_)
        intro v26 ho hg
        have cv := cv_all (.inr ho.sl) hY.out
        clear ho
        generalize v23.heap.size = zb at *
        go_wp2_with fail
        refine ⟨hg, ?_⟩
        try simp only [Act.put, List.setIfInBounds_toArray, List.set_cons_succ, List.set_cons_zero]
        have G' := Lib.hid (gtrans G23.out hg)
        clear hg
        have CV := Lib.hid cv
        clear cv
        refine wpUr_quiet rfl ?_
        simp only [List.filterMap_cons, List.filterMap_nil, List.getElem?_toArray, List.getElem?_cons_succ, List.getElem?_cons_zero]
        show wpQuiet _ _ _ _ [_] _
        have cv := CV.out
        repeat (go_big_quiet_step (fail))
        refine wpQuiet_nil ?_
        clear cv CV 
        have G26 := G'
        clear G'
        refine wpUr_one (by simp only [List.getElem?_toArray, List.getElem?_cons_zero]; exact rfl) ?_
        refine (wpList_make_z rfl _ _ 26 rfl v26.heap.size i0 Tryd.underlying26 hi hz0 hz1 hz2 .i64 .i64 63 63 63 rfl rfl rfl rfl (by omega) (Nat.le_refl _) ?_)
        intro v27 ho hg
        have cv := cv_all (.inr ho.sl) hX.out
        clear ho
        generalize v26.heap.size = zb at *
        go_wp2_with fail
        refine ⟨hg, ?_⟩
        try simp only [Act.put, List.setIfInBounds_toArray, List.set_cons_succ, List.set_cons_zero]
        have G' := Lib.hid (gtrans G26.out hg)
        clear hg
        have CV := Lib.hid cv
        clear cv
        refine wpUr_quiet rfl ?_
        simp only [List.filterMap_cons, List.filterMap_nil, List.getElem?_toArray, List.getElem?_cons_succ, List.getElem?_cons_zero]
        show wpQuiet _ _ _ _ [_, _, _, _, _, _, _, _, _, _] _
        have cv := CV.out
        have q_nl0 := nl0.out
        have q_eA1 := eA1.out
        have q_nl1 := nl1.out
        have q_eF1 := eF1.out
        have q_nl2 := nl2.out
        have q_eA2 := eA2.out
        have q_nl3 := nl3.out
        have q_eF2 := eF2.out
        have q_nl4 := nl4.out
        have q_eA3 := eA3.out
        have q_nl5 := nl5.out
        have q_eF3 := eF3.out
        have q_nl6 := nl6.out
        have q_eA4 := eA4.out
        have q_nl7 := nl7.out
        have q_fc := fc.out
        repeat (go_big_quiet_step (fail))
        refine wpQuiet_nil ?_
        clear cv CV q_nl0 q_eA1 q_nl1 q_eF1 q_nl2 q_eA2 q_nl3 q_eF2 q_nl4 q_eA3 q_nl5 q_eF3 q_nl6 q_eA4 q_nl7 q_fc
        have G27 := G'
        clear G'
        refine wpUr_done ?_
        go_wp2_with fail
        exact HK.out _ _ _ _ _ _ _ _ _ _ _ _ _ _ _ _ _ G27.out
    · skip
      refine (wpList_make_z rfl _ _ 26 rfl v17.heap.size i0 Tryd.underlying26 hi hz0 hz1 hz2 .i64 .i64 61 61 61 rfl rfl rfl rfl (by omega) (Nat.le_refl _) ?_)
      intro v28 ho hg
      have cv := cv_all (.inr ho.sl) hY.out
      clear ho
      generalize v17.heap.size = zb at *
      go_wp2_with fail
      refine ⟨hg, ?_⟩
      try simp only [Act.put, List.setIfInBounds_toArray, List.set_cons_succ, List.set_cons_zero]
      have G' := Lib.hid (gtrans G17.out hg)
      clear hg
      have CV := Lib.hid cv
      clear cv
      refine wpUr_quiet rfl ?_
      simp only [List.filterMap_cons, List.filterMap_nil, List.getElem?_toArray, List.getElem?_cons_succ, List.getElem?_cons_zero]
      show wpQuiet _ _ _ _ [_] _
      have cv := CV.out
      repeat (go_big_quiet_step (fail))
      refine wpQuiet_nil ?_
      clear cv CV 
      have G28 := G'
      clear G'
      refine wpUr_two (by simp only [List.getElem?_toArray, List.getElem?_cons_zero]; exact rfl) (by simp only [List.getElem?_toArray, List.getElem?_cons_succ, List.getElem?_cons_zero]; exact rfl) ?_ ?_
      · skip
        refine (wpList_make_z rfl _ _ 26 rfl v28.heap.size i0 Tryd.underlying26 hi hz0 hz1 hz2 .i64 .i64 63 63 63 rfl rfl rfl rfl (by omega) (Nat.le_refl _) ?_)
        intro v29 ho hg
        have cv := cv_all (.inr ho.sl) hX.out
        clear ho
        generalize v28.heap.size = zb at *
        go_wp2_with fail
        refine ⟨hg, ?_⟩
        try simp only [Act.put, List.setIfInBounds_toArray, List.set_cons_succ, List.set_cons_zero]
        have G' := Lib.hid (gtrans G28.out hg)
        clear hg
        have CV := Lib.hid cv
        clear cv
        refine wpUr_quiet rfl ?_
        simp only [List.filterMap_cons, List.filterMap_nil, List.getElem?_toArray, List.getElem?_cons_succ, List.getElem?_cons_zero]
        show wpQuiet _ _ _ _ [_, _, _, _, _] _
        have cv := CV.out
        have q_nl0 := nl0.out
        have q_eA1 := eA1.out
        have q_nl1 := nl1.out
        have q_eF1 := eF1.out
        have q_nl2 := nl2.out
        have q_eA2 := eA2.out
        have q_nl3 := nl3.out
        have q_eF2 := eF2.out
        repeat (go_big_quiet_step (fail))
        refine wpQuiet_nil ?_
        clear cv CV q_nl0 q_eA1 q_nl1 q_eF1 q_nl2 q_eA2 q_nl3 q_eF2
        have G29 := G'
        clear G'
        refine wpUr_one (by simp only [List.getElem?_toArray, List.getElem?_cons_succ, List.getElem?_cons_zero]; exact rfl) ?_
        refine (wpList_make_z rfl _ _ 26 rfl v29.heap.size i0 Tryd.underlying26 hi hz0 hz1 hz2 .i64 .i64 63 63 63 rfl rfl rfl rfl (by omega) (Nat.le_refl _) ?_)
        intro v30 ho hg
        have cv := cv_all (.inr ho.sl) hX.out
        clear ho
        generalize v29.heap.size = zb at *
        go_wp2_with fail
        refine ⟨hg, ?_⟩
        try simp only [Act.put, List.setIfInBounds_toArray, List.set_cons_succ, List.set_cons_zero]
        have G' := Lib.hid (gtrans G29.out hg)
        clear hg
        have CV := Lib.hid cv
        clear cv
        refine wpUr_quiet rfl ?_
        simp only [List.filterMap_cons, List.filterMap_nil, List.getElem?_toArray, List.getElem?_cons_succ, List.getElem?_cons_zero]
        show wpQuiet _ _ _ _ [_, _, _, _, _, _] _
        have cv := CV.out
        have q_nl4 := nl4.out
        have q_eA3 := eA3.out
        have q_nl5 := nl5.out
        have q_eF3 := eF3.out
        have q_nl6 := nl6.out
        have q_eA4 := eA4.out
        have q_nl7 := nl7.out
        have q_fc := fc.out
        repeat (go_big_quiet_step (fail))
        refine wpQuiet_nil ?_
        clear cv CV q_nl4 q_eA3 q_nl5 q_eF3 q_nl6 q_eA4 q_nl7 q_fc
        have G30 := G'
        clear G'
        refine wpUr_done ?_
        go_wp2_with fail
        exact HK.out _ _ _ _ _ _ _ _ _ _ _ _ _ _ _ _ _ G30.out
      · skip
        refine (wpList_make_z rfl _ _ 26 rfl v28.heap.size i0 Tryd.underlying26 hi hz0 hz1 hz2 .i64 .i64 63 63 63 rfl rfl rfl rfl (by omega) (Nat.le_refl _) ?_)
        intro v31 ho hg
        have cv := cv_all (.inr ho.sl) hX.out
        clear ho
        generalize v28.heap.size = zb at *
        go_wp2_with fail
        refine ⟨hg, ?_⟩
        try simp only [Act.put, List.setIfInBounds_toArray, List.set_cons_succ, List.set_cons_zero]
        have G' := Lib.hid (gtrans G28.out hg)
        clear hg
        have CV := Lib.hid cv
        clear cv
        refine wpUr_quiet rfl ?_
        simp only [List.filterMap_cons, List.filterMap_nil, List.getElem?_toArray, List.getElem?_cons_succ, List.getElem?_cons_zero]
        show wpQuiet _ _ _ _ [_] _
        have cv := CV.out
        repeat (go_big_quiet_step (fail))
        refine wpQuiet_nil ?_
        clear cv CV 
        have G31 := G'
        clear G'
        refine wpUr_one (by simp only [List.getElem?_toArray, List.getElem?_cons_zero]; exact rfl) ?_
        refine (wpList_make_z rfl _ _ 26 rfl v31.heap.size i0 Tryd.underlying26 hi hz0 hz1 hz2 .i64 .i64 63 63 63 rfl rfl rfl rfl (by omega) (Nat.le_refl _) ?_)
        intro v32 ho hg
        have cv := cv_all (.inr ho.sl) hX.out
        clear ho
        generalize v31.heap.size = zb at *
        go_wp2_with fail
        refine ⟨hg, ?_⟩
        try simp only [Act.put, List.setIfInBounds_toArray, List.set_cons_succ, List.set_cons_zero]
        have G' := Lib.hid (gtrans G31.out hg)
        clear hg
        have CV := Lib.hid cv
        clear cv
        refine wpUr_quiet rfl ?_
        simp only [List.filterMap_cons, List.filterMap_nil, List.getElem?_toArray, List.getElem?_cons_succ, List.getElem?_cons_zero]
        show wpQuiet _ _ _ _ [_, _, _, _, _, _, _, _, _, _] _
        have cv := CV.out
        have q_nl0 := nl0.out
        have q_eA1 := eA1.out
        have q_nl1 := nl1.out
        have q_eF1 := eF1.out
        have q_nl2 := nl2.out
        have q_eA2 := eA2.out
        have q_nl3 := nl3.out
        have q_eF2 := eF2.out
        have q_nl4 := nl4.out
        have q_eA3 := eA3.out
        have q_nl5 := nl5.out
        have q_eF3 := eF3.out
        have q_nl6 := nl6.out
        have q_eA4 := eA4.out
        have q_nl7 := nl7.out
        have q_fc := fc.out
        repeat (go_big_quiet_step (fail))
        refine wpQuiet_nil ?_
        clear cv CV q_nl0 q_eA1 q_nl1 q_eF1 q_nl2 q_eA2 q_nl3 q_eF2 q_nl4 q_eA3 q_nl5 q_eF3 q_nl6 q_eA4 q_nl7 q_fc
        have G32 := G'
        clear G'
        refine wpUr_done ?_
        go_wp2_with fail
        exact HK.out _ _ _ _ _ _ _ _ _ _ _ _ _ _ _ _ _ G32.out
  · skip
    have G0 := Lib.hid (gdrew (grefl w none))
    generalize w.drew = v0 at *
    refine (wpList_make_z rfl _ _ 26 rfl v0.heap.size i0 Tryd.underlying26 hi hz0 hz1 hz2 .i64 .i64 63 63 63 rfl rfl rfl rfl (by omega) (Nat.le_refl _) ?_)
    intro v33 ho hg
    have cv := cv_all (.inr ho.sl) hX.out
    clear ho
    generalize v0.heap.size = zb at *
    go_wp2_with fail
    refine ⟨hg, ?_⟩
    try simp only [Act.put, List.setIfInBounds_toArray, List.set_cons_succ, List.set_cons_zero]
    have G' := Lib.hid (gtrans G0.out hg)
    clear hg
    have CV := Lib.hid cv
    clear cv
    refine wpUr_quiet rfl ?_
    simp only [List.filterMap_cons, List.filterMap_nil, List.getElem?_toArray, List.getElem?_cons_succ, List.getElem?_cons_zero]
    show wpQuiet _ _ _ _ [_] _
    have cv := CV.out
    repeat (go_big_quiet_step (fail))
    refine wpQuiet_nil ?_
    clear cv CV 
    have G33 := G'
    clear G'
    refine wpUr_three (by simp only [List.getElem?_toArray, List.getElem?_cons_zero]; exact rfl) (by simp only [List.getElem?_toArray, List.getElem?_cons_succ, List.getElem?_cons_zero]; exact rfl) (by simp only [List.getElem?_toArray, List.getElem?_cons_succ, List.getElem?_cons_zero]; exact rfl) ?_ ?_ ?_
    · skip
      refine (wpList_make_z rfl _ _ 26 rfl v33.heap.size i0 Tryd.underlying26 hi hz0 hz1 hz2 .i64 .i64 63 63 63 rfl rfl rfl rfl (by omega) (Nat.le_refl _) ?_)
      intro v34 ho hg
      have cv := cv_all (.inr ho.sl) hX.out
      clear ho
      generalize v33.heap.size = zb at *
      go_wp2_with fail
      refine ⟨hg, ?_⟩
      try simp only [Act.put, List.setIfInBounds_toArray, List.set_cons_succ, List.set_cons_zero]
      have G' := Lib.hid (gtrans G33.out hg)
      clear hg
      have CV := Lib.hid cv
      clear cv
      refine wpUr_quiet rfl ?_
      simp only [List.filterMap_cons, List.filterMap_nil, List.getElem?_toArray, List.getElem?_cons_succ, List.getElem?_cons_zero]
      show wpQuiet _ _ _ _ [_, _, _] _
      have cv := CV.out
      have q_nl0 := nl0.out
      have q_eA1 := eA1.out
      have q_nl1 := nl1.out
      have q_eF1 := eF1.out
      repeat (go_big_quiet_step (fail))
      refine wpQuiet_nil ?_
      clear cv CV q_nl0 q_eA1 q_nl1 q_eF1
      have G34 := G'
      clear G'
      refine wpUr_two (by simp only [List.getElem?_toArray, List.getElem?_cons_succ, List.getElem?_cons_zero]; exact rfl) (by simp only [List.getElem?_toArray, List.getElem?_cons_succ, List.getElem?_cons_zero]; exact rfl) ?_ ?_
      · skip
        refine (wpList_make_z rfl _ _ 26 rfl v34.heap.size i0 Tryd.underlying26 hi hz0 hz1 hz2 .i64 .i64 63 63 63 rfl rfl rfl rfl (by omega) (Nat.le_refl _) ?_)
        intro v35 ho hg
        have cv := cv_all (.inr ho.sl) hX.out
        clear ho
        generalize v34.heap.size = zb at *
        go_wp2_with fail
        refine ⟨hg, ?_⟩
        try simp only [Act.put, List.setIfInBounds_toArray, List.set_cons_succ, List.set_cons_zero]
        have G' := Lib.hid (gtrans G34.out hg)
        clear hg
        have CV := Lib.hid cv
        clear cv
        refine wpUr_quiet rfl ?_
        simp only [List.filterMap_cons, List.filterMap_nil, List.getElem?_toArray, List.getElem?_cons_succ, List.getElem?_cons_zero]
        show wpQuiet _ _ _ _ [_, _, _, _, _] _
        have cv := CV.out
        have q_nl2 := nl2.out
        have q_eA2 := eA2.out
        have q_nl3 := nl3.out
        have q_eF2 := eF2.out
        have q_nl4 := nl4.out
        have q_eA3 := eA3.out
        have q_nl5 := nl5.out
        have q_eF3 := eF3.out
        repeat (go_big_quiet_step (fail))
        refine wpQuiet_nil ?_
        clear cv CV q_nl2 q_eA2 q_nl3 q_eF2 q_nl4 q_eA3 q_nl5 q_eF3
        have G35 := G'
        clear G'
        refine wpUr_one (by simp only [List.getElem?_toArray, List.getElem?_cons_succ, List.getElem?_cons_zero]; exact rfl) ?_
        refine (wpList_make_z rfl _ _ 26 rfl v35.heap.size i0 Tryd.underlying26 hi hz0 hz1 hz2 .i64 .i64 61 61 61 rfl rfl rfl rfl (by omega) (Nat.le_refl _) ?_)
        intro v36 ho hg
        have cv := cv_all (.inr ho.sl) hY.out
        clear ho
        generalize v35.heap.size = zb at *
        go_wp2_with fail
        refine ⟨hg, ?_⟩
        try simp only [Act.put, List.setIfInBounds_toArray, List.set_cons_succ, List.set_cons_zero]
        have G' := Lib.hid (gtrans G35.out hg)
        clear hg
        have CV := Lib.hid cv
        clear cv
        refine wpUr_quiet rfl ?_
        simp only [List.filterMap_cons, List.filterMap_nil, List.getElem?_toArray, List.getElem?_cons_succ, List.getElem?_cons_zero]
        show wpQuiet _ _ _ _ [_, _, _, _] _
        have cv := CV.out
        have q_nl6 := nl6.out
        have q_eA4 := eA4.out
        have q_nl7 := nl7.out
        have q_fc := fc.out
        repeat (go_big_quiet_step (fail))
        refine wpQuiet_nil ?_
        clear cv CV q_nl6 q_eA4 q_nl7 q_fc
        have G36 := G'
        clear G'
        refine wpUr_done ?_
        go_wp2_with fail
        exact HK.out _ _ _ _ _ _ _ _ _ _ _ _ _ _ _ _ _ G36.out
      · skip
        refine (wpList_make_z rfl _ _ 26 rfl v34.heap.size i0 Tryd.underlying26 hi hz0 hz1 hz2 .i64 .i64 61 61 61 rfl rfl rfl rfl (by omega) (Nat.le_refl _) ?_)
        intro v37 ho hg
        have cv := cv_all (.inr ho.sl) hY.out
        clear ho
        generalize v34.heap.size = zb at *
        go_wp2_with fail
        refine ⟨hg, ?_⟩
        try simp only [Act.put, List.setIfInBounds_toArray, List.set_cons_succ, List.set_cons_zero]
        have G' := Lib.hid (gtrans G34.out hg)
        clear hg
        have CV := Lib.hid cv
        clear cv
        refine wpUr_quiet rfl ?_
        simp only [List.filterMap_cons, List.filterMap_nil, List.getElem?_toArray, List.getElem?_cons_succ, List.getElem?_cons_zero]
        show wpQuiet _ _ _ _ [_] _
        have cv := CV.out
        repeat (go_big_quiet_step (fail))
        refine wpQuiet_nil ?_
        clear cv CV 
        have G37 := G'
        clear G'
        refine wpUr_one (by simp only [List.getElem?_toArray, List.getElem?_cons_succ, List.getElem?_cons_zero]; exact rfl) ?_
        refine (wpList_make_z rfl _ _ 26 rfl v37.heap.size i0 Tryd.underlying26 hi hz0 hz1 hz2 .i64 .i64 63 63 63 rfl rfl rfl rfl (by omega) (Nat.le_refl _) ?_)
        intro v38 ho hg
        have cv := cv_all (.inr ho.sl) hX.out
        clear ho
        generalize v37.heap.size = zb at *
        go_wp2_with fail
        refine ⟨hg, ?_⟩
        try simp only [Act.put, List.setIfInBounds_toArray, List.set_cons_succ, List.set_cons_zero]
        have G' := Lib.hid (gtrans G37.out hg)
        clear hg
        have CV := Lib.hid cv
        clear cv
        refine wpUr_quiet rfl ?_
        simp only [List.filterMap_cons, List.filterMap_nil, List.getElem?_toArray, List.getElem?_cons_succ, List.getElem?_cons_zero]
        show wpQuiet _ _ _ _ [_, _, _, _, _, _, _, _] _
        have cv := CV.out
        have q_nl2 := nl2.out
        have q_eA2 := eA2.out
        have q_nl3 := nl3.out
        have q_eF2 := eF2.out
        have q_nl4 := nl4.out
        have q_eA3 := eA3.out
        have q_nl5 := nl5.out
        have q_eF3 := eF3.out
        have q_nl6 := nl6.out
        have q_eA4 := eA4.out
        have q_nl7 := nl7.out
        have q_fc := fc.out
        repeat (go_big_quiet_step (fail))
        refine wpQuiet_nil ?_
        clear cv CV q_nl2 q_eA2 q_nl3 q_eF2 q_nl4 q_eA3 q_nl5 q_eF3 q_nl6 q_eA4 q_nl7 q_fc
        have G38 := G'
        clear G'
        refine wpUr_done ?_
        go_wp2_with fail
        exact HK.out _ _ _ _ _ _ _ _ _ _ _ _ _ _ _ _ _ G38.out
    · skip
      refine (wpList_make_z rfl _ _ 26 rfl v33.heap.size i0 Tryd.underlying26 hi hz0 hz1 hz2 .i64 .i64 63 63 63 rfl rfl rfl rfl (by omega) (Nat.le_refl _) ?_)
      intro v39 ho hg
      have cv := cv_all (.inr ho.sl) hX.out
      clear ho
      generalize v33.heap.size = zb at *
      go_wp2_with fail
      refine ⟨hg, ?_⟩
      try simp only [Act.put, List.setIfInBounds_toArray, List.set_cons_succ, List.set_cons_zero]
      have G' := Lib.hid (gtrans G33.out hg)
      clear hg
      have CV := Lib.hid cv
      clear cv
      refine wpUr_quiet rfl ?_
      simp only [List.filterMap_cons, List.filterMap_nil, List.getElem?_toArray, List.getElem?_cons_succ, List.getElem?_cons_zero]
      show wpQuiet _ _ _ _ [_] _
      have cv := CV.out
      repeat (go_big_quiet_step (fail))
      refine wpQuiet_nil ?_
      clear cv CV 
      have G39 := G'
      clear G'
      refine wpUr_two (by simp only [List.getElem?_toArray, List.getElem?_cons_zero]; exact rfl) (by simp only [List.getElem?_toArray, List.getElem?_cons_succ, List.getElem?_cons_zero]; exact rfl) ?_ ?_
      · skip
        refine (wpList_make_z rfl _ _ 26 rfl v39.heap.size i0 Tryd.underlying26 hi hz0 hz1 hz2 .i64 .i64 63 63 63 rfl rfl rfl rfl (by omega) (Nat.le_refl _) ?_)
        intro v40 ho hg
        have cv := cv_all (.inr ho.sl) hX.out
        clear ho
        generalize v39.heap.size = zb at *
        go_wp2_with fail
        refine ⟨hg, ?_⟩
        try simp only [Act.put, List.setIfInBounds_toArray, List.set_cons_succ, List.set_cons_zero]
        have G' := Lib.hid (gtrans G39.out hg)
        clear hg
        have CV := Lib.hid cv
        clear cv
        refine wpUr_quiet rfl ?_
        simp only [List.filterMap_cons, List.filterMap_nil, List.getElem?_toArray, List.getElem?_cons_succ, List.getElem?_cons_zero]
        show wpQuiet _ _ _ _ [_, _, _, _, _, _, _] _
        have cv := CV.out
        have q_nl0 := nl0.out
        have q_eA1 := eA1.out
        have q_nl1 := nl1.out
        have q_eF1 := eF1.out
        have q_nl2 := nl2.out
        have q_eA2 := eA2.out
        have q_nl3 := nl3.out
        have q_eF2 := eF2.out
        have q_nl4 := nl4.out
        have q_eA3 := eA3.out
        have q_nl5 := nl5.out
        have q_eF3 := eF3.out
        repeat (go_big_quiet_step (fail))
        refine wpQuiet_nil ?_
        clear cv CV q_nl0 q_eA1 q_nl1 q_eF1 q_nl2 q_eA2 q_nl3 q_eF2 q_nl4 q_eA3 q_nl5 q_eF3
        have G40 := G'
        clear G'
        refine wpUr_one (by simp only [List.getElem?_toArray, List.getElem?_cons_succ, List.getElem?_cons_zero]; exact rfl) ?_
        refine (wpList_make_z rfl _ _ 26 rfl v40.heap.size i0 Tryd.underlying26 hi hz0 hz1 hz2 .i64 .i64 61 61 61 rfl rfl rfl rfl (by omega) (Nat.le_refl _) ?_)
        intro v41 ho hg
        have cv := cv_all (.inr ho.sl) hY.out
        clear ho
        generalize v40.heap.size = zb at *
        go_wp2_with fail
        refine ⟨hg, ?_⟩
        try simp only [Act.put, List.setIfInBounds_toArray, List.set_cons_succ, List.set_cons_zero]
        have G' := Lib.hid (gtrans G40.out hg)
        clear hg
        have CV := Lib.hid cv
        clear cv
        refine wpUr_quiet rfl ?_
        simp only [List.filterMap_cons, List.filterMap_nil, List.getElem?_toArray, List.getElem?_cons_succ, List.getElem?_cons_zero]
        show wpQuiet _ _ _ _ [_, _, _, _] _
        have cv := CV.out
        have q_nl6 := nl6.out
        have q_eA4 := eA4.out
        have q_nl7 := nl7.out
        have q_fc := fc.out
        repeat (go_big_quiet_step (fail))
        refine wpQuiet_nil ?_
        clear cv CV q_nl6 q_eA4 q_nl7 q_fc
        have G41 := G'
        clear G'
        refine wpUr_done ?_
        go_wp2_with fail
        exact HK.out _ _ _ _ _ _ _ _ _ _ _ _ _ _ _ _ _ G41.out
      · skip
        refine (wpList_make_z rfl _ _ 26 rfl v39.heap.size i0 Tryd.underlying26 hi hz0 hz1 hz2 .i64 .i64 61 61 61 rfl rfl rfl rfl (by omega) (Nat.le_refl _) ?_)
        intro v42 ho hg
        have cv := cv_all (.inr ho.sl) hY.out
        clear ho
        generalize v39.heap.size = zb at *
        go_wp2_with fail
        refine ⟨hg, ?_⟩
        try simp only [Act.put, List.setIfInBounds_toArray, List.set_cons_succ, List.set_cons_zero]
        have G' := Lib.hid (gtrans G39.out hg)
        clear hg
        have CV := Lib.hid cv
        clear cv
        refine wpUr_quiet rfl ?_
        simp only [List.filterMap_cons, List.filterMap_nil, List.getElem?_toArray, List.getElem?_cons_succ, List.getElem?_cons_zero]
        show wpQuiet _ _ _ _ [_] _
        have cv := CV.out
        repeat (go_big_quiet_step (fail))
        refine wpQuiet_nil ?_
        clear cv CV 
        have G42 := G'
        clear G'
        refine wpUr_one (by simp only [List.getElem?_toArray, List.getElem?_cons_zero]; exact rfl) ?_
        refine (wpList_make_z rfl _ _ 26 rfl v42.heap.size i0 Tryd.underlying26 hi hz0 hz1 hz2 .i64 .i64 63 63 63 rfl rfl rfl rfl (by omega) (Nat.le_refl _) ?_)
        intro v43 ho hg
        have cv := cv_all (.inr ho.sl) hX.out
        clear ho
        generalize v42.heap.size = zb at *
        go_wp2_with fail
        refine ⟨hg, ?_⟩
        try simp only [Act.put, List.setIfInBounds_toArray, List.set_cons_succ, List.set_cons_zero]
        have G' := Lib.hid (gtrans G42.out hg)
        clear hg
        have CV := Lib.hid cv
        clear cv
        refine wpUr_quiet rfl ?_
        simp only [List.filterMap_cons, List.filterMap_nil, List.getElem?_toArray, List.getElem?_cons_succ, List.getElem?_cons_zero]
        show wpQuiet _ _ _ _ [_, _, _, _, _, _, _, _, _, _] _
        have cv := CV.out
        have q_nl0 := nl0.out
        have q_eA1 := eA1.out
        have q_nl1 := nl1.out
        have q_eF1 := eF1.out
        have q_nl2 := nl2.out
        have q_eA2 := eA2.out
        have q_nl3 := nl3.out
        have q_eF2 := eF2.out
        have q_nl4 := nl4.out
        have q_eA3 := eA3.out
        have q_nl5 := nl5.out
        have q_eF3 := eF3.out
        have q_nl6 := nl6.out
        have q_eA4 := eA4.out
        have q_nl7 := nl7.out
        have q_fc := fc.out
        repeat (go_big_quiet_step (fail))
        refine wpQuiet_nil ?_
        clear cv CV q_nl0 q_eA1 q_nl1 q_eF1 q_nl2 q_eA2 q_nl3 q_eF2 q_nl4 q_eA3 q_nl5 q_eF3 q_nl6 q_eA4 q_nl7 q_fc
        have G43 := G'
        clear G'
        refine wpUr_done ?_
        go_wp2_with fail
        exact HK.out _ _ _ _ _ _ _ _ _ _ _ _ _ _ _ _ _ G43.out
    · skip
      refine (wpList_make_z rfl _ _ 26 rfl v33.heap.size i0 Tryd.underlying26 hi hz0 hz1 hz2 .i64 .i64 61 61 61 rfl rfl rfl rfl (by omega) (Nat.le_refl _) ?_)
      intro v44 ho hg
      have cv := cv_all (.inr ho.sl) hY.out
      clear ho
      generalize v33.heap.size = zb at *
      go_wp2_with fail
      refine ⟨hg, ?_⟩
      try simp only [Act.put, List.setIfInBounds_toArray, List.set_cons_succ, List.set_cons_zero]
      have G' := Lib.hid (gtrans G33.out hg)
      clear hg
      have CV := Lib.hid cv
      clear cv
      refine wpUr_quiet rfl ?_
      simp only [List.filterMap_cons, List.filterMap_nil, List.getElem?_toArray, List.getElem?_cons_succ, List.getElem?_cons_zero]
      show wpQuiet _ _ _ _ [_] _
      have cv := CV.out
      repeat (go_big_quiet_step (fail))
      refine wpQuiet_nil ?_
      clear cv CV 
      have G44 := G'
      clear G'
      refine wpUr_two (by simp only [List.getElem?_toArray, List.getElem?_cons_zero]; exact rfl) (by simp only [List.getElem?_toArray, List.getElem?_cons_succ, List.getElem?_cons_zero]; exact rfl) ?_ ?_
      · skip
        refine (wpList_make_z rfl _ _ 26 rfl v44.heap.size i0 Tryd.underlying26 hi hz0 hz1 hz2 .i64 .i64 63 63 63 rfl rfl rfl rfl (by omega) (Nat.le_refl _) ?_)
        intro v45 ho hg
        have cv := cv_all (.inr ho.sl) hX.out
        clear ho
        generalize v44.heap.size = zb at *
        go_wp2_with fail
        refine ⟨hg, ?_⟩
        try simp only [Act.put, List.setIfInBounds_toArray, List.set_cons_succ, List.set_cons_zero]
        have G' := Lib.hid (gtrans G44.out hg)
        clear hg
        have CV := Lib.hid cv
        clear cv
        refine wpUr_quiet rfl ?_
        simp only [List.filterMap_cons, List.filterMap_nil, List.getElem?_toArray, List.getElem?_cons_succ, List.getElem?_cons_zero]
        show wpQuiet _ _ _ _ [_, _, _] _
        have cv := CV.out
        have q_nl0 := nl0.out
        have q_eA1 := eA1.out
        have q_nl1 := nl1.out
        have q_eF1 := eF1.out
        repeat (go_big_quiet_step (fail))
        refine wpQuiet_nil ?_
        clear cv CV q_nl0 q_eA1 q_nl1 q_eF1
        have G45 := G'
        clear G'
        refine wpUr_one (by simp only [List.getElem?_toArray, List.getElem?_cons_succ, List.getElem?_cons_zero]; exact rfl) ?_
        refine (wpList_make_z rfl _ _ 26 rfl v45.heap.size i0 Tryd.underlying26 hi hz0 hz1 hz2 .i64 .i64 63 63 63 rfl rfl rfl rfl (by omega) (Nat.le_refl _) ?_)
        intro v46 ho hg
        have cv := cv_all (.inr ho.sl) hX.out
        clear ho
        generalize v45.heap.size = zb at *
        go_wp2_with fail
        refine ⟨hg, ?_⟩
        try simp only [Act.put, List.setIfInBounds_toArray, List.set_cons_succ, List.set_cons_zero]
        have G' := Lib.hid (gtrans G45.out hg)
        clear hg
        have CV := Lib.hid cv
        clear cv
        refine wpUr_quiet rfl ?_
        simp only [List.filterMap_cons, List.filterMap_nil, List.getElem?_toArray, List.getElem?_cons_succ, List.getElem?_cons_zero]
        show wpQuiet _ _ _ _ [_, _, _, _, _, _, _, _] _
        have cv := CV.out
        have q_nl2 := nl2.out
        have q_eA2 := eA2.out
        have q_nl3 := nl3.out
        have q_eF2 := eF2.out
        have q_nl4 := nl4.out
        have q_eA3 := eA3.out
        have q_nl5 := nl5.out
        have q_eF3 := eF3.out
        have q_nl6 := nl6.out
        have q_eA4 := eA4.out
        have q_nl7 := nl7.out
        have q_fc := fc.out
        repeat (go_big_quiet_step (fail))
        refine wpQuiet_nil ?_
        clear cv CV q_nl2 q_eA2 q_nl3 q_eF2 q_nl4 q_eA3 q_nl5 q_eF3 q_nl6 q_eA4 q_nl7 q_fc
        have G46 := G'
        clear G'
        refine wpUr_done ?_
        go_wp2_with fail
        exact HK.out _ _ _ _ _ _ _ _ _ _ _ _ _ _ _ _ _ G46.out
      · skip
        refine (wpList_make_z rfl _ _ 26 rfl v44.heap.size i0 Tryd.underlying26 hi hz0 hz1 hz2 .i64 .i64 63 63 63 rfl rfl rfl rfl (by omega) (Nat.le_refl _) ?_)
        intro v47 ho hg
        have cv := cv_all (.inr ho.sl) hX.out
        clear ho
        generalize v44.heap.size = zb at *
        go_wp2_with fail
        refine ⟨hg, ?_⟩
        try simp only [Act.put, List.setIfInBounds_toArray, List.set_cons_succ, List.set_cons_zero]
        have G' := Lib.hid (gtrans G44.out hg)
        clear hg
        have CV := Lib.hid cv
        clear cv
        refine wpUr_quiet rfl ?_
        simp only [List.filterMap_cons, List.filterMap_nil, List.getElem?_toArray, List.getElem?_cons_succ, List.getElem?_cons_zero]
        show wpQuiet _ _ _ _ [_] _
        have cv := CV.out
        repeat (go_big_quiet_step (fail))
        refine wpQuiet_nil ?_
        clear cv CV 
        have G47 := G'
        clear G'
        refine wpUr_one (by simp only [List.getElem?_toArray, List.getElem?_cons_zero]; exact rfl) ?_
        refine (wpList_make_z rfl _ _ 26 rfl v47.heap.size i0 Tryd.underlying26 hi hz0 hz1 hz2 .i64 .i64 63 63 63 rfl rfl rfl rfl (by omega) (Nat.le_refl _) ?_)
        intro v48 ho hg
        have cv := cv_all (.inr ho.sl) hX.out
        clear ho
        generalize v47.heap.size = zb at *
        go_wp2_with fail
        refine ⟨hg, ?_⟩
        try simp only [Act.put, List.setIfInBounds_toArray, List.set_cons_succ, List.set_cons_zero]
        have G' := Lib.hid (gtrans G47.out hg)
        clear hg
        have CV := Lib.hid cv
        clear cv
        refine wpUr_quiet rfl ?_
        simp only [List.filterMap_cons, List.filterMap_nil, List.getElem?_toArray, List.getElem?_cons_succ, List.getElem?_cons_zero]
        show wpQuiet _ _ _ _ [_, _, _, _, _, _, _, _, _, _] _
        have cv := CV.out
        have q_nl0 := nl0.out
        have q_eA1 := eA1.out
        have q_nl1 := nl1.out
        have q_eF1 := eF1.out
        have q_nl2 := nl2.out
        have q_eA2 := eA2.out
        have q_nl3 := nl3.out
        have q_eF2 := eF2.out
        have q_nl4 := nl4.out
        have q_eA3 := eA3.out
        have q_nl5 := nl5.out
        have q_eF3 := eF3.out
        have q_nl6 := nl6.out
        have q_eA4 := eA4.out
        have q_nl7 := nl7.out
        have q_fc := fc.out
        repeat (go_big_quiet_step (fail))
        refine wpQuiet_nil ?_
        clear cv CV q_nl0 q_eA1 q_nl1 q_eF1 q_nl2 q_eA2 q_nl3 q_eF2 q_nl4 q_eA3 q_nl5 q_eF3 q_nl6 q_eA4 q_nl7 q_fc
        have G48 := G'
        clear G'
        refine wpUr_done ?_
        go_wp2_with fail
        exact HK.out _ _ _ _ _ _ _ _ _ _ _ _ _ _ _ _ _ G48.out
  · skip
    have G0 := Lib.hid (gdrew (grefl w none))
    generalize w.drew = v0 at *
    refine (wpList_make_z rfl _ _ 26 rfl v0.heap.size i0 Tryd.underlying26 hi hz0 hz1 hz2 .i64 .i64 61 61 61 rfl rfl rfl rfl (by omega) (Nat.le_refl _) ?_)
    intro v49 ho hg
    have cv := cv_all (.inr ho.sl) hY.out
    clear ho
    generalize v0.heap.size = zb at *
    go_wp2_with fail
    refine ⟨hg, ?_⟩
    try simp only [Act.put, List.setIfInBounds_toArray, List.set_cons_succ, List.set_cons_zero]
    have G' := Lib.hid (gtrans G0.out hg)
    clear hg
    have CV := Lib.hid cv
    clear cv
    refine wpUr_quiet rfl ?_
    simp only [List.filterMap_cons, List.filterMap_nil, List.getElem?_toArray, List.getElem?_cons_succ, List.getElem?_cons_zero]
    show wpQuiet _ _ _ _ [_] _
    have cv := CV.out
    repeat (go_big_quiet_step (fail))
    refine wpQuiet_nil ?_
    clear cv CV 
    have G49 := G'
    clear G'
    refine wpUr_three (by simp only [List.getElem?_toArray, List.getElem?_cons_zero]; exact rfl) (by simp only [List.getElem?_toArray, List.getElem?_cons_succ, List.getElem?_cons_zero]; exact rfl) (by simp only [List.getElem?_toArray, List.getElem?_cons_succ, List.getElem?_cons_zero]; exact rfl) ?_ ?_ ?_
    · skip
      refine (wpList_make_z rfl _ _ 26 rfl v49.heap.size i0 Tryd.underlying26 hi hz0 hz1 hz2 .i64 .i64 63 63 63 rfl rfl rfl rfl (by omega) (Nat.le_refl _) ?_)
      intro v50 ho hg
      have cv := cv_all (.inr ho.sl) hX.out
      clear ho
      generalize v49.heap.size = zb at *
      go_wp2_with fail
      refine ⟨hg, ?_⟩
      try simp only [Act.put, List.setIfInBounds_toArray, List.set_cons_succ, List.set_cons_zero]
      have G' := Lib.hid (gtrans G49.out hg)
      clear hg
      have CV := Lib.hid cv
      clear cv
      refine wpUr_quiet rfl ?_
      simp only [List.filterMap_cons, List.filterMap_nil, List.getElem?_toArray, List.getElem?_cons_succ, List.getElem?_cons_zero]
      show wpQuiet _ _ _ _ [_, _, _] _
      have cv := CV.out
      have q_nl0 := nl0.out
      have q_eA1 := eA1.out
      have q_nl1 := nl1.out
      have q_eF1 := eF1.out
      repeat (go_big_quiet_step (fail))
      refine wpQuiet_nil ?_
      clear cv CV q_nl0 q_eA1 q_nl1 q_eF1
      have G50 := G'
      clear G'
      refine wpUr_two (by simp only [List.getElem?_toArray, List.getElem?_cons_succ, List.getElem?_cons_zero]; exact rfl) (by simp only [List.getElem?_toArray, List.getElem?_cons_succ, List.getElem?_cons_zero]; exact rfl) ?_ ?_
      · skip
        refine (wpList_make_z rfl _ _ 26 rfl v50.heap.size i0 Tryd.underlying26 hi hz0 hz1 hz2 .i64 .i64 63 63 63 rfl rfl rfl rfl (by omega) (Nat.le_refl _) ?_)
        intro v51 ho hg
        have cv := cv_all (.inr ho.sl) hX.out
        clear ho
        generalize v50.heap.size = zb at *
        go_wp2_with fail
        refine ⟨hg, ?_⟩
        try simp only [Act.put, List.setIfInBounds_toArray, List.set_cons_succ, List.set_cons_zero]
        have G' := Lib.hid (gtrans G50.out hg)
        clear hg
        have CV := Lib.hid cv
        clear cv
        refine wpUr_quiet rfl ?_
        simp only [List.filterMap_cons, List.filterMap_nil, List.getElem?_toArray, List.getElem?_cons_succ, List.getElem?_cons_zero]
        show wpQuiet _ _ _ _ [_, _, _] _
        have cv := CV.out
        have q_nl2 := nl2.out
        have q_eA2 := eA2.out
        have q_nl3 := nl3.out
        have q_eF2 := eF2.out
        repeat (go_big_quiet_step (fail))
        refine wpQuiet_nil ?_
        clear cv CV q_nl2 q_eA2 q_nl3 q_eF2
        have G51 := G'
        clear G'
        refine wpUr_one (by simp only [List.getElem?_toArray, List.getElem?_cons_succ, List.getElem?_cons_zero]; exact rfl) ?_
        refine (wpList_make_z rfl _ _ 26 rfl v51.heap.size i0 Tryd.underlying26 hi hz0 hz1 hz2 .i64 .i64 63 63 63 rfl rfl rfl rfl (by omega) (Nat.le_refl _) ?_)
        intro v52 ho hg
        have cv := cv_all (.inr ho.sl) hX.out
        clear ho
        generalize v51.heap.size = zb at *
        go_wp2_with fail
        refine ⟨hg, ?_⟩
        try simp only [Act.put, List.setIfInBounds_toArray, List.set_cons_succ, List.set_cons_zero]
        have G' := Lib.hid (gtrans G51.out hg)
        clear hg
        have CV := Lib.hid cv
        clear cv
        refine wpUr_quiet rfl ?_
        simp only [List.filterMap_cons, List.filterMap_nil, List.getElem?_toArray, List.getElem?_cons_succ, List.getElem?_cons_zero]
        show wpQuiet _ _ _ _ [_, _, _, _, _, _] _
        have cv := CV.out
        have q_nl4 := nl4.out
        have q_eA3 := eA3.out
        have q_nl5 := nl5.out
        have q_eF3 := eF3.out
        have q_nl6 := nl6.out
        have q_eA4 := eA4.out
        have q_nl7 := nl7.out
        have q_fc := fc.out
        repeat (go_big_quiet_step (fail))
        refine wpQuiet_nil ?_
        clear cv CV q_nl4 q_eA3 q_nl5 q_eF3 q_nl6 q_eA4 q_nl7 q_fc
        have G52 := G'
        clear G'
        refine wpUr_done ?_
        go_wp2_with fail
        exact HK.out _ _ _ _ _ _ _ _ _ _ _ _ _ _ _ _ _ G52.out
      · skip
        refine (wpList_make_z rfl _ _ 26 rfl v50.heap.size i0 Tryd.underlying26 hi hz0 hz1 hz2 .i64 .i64 63 63 63 rfl rfl rfl rfl (by omega) (Nat.le_refl _) ?_)
        intro v53 ho hg
        have cv := cv_all (.inr ho.sl) hX.out
        clear ho
        generalize v50.heap.size = zb at *
        go_wp2_with fail
        refine ⟨hg, ?_⟩
        try simp only [Act.put, List.setIfInBounds_toArray, List.set_cons_succ, List.set_cons_zero]
        have G' := Lib.hid (gtrans G50.out hg)
        clear hg
        have CV := Lib.hid cv
        clear cv
        refine wpUr_quiet rfl ?_
        simp only [List.filterMap_cons, List.filterMap_nil, List.getElem?_toArray, List.getElem?_cons_succ, List.getElem?_cons_zero]
        show wpQuiet _ _ _ _ [_] _
        have cv := CV.out
        repeat (go_big_quiet_step (fail))
        refine wpQuiet_nil ?_
        clear cv CV 
        have G53 := G'
        clear G'
        refine wpUr_one (by simp only [List.getElem?_toArray, List.getElem?_cons_succ, List.getElem?_cons_zero]; exact rfl) ?_
        refine (wpList_make_z rfl _ _ 26 rfl v53.heap.size i0 Tryd.underlying26 hi hz0 hz1 hz2 .i64 .i64 63 63 63 rfl rfl rfl rfl (by omega) (Nat.le_refl _) ?_)
        intro v54 ho hg
        have cv := cv_all (.inr ho.sl) hX.out
        clear ho
        generalize v53.heap.size = zb at *
        go_wp2_with fail
        refine ⟨hg, ?_⟩
        try simp only [Act.put, List.setIfInBounds_toArray, List.set_cons_succ, List.set_cons_zero]
        have G' := Lib.hid (gtrans G53.out hg)
        clear hg
        have CV := Lib.hid cv
        clear cv
        refine wpUr_quiet rfl ?_
        simp only [List.filterMap_cons, List.filterMap_nil, List.getElem?_toArray, List.getElem?_cons_succ, List.getElem?_cons_zero]
        show wpQuiet _ _ _ _ [_, _, _, _, _, _, _, _] _
        have cv := CV.out
        have q_nl2 := nl2.out
        have q_eA2 := eA2.out
        have q_nl3 := nl3.out
        have q_eF2 := eF2.out
        have q_nl4 := nl4.out
        have q_eA3 := eA3.out
        have q_nl5 := nl5.out
        have q_eF3 := eF3.out
        have q_nl6 := nl6.out
        have q_eA4 := eA4.out
        have q_nl7 := nl7.out
        have q_fc := fc.out
        repeat (go_big_quiet_step (fail))
        refine wpQuiet_nil ?_
        clear cv CV q_nl2 q_eA2 q_nl3 q_eF2 q_nl4 q_eA3 q_nl5 q_eF3 q_nl6 q_eA4 q_nl7 q_fc
        have G54 := G'
        clear G'
        refine wpUr_done ?_
        go_wp2_with fail
        exact HK.out _ _ _ _ _ _ _ _ _ _ _ _ _ _ _ _ _ G54.out
    · skip
      refine (wpList_make_z rfl _ _ 26 rfl v49.heap.size i0 Tryd.underlying26 hi hz0 hz1 hz2 .i64 .i64 63 63 63 rfl rfl rfl rfl (by omega) (Nat.le_refl _) ?_)
      intro v55 ho hg
      have cv := cv_all (.inr ho.sl) hX.out
      clear ho
      generalize v49.heap.size = zb at *
      go_wp2_with fail
      refine ⟨hg, ?_⟩
      try simp only [Act.put, List.setIfInBounds_toArray, List.set_cons_succ, List.set_cons_zero]
      have G' := Lib.hid (gtrans G49.out hg)
      clear hg
      have CV := Lib.hid cv
      clear cv
      refine wpUr_quiet rfl ?_
      simp only [List.filterMap_cons, List.filterMap_nil, List.getElem?_toArray, List.getElem?_cons_succ, List.getElem?_cons_zero]
      show wpQuiet _ _ _ _ [_] _
      have cv := CV.out
      repeat (go_big_quiet_step (fail))
      refine wpQuiet_nil ?_
      clear cv CV 
      have G55 := G'
      clear G'
      refine wpUr_two (by simp only [List.getElem?_toArray, List.getElem?_cons_zero]; exact rfl) (by simp only [List.getElem?_toArray, List.getElem?_cons_succ, List.getElem?_cons_zero]; exact rfl) ?_ ?_
      · skip
        refine (wpList_make_z rfl _ _ 26 rfl v55.heap.size i0 Tryd.underlying26 hi hz0 hz1 hz2 .i64 .i64 63 63 63 rfl rfl rfl rfl (by omega) (Nat.le_refl _) ?_)
        intro v56 ho hg
        have cv := cv_all (.inr ho.sl) hX.out
        clear ho
        generalize v55.heap.size = zb at *
        go_wp2_with fail
        refine ⟨hg, ?_⟩
        try simp only [Act.put, List.setIfInBounds_toArray, List.set_cons_succ, List.set_cons_zero]
        have G' := Lib.hid (gtrans G55.out hg)
        clear hg
        have CV := Lib.hid cv
        clear cv
        refine wpUr_quiet rfl ?_
        simp only [List.filterMap_cons, List.filterMap_nil, List.getElem?_toArray, List.getElem?_cons_succ, List.getElem?_cons_zero]
        show wpQuiet _ _ _ _ [_, _, _, _, _] _
        have cv := CV.out
        have q_nl0 := nl0.out
        have q_eA1 := eA1.out
        have q_nl1 := nl1.out
        have q_eF1 := eF1.out
        have q_nl2 := nl2.out
        have q_eA2 := eA2.out
        have q_nl3 := nl3.out
        have q_eF2 := eF2.out
        repeat (go_big_quiet_step (fail))
        refine wpQuiet_nil ?_
        clear cv CV q_nl0 q_eA1 q_nl1 q_eF1 q_nl2 q_eA2 q_nl3 q_eF2
        have G56 := G'
        clear G'
        refine wpUr_one (by simp only [List.getElem?_toArray, List.getElem?_cons_succ, List.getElem?_cons_zero]; exact rfl) ?_
        refine (wpList_make_z rfl _ _ 26 rfl v56.heap.size i0 Tryd.underlying26 hi hz0 hz1 hz2 .i64 .i64 63 63 63 rfl rfl rfl rfl (by omega) (Nat.le_refl _) ?_)
        intro v57 ho hg
        have cv := cv_all (.inr ho.sl) hX.out
        clear ho
        generalize v56.heap.size = zb at *
        go_wp2_with fail
        refine ⟨hg, ?_⟩
        try simp only [Act.put, List.setIfInBounds_toArray, List.set_cons_succ, List.set_cons_zero]
        have G' := Lib.hid (gtrans G56.out hg)
        clear hg
        have CV := Lib.hid cv
        clear cv
        refine wpUr_quiet rfl ?_
        simp only [List.filterMap_cons, List.filterMap_nil, List.getElem?_toArray, List.getElem?_cons_succ, List.getElem?_cons_zero]
        show wpQuiet _ _ _ _ [_, _, _, _, _, _] _
        have cv := CV.out
        have q_nl4 := nl4.out
        have q_eA3 := eA3.out
        have q_nl5 := nl5.out
        have q_eF3 := eF3.out
        have q_nl6 := nl6.out
        have q_eA4 := eA4.out
        have q_nl7 := nl7.out
        have q_fc := fc.out
        repeat (go_big_quiet_step (fail))
        refine wpQuiet_nil ?_
        clear cv CV q_nl4 q_eA3 q_nl5 q_eF3 q_nl6 q_eA4 q_nl7 q_fc
        have G57 := G'
        clear G'
        refine wpUr_done ?_
        go_wp2_with fail
        exact HK.out _ _ _ _ _ _ _ _ _ _ _ _ _ _ _ _ _ G57.out
      · skip
        refine (wpList_make_z rfl _ _ 26 rfl v55.heap.size i0 Tryd.underlying26 hi hz0 hz1 hz2 .i64 .i64 63 63 63 rfl rfl rfl rfl (by omega) (Nat.le_refl _) ?_)
        intro v58 ho hg
        have cv := cv_all (.inr ho.sl) hX.out
        clear ho
        generalize v55.heap.size = zb at *
        go_wp2_with fail
        refine ⟨hg, ?_⟩
        try simp only [Act.put, List.setIfInBounds_toArray, List.set_cons_succ, List.set_cons_zero]
        have G' := Lib.hid (gtrans G55.out hg)
        clear hg
        have CV := Lib.hid cv
        clear cv
        refine wpUr_quiet rfl ?_
        simp only [List.filterMap_cons, List.filterMap_nil, List.getElem?_toArray, List.getElem?_cons_succ, List.getElem?_cons_zero]
        show wpQuiet _ _ _ _ [_] _
        have cv := CV.out
        repeat (go_big_quiet_step (fail))
        refine wpQuiet_nil ?_
        clear cv CV 
        have G58 := G'
        clear G'
        refine wpUr_one (by simp only [List.getElem?_toArray, List.getElem?_cons_zero]; exact rfl) ?_
        refine (wpList_make_z rfl _ _ 26 rfl v58.heap.size i0 Tryd.underlying26 hi hz0 hz1 hz2 .i64 .i64 63 63 63 rfl rfl rfl rfl (by omega) (Nat.le_refl _) ?_)
        intro v59 ho hg
        have cv := cv_all (.inr ho.sl) hX.out
        clear ho
        generalize v58.heap.size = zb at *
        go_wp2_with fail
        refine ⟨hg, ?_⟩
        try simp only [Act.put, List.setIfInBounds_toArray, List.set_cons_succ, List.set_cons_zero]
        have G' := Lib.hid (gtrans G58.out hg)
        clear hg
        have CV := Lib.hid cv
        clear cv
        refine wpUr_quiet rfl ?_
        simp only [List.filterMap_cons, List.filterMap_nil, List.getElem?_toArray, List.getElem?_cons_succ, List.getElem?_cons_zero]
        show wpQuiet _ _ _ _ [_, _, _, _, _, _, _, _, _, _] _
        have cv := CV.out
        have q_nl0 := nl0.out
        have q_eA1 := eA1.out
        have q_nl1 := nl1.out
        have q_eF1 := eF1.out
        have q_nl2 := nl2.out
        have q_eA2 := eA2.out
        have q_nl3 := nl3.out
        have q_eF2 := eF2.out
        have q_nl4 := nl4.out
        have q_eA3 := eA3.out
        have q_nl5 := nl5.out
        have q_eF3 := eF3.out
        have q_nl6 := nl6.out
        have q_eA4 := eA4.out
        have q_nl7 := nl7.out
        have q_fc := fc.out
        repeat (go_big_quiet_step (fail))
        refine wpQuiet_nil ?_
        clear cv CV q_nl0 q_eA1 q_nl1 q_eF1 q_nl2 q_eA2 q_nl3 q_eF2 q_nl4 q_eA3 q_nl5 q_eF3 q_nl6 q_eA4 q_nl7 q_fc
        have G59 := G'
        clear G'
        refine wpUr_done ?_
        go_wp2_with fail
        exact HK.out _ _ _ _ _ _ _ _ _ _ _ _ _ _ _ _ _ G59.out
    · skip
      refine (wpList_make_z rfl _ _ 26 rfl v49.heap.size i0 Tryd.underlying26 hi hz0 hz1 hz2 .i64 .i64 63 63 63 rfl rfl rfl rfl (by omega) (Nat.le_refl _) ?_)
      intro v60 ho hg
      have cv := cv_all (.inr ho.sl) hX.out
      clear ho
      generalize v49.heap.size = zb at *
      go_wp2_with fail
      refine ⟨hg, ?_⟩
      try simp only [Act.put, List.setIfInBounds_toArray, List.set_cons_succ, List.set_cons_zero]
      have G' := Lib.hid (gtrans G49.out hg)
      clear hg
      have CV := Lib.hid cv
      clear cv
      refine wpUr_quiet rfl ?_
      simp only [List.filterMap_cons, List.filterMap_nil, List.getElem?_toArray, List.getElem?_cons_succ, List.getElem?_cons_zero]
      show wpQuiet _ _ _ _ [_] _
      have cv := CV.out
      repeat (go_big_quiet_step (fail))
      refine wpQuiet_nil ?_
      clear cv CV 
      have G60 := G'
      clear G'
      refine wpUr_two (by simp only [List.getElem?_toArray, List.getElem?_cons_zero]; exact rfl) (by simp only [List.getElem?_toArray, List.getElem?_cons_succ, List.getElem?_cons_zero]; exact rfl) ?_ ?_
      · skip
        refine (wpList_make_z rfl _ _ 26 rfl v60.heap.size i0 Tryd.underlying26 hi hz0 hz1 hz2 .i64 .i64 63 63 63 rfl rfl rfl rfl (by omega) (Nat.le_refl _) ?_)
        intro v61 ho hg
        have cv := cv_all (.inr ho.sl) hX.out
        clear ho
        generalize v60.heap.size = zb at *
        go_wp2_with fail
        refine ⟨hg, ?_⟩
        try simp only [Act.put, List.setIfInBounds_toArray, List.set_cons_succ, List.set_cons_zero]
        have G' := Lib.hid (gtrans G60.out hg)
        clear hg
        have CV := Lib.hid cv
        clear cv
        refine wpUr_quiet rfl ?_
        simp only [List.filterMap_cons, List.filterMap_nil, List.getElem?_toArray, List.getElem?_cons_succ, List.getElem?_cons_zero]
        show wpQuiet _ _ _ _ [_, _, _] _
        have cv := CV.out
        have q_nl0 := nl0.out
        have q_eA1 := eA1.out
        have q_nl1 := nl1.out
        have q_eF1 := eF1.out
        repeat (go_big_quiet_step (fail))
        refine wpQuiet_nil ?_
        clear cv CV q_nl0 q_eA1 q_nl1 q_eF1
        have G61 := G'
        clear G'
        refine wpUr_one (by simp only [List.getElem?_toArray, List.getElem?_cons_succ, List.getElem?_cons_zero]; exact rfl) ?_
        refine (wpList_make_z rfl _ _ 26 rfl v61.heap.size i0 Tryd.underlying26 hi hz0 hz1 hz2 .i64 .i64 63 63 63 rfl rfl rfl rfl (by omega) (Nat.le_refl _) ?_)
        intro v62 ho hg
        have cv := cv_all (.inr ho.sl) hX.out
        clear ho
        generalize v61.heap.size = zb at *
        go_wp2_with fail
        refine ⟨hg, ?_⟩
        try simp only [Act.put, List.setIfInBounds_toArray, List.set_cons_succ, List.set_cons_zero]
        have G' := Lib.hid (gtrans G61.out hg)
        clear hg
        have CV := Lib.hid cv
        clear cv
        refine wpUr_quiet rfl ?_
        simp only [List.filterMap_cons, List.filterMap_nil, List.getElem?_toArray, List.getElem?_cons_succ, List.getElem?_cons_zero]
        show wpQuiet _ _ _ _ [_, _, _, _, _, _, _, _] _
        have cv := CV.out
        have q_nl2 := nl2.out
        have q_eA2 := eA2.out
        have q_nl3 := nl3.out
        have q_eF2 := eF2.out
        have q_nl4 := nl4.out
        have q_eA3 := eA3.out
        have q_nl5 := nl5.out
        have q_eF3 := eF3.out
        have q_nl6 := nl6.out
        have q_eA4 := eA4.out
        have q_nl7 := nl7.out
        have q_fc := fc.out
        repeat (go_big_quiet_step (fail))
        refine wpQuiet_nil ?_
        clear cv CV q_nl2 q_eA2 q_nl3 q_eF2 q_nl4 q_eA3 q_nl5 q_eF3 q_nl6 q_eA4 q_nl7 q_fc
        have G62 := G'
        clear G'
        refine wpUr_done ?_
        go_wp2_with fail
        exact HK.out _ _ _ _ _ _ _ _ _ _ _ _ _ _ _ _ _ G62.out
      · skip
        refine (wpList_make_z rfl _ _ 26 rfl v60.heap.size i0 Tryd.underlying26 hi hz0 hz1 hz2 .i64 .i64 63 63 63 rfl rfl rfl rfl (by omega) (Nat.le_refl _) ?_)
        intro v63 ho hg
        have cv := cv_all (.inr ho.sl) hX.out
        clear ho
        generalize v60.heap.size = zb at *
        go_wp2_with fail
        refine ⟨hg, ?_⟩
        try simp only [Act.put, List.setIfInBounds_toArray, List.set_cons_succ, List.set_cons_zero]
        have G' := Lib.hid (gtrans G60.out hg)
        clear hg
        have CV := Lib.hid cv
        clear cv
        refine wpUr_quiet rfl ?_
        simp only [List.filterMap_cons, List.filterMap_nil, List.getElem?_toArray, List.getElem?_cons_succ, List.getElem?_cons_zero]
        show wpQuiet _ _ _ _ [_] _
        have cv := CV.out
        repeat (go_big_quiet_step (fail))
        refine wpQuiet_nil ?_
        clear cv CV 
        have G63 := G'
        clear G'
        refine wpUr_one (by simp only [List.getElem?_toArray, List.getElem?_cons_zero]; exact rfl) ?_
        refine (wpList_make_z rfl _ _ 26 rfl v63.heap.size i0 Tryd.underlying26 hi hz0 hz1 hz2 .i64 .i64 63 63 63 rfl rfl rfl rfl (by omega) (Nat.le_refl _) ?_)
        intro v64 ho hg
        have cv := cv_all (.inr ho.sl) hX.out
        clear ho
        generalize v63.heap.size = zb at *
        go_wp2_with fail
        refine ⟨hg, ?_⟩
        try simp only [Act.put, List.setIfInBounds_toArray, List.set_cons_succ, List.set_cons_zero]
        have G' := Lib.hid (gtrans G63.out hg)
        clear hg
        have CV := Lib.hid cv
        clear cv
        refine wpUr_quiet rfl ?_
        simp only [List.filterMap_cons, List.filterMap_nil, List.getElem?_toArray, List.getElem?_cons_succ, List.getElem?_cons_zero]
        show wpQuiet _ _ _ _ [_, _, _, _, _, _, _, _, _, _] _
        have cv := CV.out
        have q_nl0 := nl0.out
        have q_eA1 := eA1.out
        have q_nl1 := nl1.out
        have q_eF1 := eF1.out
        have q_nl2 := nl2.out
        have q_eA2 := eA2.out
        have q_nl3 := nl3.out
        have q_eF2 := eF2.out
        have q_nl4 := nl4.out
        have q_eA3 := eA3.out
        have q_nl5 := nl5.out
        have q_eF3 := eF3.out
        have q_nl6 := nl6.out
        have q_eA4 := eA4.out
        have q_nl7 := nl7.out
        have q_fc := fc.out
        repeat (go_big_quiet_step (fail))
        refine wpQuiet_nil ?_
        clear cv CV q_nl0 q_eA1 q_nl1 q_eF1 q_nl2 q_eA2 q_nl3 q_eF2 q_nl4 q_eA3 q_nl5 q_eF3 q_nl6 q_eA4 q_nl7 q_fc
        have G64 := G'
        clear G'
        refine wpUr_done ?_
        go_wp2_with fail
        exact HK.out _ _ _ _ _ _ _ _ _ _ _ _ _ _ _ _ _ G64.out
end Go.Proofs.YthgendgmlpaglaaDoor
