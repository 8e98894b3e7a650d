/-
  Intake: IntakeNames, in parts.
  Intake: IntakeNames, in parts.
-/
import Derived.Test.YtkhigfbmdolgmaaGreatDoorA27
namespace Go.Proofs.YtkhigfbmdolgmaaGreatDoor
open Go.RowKit

set_option maxRecDepth 100000 in
set_option maxHeartbeats 16000000 in
theorem inames_rows {K : Act → World → Prop} {Q : Exit → Act → World → Prop} {c7 c8 c9 c10 c11 c12 c13 c14 c15 c16 c17 c18 c19 c20 c21 c22 c23 c24 c25 c26 c27 c28 c29 c30 c31 c32 c33 c34 c35 c36 c37 c38 c39 c40 c41 c42 c43 c44 c45 c46 c47 c48 c49 c50 c51 c52 c53 c54 c55 c56 c57 c58 c59 c60 c61 c62 c63 c64 c65 c66 c67 c68 c69 c70 c71 c72 c73 c74 c75 c76 c77 c78 c79 c80 c81 c82 c83 c84 c85 c86 c87 c88 c89 c90 c91 c92 c93 c94 c95 c96 c97 c98 c99 c100 c101 c102 c103 c104 c105 c106 c107 c108 c109 c110 c111 c112 c113 c114 c115 c116 c117 c118 c119 c120 c121 c122 c123 c124 c125 c126 c127 c128 c129 c130 c131 c132 c133 c134 c135 c136 c137 c138 c139 c140 c141 c142 c143 c144 c145 c146 c147 c148 c149 c150 c151 c152 c153 c154 c155 c156 c157 c158 c159 c160 c161 c162 c163 c164 c165 c166 c167 c168 c169 c170 c171 c172 c173 c174 c175 c176 c177 c178 c179 c180 c181 c182 c183 c184 c185 c186 c187 c188 c189 c190 c191 c192 c193 c194 c195 c196 c197 c198 c199 c200 c201 c202 c203 c204 c205 c206 c207 c208 c209 c210 c211 c212 c213 c214 c215 c216 c217 c218 c219 c220 c221 c222 c223 c224 c225 c226 c227 c228 c229 c230 c231 c232 c233 c234 c235 c236 c237 c238 c239 c240 c241 c242 c243 c244 c245 c246 c247 c248 c249 c250 c251 c252 c253 c254 c255 : Value} (w0 : World) (b1 b2 b3 b4 b5 b6 : Nat) (R1 R2 R3 R4 R5 R6 : Array Value) (s6 s5 s4 s3 s2 s1 a1 a2 a3 a4 a5 a6 a7 a8 a9 : ByteArray)
    (hB1 : w0.heap[b1]? = some (.cells R1 32 (0, 0))) (hS1 : R1.size = 21) (hB2 : w0.heap[b2]? = some (.cells R2 32 (0, 0))) (hS2 : R2.size = 21) (hB3 : w0.heap[b3]? = some (.cells R3 32 (0, 0))) (hS3 : R3.size = 21) (hB4 : w0.heap[b4]? = some (.cells R4 32 (0, 0))) (hS4 : R4.size = 21) (hB5 : w0.heap[b5]? = some (.cells R5 32 (0, 0))) (hS5 : R5.size = 21) (hB6 : w0.heap[b6]? = some (.cells R6 32 (0, 0))) (hS6 : R6.size = 21) (BY1 : ∀ w' : World, w0.grownBy w' none → Calls Tryz.prog 6 #[.agg R1] w' fun e w'' => e = .returned (.string s1) ∧ w'.grownBy w'' none) (BY2 : ∀ w' : World, w0.grownBy w' none → Calls Tryz.prog 6 #[.agg R2] w' fun e w'' => e = .returned (.string s2) ∧ w'.grownBy w'' none) (BY3 : ∀ w' : World, w0.grownBy w' none → Calls Tryz.prog 6 #[.agg R3] w' fun e w'' => e = .returned (.string s3) ∧ w'.grownBy w'' none) (BY4 : ∀ w' : World, w0.grownBy w' none → Calls Tryz.prog 6 #[.agg R4] w' fun e w'' => e = .returned (.string s4) ∧ w'.grownBy w'' none) (BY5 : ∀ w' : World, w0.grownBy w' none → Calls Tryz.prog 6 #[.agg R5] w' fun e w'' => e = .returned (.string s5) ∧ w'.grownBy w'' none) (BY6 : ∀ w' : World, w0.grownBy w' none → Calls Tryz.prog 6 #[.agg R6] w' fun e w'' => e = .returned (.string s6) ∧ w'.grownBy w'' none) (AK1 : ∀ (w' : World) (g : Nat), w'.heap[g]? = some (.cells #[.string ⟨#[0]⟩, .int .u16 ((0 : Nat) : Int), .int .u16 ((1 : Nat) : Int)] 35 (0, 0)) → Calls Tryz.prog 6 #[.agg (row25 false 0 false 0 0 (.slice (some ⟨g, 0, none⟩) 1 1))] w' fun e w'' => e = .returned (.string a1) ∧ w'.grownBy w'' none) (AK2 : ∀ (w' : World) (g : Nat), w'.heap[g]? = some (.cells #[.string ⟨#[0]⟩, .int .u16 ((1 : Nat) : Int), .int .u16 ((1 : Nat) : Int)] 35 (0, 0)) → Calls Tryz.prog 6 #[.agg (row25 false 0 false 0 0 (.slice (some ⟨g, 0, none⟩) 1 1))] w' fun e w'' => e = .returned (.string a2) ∧ w'.grownBy w'' none) (AK3 : ∀ (w' : World) (g : Nat), w'.heap[g]? = some (.cells #[.string ⟨#[0]⟩, .int .u16 ((41 : Nat) : Int), .int .u16 ((1 : Nat) : Int)] 35 (0, 0)) → Calls Tryz.prog 6 #[.agg (row25 false 0 false 0 0 (.slice (some ⟨g, 0, none⟩) 1 1))] w' fun e w'' => e = .returned (.string a3) ∧ w'.grownBy w'' none) (AK4 : ∀ (w' : World) (g : Nat), w'.heap[g]? = some (.cells #[.string ⟨#[0]⟩, .int .u16 ((248 : Nat) : Int), .int .u16 ((1 : Nat) : Int)] 35 (0, 0)) → Calls Tryz.prog 6 #[.agg (row25 false 0 false 0 0 (.slice (some ⟨g, 0, none⟩) 1 1))] w' fun e w'' => e = .returned (.string a4) ∧ w'.grownBy w'' none) (AK5 : ∀ (w' : World) (g : Nat), w'.heap[g]? = some (.cells #[.string ⟨#[0]⟩, .int .u16 ((249 : Nat) : Int), .int .u16 ((1 : Nat) : Int)] 35 (0, 0)) → Calls Tryz.prog 6 #[.agg (row25 false 0 false 0 0 (.slice (some ⟨g, 0, none⟩) 1 1))] w' fun e w'' => e = .returned (.string a5) ∧ w'.grownBy w'' none) (AK6 : ∀ (w' : World) (g : Nat), w'.heap[g]? = some (.cells #[.string ⟨#[0]⟩, .int .u16 ((255 : Nat) : Int), .int .u16 ((1 : Nat) : Int)] 35 (0, 0)) → Calls Tryz.prog 6 #[.agg (row25 false 0 false 0 0 (.slice (some ⟨g, 0, none⟩) 1 1))] w' fun e w'' => e = .returned (.string a6) ∧ w'.grownBy w'' none) (AK7 : ∀ (w' : World) (g : Nat), w'.heap[g]? = some (.cells #[.string ⟨#[0]⟩, .int .u16 ((256 : Nat) : Int), .int .u16 ((1 : Nat) : Int)] 35 (0, 0)) → Calls Tryz.prog 6 #[.agg (row25 false 0 false 0 0 (.slice (some ⟨g, 0, none⟩) 1 1))] w' fun e w'' => e = .returned (.string a7) ∧ w'.grownBy w'' none) (AK8 : ∀ (w' : World) (g : Nat), w'.heap[g]? = some (.cells #[.string ⟨#[0]⟩, .int .u16 ((1 : Nat) : Int), .int .u16 ((3 : Nat) : Int)] 35 (0, 0)) → Calls Tryz.prog 6 #[.agg (row25 false 0 false 0 0 (.slice (some ⟨g, 0, none⟩) 1 1))] w' fun e w'' => e = .returned (.string a8) ∧ w'.grownBy w'' none) (AK9 : ∀ (w' : World) (g : Nat), w'.heap[g]? = some (.cells #[.string ⟨#[0]⟩, .int .u16 ((1 : Nat) : Int), .int .u16 ((255 : Nat) : Int)] 35 (0, 0)) → Calls Tryz.prog 6 #[.agg (row25 false 0 false 0 0 (.slice (some ⟨g, 0, none⟩) 1 1))] w' fun e w'' => e = .returned (.string a9) ∧ w'.grownBy w'' none) (SZ5 : 12 ≤ s5.size) (SZ1 : s1.size ≤ 65535)
    (hK : ∀ (u49 u50 u51 u52 u53 u54 u55 u56 u57 u58 u59 u60 u61 u62 u63 u64 u65 u66 u67 u68 u69 u70 u71 u72 u73 u74 u75 u76 u77 u78 u79 u80 u81 u82 u83 u84 u85 u86 u87 u88 u89 u90 u91 u92 u93 u94 u95 u96 u97 u98 u99 u100 u101 u102 u103 u104 u105 u106 v107 v108 v109 : Value) (wx : World), P16 w0 (rowsV s6 s5 s4 s3 s2 s1 a1 a2 a3 a4 a5 a6 a7 a8 a9) v107 v108 v109 wx → K ⟨#[.bool false, .pointer (some ⟨b1, 0, none⟩), .pointer (some ⟨b2, 0, none⟩), .pointer (some ⟨b3, 0, none⟩), .pointer (some ⟨b4, 0, none⟩), .pointer (some ⟨b5, 0, none⟩), .pointer (some ⟨b6, 0, none⟩), c7, c8, c9, c10, c11, c12, c13, c14, c15, c16, c17, c18, c19, c20, c21, c22, c23, c24, c25, c26, c27, c28, c29, c30, c31, c32, c33, c34, c35, c36, c37, c38, c39, c40, c41, c42, c43, c44, c45, c46, c47, c48, u49, u50, u51, u52, u53, u54, u55, u56, u57, u58, u59, u60, u61, u62, u63, u64, u65, u66, u67, u68, u69, u70, u71, u72, u73, u74, u75, u76, u77, u78, u79, u80, u81, u82, u83, u84, u85, u86, u87, u88, u89, u90, u91, u92, u93, u94, u95, u96, u97, u98, u99, u100, u101, u102, u103, u104, u105, u106, v107, v108, v109, c110, c111, c112, c113, c114, c115, c116, c117, c118, c119, c120, c121, c122, c123, c124, c125, c126, c127, c128, c129, c130, c131, c132, c133, c134, c135, c136, c137, c138, c139, c140, c141, c142, c143, c144, c145, c146, c147, c148, c149, c150, c151, c152, c153, c154, c155, c156, c157, c158, c159, c160, c161, c162, c163, c164, c165, c166, c167, c168, c169, c170, c171, c172, c173, c174, c175, c176, c177, c178, c179, c180, c181, c182, c183, c184, c185, c186, c187, c188, c189, c190, c191, c192, c193, c194, c195, c196, c197, c198, c199, c200, c201, c202, c203, c204, c205, c206, c207, c208, c209, c210, c211, c212, c213, c214, c215, c216, c217, c218, c219, c220, c221, c222, c223, c224, c225, c226, c227, c228, c229, c230, c231, c232, c233, c234, c235, c236, c237, c238, c239, c240, c241, c242, c243, c244, c245, c246, c247, c248, c249, c250, c251, c252, c253, c254, c255], []⟩ wx) :
    Code.wp Tryz.prog (cFst (cFst (cTail 15 (Tryz.f3.body.getD .skip)))) (Exit.then K Q) ⟨#[.bool false, .pointer (some ⟨b1, 0, none⟩), .pointer (some ⟨b2, 0, none⟩), .pointer (some ⟨b3, 0, none⟩), .pointer (some ⟨b4, 0, none⟩), .pointer (some ⟨b5, 0, none⟩), .pointer (some ⟨b6, 0, none⟩), c7, c8, c9, c10, c11, c12, c13, c14, c15, c16, c17, c18, c19, c20, c21, c22, c23, c24, c25, c26, c27, c28, c29, c30, c31, c32, c33, c34, c35, c36, c37, c38, c39, c40, c41, c42, c43, c44, c45, c46, c47, c48, c49, c50, c51, c52, c53, c54, c55, c56, c57, c58, c59, c60, c61, c62, c63, c64, c65, c66, c67, c68, c69, c70, c71, c72, c73, c74, c75, c76, c77, c78, c79, c80, c81, c82, c83, c84, c85, c86, c87, c88, c89, c90, c91, c92, c93, c94, c95, c96, c97, c98, c99, c100, c101, c102, c103, c104, c105, c106, c107, c108, c109, c110, c111, c112, c113, c114, c115, c116, c117, c118, c119, c120, c121, c122, c123, c124, c125, c126, c127, c128, c129, c130, c131, c132, c133, c134, c135, c136, c137, c138, c139, c140, c141, c142, c143, c144, c145, c146, c147, c148, c149, c150, c151, c152, c153, c154, c155, c156, c157, c158, c159, c160, c161, c162, c163, c164, c165, c166, c167, c168, c169, c170, c171, c172, c173, c174, c175, c176, c177, c178, c179, c180, c181, c182, c183, c184, c185, c186, c187, c188, c189, c190, c191, c192, c193, c194, c195, c196, c197, c198, c199, c200, c201, c202, c203, c204, c205, c206, c207, c208, c209, c210, c211, c212, c213, c214, c215, c216, c217, c218, c219, c220, c221, c222, c223, c224, c225, c226, c227, c228, c229, c230, c231, c232, c233, c234, c235, c236, c237, c238, c239, c240, c241, c242, c243, c244, c245, c246, c247, c248, c249, c250, c251, c252, c253, c254, c255], []⟩ w0 := by
  conv => arg 2; whnf
  have G := Lib.hid (grefl w0 none)
  have B1 := Lib.hid hB1
  have B2 := Lib.hid hB2
  have B3 := Lib.hid hB3
  have B4 := Lib.hid hB4
  have B5 := Lib.hid hB5
  have B6 := Lib.hid hB6
  have BY1 := Lib.hid BY1
  have BY2 := Lib.hid BY2
  have BY3 := Lib.hid BY3
  have BY4 := Lib.hid BY4
  have BY5 := Lib.hid BY5
  have BY6 := Lib.hid BY6
  have AK1 := Lib.hid AK1
  have AK2 := Lib.hid AK2
  have AK3 := Lib.hid AK3
  have AK4 := Lib.hid AK4
  have AK5 := Lib.hid AK5
  have AK6 := Lib.hid AK6
  have AK7 := Lib.hid AK7
  have AK8 := Lib.hid AK8
  have AK9 := Lib.hid AK9
  have SZ5 := Lib.hid SZ5
  have SZ1 := Lib.hid SZ1
  have HK := Lib.hid hK
  clear hK hB1 hB2 hB3 hB4 hB5 hB6
  have hg : w0.grownBy w0.drew none := gdrew (grefl _ none)
  refine wp_region_trH w0.drew.heap.size (.quiet [0, 3, 6, 10, 14, 17, 20, 23, 26, 57, 60] (.one 1 (.quiet [2] (.one 4 (.quiet [5] (.one 7 (.quiet [8, 9] (.one 11 (.quiet [12, 13] (.one 15 (.quiet [16] (.one 18 (.quiet [19] (.one 21 (.quiet [22] (.one 24 (.quiet [25] (.one 27 (.quiet [28, 29] (.one 30 (.one 31 (.quiet [32] (.one 33 (.one 34 (.quiet [35] (.one 36 (.one 37 (.quiet [38] (.one 39 (.one 40 (.quiet [41] (.one 42 (.one 43 (.quiet [44] (.one 45 (.one 46 (.quiet [47] (.one 48 (.one 49 (.quiet [50] (.one 51 (.one 52 (.quiet [53] (.one 54 (.one 55 (.quiet [56] (.one 58 (.one 59 .done)))))))))))))))))))))))))))))))))))))))))))))))) (by kernel_rfl) (by kernel_rfl) ?_
  have GW := Lib.hid (show w0.grownBy w0.drew none from hg)
  have G' := Lib.hid (gtrans G.out hg)
  have B1' := Lib.hid (gblock hg B1.out (by simp))
  have B2' := Lib.hid (gblock hg B2.out (by simp))
  have B3' := Lib.hid (gblock hg B3.out (by simp))
  have B4' := Lib.hid (gblock hg B4.out (by simp))
  have B5' := Lib.hid (gblock hg B5.out (by simp))
  have B6' := Lib.hid (gblock hg B6.out (by simp))
  clear hg G B1 B2 B3 B4 B5 B6
  have G := G'
  have B1 := B1'
  have B2 := B2'
  have B3 := B3'
  have B4 := B4'
  have B5 := B5'
  have B6 := B6'
  clear G' B1' B2' B3' B4' B5' B6'
  generalize w0.drew = wd at *
  have LD1 := Lib.hid (fun (w' : World) (hh : ∃ gg : GrB wd.heap.size wd, w' = gg.w) => (by obtain ⟨gg, rfl⟩ := hh; exact (gg.h.block b1 (blt B1.out)).trans B1.out : w'.heap[b1]? = some (.cells R1 32 (0, 0))))
  have LD2 := Lib.hid (fun (w' : World) (hh : ∃ gg : GrB wd.heap.size wd, w' = gg.w) => (by obtain ⟨gg, rfl⟩ := hh; exact (gg.h.block b2 (blt B2.out)).trans B2.out : w'.heap[b2]? = some (.cells R2 32 (0, 0))))
  have LD3 := Lib.hid (fun (w' : World) (hh : ∃ gg : GrB wd.heap.size wd, w' = gg.w) => (by obtain ⟨gg, rfl⟩ := hh; exact (gg.h.block b3 (blt B3.out)).trans B3.out : w'.heap[b3]? = some (.cells R3 32 (0, 0))))
  have LD4 := Lib.hid (fun (w' : World) (hh : ∃ gg : GrB wd.heap.size wd, w' = gg.w) => (by obtain ⟨gg, rfl⟩ := hh; exact (gg.h.block b4 (blt B4.out)).trans B4.out : w'.heap[b4]? = some (.cells R4 32 (0, 0))))
  have LD5 := Lib.hid (fun (w' : World) (hh : ∃ gg : GrB wd.heap.size wd, w' = gg.w) => (by obtain ⟨gg, rfl⟩ := hh; exact (gg.h.block b5 (blt B5.out)).trans B5.out : w'.heap[b5]? = some (.cells R5 32 (0, 0))))
  have LD6 := Lib.hid (fun (w' : World) (hh : ∃ gg : GrB wd.heap.size wd, w' = gg.w) => (by obtain ⟨gg, rfl⟩ := hh; exact (gg.h.block b6 (blt B6.out)).trans B6.out : w'.heap[b6]? = some (.cells R6 32 (0, 0))))
  refine wpTr_quiet rfl ?_
  simp only [List.filterMap_cons, List.filterMap_nil, List.getElem?_toArray, List.getElem?_cons_succ, List.getElem?_cons_zero]
  show wpQuiet _ _ _ _ [_, _, _, _, _, _, _, _, _, _, _] _
  refine wpQuiet_load_row rfl 32 _ rfl b6 rfl _ _ _ _ LD6.out Tryz.underlying32 rfl (by rw [hS6]; kernel_rfl) ?_
  simp only [Act.put, List.setIfInBounds_toArray, List.set_cons_succ, List.set_cons_zero]
  refine wpQuiet_load_row rfl 32 _ rfl b5 rfl _ _ _ _ LD5.out Tryz.underlying32 rfl (by rw [hS5]; kernel_rfl) ?_
  simp only [Act.put, List.setIfInBounds_toArray, List.set_cons_succ, List.set_cons_zero]
  refine wpQuiet_load_row rfl 32 _ rfl b5 rfl _ _ _ _ LD5.out Tryz.underlying32 rfl (by rw [hS5]; kernel_rfl) ?_
  simp only [Act.put, List.setIfInBounds_toArray, List.set_cons_succ, List.set_cons_zero]
  refine wpQuiet_load_row rfl 32 _ rfl b5 rfl _ _ _ _ LD5.out Tryz.underlying32 rfl (by rw [hS5]; kernel_rfl) ?_
  simp only [Act.put, List.setIfInBounds_toArray, List.set_cons_succ, List.set_cons_zero]
  refine wpQuiet_load_row rfl 32 _ rfl b4 rfl _ _ _ _ LD4.out Tryz.underlying32 rfl (by rw [hS4]; kernel_rfl) ?_
  simp only [Act.put, List.setIfInBounds_toArray, List.set_cons_succ, List.set_cons_zero]
  refine wpQuiet_load_row rfl 32 _ rfl b3 rfl _ _ _ _ LD3.out Tryz.underlying32 rfl (by rw [hS3]; kernel_rfl) ?_
  simp only [Act.put, List.setIfInBounds_toArray, List.set_cons_succ, List.set_cons_zero]
  refine wpQuiet_load_row rfl 32 _ rfl b2 rfl _ _ _ _ LD2.out Tryz.underlying32 rfl (by rw [hS2]; kernel_rfl) ?_
  simp only [Act.put, List.setIfInBounds_toArray, List.set_cons_succ, List.set_cons_zero]
  refine wpQuiet_load_row rfl 32 _ rfl b1 rfl _ _ _ _ LD1.out Tryz.underlying32 rfl (by rw [hS1]; kernel_rfl) ?_
  simp only [Act.put, List.setIfInBounds_toArray, List.set_cons_succ, List.set_cons_zero]
  refine wpQuiet_load_row rfl 32 _ rfl b1 rfl _ _ _ _ LD1.out Tryz.underlying32 rfl (by rw [hS1]; kernel_rfl) ?_
  simp only [Act.put, List.setIfInBounds_toArray, List.set_cons_succ, List.set_cons_zero]
  go_big_quiet_step (fail)
  go_big_quiet_step (fail)
  refine wpQuiet_nil ?_
  clear LD1 LD2 LD3 LD4 LD5 LD6
  have X0 := Lib.hid (grefl wd none)
  refine wpTr_one (by simp only [List.getElem?_toArray, List.getElem?_cons_succ, List.getElem?_cons_zero]; exact rfl) ?_
  go_wp2_with fail
  refine Calls.mono (BY6.out wd (gtrans GW.out X0.out)) ?_
  rintro e z1 ⟨rfl, hg⟩
  go_wp2_with fail
  refine ⟨KB.of hg X0.out.size, ?_⟩
  have X1 := Lib.hid (gtrans X0.out hg)
  clear X0 hg
  have X0 := X1
  clear X1
  refine wpTr_quiet rfl ?_
  simp only [List.filterMap_cons, List.filterMap_nil, List.getElem?_toArray, List.getElem?_cons_succ, List.getElem?_cons_zero]
  show wpQuiet _ _ _ _ [_] _
  repeat (go_big_quiet_step (fail))
  refine wpQuiet_nil ?_
  refine wpTr_one (by simp only [List.getElem?_toArray, List.getElem?_cons_succ, List.getElem?_cons_zero]; exact rfl) ?_
  go_wp2_with fail
  refine Calls.mono (BY5.out z1 (gtrans GW.out X0.out)) ?_
  rintro e z2 ⟨rfl, hg⟩
  go_wp2_with fail
  refine ⟨KB.of hg X0.out.size, ?_⟩
  have X1 := Lib.hid (gtrans X0.out hg)
  clear X0 hg
  have X0 := X1
  clear X1
  refine wpTr_quiet rfl ?_
  simp only [List.filterMap_cons, List.filterMap_nil, List.getElem?_toArray, List.getElem?_cons_succ, List.getElem?_cons_zero]
  show wpQuiet _ _ _ _ [_] _
  repeat (go_big_quiet_step (fail))
  refine wpQuiet_nil ?_
  refine wpTr_one (by simp only [List.getElem?_toArray, List.getElem?_cons_succ, List.getElem?_cons_zero]; exact rfl) ?_
  go_wp2_with fail
  refine Calls.mono (BY5.out z2 (gtrans GW.out X0.out)) ?_
  rintro e z3 ⟨rfl, hg⟩
  go_wp2_with fail
  refine ⟨KB.of hg X0.out.size, ?_⟩
  have X1 := Lib.hid (gtrans X0.out hg)
  clear X0 hg
  have X0 := X1
  clear X1
  have q0 : (12 : Int) ≤ (s5.size : Int) := by have := SZ5.out; omega
  have q1 : (11 : Int) ≤ (s5.size : Int) := by have := SZ5.out; omega
  refine wpTr_quiet rfl ?_
  simp only [List.filterMap_cons, List.filterMap_nil, List.getElem?_toArray, List.getElem?_cons_succ, List.getElem?_cons_zero]
  show wpQuiet _ _ _ _ [_, _] _
  repeat (go_big_quiet_step (fail))
  refine wpQuiet_nil ?_
  clear q0 q1
  refine wpTr_one (by simp only [List.getElem?_toArray, List.getElem?_cons_succ, List.getElem?_cons_zero]; exact rfl) ?_
  go_wp2_with fail
  refine Calls.mono (BY5.out z3 (gtrans GW.out X0.out)) ?_
  rintro e z4 ⟨rfl, hg⟩
  go_wp2_with fail
  refine ⟨KB.of hg X0.out.size, ?_⟩
  have X1 := Lib.hid (gtrans X0.out hg)
  clear X0 hg
  have X0 := X1
  clear X1
  have q0 : (12 : Int) ≤ (s5.size : Int) := by have := SZ5.out; omega
  have q1 : (11 : Int) ≤ (s5.size : Int) := by have := SZ5.out; omega
  refine wpTr_quiet rfl ?_
  simp only [List.filterMap_cons, List.filterMap_nil, List.getElem?_toArray, List.getElem?_cons_succ, List.getElem?_cons_zero]
  show wpQuiet _ _ _ _ [_, _] _
  repeat (go_big_quiet_step (fail))
  refine wpQuiet_nil ?_
  clear q0 q1
  refine wpTr_one (by simp only [List.getElem?_toArray, List.getElem?_cons_succ, List.getElem?_cons_zero]; exact rfl) ?_
  go_wp2_with fail
  refine Calls.mono (BY4.out z4 (gtrans GW.out X0.out)) ?_
  rintro e z5 ⟨rfl, hg⟩
  go_wp2_with fail
  refine ⟨KB.of hg X0.out.size, ?_⟩
  have X1 := Lib.hid (gtrans X0.out hg)
  clear X0 hg
  have X0 := X1
  clear X1
  refine wpTr_quiet rfl ?_
  simp only [List.filterMap_cons, List.filterMap_nil, List.getElem?_toArray, List.getElem?_cons_succ, List.getElem?_cons_zero]
  show wpQuiet _ _ _ _ [_] _
  repeat (go_big_quiet_step (fail))
  refine wpQuiet_nil ?_
  refine wpTr_one (by simp only [List.getElem?_toArray, List.getElem?_cons_succ, List.getElem?_cons_zero]; exact rfl) ?_
  go_wp2_with fail
  refine Calls.mono (BY3.out z5 (gtrans GW.out X0.out)) ?_
  rintro e z6 ⟨rfl, hg⟩
  go_wp2_with fail
  refine ⟨KB.of hg X0.out.size, ?_⟩
  have X1 := Lib.hid (gtrans X0.out hg)
  clear X0 hg
  have X0 := X1
  clear X1
  refine wpTr_quiet rfl ?_
  simp only [List.filterMap_cons, List.filterMap_nil, List.getElem?_toArray, List.getElem?_cons_succ, List.getElem?_cons_zero]
  show wpQuiet _ _ _ _ [_] _
  repeat (go_big_quiet_step (fail))
  refine wpQuiet_nil ?_
  refine wpTr_one (by simp only [List.getElem?_toArray, List.getElem?_cons_succ, List.getElem?_cons_zero]; exact rfl) ?_
  go_wp2_with fail
  refine Calls.mono (BY2.out z6 (gtrans GW.out X0.out)) ?_
  rintro e z7 ⟨rfl, hg⟩
  go_wp2_with fail
  refine ⟨KB.of hg X0.out.size, ?_⟩
  have X1 := Lib.hid (gtrans X0.out hg)
  clear X0 hg
  have X0 := X1
  clear X1
  refine wpTr_quiet rfl ?_
  simp only [List.filterMap_cons, List.filterMap_nil, List.getElem?_toArray, List.getElem?_cons_succ, List.getElem?_cons_zero]
  show wpQuiet _ _ _ _ [_] _
  repeat (go_big_quiet_step (fail))
  refine wpQuiet_nil ?_
  refine wpTr_one (by simp only [List.getElem?_toArray, List.getElem?_cons_succ, List.getElem?_cons_zero]; exact rfl) ?_
  go_wp2_with fail
  refine Calls.mono (BY1.out z7 (gtrans GW.out X0.out)) ?_
  rintro e z8 ⟨rfl, hg⟩
  go_wp2_with fail
  refine ⟨KB.of hg X0.out.size, ?_⟩
  have X1 := Lib.hid (gtrans X0.out hg)
  clear X0 hg
  have X0 := X1
  clear X1
  refine wpTr_quiet rfl ?_
  simp only [List.filterMap_cons, List.filterMap_nil, List.getElem?_toArray, List.getElem?_cons_succ, List.getElem?_cons_zero]
  show wpQuiet _ _ _ _ [_] _
  repeat (go_big_quiet_step (fail))
  refine wpQuiet_nil ?_
  refine wpTr_one (by simp only [List.getElem?_toArray, List.getElem?_cons_succ, List.getElem?_cons_zero]; exact rfl) ?_
  go_wp2_with fail
  refine Calls.mono (BY1.out z8 (gtrans GW.out X0.out)) ?_
  rintro e z9 ⟨rfl, hg⟩
  go_wp2_with fail
  refine ⟨KB.of hg X0.out.size, ?_⟩
  have X1 := Lib.hid (gtrans X0.out hg)
  clear X0 hg
  have X0 := X1
  clear X1
  have nl := nlB (s1.size + (⟨#[120]⟩ : ByteArray).size) (by have := SZ1.out; show s1.size + 1 ≤ _; omega)
  refine wpTr_quiet rfl ?_
  simp only [List.filterMap_cons, List.filterMap_nil, List.getElem?_toArray, List.getElem?_cons_succ, List.getElem?_cons_zero]
  show wpQuiet _ _ _ _ [_, _] _
  repeat (go_big_quiet_step (fail))
  refine wpQuiet_nil ?_
  clear nl
  refine wpTr_one (by simp only [List.getElem?_toArray, List.getElem?_cons_succ, List.getElem?_cons_zero]; exact rfl) ?_
  go_wp2_with fail
  refine Calls.mono (asks_any z9 0 1) ?_
  rintro e z10 ⟨gq, rfl, hq, hg⟩
  have HQ := Lib.hid hq
  clear hq
  go_wp2_with fail
  refine ⟨KB.of hg X0.out.size, ?_⟩
  have X1 := Lib.hid (gtrans X0.out hg)
  clear X0 hg
  have X0 := X1
  clear X1
  refine wpTr_one (by simp only [List.getElem?_toArray, List.getElem?_cons_succ, List.getElem?_cons_zero]; exact rfl) ?_
  go_wp2_with fail
  refine Calls.mono (AK1.out z10 gq HQ.out) ?_
  rintro e z11 ⟨rfl, hg⟩
  clear HQ
  go_wp2_with fail
  refine ⟨KB.of hg X0.out.size, ?_⟩
  have X1 := Lib.hid (gtrans X0.out hg)
  clear X0 hg
  have X0 := X1
  clear X1
  refine wpTr_quiet rfl ?_
  simp only [List.filterMap_cons, List.filterMap_nil, List.getElem?_toArray, List.getElem?_cons_succ, List.getElem?_cons_zero]
  show wpQuiet _ _ _ _ [_] _
  repeat (go_big_quiet_step (fail))
  refine wpQuiet_nil ?_
  refine wpTr_one (by simp only [List.getElem?_toArray, List.getElem?_cons_succ, List.getElem?_cons_zero]; exact rfl) ?_
  go_wp2_with fail
  refine Calls.mono (asks_any z11 1 1) ?_
  rintro e z12 ⟨gq, rfl, hq, hg⟩
  have HQ := Lib.hid hq
  clear hq
  go_wp2_with fail
  refine ⟨KB.of hg X0.out.size, ?_⟩
  have X1 := Lib.hid (gtrans X0.out hg)
  clear X0 hg
  have X0 := X1
  clear X1
  refine wpTr_one (by simp only [List.getElem?_toArray, List.getElem?_cons_succ, List.getElem?_cons_zero]; exact rfl) ?_
  go_wp2_with fail
  refine Calls.mono (AK2.out z12 gq HQ.out) ?_
  rintro e z13 ⟨rfl, hg⟩
  clear HQ
  go_wp2_with fail
  refine ⟨KB.of hg X0.out.size, ?_⟩
  have X1 := Lib.hid (gtrans X0.out hg)
  clear X0 hg
  have X0 := X1
  clear X1
  refine wpTr_quiet rfl ?_
  simp only [List.filterMap_cons, List.filterMap_nil, List.getElem?_toArray, List.getElem?_cons_succ, List.getElem?_cons_zero]
  show wpQuiet _ _ _ _ [_] _
  repeat (go_big_quiet_step (fail))
  refine wpQuiet_nil ?_
  refine wpTr_one (by simp only [List.getElem?_toArray, List.getElem?_cons_succ, List.getElem?_cons_zero]; exact rfl) ?_
  go_wp2_with fail
  refine Calls.mono (asks_any z13 41 1) ?_
  rintro e z14 ⟨gq, rfl, hq, hg⟩
  have HQ := Lib.hid hq
  clear hq
  go_wp2_with fail
  refine ⟨KB.of hg X0.out.size, ?_⟩
  have X1 := Lib.hid (gtrans X0.out hg)
  clear X0 hg
  have X0 := X1
  clear X1
  refine wpTr_one (by simp only [List.getElem?_toArray, List.getElem?_cons_succ, List.getElem?_cons_zero]; exact rfl) ?_
  go_wp2_with fail
  refine Calls.mono (AK3.out z14 gq HQ.out) ?_
  rintro e z15 ⟨rfl, hg⟩
  clear HQ
  go_wp2_with fail
  refine ⟨KB.of hg X0.out.size, ?_⟩
  have X1 := Lib.hid (gtrans X0.out hg)
  clear X0 hg
  have X0 := X1
  clear X1
  refine wpTr_quiet rfl ?_
  simp only [List.filterMap_cons, List.filterMap_nil, List.getElem?_toArray, List.getElem?_cons_succ, List.getElem?_cons_zero]
  show wpQuiet _ _ _ _ [_] _
  repeat (go_big_quiet_step (fail))
  refine wpQuiet_nil ?_
  refine wpTr_one (by simp only [List.getElem?_toArray, List.getElem?_cons_succ, List.getElem?_cons_zero]; exact rfl) ?_
  go_wp2_with fail
  refine Calls.mono (asks_any z15 248 1) ?_
  rintro e z16 ⟨gq, rfl, hq, hg⟩
  have HQ := Lib.hid hq
  clear hq
  go_wp2_with fail
  refine ⟨KB.of hg X0.out.size, ?_⟩
  have X1 := Lib.hid (gtrans X0.out hg)
  clear X0 hg
  have X0 := X1
  clear X1
  refine wpTr_one (by simp only [List.getElem?_toArray, List.getElem?_cons_succ, List.getElem?_cons_zero]; exact rfl) ?_
  go_wp2_with fail
  refine Calls.mono (AK4.out z16 gq HQ.out) ?_
  rintro e z17 ⟨rfl, hg⟩
  clear HQ
  go_wp2_with fail
  refine ⟨KB.of hg X0.out.size, ?_⟩
  have X1 := Lib.hid (gtrans X0.out hg)
  clear X0 hg
  have X0 := X1
  clear X1
  refine wpTr_quiet rfl ?_
  simp only [List.filterMap_cons, List.filterMap_nil, List.getElem?_toArray, List.getElem?_cons_succ, List.getElem?_cons_zero]
  show wpQuiet _ _ _ _ [_] _
  repeat (go_big_quiet_step (fail))
  refine wpQuiet_nil ?_
  refine wpTr_one (by simp only [List.getElem?_toArray, List.getElem?_cons_succ, List.getElem?_cons_zero]; exact rfl) ?_
  go_wp2_with fail
  refine Calls.mono (asks_any z17 249 1) ?_
  rintro e z18 ⟨gq, rfl, hq, hg⟩
  have HQ := Lib.hid hq
  clear hq
  go_wp2_with fail
  refine ⟨KB.of hg X0.out.size, ?_⟩
  have X1 := Lib.hid (gtrans X0.out hg)
  clear X0 hg
  have X0 := X1
  clear X1
  refine wpTr_one (by simp only [List.getElem?_toArray, List.getElem?_cons_succ, List.getElem?_cons_zero]; exact rfl) ?_
  go_wp2_with fail
  refine Calls.mono (AK5.out z18 gq HQ.out) ?_
  rintro e z19 ⟨rfl, hg⟩
  clear HQ
  go_wp2_with fail
  refine ⟨KB.of hg X0.out.size, ?_⟩
  have X1 := Lib.hid (gtrans X0.out hg)
  clear X0 hg
  have X0 := X1
  clear X1
  refine wpTr_quiet rfl ?_
  simp only [List.filterMap_cons, List.filterMap_nil, List.getElem?_toArray, List.getElem?_cons_succ, List.getElem?_cons_zero]
  show wpQuiet _ _ _ _ [_] _
  repeat (go_big_quiet_step (fail))
  refine wpQuiet_nil ?_
  refine wpTr_one (by simp only [List.getElem?_toArray, List.getElem?_cons_succ, List.getElem?_cons_zero]; exact rfl) ?_
  go_wp2_with fail
  refine Calls.mono (asks_any z19 255 1) ?_
  rintro e z20 ⟨gq, rfl, hq, hg⟩
  have HQ := Lib.hid hq
  clear hq
  go_wp2_with fail
  refine ⟨KB.of hg X0.out.size, ?_⟩
  have X1 := Lib.hid (gtrans X0.out hg)
  clear X0 hg
  have X0 := X1
  clear X1
  refine wpTr_one (by simp only [List.getElem?_toArray, List.getElem?_cons_succ, List.getElem?_cons_zero]; exact rfl) ?_
  go_wp2_with fail
  refine Calls.mono (AK6.out z20 gq HQ.out) ?_
  rintro e z21 ⟨rfl, hg⟩
  clear HQ
  go_wp2_with fail
  refine ⟨KB.of hg X0.out.size, ?_⟩
  have X1 := Lib.hid (gtrans X0.out hg)
  clear X0 hg
  have X0 := X1
  clear X1
  refine wpTr_quiet rfl ?_
  simp only [List.filterMap_cons, List.filterMap_nil, List.getElem?_toArray, List.getElem?_cons_succ, List.getElem?_cons_zero]
  show wpQuiet _ _ _ _ [_] _
  repeat (go_big_quiet_step (fail))
  refine wpQuiet_nil ?_
  refine wpTr_one (by simp only [List.getElem?_toArray, List.getElem?_cons_succ, List.getElem?_cons_zero]; exact rfl) ?_
  go_wp2_with fail
  refine Calls.mono (asks_any z21 256 1) ?_
  rintro e z22 ⟨gq, rfl, hq, hg⟩
  have HQ := Lib.hid hq
  clear hq
  go_wp2_with fail
  refine ⟨KB.of hg X0.out.size, ?_⟩
  have X1 := Lib.hid (gtrans X0.out hg)
  clear X0 hg
  have X0 := X1
  clear X1
  refine wpTr_one (by simp only [List.getElem?_toArray, List.getElem?_cons_succ, List.getElem?_cons_zero]; exact rfl) ?_
  go_wp2_with fail
  refine Calls.mono (AK7.out z22 gq HQ.out) ?_
  rintro e z23 ⟨rfl, hg⟩
  clear HQ
  go_wp2_with fail
  refine ⟨KB.of hg X0.out.size, ?_⟩
  have X1 := Lib.hid (gtrans X0.out hg)
  clear X0 hg
  have X0 := X1
  clear X1
  refine wpTr_quiet rfl ?_
  simp only [List.filterMap_cons, List.filterMap_nil, List.getElem?_toArray, List.getElem?_cons_succ, List.getElem?_cons_zero]
  show wpQuiet _ _ _ _ [_] _
  repeat (go_big_quiet_step (fail))
  refine wpQuiet_nil ?_
  refine wpTr_one (by simp only [List.getElem?_toArray, List.getElem?_cons_succ, List.getElem?_cons_zero]; exact rfl) ?_
  go_wp2_with fail
  refine Calls.mono (asks_any z23 1 3) ?_
  rintro e z24 ⟨gq, rfl, hq, hg⟩
  have HQ := Lib.hid hq
  clear hq
  go_wp2_with fail
  refine ⟨KB.of hg X0.out.size, ?_⟩
  have X1 := Lib.hid (gtrans X0.out hg)
  clear X0 hg
  have X0 := X1
  clear X1
  refine wpTr_one (by simp only [List.getElem?_toArray, List.getElem?_cons_succ, List.getElem?_cons_zero]; exact rfl) ?_
  go_wp2_with fail
  refine Calls.mono (AK8.out z24 gq HQ.out) ?_
  rintro e z25 ⟨rfl, hg⟩
  clear HQ
  go_wp2_with fail
  refine ⟨KB.of hg X0.out.size, ?_⟩
  have X1 := Lib.hid (gtrans X0.out hg)
  clear X0 hg
  have X0 := X1
  clear X1
  refine wpTr_quiet rfl ?_
  simp only [List.filterMap_cons, List.filterMap_nil, List.getElem?_toArray, List.getElem?_cons_succ, List.getElem?_cons_zero]
  show wpQuiet _ _ _ _ [_] _
  repeat (go_big_quiet_step (fail))
  refine wpQuiet_nil ?_
  refine wpTr_one (by simp only [List.getElem?_toArray, List.getElem?_cons_succ, List.getElem?_cons_zero]; exact rfl) ?_
  go_wp2_with fail
  refine Calls.mono (asks_any z25 1 255) ?_
  rintro e z26 ⟨gq, rfl, hq, hg⟩
  have HQ := Lib.hid hq
  clear hq
  go_wp2_with fail
  refine ⟨KB.of hg X0.out.size, ?_⟩
  have X1 := Lib.hid (gtrans X0.out hg)
  clear X0 hg
  have X0 := X1
  clear X1
  refine wpTr_one (by simp only [List.getElem?_toArray, List.getElem?_cons_succ, List.getElem?_cons_zero]; exact rfl) ?_
  go_wp2_with fail
  refine Calls.mono (AK9.out z26 gq HQ.out) ?_
  rintro e z27 ⟨rfl, hg⟩
  clear HQ
  go_wp2_with fail
  refine ⟨KB.of hg X0.out.size, ?_⟩
  have X1 := Lib.hid (gtrans X0.out hg)
  clear X0 hg
  have X0 := X1
  clear X1
  refine wpTr_quiet rfl ?_
  simp only [List.filterMap_cons, List.filterMap_nil, List.getElem?_toArray, List.getElem?_cons_succ, List.getElem?_cons_zero]
  show wpQuiet _ _ _ _ [_] _
  repeat (go_big_quiet_step (fail))
  refine wpQuiet_nil ?_
  refine wpTr_one (by simp only [List.getElem?_toArray, List.getElem?_cons_succ, List.getElem?_cons_zero]; exact rfl) ?_
  go_wp2_with fail
  have hk : z27.grownBy (z27.alloc (.cells #[.string s6, .int .u8 1, .int .i64 0, .bool false, .string s5, .int .u8 2, .int .i64 4, .bool false, .string (s5.extract 0 12), .int .u8 2, .int .i64 4, .bool false, .string (s5.extract 0 11), .int .u8 1, .int .i64 0, .bool false, .string s4, .int .u8 2, .int .i64 1, .bool false, .string s3, .int .u8 2, .int .i64 16, .bool true, .string s2, .int .u8 2, .int .i64 16, .bool true, .string s1, .int .u8 3, .int .i64 0, .bool true, .string (s1 ++ ⟨#[120]⟩), .int .u8 2, .int .i64 1, .bool false, .string a1, .int .u8 2, .int .i64 5, .bool true, .string a2, .int .u8 3, .int .i64 0, .bool true, .string a3, .int .u8 2, .int .i64 5, .bool true, .string a4, .int .u8 3, .int .i64 0, .bool true, .string a5, .int .u8 2, .int .i64 5, .bool true, .string a6, .int .u8 2, .int .i64 5, .bool true, .string a7, .int .u8 3, .int .i64 0, .bool true, .string a8, .int .u8 2, .int .i64 5, .bool true, .string a9, .int .u8 2, .int .i64 5, .bool true, .string ⟨#[]⟩, .int .u8 1, .int .i64 0, .bool false] 37)) none := galloc (grefl _ none) _
  have F : FS (z27.alloc (.cells #[.string s6, .int .u8 1, .int .i64 0, .bool false, .string s5, .int .u8 2, .int .i64 4, .bool false, .string (s5.extract 0 12), .int .u8 2, .int .i64 4, .bool false, .string (s5.extract 0 11), .int .u8 1, .int .i64 0, .bool false, .string s4, .int .u8 2, .int .i64 1, .bool false, .string s3, .int .u8 2, .int .i64 16, .bool true, .string s2, .int .u8 2, .int .i64 16, .bool true, .string s1, .int .u8 3, .int .i64 0, .bool true, .string (s1 ++ ⟨#[120]⟩), .int .u8 2, .int .i64 1, .bool false, .string a1, .int .u8 2, .int .i64 5, .bool true, .string a2, .int .u8 3, .int .i64 0, .bool true, .string a3, .int .u8 2, .int .i64 5, .bool true, .string a4, .int .u8 3, .int .i64 0, .bool true, .string a5, .int .u8 2, .int .i64 5, .bool true, .string a6, .int .u8 2, .int .i64 5, .bool true, .string a7, .int .u8 3, .int .i64 0, .bool true, .string a8, .int .u8 2, .int .i64 5, .bool true, .string a9, .int .u8 2, .int .i64 5, .bool true, .string ⟨#[]⟩, .int .u8 1, .int .i64 0, .bool false] 37)) 0 37 4 (.slice (some ⟨z27.heap.size, 0, none⟩) 19 19) (rowsV s6 s5 s4 s3 s2 s1 a1 a2 a3 a4 a5 a6 a7 a8 a9).length ((rowsV s6 s5 s4 s3 s2 s1 a1 a2 a3 a4 a5 a6 a7 a8 a9).flatMap rwV) := ⟨rfl, .inr ⟨z27.heap.size, 19, _, rfl, Nat.zero_le _, balloc _ _, Nat.le_refl _, by simp, rfl⟩⟩
  refine ⟨KB.of hk X0.out.size, ?_⟩
  have G9 := Lib.hid (gtrans GW.out (gtrans X0.out hk))
  have F := Lib.hid F
  clear hk X0
  generalize (z27.alloc (.cells #[.string s6, .int .u8 1, .int .i64 0, .bool false, .string s5, .int .u8 2, .int .i64 4, .bool false, .string (s5.extract 0 12), .int .u8 2, .int .i64 4, .bool false, .string (s5.extract 0 11), .int .u8 1, .int .i64 0, .bool false, .string s4, .int .u8 2, .int .i64 1, .bool false, .string s3, .int .u8 2, .int .i64 16, .bool true, .string s2, .int .u8 2, .int .i64 16, .bool true, .string s1, .int .u8 3, .int .i64 0, .bool true, .string (s1 ++ ⟨#[120]⟩), .int .u8 2, .int .i64 1, .bool false, .string a1, .int .u8 2, .int .i64 5, .bool true, .string a2, .int .u8 3, .int .i64 0, .bool true, .string a3, .int .u8 2, .int .i64 5, .bool true, .string a4, .int .u8 3, .int .i64 0, .bool true, .string a5, .int .u8 2, .int .i64 5, .bool true, .string a6, .int .u8 2, .int .i64 5, .bool true, .string a7, .int .u8 3, .int .i64 0, .bool true, .string a8, .int .u8 2, .int .i64 5, .bool true, .string a9, .int .u8 2, .int .i64 5, .bool true, .string ⟨#[]⟩, .int .u8 1, .int .i64 0, .bool false] 37)) = zf at *
  generalize z27.heap.size = lb at *
  refine wpTr_one (by simp only [List.getElem?_toArray, List.getElem?_cons_succ, List.getElem?_cons_zero]; exact rfl) ?_
  go_wp2_with fail
  refine ⟨KB.refl _ _, ?_⟩
  refine wpTr_done ?_
  go_wp2_with fail
  exact HK.out _ _ _ _ _ _ _ _ _ _ _ _ _ _ _ _ _ _ _ _ _ _ _ _ _ _ _ _ _ _ _ _ _ _ _ _ _ _ _ _ _ _ _ _ _ _ _ _ _ _ _ _ _ _ _ _ _ _ _ _ _ _ ⟨G9.out, rfl, rfl, lb, rfl, F.out⟩
end Go.Proofs.YtkhigfbmdolgmaaGreatDoor
namespace Go.Proofs.YtkhigfbmdolgmaaGreatDoor
open Go.RowKit

set_option maxRecDepth 100000 in
set_option maxHeartbeats 16000000 in
theorem inames_walk (w : World) (he : Et w) (hb : Bt w) : Calls Tryz.prog 3 #[] w fun e w' => e = .returned (.bool true) ∧ w.grownBy w' none := by
  have HE := Lib.hid he
  have HT := Lib.hid hb
  clear he hb
  go_enter Tryz.func3, Tryz.ntmps3
  go_wp2_with fail
  refine Calls.mono (awake25_any w HE.out HT.out) ?_
  rintro e w0 ⟨rfl, hg⟩
  have G := Lib.hid hg
  clear hg
  go_wp2_with fail
  refine Calls.mono (asks_any w0 1 1) ?_
  rintro e w1 ⟨g1, rfl, hq, hg⟩
  have Q1 := Lib.hid hq
  have G' := Lib.hid (gtrans G.out hg)
  clear G hq hg
  have G := G'
  clear G'
  unfold row25
  rw [show (#[.int .u16 9, .bool false, .int .u8 ((0 : Nat) : Int), .bool false, .bool false, .bool true, .bool false, .bool false, .bool false, .bool false, .int .u8 0, .slice (some ⟨g1, 0, none⟩) 1 1, .slice none 0 0, .slice none 0 0, .slice none 0 0, .bool false, .int .u16 ((0 : Nat) : Int), .int .u8 0, .int .u8 ((0 : Nat) : Int), .int .u16 0, .slice none 0 0] : Array Value) = #[.int .u16 9, .bool false, .int .u8 0, .bool false, .bool false, .bool true, .bool false, .bool false, .bool false, .bool false, .int .u8 0, .slice (some ⟨g1, 0, none⟩) 1 1, .slice none 0 0, .slice none 0 0, .slice none 0 0, .bool false, .int .u16 0, .int .u8 0, .int .u8 0, .int .u16 0, .slice none 0 0] from rfl]
  have hg : w1.grownBy ((w1.alloc (.cells #[.int .u16 0, .bool false, .int .u8 0, .bool false, .bool false, .bool false, .bool false, .bool false, .bool false, .bool false, .int .u8 0, .slice none 0 0, .slice none 0 0, .slice none 0 0, .slice none 0 0, .bool false, .int .u16 0, .int .u8 0, .int .u8 0, .int .u16 0, .slice none 0 0] 32)).setRow w1.heap.size #[.int .u16 9, .bool false, .int .u8 0, .bool false, .bool false, .bool true, .bool false, .bool false, .bool false, .bool false, .int .u8 0, .slice (some ⟨g1, 0, none⟩) 1 1, .slice none 0 0, .slice none 0 0, .slice none 0 0, .bool false, .int .u16 0, .int .u8 0, .int .u8 0, .int .u16 0, .slice none 0 0]) none := gsetRow (galloc (grefl w1 none) _) (Nat.le_refl _) _
  have B1 := Lib.hid (show ((w1.alloc (.cells #[.int .u16 0, .bool false, .int .u8 0, .bool false, .bool false, .bool false, .bool false, .bool false, .bool false, .bool false, .int .u8 0, .slice none 0 0, .slice none 0 0, .slice none 0 0, .slice none 0 0, .bool false, .int .u16 0, .int .u8 0, .int .u8 0, .int .u16 0, .slice none 0 0] 32)).setRow w1.heap.size #[.int .u16 9, .bool false, .int .u8 0, .bool false, .bool false, .bool true, .bool false, .bool false, .bool false, .bool false, .int .u8 0, .slice (some ⟨g1, 0, none⟩) 1 1, .slice none 0 0, .slice none 0 0, .slice none 0 0, .bool false, .int .u16 0, .int .u8 0, .int .u8 0, .int .u16 0, .slice none 0 0]).heap[w1.heap.size]? = some (.cells #[.int .u16 9, .bool false, .int .u8 0, .bool false, .bool false, .bool true, .bool false, .bool false, .bool false, .bool false, .int .u8 0, .slice (some ⟨g1, 0, none⟩) 1 1, .slice none 0 0, .slice none 0 0, .slice none 0 0, .bool false, .int .u16 0, .int .u8 0, .int .u8 0, .int .u16 0, .slice none 0 0] 32 (0, 0)) from bsetR (balloc w1 (.cells #[.int .u16 0, .bool false, .int .u8 0, .bool false, .bool false, .bool false, .bool false, .bool false, .bool false, .bool false, .int .u8 0, .slice none 0 0, .slice none 0 0, .slice none 0 0, .slice none 0 0, .bool false, .int .u16 0, .int .u8 0, .int .u8 0, .int .u16 0, .slice none 0 0] 32)) _)
  have ZA := Lib.hid (balloc w1 (.cells #[.int .u16 0, .bool false, .int .u8 0, .bool false, .bool false, .bool false, .bool false, .bool false, .bool false, .bool false, .int .u8 0, .slice none 0 0, .slice none 0 0, .slice none 0 0, .slice none 0 0, .bool false, .int .u16 0, .int .u8 0, .int .u8 0, .int .u16 0, .slice none 0 0] 32))
  have Lb1 := Lib.hid (show w.heap.size ≤ w1.heap.size from G.out.size)
  have EQ1b1 := Lib.hid (show g1 ≠ w1.heap.size from by have := blt Q1.out; omega)
  have G' := Lib.hid (gtrans G.out hg)
  have Q1' := Lib.hid (gblock hg Q1.out (by simp))
  clear hg G Q1
  have G := G'
  have Q1 := Q1'
  clear G' Q1'
  go_upto_region 4 with (first | refine wpList_store_row rfl 32 _ _ rfl w1.heap.size #[.int .u16 9, .bool false, .int .u8 0, .bool false, .bool false, .bool true, .bool false, .bool false, .bool false, .bool false, .int .u8 0, .slice (some ⟨g1, 0, none⟩) 1 1, .slice none 0 0, .slice none 0 0, .slice none 0 0, .bool false, .int .u16 0, .int .u8 0, .int .u8 0, .int .u16 0, .slice none 0 0] rfl rfl 32 _ ZA.out (by kernel_rfl) rfl (by kernel_rfl) ?_)
  clear ZA
  generalize ((w1.alloc (.cells #[.int .u16 0, .bool false, .int .u8 0, .bool false, .bool false, .bool false, .bool false, .bool false, .bool false, .bool false, .int .u8 0, .slice none 0 0, .slice none 0 0, .slice none 0 0, .slice none 0 0, .bool false, .int .u16 0, .int .u8 0, .int .u8 0, .int .u16 0, .slice none 0 0] 32)).setRow w1.heap.size #[.int .u16 9, .bool false, .int .u8 0, .bool false, .bool false, .bool true, .bool false, .bool false, .bool false, .bool false, .int .u8 0, .slice (some ⟨g1, 0, none⟩) 1 1, .slice none 0 0, .slice none 0 0, .slice none 0 0, .bool false, .int .u16 0, .int .u8 0, .int .u8 0, .int .u16 0, .slice none 0 0]) = w2 at *
  generalize w1.heap.size = b1 at *
  have c15 := bcellAt B1.out 15
  have f15 := bfree B1.out 15
  go_upto_region 5 with fail
  clear c15 f15
  have hg : w2.grownBy (w2.setCell ⟨b1, 15, none⟩ (.bool true)) (some b1) := gset (grefl _ _) (p := ⟨b1, 15, none⟩) (.inl rfl) _
  have B' := Lib.hid (show (w2.setCell ⟨b1, 15, none⟩ (.bool true)).heap[b1]? = some (.cells #[.int .u16 9, .bool false, .int .u8 0, .bool false, .bool false, .bool true, .bool false, .bool false, .bool false, .bool false, .int .u8 0, .slice (some ⟨g1, 0, none⟩) 1 1, .slice none 0 0, .slice none 0 0, .slice none 0 0, .bool true, .int .u16 0, .int .u8 0, .int .u8 0, .int .u16 0, .slice none 0 0] 32 (0, 0)) from bset B1.out 15 (.bool true))
  clear B1
  have B1 := B'
  clear B'
  have G' := Lib.hid (gset2 G.out (p := ⟨b1, 15, none⟩) (v := .bool true) Lb1.out)
  have Q1' := Lib.hid (gblock hg Q1.out (by simpa using EQ1b1.out))
  clear hg G Q1
  have G := G'
  have Q1 := Q1'
  clear G' Q1'
  generalize (w2.setCell ⟨b1, 15, none⟩ (.bool true)) = w3 at *
  have c16 := bcellAt B1.out 16
  have f16 := bfree B1.out 16
  go_upto_region 6 with fail
  clear c16 f16
  have hg : w3.grownBy (w3.setCell ⟨b1, 16, none⟩ (.int .u16 4000)) (some b1) := gset (grefl _ _) (p := ⟨b1, 16, none⟩) (.inl rfl) _
  have B' := Lib.hid (show (w3.setCell ⟨b1, 16, none⟩ (.int .u16 4000)).heap[b1]? = some (.cells #[.int .u16 9, .bool false, .int .u8 0, .bool false, .bool false, .bool true, .bool false, .bool false, .bool false, .bool false, .int .u8 0, .slice (some ⟨g1, 0, none⟩) 1 1, .slice none 0 0, .slice none 0 0, .slice none 0 0, .bool true, .int .u16 4000, .int .u8 0, .int .u8 0, .int .u16 0, .slice none 0 0] 32 (0, 0)) from bset B1.out 16 (.int .u16 4000))
  clear B1
  have B1 := B'
  clear B'
  have G' := Lib.hid (gset2 G.out (p := ⟨b1, 16, none⟩) (v := .int .u16 4000) Lb1.out)
  have Q1' := Lib.hid (gblock hg Q1.out (by simpa using EQ1b1.out))
  clear hg G Q1
  have G := G'
  have Q1 := Q1'
  clear G' Q1'
  generalize (w3.setCell ⟨b1, 16, none⟩ (.int .u16 4000)) = w4 at *
  have hg : w4.grownBy ((w4.alloc (.cells #[.int .u16 0, .bool false, .int .u8 0, .bool false, .bool false, .bool false, .bool false, .bool false, .bool false, .bool false, .int .u8 0, .slice none 0 0, .slice none 0 0, .slice none 0 0, .slice none 0 0, .bool false, .int .u16 0, .int .u8 0, .int .u8 0, .int .u16 0, .slice none 0 0] 32)).setRow w4.heap.size #[.int .u16 9, .bool false, .int .u8 0, .bool false, .bool false, .bool true, .bool false, .bool false, .bool false, .bool false, .int .u8 0, .slice (some ⟨g1, 0, none⟩) 1 1, .slice none 0 0, .slice none 0 0, .slice none 0 0, .bool true, .int .u16 4000, .int .u8 0, .int .u8 0, .int .u16 0, .slice none 0 0]) none := gsetRow (galloc (grefl w4 none) _) (Nat.le_refl _) _
  have B2 := Lib.hid (show ((w4.alloc (.cells #[.int .u16 0, .bool false, .int .u8 0, .bool false, .bool false, .bool false, .bool false, .bool false, .bool false, .bool false, .int .u8 0, .slice none 0 0, .slice none 0 0, .slice none 0 0, .slice none 0 0, .bool false, .int .u16 0, .int .u8 0, .int .u8 0, .int .u16 0, .slice none 0 0] 32)).setRow w4.heap.size #[.int .u16 9, .bool false, .int .u8 0, .bool false, .bool false, .bool true, .bool false, .bool false, .bool false, .bool false, .int .u8 0, .slice (some ⟨g1, 0, none⟩) 1 1, .slice none 0 0, .slice none 0 0, .slice none 0 0, .bool true, .int .u16 4000, .int .u8 0, .int .u8 0, .int .u16 0, .slice none 0 0]).heap[w4.heap.size]? = some (.cells #[.int .u16 9, .bool false, .int .u8 0, .bool false, .bool false, .bool true, .bool false, .bool false, .bool false, .bool false, .int .u8 0, .slice (some ⟨g1, 0, none⟩) 1 1, .slice none 0 0, .slice none 0 0, .slice none 0 0, .bool true, .int .u16 4000, .int .u8 0, .int .u8 0, .int .u16 0, .slice none 0 0] 32 (0, 0)) from bsetR (balloc w4 (.cells #[.int .u16 0, .bool false, .int .u8 0, .bool false, .bool false, .bool false, .bool false, .bool false, .bool false, .bool false, .int .u8 0, .slice none 0 0, .slice none 0 0, .slice none 0 0, .slice none 0 0, .bool false, .int .u16 0, .int .u8 0, .int .u8 0, .int .u16 0, .slice none 0 0] 32)) _)
  have ZA := Lib.hid (balloc w4 (.cells #[.int .u16 0, .bool false, .int .u8 0, .bool false, .bool false, .bool false, .bool false, .bool false, .bool false, .bool false, .int .u8 0, .slice none 0 0, .slice none 0 0, .slice none 0 0, .slice none 0 0, .bool false, .int .u16 0, .int .u8 0, .int .u8 0, .int .u16 0, .slice none 0 0] 32))
  have Lb2 := Lib.hid (show w.heap.size ≤ w4.heap.size from G.out.size)
  have Db1b2 := Lib.hid (show b1 ≠ w4.heap.size from by have := blt B1.out; omega)
  have EQ1b2 := Lib.hid (show g1 ≠ w4.heap.size from by have := blt Q1.out; omega)
  have SRC := B1
  have G' := Lib.hid (gtrans G.out hg)
  have B1' := Lib.hid (gblock hg B1.out (by simp))
  have Q1' := Lib.hid (gblock hg Q1.out (by simp))
  clear hg G B1 Q1
  have G := G'
  have B1 := B1'
  have Q1 := Q1'
  clear G' B1' Q1'
  go_upto_region 7 with (first | refine wpList_store_row rfl 32 _ _ rfl w4.heap.size #[.int .u16 9, .bool false, .int .u8 0, .bool false, .bool false, .bool true, .bool false, .bool false, .bool false, .bool false, .int .u8 0, .slice (some ⟨g1, 0, none⟩) 1 1, .slice none 0 0, .slice none 0 0, .slice none 0 0, .bool true, .int .u16 4000, .int .u8 0, .int .u8 0, .int .u16 0, .slice none 0 0] rfl rfl 32 _ ZA.out (by kernel_rfl) rfl (by kernel_rfl) ?_ | refine wpList_load_row rfl 32 _ rfl b1 rfl _ _ _ _ SRC.out Tryz.underlying32 rfl (by kernel_rfl) ?_)
  clear ZA SRC
  generalize ((w4.alloc (.cells #[.int .u16 0, .bool false, .int .u8 0, .bool false, .bool false, .bool false, .bool false, .bool false, .bool false, .bool false, .int .u8 0, .slice none 0 0, .slice none 0 0, .slice none 0 0, .slice none 0 0, .bool false, .int .u16 0, .int .u8 0, .int .u8 0, .int .u16 0, .slice none 0 0] 32)).setRow w4.heap.size #[.int .u16 9, .bool false, .int .u8 0, .bool false, .bool false, .bool true, .bool false, .bool false, .bool false, .bool false, .int .u8 0, .slice (some ⟨g1, 0, none⟩) 1 1, .slice none 0 0, .slice none 0 0, .slice none 0 0, .bool true, .int .u16 4000, .int .u8 0, .int .u8 0, .int .u16 0, .slice none 0 0]) = w5 at *
  generalize w4.heap.size = b2 at *
  have c18 := bcellAt B2.out 18
  have f18 := bfree B2.out 18
  go_upto_region 8 with fail
  clear c18 f18
  have hg : w5.grownBy (w5.setCell ⟨b2, 18, none⟩ (.int .u8 1)) (some b2) := gset (grefl _ _) (p := ⟨b2, 18, none⟩) (.inl rfl) _
  have B' := Lib.hid (show (w5.setCell ⟨b2, 18, none⟩ (.int .u8 1)).heap[b2]? = some (.cells #[.int .u16 9, .bool false, .int .u8 0, .bool false, .bool false, .bool true, .bool false, .bool false, .bool false, .bool false, .int .u8 0, .slice (some ⟨g1, 0, none⟩) 1 1, .slice none 0 0, .slice none 0 0, .slice none 0 0, .bool true, .int .u16 4000, .int .u8 0, .int .u8 1, .int .u16 0, .slice none 0 0] 32 (0, 0)) from bset B2.out 18 (.int .u8 1))
  clear B2
  have B2 := B'
  clear B'
  have G' := Lib.hid (gset2 G.out (p := ⟨b2, 18, none⟩) (v := .int .u8 1) Lb2.out)
  have B1' := Lib.hid (gblock hg B1.out (by simpa using Db1b2.out))
  have Q1' := Lib.hid (gblock hg Q1.out (by simpa using EQ1b2.out))
  clear hg G B1 Q1
  have G := G'
  have B1 := B1'
  have Q1 := Q1'
  clear G' B1' Q1'
  generalize (w5.setCell ⟨b2, 18, none⟩ (.int .u8 1)) = w6 at *
  have hg : w6.grownBy ((w6.alloc (.cells #[.int .u16 0, .bool false, .int .u8 0, .bool false, .bool false, .bool false, .bool false, .bool false, .bool false, .bool false, .int .u8 0, .slice none 0 0, .slice none 0 0, .slice none 0 0, .slice none 0 0, .bool false, .int .u16 0, .int .u8 0, .int .u8 0, .int .u16 0, .slice none 0 0] 32)).setRow w6.heap.size #[.int .u16 9, .bool false, .int .u8 0, .bool false, .bool false, .bool true, .bool false, .bool false, .bool false, .bool false, .int .u8 0, .slice (some ⟨g1, 0, none⟩) 1 1, .slice none 0 0, .slice none 0 0, .slice none 0 0, .bool true, .int .u16 4000, .int .u8 0, .int .u8 1, .int .u16 0, .slice none 0 0]) none := gsetRow (galloc (grefl w6 none) _) (Nat.le_refl _) _
  have B3 := Lib.hid (show ((w6.alloc (.cells #[.int .u16 0, .bool false, .int .u8 0, .bool false, .bool false, .bool false, .bool false, .bool false, .bool false, .bool false, .int .u8 0, .slice none 0 0, .slice none 0 0, .slice none 0 0, .slice none 0 0, .bool false, .int .u16 0, .int .u8 0, .int .u8 0, .int .u16 0, .slice none 0 0] 32)).setRow w6.heap.size #[.int .u16 9, .bool false, .int .u8 0, .bool false, .bool false, .bool true, .bool false, .bool false, .bool false, .bool false, .int .u8 0, .slice (some ⟨g1, 0, none⟩) 1 1, .slice none 0 0, .slice none 0 0, .slice none 0 0, .bool true, .int .u16 4000, .int .u8 0, .int .u8 1, .int .u16 0, .slice none 0 0]).heap[w6.heap.size]? = some (.cells #[.int .u16 9, .bool false, .int .u8 0, .bool false, .bool false, .bool true, .bool false, .bool false, .bool false, .bool false, .int .u8 0, .slice (some ⟨g1, 0, none⟩) 1 1, .slice none 0 0, .slice none 0 0, .slice none 0 0, .bool true, .int .u16 4000, .int .u8 0, .int .u8 1, .int .u16 0, .slice none 0 0] 32 (0, 0)) from bsetR (balloc w6 (.cells #[.int .u16 0, .bool false, .int .u8 0, .bool false, .bool false, .bool false, .bool false, .bool false, .bool false, .bool false, .int .u8 0, .slice none 0 0, .slice none 0 0, .slice none 0 0, .slice none 0 0, .bool false, .int .u16 0, .int .u8 0, .int .u8 0, .int .u16 0, .slice none 0 0] 32)) _)
  have ZA := Lib.hid (balloc w6 (.cells #[.int .u16 0, .bool false, .int .u8 0, .bool false, .bool false, .bool false, .bool false, .bool false, .bool false, .bool false, .int .u8 0, .slice none 0 0, .slice none 0 0, .slice none 0 0, .slice none 0 0, .bool false, .int .u16 0, .int .u8 0, .int .u8 0, .int .u16 0, .slice none 0 0] 32))
  have Lb3 := Lib.hid (show w.heap.size ≤ w6.heap.size from G.out.size)
  have Db1b3 := Lib.hid (show b1 ≠ w6.heap.size from by have := blt B1.out; omega)
  have Db2b3 := Lib.hid (show b2 ≠ w6.heap.size from by have := blt B2.out; omega)
  have EQ1b3 := Lib.hid (show g1 ≠ w6.heap.size from by have := blt Q1.out; omega)
  have SRC := B2
  have G' := Lib.hid (gtrans G.out hg)
  have B1' := Lib.hid (gblock hg B1.out (by simp))
  have B2' := Lib.hid (gblock hg B2.out (by simp))
  have Q1' := Lib.hid (gblock hg Q1.out (by simp))
  clear hg G B1 B2 Q1
  have G := G'
  have B1 := B1'
  have B2 := B2'
  have Q1 := Q1'
  clear G' B1' B2' Q1'
  go_upto_region 9 with (first | refine wpList_store_row rfl 32 _ _ rfl w6.heap.size #[.int .u16 9, .bool false, .int .u8 0, .bool false, .bool false, .bool true, .bool false, .bool false, .bool false, .bool false, .int .u8 0, .slice (some ⟨g1, 0, none⟩) 1 1, .slice none 0 0, .slice none 0 0, .slice none 0 0, .bool true, .int .u16 4000, .int .u8 0, .int .u8 1, .int .u16 0, .slice none 0 0] rfl rfl 32 _ ZA.out (by kernel_rfl) rfl (by kernel_rfl) ?_ | refine wpList_load_row rfl 32 _ rfl b2 rfl _ _ _ _ SRC.out Tryz.underlying32 rfl (by kernel_rfl) ?_)
  clear ZA SRC
  generalize ((w6.alloc (.cells #[.int .u16 0, .bool false, .int .u8 0, .bool false, .bool false, .bool false, .bool false, .bool false, .bool false, .bool false, .int .u8 0, .slice none 0 0, .slice none 0 0, .slice none 0 0, .slice none 0 0, .bool false, .int .u16 0, .int .u8 0, .int .u8 0, .int .u16 0, .slice none 0 0] 32)).setRow w6.heap.size #[.int .u16 9, .bool false, .int .u8 0, .bool false, .bool false, .bool true, .bool false, .bool false, .bool false, .bool false, .int .u8 0, .slice (some ⟨g1, 0, none⟩) 1 1, .slice none 0 0, .slice none 0 0, .slice none 0 0, .bool true, .int .u16 4000, .int .u8 0, .int .u8 1, .int .u16 0, .slice none 0 0]) = w7 at *
  generalize w6.heap.size = b3 at *
  have hg : w7.grownBy (w7.alloc (.cells #[.string ⟨#[0]⟩, .int .u16 255, .int .u16 3] 35)) none := galloc (grefl w7 none) _
  have Q3 := Lib.hid (balloc w7 (.cells #[.string ⟨#[0]⟩, .int .u16 255, .int .u16 3] 35))
  have LGQ3 := Lib.hid (show w.heap.size ≤ w7.heap.size from G.out.size)
  have FQ3b1 := Lib.hid (show b1 < w7.heap.size from blt B1.out)
  have EQ3b1 := Lib.hid (show w7.heap.size ≠ b1 from by have := FQ3b1.out; omega)
  have FQ3b2 := Lib.hid (show b2 < w7.heap.size from blt B2.out)
  have EQ3b2 := Lib.hid (show w7.heap.size ≠ b2 from by have := FQ3b2.out; omega)
  have FQ3b3 := Lib.hid (show b3 < w7.heap.size from blt B3.out)
  have EQ3b3 := Lib.hid (show w7.heap.size ≠ b3 from by have := FQ3b3.out; omega)
  have FQ3Q1 := Lib.hid (show g1 < w7.heap.size from blt Q1.out)
  have G' := Lib.hid (gtrans G.out hg)
  have B1' := Lib.hid (gblock hg B1.out (by simp))
  have B2' := Lib.hid (gblock hg B2.out (by simp))
  have B3' := Lib.hid (gblock hg B3.out (by simp))
  have Q1' := Lib.hid (gblock hg Q1.out (by simp))
  clear hg G B1 B2 B3 Q1
  have G := G'
  have B1 := B1'
  have B2 := B2'
  have B3 := B3'
  have Q1 := Q1'
  clear G' B1' B2' B3' Q1'
  have c11 := bcellAt B3.out 11
  have f11 := bfree B3.out 11
  go_upto_region 10 with fail
  clear c11 f11
  have hg : (w7.alloc (.cells #[.string ⟨#[0]⟩, .int .u16 255, .int .u16 3] 35)).grownBy ((w7.alloc (.cells #[.string ⟨#[0]⟩, .int .u16 255, .int .u16 3] 35)).setCell ⟨b3, 11, none⟩ (.slice (some ⟨w7.heap.size, 0, none⟩) 1 1)) (some b3) := gset (grefl _ _) (p := ⟨b3, 11, none⟩) (.inl rfl) _
  have B' := Lib.hid (show ((w7.alloc (.cells #[.string ⟨#[0]⟩, .int .u16 255, .int .u16 3] 35)).setCell ⟨b3, 11, none⟩ (.slice (some ⟨w7.heap.size, 0, none⟩) 1 1)).heap[b3]? = some (.cells #[.int .u16 9, .bool false, .int .u8 0, .bool false, .bool false, .bool true, .bool false, .bool false, .bool false, .bool false, .int .u8 0, .slice (some ⟨w7.heap.size, 0, none⟩) 1 1, .slice none 0 0, .slice none 0 0, .slice none 0 0, .bool true, .int .u16 4000, .int .u8 0, .int .u8 1, .int .u16 0, .slice none 0 0] 32 (0, 0)) from bset B3.out 11 (.slice (some ⟨w7.heap.size, 0, none⟩) 1 1))
  clear B3
  have B3 := B'
  clear B'
  have G' := Lib.hid (gset2 G.out (p := ⟨b3, 11, none⟩) (v := .slice (some ⟨w7.heap.size, 0, none⟩) 1 1) Lb3.out)
  have B1' := Lib.hid (gblock hg B1.out (by simpa using Db1b3.out))
  have B2' := Lib.hid (gblock hg B2.out (by simpa using Db2b3.out))
  have Q1' := Lib.hid (gblock hg Q1.out (by simpa using EQ1b3.out))
  have Q3' := Lib.hid (gblock hg Q3.out (by simpa using EQ3b3.out))
  clear hg G B1 B2 Q1 Q3
  have G := G'
  have B1 := B1'
  have B2 := B2'
  have Q1 := Q1'
  have Q3 := Q3'
  clear G' B1' B2' Q1' Q3'
  generalize ((w7.alloc (.cells #[.string ⟨#[0]⟩, .int .u16 255, .int .u16 3] 35)).setCell ⟨b3, 11, none⟩ (.slice (some ⟨w7.heap.size, 0, none⟩) 1 1)) = w8 at *
  generalize w7.heap.size = g3 at *
  have hg : w8.grownBy ((w8.alloc (.cells #[.int .u16 0, .bool false, .int .u8 0, .bool false, .bool false, .bool false, .bool false, .bool false, .bool false, .bool false, .int .u8 0, .slice none 0 0, .slice none 0 0, .slice none 0 0, .slice none 0 0, .bool false, .int .u16 0, .int .u8 0, .int .u8 0, .int .u16 0, .slice none 0 0] 32)).setRow w8.heap.size #[.int .u16 9, .bool false, .int .u8 0, .bool false, .bool false, .bool true, .bool false, .bool false, .bool false, .bool false, .int .u8 0, .slice (some ⟨g1, 0, none⟩) 1 1, .slice none 0 0, .slice none 0 0, .slice none 0 0, .bool true, .int .u16 4000, .int .u8 0, .int .u8 1, .int .u16 0, .slice none 0 0]) none := gsetRow (galloc (grefl w8 none) _) (Nat.le_refl _) _
  have B4 := Lib.hid (show ((w8.alloc (.cells #[.int .u16 0, .bool false, .int .u8 0, .bool false, .bool false, .bool false, .bool false, .bool false, .bool false, .bool false, .int .u8 0, .slice none 0 0, .slice none 0 0, .slice none 0 0, .slice none 0 0, .bool false, .int .u16 0, .int .u8 0, .int .u8 0, .int .u16 0, .slice none 0 0] 32)).setRow w8.heap.size #[.int .u16 9, .bool false, .int .u8 0, .bool false, .bool false, .bool true, .bool false, .bool false, .bool false, .bool false, .int .u8 0, .slice (some ⟨g1, 0, none⟩) 1 1, .slice none 0 0, .slice none 0 0, .slice none 0 0, .bool true, .int .u16 4000, .int .u8 0, .int .u8 1, .int .u16 0, .slice none 0 0]).heap[w8.heap.size]? = some (.cells #[.int .u16 9, .bool false, .int .u8 0, .bool false, .bool false, .bool true, .bool false, .bool false, .bool false, .bool false, .int .u8 0, .slice (some ⟨g1, 0, none⟩) 1 1, .slice none 0 0, .slice none 0 0, .slice none 0 0, .bool true, .int .u16 4000, .int .u8 0, .int .u8 1, .int .u16 0, .slice none 0 0] 32 (0, 0)) from bsetR (balloc w8 (.cells #[.int .u16 0, .bool false, .int .u8 0, .bool false, .bool false, .bool false, .bool false, .bool false, .bool false, .bool false, .int .u8 0, .slice none 0 0, .slice none 0 0, .slice none 0 0, .slice none 0 0, .bool false, .int .u16 0, .int .u8 0, .int .u8 0, .int .u16 0, .slice none 0 0] 32)) _)
  have ZA := Lib.hid (balloc w8 (.cells #[.int .u16 0, .bool false, .int .u8 0, .bool false, .bool false, .bool false, .bool false, .bool false, .bool false, .bool false, .int .u8 0, .slice none 0 0, .slice none 0 0, .slice none 0 0, .slice none 0 0, .bool false, .int .u16 0, .int .u8 0, .int .u8 0, .int .u16 0, .slice none 0 0] 32))
  have Lb4 := Lib.hid (show w.heap.size ≤ w8.heap.size from G.out.size)
  have Db1b4 := Lib.hid (show b1 ≠ w8.heap.size from by have := blt B1.out; omega)
  have Db2b4 := Lib.hid (show b2 ≠ w8.heap.size from by have := blt B2.out; omega)
  have Db3b4 := Lib.hid (show b3 ≠ w8.heap.size from by have := blt B3.out; omega)
  have EQ1b4 := Lib.hid (show g1 ≠ w8.heap.size from by have := blt Q1.out; omega)
  have EQ3b4 := Lib.hid (show g3 ≠ w8.heap.size from by have := blt Q3.out; omega)
  have SRC := B2
  have G' := Lib.hid (gtrans G.out hg)
  have B1' := Lib.hid (gblock hg B1.out (by simp))
  have B2' := Lib.hid (gblock hg B2.out (by simp))
  have B3' := Lib.hid (gblock hg B3.out (by simp))
  have Q1' := Lib.hid (gblock hg Q1.out (by simp))
  have Q3' := Lib.hid (gblock hg Q3.out (by simp))
  clear hg G B1 B2 B3 Q1 Q3
  have G := G'
  have B1 := B1'
  have B2 := B2'
  have B3 := B3'
  have Q1 := Q1'
  have Q3 := Q3'
  clear G' B1' B2' B3' Q1' Q3'
  go_upto_region 11 with (first | refine wpList_store_row rfl 32 _ _ rfl w8.heap.size #[.int .u16 9, .bool false, .int .u8 0, .bool false, .bool false, .bool true, .bool false, .bool false, .bool false, .bool false, .int .u8 0, .slice (some ⟨g1, 0, none⟩) 1 1, .slice none 0 0, .slice none 0 0, .slice none 0 0, .bool true, .int .u16 4000, .int .u8 0, .int .u8 1, .int .u16 0, .slice none 0 0] rfl rfl 32 _ ZA.out (by kernel_rfl) rfl (by kernel_rfl) ?_ | refine wpList_load_row rfl 32 _ rfl b2 rfl _ _ _ _ SRC.out Tryz.underlying32 rfl (by kernel_rfl) ?_)
  clear ZA SRC
  generalize ((w8.alloc (.cells #[.int .u16 0, .bool false, .int .u8 0, .bool false, .bool false, .bool false, .bool false, .bool false, .bool false, .bool false, .int .u8 0, .slice none 0 0, .slice none 0 0, .slice none 0 0, .slice none 0 0, .bool false, .int .u16 0, .int .u8 0, .int .u8 0, .int .u16 0, .slice none 0 0] 32)).setRow w8.heap.size #[.int .u16 9, .bool false, .int .u8 0, .bool false, .bool false, .bool true, .bool false, .bool false, .bool false, .bool false, .int .u8 0, .slice (some ⟨g1, 0, none⟩) 1 1, .slice none 0 0, .slice none 0 0, .slice none 0 0, .bool true, .int .u16 4000, .int .u8 0, .int .u8 1, .int .u16 0, .slice none 0 0]) = w9 at *
  generalize w8.heap.size = b4 at *
  have hg : w9.grownBy (w9.alloc (.cells #[.string ⟨#[0]⟩, .int .u16 0, .int .u16 0] 35)) none := galloc (grefl w9 none) _
  have Q0 := Lib.hid (balloc w9 (.cells #[.string ⟨#[0]⟩, .int .u16 0, .int .u16 0] 35))
  have LGQ0 := Lib.hid (show w.heap.size ≤ w9.heap.size from G.out.size)
  have FQ0b1 := Lib.hid (show b1 < w9.heap.size from blt B1.out)
  have EQ0b1 := Lib.hid (show w9.heap.size ≠ b1 from by have := FQ0b1.out; omega)
  have FQ0b2 := Lib.hid (show b2 < w9.heap.size from blt B2.out)
  have EQ0b2 := Lib.hid (show w9.heap.size ≠ b2 from by have := FQ0b2.out; omega)
  have FQ0b3 := Lib.hid (show b3 < w9.heap.size from blt B3.out)
  have EQ0b3 := Lib.hid (show w9.heap.size ≠ b3 from by have := FQ0b3.out; omega)
  have FQ0b4 := Lib.hid (show b4 < w9.heap.size from blt B4.out)
  have EQ0b4 := Lib.hid (show w9.heap.size ≠ b4 from by have := FQ0b4.out; omega)
  have FQ0Q1 := Lib.hid (show g1 < w9.heap.size from blt Q1.out)
  have FQ0Q3 := Lib.hid (show g3 < w9.heap.size from blt Q3.out)
  have G' := Lib.hid (gtrans G.out hg)
  have B1' := Lib.hid (gblock hg B1.out (by simp))
  have B2' := Lib.hid (gblock hg B2.out (by simp))
  have B3' := Lib.hid (gblock hg B3.out (by simp))
  have B4' := Lib.hid (gblock hg B4.out (by simp))
  have Q1' := Lib.hid (gblock hg Q1.out (by simp))
  have Q3' := Lib.hid (gblock hg Q3.out (by simp))
  clear hg G B1 B2 B3 B4 Q1 Q3
  have G := G'
  have B1 := B1'
  have B2 := B2'
  have B3 := B3'
  have B4 := B4'
  have Q1 := Q1'
  have Q3 := Q3'
  clear G' B1' B2' B3' B4' Q1' Q3'
  have m11 : (w9.alloc (.cells #[.string ⟨#[0]⟩, .int .u16 0, .int .u16 0] 35)).cell? ⟨b2, 11, none⟩ = some (.slice (some ⟨g1, 0, none⟩) 1 1) := bcellAt B2.out 11
  have own : (w9.alloc (.cells #[.string ⟨#[0]⟩, .int .u16 0, .int .u16 0] 35)).ownsRow w9.heap.size 35 3 (.slice (some ⟨w9.heap.size, 0, none⟩) 1 1) 1 [.string ⟨#[0]⟩, .int .u16 0, .int .u16 0] := ⟨by simp, .inr ⟨w9.heap.size, 1, #[.string ⟨#[0]⟩, .int .u16 0, .int .u16 0], rfl, Nat.le_refl _, balloc _ _, Nat.le_refl _, by unfold maxLen; omega, by simp, by simp⟩⟩
  have hnr : ∀ j u, ([.string ⟨#[0]⟩, .int .u16 ((1 : Nat) : Int), .int .u16 ((1 : Nat) : Int)] : List Value)[j]? = some u → (w9.alloc (.cells #[.string ⟨#[0]⟩, .int .u16 0, .int .u16 0] 35)).cell? ((⟨g1, 0, none⟩ : Addr).add j) = some u := fun j u hu => by rw [Addr.add_lit, Nat.zero_add, bcellAt Q1.out j]; simpa using hu
  have hone : ∀ u ∈ ([.string ⟨#[0]⟩, .int .u16 ((1 : Nat) : Int), .int .u16 ((1 : Nat) : Int)] : List Value), u.oneCell' = true := by intro u hu; simp at hu; rcases hu with rfl | rfl <;> rfl
  have lsz : w9.heap.size ≤ (w9.alloc (.cells #[.string ⟨#[0]⟩, .int .u16 0, .int .u16 0] 35)).heap.size := by simp
  have own := Lib.hid own
  have hnr := Lib.hid hnr
  have hone := Lib.hid hone
  have lsz := Lib.hid lsz
  obtain ⟨i0, hi, hz0, hz1, hz2⟩ := info_parts Tryz.infoQue
  go_wp2_with (at_builtin; refine wpList_append_own _ rfl (.tmp 38) (.tmp 40) 26 rfl w9.heap.size 35 i0 _ 3 24 Tryz.underlying26 hi hz0 hz1 hz2 rfl (by omega) (.slice (some ⟨w9.heap.size, 0, none⟩) 1 1) 1 [.string ⟨#[0]⟩, .int .u16 0, .int .u16 0] rfl own.out ⟨g1, 0, none⟩ 1 1 [.string ⟨#[0]⟩, .int .u16 ((1 : Nat) : Int), .int .u16 ((1 : Nat) : Int)] rfl rfl hnr.out hone.out (by unfold maxLen; omega) (by omega) lsz.out ?_)
  intro v4 we hown6 hg6 _
  have hown : we.ownsRow w9.heap.size 35 3 v4 2 ([.string ⟨#[0]⟩, .int .u16 0, .int .u16 0] ++ [.string ⟨#[0]⟩, .int .u16 ((1 : Nat) : Int), .int .u16 ((1 : Nat) : Int)]) := hown6
  clear hown6 own hnr hone lsz m11
  obtain ⟨hl4, hx | ⟨g4, cap4, cur4, rfl, hle, hblk, hcap, hmx, hsz, htk⟩⟩ := hown
  · exact absurd hx.2 (by decide)
  have hk : (w9.alloc (.cells #[.string ⟨#[0]⟩, .int .u16 0, .int .u16 0] 35)).grownBy we (some w9.heap.size) := hg6
  have Q4 := Lib.hid hblk
  have C4 := Lib.hid (show cur4.size = cap4 * 3 ∧ 2 ≤ cap4 ∧ cur4.toList.take (2 * 3) = [.string ⟨#[0]⟩, .int .u16 0, .int .u16 0] ++ [.string ⟨#[0]⟩, .int .u16 ((1 : Nat) : Int), .int .u16 ((1 : Nat) : Int)] from ⟨hsz, hcap, htk⟩)
  have EQ4b1 := Lib.hid (show g4 ≠ b1 from by have := FQ0b1.out; omega)
  have EQ4b2 := Lib.hid (show g4 ≠ b2 from by have := FQ0b2.out; omega)
  have EQ4b3 := Lib.hid (show g4 ≠ b3 from by have := FQ0b3.out; omega)
  have EQ4b4 := Lib.hid (show g4 ≠ b4 from by have := FQ0b4.out; omega)
  have G' := Lib.hid (gof G.out hk LGQ0.out)
  have B1' := Lib.hid (gblock hk B1.out (by have := FQ0b1.out; simp; omega))
  have B2' := Lib.hid (gblock hk B2.out (by have := FQ0b2.out; simp; omega))
  have B3' := Lib.hid (gblock hk B3.out (by have := FQ0b3.out; simp; omega))
  have B4' := Lib.hid (gblock hk B4.out (by have := FQ0b4.out; simp; omega))
  have Q1' := Lib.hid (gblock hk Q1.out (by have := FQ0Q1.out; simp; omega))
  have Q3' := Lib.hid (gblock hk Q3.out (by have := FQ0Q3.out; simp; omega))
  clear hk hg6 hblk hle hcap hmx hsz htk hl4 Q0 G B1 B2 B3 B4 Q1 Q3
  have G := G'
  have B1 := B1'
  have B2 := B2'
  have B3 := B3'
  have B4 := B4'
  have Q1 := Q1'
  have Q3 := Q3'
  clear G' B1' B2' B3' B4' Q1' Q3'
  have c11 := bcellAt B4.out 11
  have f11 := bfree B4.out 11
  go_upto_region 12 with fail
  clear c11 f11
  have hg : we.grownBy (we.setCell ⟨b4, 11, none⟩ (.slice (some ⟨g4, 0, none⟩) 2 cap4)) (some b4) := gset (grefl _ _) (p := ⟨b4, 11, none⟩) (.inl rfl) _
  have B' := Lib.hid (show (we.setCell ⟨b4, 11, none⟩ (.slice (some ⟨g4, 0, none⟩) 2 cap4)).heap[b4]? = some (.cells #[.int .u16 9, .bool false, .int .u8 0, .bool false, .bool false, .bool true, .bool false, .bool false, .bool false, .bool false, .int .u8 0, .slice (some ⟨g4, 0, none⟩) 2 cap4, .slice none 0 0, .slice none 0 0, .slice none 0 0, .bool true, .int .u16 4000, .int .u8 0, .int .u8 1, .int .u16 0, .slice none 0 0] 32 (0, 0)) from bset B4.out 11 (.slice (some ⟨g4, 0, none⟩) 2 cap4))
  clear B4
  have B4 := B'
  clear B'
  have G' := Lib.hid (gset2 G.out (p := ⟨b4, 11, none⟩) (v := .slice (some ⟨g4, 0, none⟩) 2 cap4) Lb4.out)
  have B1' := Lib.hid (gblock hg B1.out (by simpa using Db1b4.out))
  have B2' := Lib.hid (gblock hg B2.out (by simpa using Db2b4.out))
  have B3' := Lib.hid (gblock hg B3.out (by simpa using Db3b4.out))
  have Q1' := Lib.hid (gblock hg Q1.out (by simpa using EQ1b4.out))
  have Q3' := Lib.hid (gblock hg Q3.out (by simpa using EQ3b4.out))
  have Q4' := Lib.hid (gblock hg Q4.out (by simpa using EQ4b4.out))
  clear hg G B1 B2 B3 Q1 Q3 Q4
  have G := G'
  have B1 := B1'
  have B2 := B2'
  have B3 := B3'
  have Q1 := Q1'
  have Q3 := Q3'
  have Q4 := Q4'
  clear G' B1' B2' B3' Q1' Q3' Q4'
  generalize (we.setCell ⟨b4, 11, none⟩ (.slice (some ⟨g4, 0, none⟩) 2 cap4)) = w10 at *
  have hg : w10.grownBy ((w10.alloc (.cells #[.int .u16 0, .bool false, .int .u8 0, .bool false, .bool false, .bool false, .bool false, .bool false, .bool false, .bool false, .int .u8 0, .slice none 0 0, .slice none 0 0, .slice none 0 0, .slice none 0 0, .bool false, .int .u16 0, .int .u8 0, .int .u8 0, .int .u16 0, .slice none 0 0] 32)).setRow w10.heap.size #[.int .u16 9, .bool false, .int .u8 0, .bool false, .bool false, .bool true, .bool false, .bool false, .bool false, .bool false, .int .u8 0, .slice (some ⟨g4, 0, none⟩) 2 cap4, .slice none 0 0, .slice none 0 0, .slice none 0 0, .bool true, .int .u16 4000, .int .u8 0, .int .u8 1, .int .u16 0, .slice none 0 0]) none := gsetRow (galloc (grefl w10 none) _) (Nat.le_refl _) _
  have B5 := Lib.hid (show ((w10.alloc (.cells #[.int .u16 0, .bool false, .int .u8 0, .bool false, .bool false, .bool false, .bool false, .bool false, .bool false, .bool false, .int .u8 0, .slice none 0 0, .slice none 0 0, .slice none 0 0, .slice none 0 0, .bool false, .int .u16 0, .int .u8 0, .int .u8 0, .int .u16 0, .slice none 0 0] 32)).setRow w10.heap.size #[.int .u16 9, .bool false, .int .u8 0, .bool false, .bool false, .bool true, .bool false, .bool false, .bool false, .bool false, .int .u8 0, .slice (some ⟨g4, 0, none⟩) 2 cap4, .slice none 0 0, .slice none 0 0, .slice none 0 0, .bool true, .int .u16 4000, .int .u8 0, .int .u8 1, .int .u16 0, .slice none 0 0]).heap[w10.heap.size]? = some (.cells #[.int .u16 9, .bool false, .int .u8 0, .bool false, .bool false, .bool true, .bool false, .bool false, .bool false, .bool false, .int .u8 0, .slice (some ⟨g4, 0, none⟩) 2 cap4, .slice none 0 0, .slice none 0 0, .slice none 0 0, .bool true, .int .u16 4000, .int .u8 0, .int .u8 1, .int .u16 0, .slice none 0 0] 32 (0, 0)) from bsetR (balloc w10 (.cells #[.int .u16 0, .bool false, .int .u8 0, .bool false, .bool false, .bool false, .bool false, .bool false, .bool false, .bool false, .int .u8 0, .slice none 0 0, .slice none 0 0, .slice none 0 0, .slice none 0 0, .bool false, .int .u16 0, .int .u8 0, .int .u8 0, .int .u16 0, .slice none 0 0] 32)) _)
  have ZA := Lib.hid (balloc w10 (.cells #[.int .u16 0, .bool false, .int .u8 0, .bool false, .bool false, .bool false, .bool false, .bool false, .bool false, .bool false, .int .u8 0, .slice none 0 0, .slice none 0 0, .slice none 0 0, .slice none 0 0, .bool false, .int .u16 0, .int .u8 0, .int .u8 0, .int .u16 0, .slice none 0 0] 32))
  have Lb5 := Lib.hid (show w.heap.size ≤ w10.heap.size from G.out.size)
  have Db1b5 := Lib.hid (show b1 ≠ w10.heap.size from by have := blt B1.out; omega)
  have Db2b5 := Lib.hid (show b2 ≠ w10.heap.size from by have := blt B2.out; omega)
  have Db3b5 := Lib.hid (show b3 ≠ w10.heap.size from by have := blt B3.out; omega)
  have Db4b5 := Lib.hid (show b4 ≠ w10.heap.size from by have := blt B4.out; omega)
  have EQ1b5 := Lib.hid (show g1 ≠ w10.heap.size from by have := blt Q1.out; omega)
  have EQ3b5 := Lib.hid (show g3 ≠ w10.heap.size from by have := blt Q3.out; omega)
  have EQ4b5 := Lib.hid (show g4 ≠ w10.heap.size from by have := blt Q4.out; omega)
  have SRC := B4
  have G' := Lib.hid (gtrans G.out hg)
  have B1' := Lib.hid (gblock hg B1.out (by simp))
  have B2' := Lib.hid (gblock hg B2.out (by simp))
  have B3' := Lib.hid (gblock hg B3.out (by simp))
  have B4' := Lib.hid (gblock hg B4.out (by simp))
  have Q1' := Lib.hid (gblock hg Q1.out (by simp))
  have Q3' := Lib.hid (gblock hg Q3.out (by simp))
  have Q4' := Lib.hid (gblock hg Q4.out (by simp))
  clear hg G B1 B2 B3 B4 Q1 Q3 Q4
  have G := G'
  have B1 := B1'
  have B2 := B2'
  have B3 := B3'
  have B4 := B4'
  have Q1 := Q1'
  have Q3 := Q3'
  have Q4 := Q4'
  clear G' B1' B2' B3' B4' Q1' Q3' Q4'
  go_upto_region 13 with (first | refine wpList_store_row rfl 32 _ _ rfl w10.heap.size #[.int .u16 9, .bool false, .int .u8 0, .bool false, .bool false, .bool true, .bool false, .bool false, .bool false, .bool false, .int .u8 0, .slice (some ⟨g4, 0, none⟩) 2 cap4, .slice none 0 0, .slice none 0 0, .slice none 0 0, .bool true, .int .u16 4000, .int .u8 0, .int .u8 1, .int .u16 0, .slice none 0 0] rfl rfl 32 _ ZA.out (by kernel_rfl) rfl (by kernel_rfl) ?_ | refine wpList_load_row rfl 32 _ rfl b4 rfl _ _ _ _ SRC.out Tryz.underlying32 rfl (by kernel_rfl) ?_)
  clear ZA SRC
  generalize ((w10.alloc (.cells #[.int .u16 0, .bool false, .int .u8 0, .bool false, .bool false, .bool false, .bool false, .bool false, .bool false, .bool false, .int .u8 0, .slice none 0 0, .slice none 0 0, .slice none 0 0, .slice none 0 0, .bool false, .int .u16 0, .int .u8 0, .int .u8 0, .int .u16 0, .slice none 0 0] 32)).setRow w10.heap.size #[.int .u16 9, .bool false, .int .u8 0, .bool false, .bool false, .bool true, .bool false, .bool false, .bool false, .bool false, .int .u8 0, .slice (some ⟨g4, 0, none⟩) 2 cap4, .slice none 0 0, .slice none 0 0, .slice none 0 0, .bool true, .int .u16 4000, .int .u8 0, .int .u8 1, .int .u16 0, .slice none 0 0]) = w11 at *
  generalize w10.heap.size = b5 at *
  have c2 := bcellAt B5.out 2
  have f2 := bfree B5.out 2
  go_upto_region 14 with fail
  clear c2 f2
  have hg : w11.grownBy (w11.setCell ⟨b5, 2, none⟩ (.int .u8 5)) (some b5) := gset (grefl _ _) (p := ⟨b5, 2, none⟩) (.inl rfl) _
  have B' := Lib.hid (show (w11.setCell ⟨b5, 2, none⟩ (.int .u8 5)).heap[b5]? = some (.cells #[.int .u16 9, .bool false, .int .u8 5, .bool false, .bool false, .bool true, .bool false, .bool false, .bool false, .bool false, .int .u8 0, .slice (some ⟨g4, 0, none⟩) 2 cap4, .slice none 0 0, .slice none 0 0, .slice none 0 0, .bool true, .int .u16 4000, .int .u8 0, .int .u8 1, .int .u16 0, .slice none 0 0] 32 (0, 0)) from bset B5.out 2 (.int .u8 5))
  clear B5
  have B5 := B'
  clear B'
  have G' := Lib.hid (gset2 G.out (p := ⟨b5, 2, none⟩) (v := .int .u8 5) Lb5.out)
  have B1' := Lib.hid (gblock hg B1.out (by simpa using Db1b5.out))
  have B2' := Lib.hid (gblock hg B2.out (by simpa using Db2b5.out))
  have B3' := Lib.hid (gblock hg B3.out (by simpa using Db3b5.out))
  have B4' := Lib.hid (gblock hg B4.out (by simpa using Db4b5.out))
  have Q1' := Lib.hid (gblock hg Q1.out (by simpa using EQ1b5.out))
  have Q3' := Lib.hid (gblock hg Q3.out (by simpa using EQ3b5.out))
  have Q4' := Lib.hid (gblock hg Q4.out (by simpa using EQ4b5.out))
  clear hg G B1 B2 B3 B4 Q1 Q3 Q4
  have G := G'
  have B1 := B1'
  have B2 := B2'
  have B3 := B3'
  have B4 := B4'
  have Q1 := Q1'
  have Q3 := Q3'
  have Q4 := Q4'
  clear G' B1' B2' B3' B4' Q1' Q3' Q4'
  generalize (w11.setCell ⟨b5, 2, none⟩ (.int .u8 5)) = w12 at *
  have hg : w12.grownBy ((w12.alloc (.cells #[.int .u16 0, .bool false, .int .u8 0, .bool false, .bool false, .bool false, .bool false, .bool false, .bool false, .bool false, .int .u8 0, .slice none 0 0, .slice none 0 0, .slice none 0 0, .slice none 0 0, .bool false, .int .u16 0, .int .u8 0, .int .u8 0, .int .u16 0, .slice none 0 0] 32)).setRow w12.heap.size #[.int .u16 9, .bool false, .int .u8 5, .bool false, .bool false, .bool true, .bool false, .bool false, .bool false, .bool false, .int .u8 0, .slice (some ⟨g4, 0, none⟩) 2 cap4, .slice none 0 0, .slice none 0 0, .slice none 0 0, .bool true, .int .u16 4000, .int .u8 0, .int .u8 1, .int .u16 0, .slice none 0 0]) none := gsetRow (galloc (grefl w12 none) _) (Nat.le_refl _) _
  have B6 := Lib.hid (show ((w12.alloc (.cells #[.int .u16 0, .bool false, .int .u8 0, .bool false, .bool false, .bool false, .bool false, .bool false, .bool false, .bool false, .int .u8 0, .slice none 0 0, .slice none 0 0, .slice none 0 0, .slice none 0 0, .bool false, .int .u16 0, .int .u8 0, .int .u8 0, .int .u16 0, .slice none 0 0] 32)).setRow w12.heap.size #[.int .u16 9, .bool false, .int .u8 5, .bool false, .bool false, .bool true, .bool false, .bool false, .bool false, .bool false, .int .u8 0, .slice (some ⟨g4, 0, none⟩) 2 cap4, .slice none 0 0, .slice none 0 0, .slice none 0 0, .bool true, .int .u16 4000, .int .u8 0, .int .u8 1, .int .u16 0, .slice none 0 0]).heap[w12.heap.size]? = some (.cells #[.int .u16 9, .bool false, .int .u8 5, .bool false, .bool false, .bool true, .bool false, .bool false, .bool false, .bool false, .int .u8 0, .slice (some ⟨g4, 0, none⟩) 2 cap4, .slice none 0 0, .slice none 0 0, .slice none 0 0, .bool true, .int .u16 4000, .int .u8 0, .int .u8 1, .int .u16 0, .slice none 0 0] 32 (0, 0)) from bsetR (balloc w12 (.cells #[.int .u16 0, .bool false, .int .u8 0, .bool false, .bool false, .bool false, .bool false, .bool false, .bool false, .bool false, .int .u8 0, .slice none 0 0, .slice none 0 0, .slice none 0 0, .slice none 0 0, .bool false, .int .u16 0, .int .u8 0, .int .u8 0, .int .u16 0, .slice none 0 0] 32)) _)
  have ZA := Lib.hid (balloc w12 (.cells #[.int .u16 0, .bool false, .int .u8 0, .bool false, .bool false, .bool false, .bool false, .bool false, .bool false, .bool false, .int .u8 0, .slice none 0 0, .slice none 0 0, .slice none 0 0, .slice none 0 0, .bool false, .int .u16 0, .int .u8 0, .int .u8 0, .int .u16 0, .slice none 0 0] 32))
  have Lb6 := Lib.hid (show w.heap.size ≤ w12.heap.size from G.out.size)
  have Db1b6 := Lib.hid (show b1 ≠ w12.heap.size from by have := blt B1.out; omega)
  have Db2b6 := Lib.hid (show b2 ≠ w12.heap.size from by have := blt B2.out; omega)
  have Db3b6 := Lib.hid (show b3 ≠ w12.heap.size from by have := blt B3.out; omega)
  have Db4b6 := Lib.hid (show b4 ≠ w12.heap.size from by have := blt B4.out; omega)
  have Db5b6 := Lib.hid (show b5 ≠ w12.heap.size from by have := blt B5.out; omega)
  have EQ1b6 := Lib.hid (show g1 ≠ w12.heap.size from by have := blt Q1.out; omega)
  have EQ3b6 := Lib.hid (show g3 ≠ w12.heap.size from by have := blt Q3.out; omega)
  have EQ4b6 := Lib.hid (show g4 ≠ w12.heap.size from by have := blt Q4.out; omega)
  have SRC := B5
  have G' := Lib.hid (gtrans G.out hg)
  have B1' := Lib.hid (gblock hg B1.out (by simp))
  have B2' := Lib.hid (gblock hg B2.out (by simp))
  have B3' := Lib.hid (gblock hg B3.out (by simp))
  have B4' := Lib.hid (gblock hg B4.out (by simp))
  have B5' := Lib.hid (gblock hg B5.out (by simp))
  have Q1' := Lib.hid (gblock hg Q1.out (by simp))
  have Q3' := Lib.hid (gblock hg Q3.out (by simp))
  have Q4' := Lib.hid (gblock hg Q4.out (by simp))
  clear hg G B1 B2 B3 B4 B5 Q1 Q3 Q4
  have G := G'
  have B1 := B1'
  have B2 := B2'
  have B3 := B3'
  have B4 := B4'
  have B5 := B5'
  have Q1 := Q1'
  have Q3 := Q3'
  have Q4 := Q4'
  clear G' B1' B2' B3' B4' B5' Q1' Q3' Q4'
  go_upto_region 15 with (first | refine wpList_store_row rfl 32 _ _ rfl w12.heap.size #[.int .u16 9, .bool false, .int .u8 5, .bool false, .bool false, .bool true, .bool false, .bool false, .bool false, .bool false, .int .u8 0, .slice (some ⟨g4, 0, none⟩) 2 cap4, .slice none 0 0, .slice none 0 0, .slice none 0 0, .bool true, .int .u16 4000, .int .u8 0, .int .u8 1, .int .u16 0, .slice none 0 0] rfl rfl 32 _ ZA.out (by kernel_rfl) rfl (by kernel_rfl) ?_ | refine wpList_load_row rfl 32 _ rfl b5 rfl _ _ _ _ SRC.out Tryz.underlying32 rfl (by kernel_rfl) ?_)
  clear ZA SRC
  generalize ((w12.alloc (.cells #[.int .u16 0, .bool false, .int .u8 0, .bool false, .bool false, .bool false, .bool false, .bool false, .bool false, .bool false, .int .u8 0, .slice none 0 0, .slice none 0 0, .slice none 0 0, .slice none 0 0, .bool false, .int .u16 0, .int .u8 0, .int .u8 0, .int .u16 0, .slice none 0 0] 32)).setRow w12.heap.size #[.int .u16 9, .bool false, .int .u8 5, .bool false, .bool false, .bool true, .bool false, .bool false, .bool false, .bool false, .int .u8 0, .slice (some ⟨g4, 0, none⟩) 2 cap4, .slice none 0 0, .slice none 0 0, .slice none 0 0, .bool true, .int .u16 4000, .int .u8 0, .int .u8 1, .int .u16 0, .slice none 0 0]) = w13 at *
  generalize w12.heap.size = b6 at *
  have c1 := bcellAt B6.out 1
  have f1 := bfree B6.out 1
  go_upto_region 16 with fail
  clear c1 f1
  have hg : w13.grownBy (w13.setCell ⟨b6, 1, none⟩ (.bool true)) (some b6) := gset (grefl _ _) (p := ⟨b6, 1, none⟩) (.inl rfl) _
  have B' := Lib.hid (show (w13.setCell ⟨b6, 1, none⟩ (.bool true)).heap[b6]? = some (.cells #[.int .u16 9, .bool true, .int .u8 5, .bool false, .bool false, .bool true, .bool false, .bool false, .bool false, .bool false, .int .u8 0, .slice (some ⟨g4, 0, none⟩) 2 cap4, .slice none 0 0, .slice none 0 0, .slice none 0 0, .bool true, .int .u16 4000, .int .u8 0, .int .u8 1, .int .u16 0, .slice none 0 0] 32 (0, 0)) from bset B6.out 1 (.bool true))
  clear B6
  have B6 := B'
  clear B'
  have G' := Lib.hid (gset2 G.out (p := ⟨b6, 1, none⟩) (v := .bool true) Lb6.out)
  have B1' := Lib.hid (gblock hg B1.out (by simpa using Db1b6.out))
  have B2' := Lib.hid (gblock hg B2.out (by simpa using Db2b6.out))
  have B3' := Lib.hid (gblock hg B3.out (by simpa using Db3b6.out))
  have B4' := Lib.hid (gblock hg B4.out (by simpa using Db4b6.out))
  have B5' := Lib.hid (gblock hg B5.out (by simpa using Db5b6.out))
  have Q1' := Lib.hid (gblock hg Q1.out (by simpa using EQ1b6.out))
  have Q3' := Lib.hid (gblock hg Q3.out (by simpa using EQ3b6.out))
  have Q4' := Lib.hid (gblock hg Q4.out (by simpa using EQ4b6.out))
  clear hg G B1 B2 B3 B4 B5 Q1 Q3 Q4
  have G := G'
  have B1 := B1'
  have B2 := B2'
  have B3 := B3'
  have B4 := B4'
  have B5 := B5'
  have Q1 := Q1'
  have Q3 := Q3'
  have Q4 := Q4'
  clear G' B1' B2' B3' B4' B5' Q1' Q3' Q4'
  generalize (w13.setCell ⟨b6, 1, none⟩ (.bool true)) = w14 at *
  have QV1 : Qs w14 (.slice (some ⟨g1, 0, none⟩) 1 1) [qr0 1 1] := qs_one Q1.out
  have QV3 : Qs w14 (.slice (some ⟨g3, 0, none⟩) 1 1) [qr0 255 3] := qs_one Q3.out
  have QV4 : Qs w14 (.slice (some ⟨g4, 0, none⟩) 2 cap4) [qr0 0 0, qr0 1 1] := FS.sl (base := 0) ⟨rfl, .inr ⟨g4, cap4, cur4, rfl, Nat.zero_le _, Q4.out, C4.out.2.1, by rw [C4.out.1]; exact Nat.le_refl _, C4.out.2.2⟩⟩
  have BY6 : ∀ w' : World, w14.grownBy w' none → Calls Tryz.prog 6 #[.agg #[.int .u16 9, .bool true, .int .u8 5, .bool false, .bool false, .bool true, .bool false, .bool false, .bool false, .bool false, .int .u8 0, .slice (some ⟨g4, 0, none⟩) 2 cap4, .slice none 0 0, .slice none 0 0, .slice none 0 0, .bool true, .int .u16 4000, .int .u8 0, .int .u8 1, .int .u16 0, .slice none 0 0]] w' fun e w'' => e = .returned (.string mRep.out) ∧ w'.grownBy w'' none := fun w' g => bytes_any w' mRep (.slice (some ⟨g4, 0, none⟩) 2 cap4) _ _ _ _ (gm_v (QV4.kept g)) ((Gm.two (op := 5) (by omega)).doc (qr := true))
  have BY5 : ∀ w' : World, w14.grownBy w' none → Calls Tryz.prog 6 #[.agg #[.int .u16 9, .bool false, .int .u8 5, .bool false, .bool false, .bool true, .bool false, .bool false, .bool false, .bool false, .int .u8 0, .slice (some ⟨g4, 0, none⟩) 2 cap4, .slice none 0 0, .slice none 0 0, .slice none 0 0, .bool true, .int .u16 4000, .int .u8 0, .int .u8 1, .int .u16 0, .slice none 0 0]] w' fun e w'' => e = .returned (.string mOth.out) ∧ w'.grownBy w'' none := fun w' g => bytes_any w' mOth (.slice (some ⟨g4, 0, none⟩) 2 cap4) _ _ _ _ (gm_v (QV4.kept g)) ((Gm.two (op := 5) (by omega)).doc (qr := false))
  have BY4 : ∀ w' : World, w14.grownBy w' none → Calls Tryz.prog 6 #[.agg #[.int .u16 9, .bool false, .int .u8 0, .bool false, .bool false, .bool true, .bool false, .bool false, .bool false, .bool false, .int .u8 0, .slice (some ⟨g4, 0, none⟩) 2 cap4, .slice none 0 0, .slice none 0 0, .slice none 0 0, .bool true, .int .u16 4000, .int .u8 0, .int .u8 1, .int .u16 0, .slice none 0 0]] w' fun e w'' => e = .returned (.string mTwo.out) ∧ w'.grownBy w'' none := fun w' g => bytes_any w' mTwo (.slice (some ⟨g4, 0, none⟩) 2 cap4) _ _ _ _ (gm_v (QV4.kept g)) ((Gm.two (op := 0) (by omega)).doc (qr := false))
  have BY3 : ∀ w' : World, w14.grownBy w' none → Calls Tryz.prog 6 #[.agg #[.int .u16 9, .bool false, .int .u8 0, .bool false, .bool false, .bool true, .bool false, .bool false, .bool false, .bool false, .int .u8 0, .slice (some ⟨g3, 0, none⟩) 1 1, .slice none 0 0, .slice none 0 0, .slice none 0 0, .bool true, .int .u16 4000, .int .u8 0, .int .u8 1, .int .u16 0, .slice none 0 0]] w' fun e w'' => e = .returned (.string mOdd.out) ∧ w'.grownBy w'' none := fun w' g => bytes_any w' mOdd (.slice (some ⟨g3, 0, none⟩) 1 1) _ _ _ _ (gm_v (QV3.kept g)) ((Gm.one (k := 255) (c := 3) (has := true) (sz := 4000) (v := 1) (by omega) (by omega) (by omega) (by omega) (.inl rfl)).doc (qr := false))
  have BY2 : ∀ w' : World, w14.grownBy w' none → Calls Tryz.prog 6 #[.agg #[.int .u16 9, .bool false, .int .u8 0, .bool false, .bool false, .bool true, .bool false, .bool false, .bool false, .bool false, .int .u8 0, .slice (some ⟨g1, 0, none⟩) 1 1, .slice none 0 0, .slice none 0 0, .slice none 0 0, .bool true, .int .u16 4000, .int .u8 0, .int .u8 1, .int .u16 0, .slice none 0 0]] w' fun e w'' => e = .returned (.string mOld.out) ∧ w'.grownBy w'' none := fun w' g => bytes_any w' mOld (.slice (some ⟨g1, 0, none⟩) 1 1) _ _ _ _ (gm_v (QV1.kept g)) ((Gm.one (k := 1) (c := 1) (has := true) (sz := 4000) (v := 1) (by omega) (by omega) (by omega) (by omega) (.inl rfl)).doc (qr := false))
  have BY1 : ∀ w' : World, w14.grownBy w' none → Calls Tryz.prog 6 #[.agg #[.int .u16 9, .bool false, .int .u8 0, .bool false, .bool false, .bool true, .bool false, .bool false, .bool false, .bool false, .int .u8 0, .slice (some ⟨g1, 0, none⟩) 1 1, .slice none 0 0, .slice none 0 0, .slice none 0 0, .bool true, .int .u16 4000, .int .u8 0, .int .u8 0, .int .u16 0, .slice none 0 0]] w' fun e w'' => e = .returned (.string mEdn.out) ∧ w'.grownBy w'' none := fun w' g => bytes_any w' mEdn (.slice (some ⟨g1, 0, none⟩) 1 1) _ _ _ _ (gm_v (QV1.kept g)) ((Gm.one (k := 1) (c := 1) (has := true) (sz := 4000) (v := 0) (by omega) (by omega) (by omega) (by omega) (.inl rfl)).doc (qr := false))
  have AK1 : ∀ (w' : World) (g : Nat), w'.heap[g]? = some (.cells #[.string ⟨#[0]⟩, .int .u16 ((0 : Nat) : Int), .int .u16 ((1 : Nat) : Int)] 35 (0, 0)) → Calls Tryz.prog 6 #[.agg (row25 false 0 false 0 0 (.slice (some ⟨g, 0, none⟩) 1 1))] w' fun e w'' => e = .returned (.string (mAsk 0 1).out) ∧ w'.grownBy w'' none := fun w' g h => bytes_any w' (mAsk 0 1) _ _ _ _ _ (gm_v (qs_one h)) ((Gm.one (k := 0) (c := 1) (has := false) (sz := 0) (v := 0) (by omega) (by omega) (by omega) (by omega) (.inr ⟨rfl, rfl⟩)).doc (qr := false))
  have AK2 : ∀ (w' : World) (g : Nat), w'.heap[g]? = some (.cells #[.string ⟨#[0]⟩, .int .u16 ((1 : Nat) : Int), .int .u16 ((1 : Nat) : Int)] 35 (0, 0)) → Calls Tryz.prog 6 #[.agg (row25 false 0 false 0 0 (.slice (some ⟨g, 0, none⟩) 1 1))] w' fun e w'' => e = .returned (.string (mAsk 1 1).out) ∧ w'.grownBy w'' none := fun w' g h => bytes_any w' (mAsk 1 1) _ _ _ _ _ (gm_v (qs_one h)) ((Gm.one (k := 1) (c := 1) (has := false) (sz := 0) (v := 0) (by omega) (by omega) (by omega) (by omega) (.inr ⟨rfl, rfl⟩)).doc (qr := false))
  have AK3 : ∀ (w' : World) (g : Nat), w'.heap[g]? = some (.cells #[.string ⟨#[0]⟩, .int .u16 ((41 : Nat) : Int), .int .u16 ((1 : Nat) : Int)] 35 (0, 0)) → Calls Tryz.prog 6 #[.agg (row25 false 0 false 0 0 (.slice (some ⟨g, 0, none⟩) 1 1))] w' fun e w'' => e = .returned (.string (mAsk 41 1).out) ∧ w'.grownBy w'' none := fun w' g h => bytes_any w' (mAsk 41 1) _ _ _ _ _ (gm_v (qs_one h)) ((Gm.one (k := 41) (c := 1) (has := false) (sz := 0) (v := 0) (by omega) (by omega) (by omega) (by omega) (.inr ⟨rfl, rfl⟩)).doc (qr := false))
  have AK4 : ∀ (w' : World) (g : Nat), w'.heap[g]? = some (.cells #[.string ⟨#[0]⟩, .int .u16 ((248 : Nat) : Int), .int .u16 ((1 : Nat) : Int)] 35 (0, 0)) → Calls Tryz.prog 6 #[.agg (row25 false 0 false 0 0 (.slice (some ⟨g, 0, none⟩) 1 1))] w' fun e w'' => e = .returned (.string (mAsk 248 1).out) ∧ w'.grownBy w'' none := fun w' g h => bytes_any w' (mAsk 248 1) _ _ _ _ _ (gm_v (qs_one h)) ((Gm.one (k := 248) (c := 1) (has := false) (sz := 0) (v := 0) (by omega) (by omega) (by omega) (by omega) (.inr ⟨rfl, rfl⟩)).doc (qr := false))
  have AK5 : ∀ (w' : World) (g : Nat), w'.heap[g]? = some (.cells #[.string ⟨#[0]⟩, .int .u16 ((249 : Nat) : Int), .int .u16 ((1 : Nat) : Int)] 35 (0, 0)) → Calls Tryz.prog 6 #[.agg (row25 false 0 false 0 0 (.slice (some ⟨g, 0, none⟩) 1 1))] w' fun e w'' => e = .returned (.string (mAsk 249 1).out) ∧ w'.grownBy w'' none := fun w' g h => bytes_any w' (mAsk 249 1) _ _ _ _ _ (gm_v (qs_one h)) ((Gm.one (k := 249) (c := 1) (has := false) (sz := 0) (v := 0) (by omega) (by omega) (by omega) (by omega) (.inr ⟨rfl, rfl⟩)).doc (qr := false))
  have AK6 : ∀ (w' : World) (g : Nat), w'.heap[g]? = some (.cells #[.string ⟨#[0]⟩, .int .u16 ((255 : Nat) : Int), .int .u16 ((1 : Nat) : Int)] 35 (0, 0)) → Calls Tryz.prog 6 #[.agg (row25 false 0 false 0 0 (.slice (some ⟨g, 0, none⟩) 1 1))] w' fun e w'' => e = .returned (.string (mAsk 255 1).out) ∧ w'.grownBy w'' none := fun w' g h => bytes_any w' (mAsk 255 1) _ _ _ _ _ (gm_v (qs_one h)) ((Gm.one (k := 255) (c := 1) (has := false) (sz := 0) (v := 0) (by omega) (by omega) (by omega) (by omega) (.inr ⟨rfl, rfl⟩)).doc (qr := false))
  have AK7 : ∀ (w' : World) (g : Nat), w'.heap[g]? = some (.cells #[.string ⟨#[0]⟩, .int .u16 ((256 : Nat) : Int), .int .u16 ((1 : Nat) : Int)] 35 (0, 0)) → Calls Tryz.prog 6 #[.agg (row25 false 0 false 0 0 (.slice (some ⟨g, 0, none⟩) 1 1))] w' fun e w'' => e = .returned (.string (mAsk 256 1).out) ∧ w'.grownBy w'' none := fun w' g h => bytes_any w' (mAsk 256 1) _ _ _ _ _ (gm_v (qs_one h)) ((Gm.one (k := 256) (c := 1) (has := false) (sz := 0) (v := 0) (by omega) (by omega) (by omega) (by omega) (.inr ⟨rfl, rfl⟩)).doc (qr := false))
  have AK8 : ∀ (w' : World) (g : Nat), w'.heap[g]? = some (.cells #[.string ⟨#[0]⟩, .int .u16 ((1 : Nat) : Int), .int .u16 ((3 : Nat) : Int)] 35 (0, 0)) → Calls Tryz.prog 6 #[.agg (row25 false 0 false 0 0 (.slice (some ⟨g, 0, none⟩) 1 1))] w' fun e w'' => e = .returned (.string (mAsk 1 3).out) ∧ w'.grownBy w'' none := fun w' g h => bytes_any w' (mAsk 1 3) _ _ _ _ _ (gm_v (qs_one h)) ((Gm.one (k := 1) (c := 3) (has := false) (sz := 0) (v := 0) (by omega) (by omega) (by omega) (by omega) (.inr ⟨rfl, rfl⟩)).doc (qr := false))
  have AK9 : ∀ (w' : World) (g : Nat), w'.heap[g]? = some (.cells #[.string ⟨#[0]⟩, .int .u16 ((1 : Nat) : Int), .int .u16 ((255 : Nat) : Int)] 35 (0, 0)) → Calls Tryz.prog 6 #[.agg (row25 false 0 false 0 0 (.slice (some ⟨g, 0, none⟩) 1 1))] w' fun e w'' => e = .returned (.string (mAsk 1 255).out) ∧ w'.grownBy w'' none := fun w' g h => bytes_any w' (mAsk 1 255) _ _ _ _ _ (gm_v (qs_one h)) ((Gm.one (k := 1) (c := 255) (has := false) (sz := 0) (v := 0) (by omega) (by omega) (by omega) (by omega) (.inr ⟨rfl, rfl⟩)).doc (qr := false))
  have RO := rows25_ok
  have RL := rows25_len
  rw [rows25_V] at RO RL
  have SZ5 : 12 ≤ mOth.out.size := (gm_size (qr := false) (Gm.two (op := 5) (by omega))).1
  have SZ1 : mEdn.out.size ≤ 65535 := (gm_size (qr := false) (Gm.one (k := 1) (c := 1) (has := true) (sz := 4000) (v := 0) (by omega) (by omega) (by omega) (by omega) (.inl rfl))).2
  have SZA : (mAsk 1 1).out.size ≤ 65535 := (gm_size (qr := false) (Gm.one (k := 1) (c := 1) (has := false) (sz := 0) (v := 0) (by omega) (by omega) (by omega) (by omega) (.inr ⟨rfl, rfl⟩))).2
  have LK1 : look mEdn.out = ⟨3, 0, ⟨9, false, 0, false, false, true, false, false, false, false, 0⟩, true, qr0 1 1, true, 4000⟩ := (Gm.one (k := 1) (c := 1) (has := true) (sz := 4000) (v := 0) (by omega) (by omega) (by omega) (by omega) (.inl rfl)).lk (qr := false)
  have LK2 : look (mAsk 1 1).out = ⟨3, 0, ⟨9, false, 0, false, false, true, false, false, false, false, 0⟩, true, qr0 1 1, false, 0⟩ := (Gm.one (k := 1) (c := 1) (has := false) (sz := 0) (v := 0) (by omega) (by omega) (by omega) (by omega) (.inr ⟨rfl, rfl⟩)).lk (qr := false)
  clear QV1 QV3 QV4
  generalize mRep.out = s6 at *
  generalize mOth.out = s5 at *
  generalize mTwo.out = s4 at *
  generalize mOdd.out = s3 at *
  generalize mOld.out = s2 at *
  generalize mEdn.out = s1 at *
  generalize (mAsk 0 1).out = a1 at *
  generalize (mAsk 1 1).out = a2 at *
  generalize (mAsk 41 1).out = a3 at *
  generalize (mAsk 248 1).out = a4 at *
  generalize (mAsk 249 1).out = a5 at *
  generalize (mAsk 255 1).out = a6 at *
  generalize (mAsk 256 1).out = a7 at *
  generalize (mAsk 1 3).out = a8 at *
  generalize (mAsk 1 255).out = a9 at *
  have BY1 := Lib.hid BY1
  have BY2 := Lib.hid BY2
  have BY3 := Lib.hid BY3
  have BY4 := Lib.hid BY4
  have BY5 := Lib.hid BY5
  have BY6 := Lib.hid BY6
  have AK1 := Lib.hid AK1
  have AK2 := Lib.hid AK2
  have AK3 := Lib.hid AK3
  have AK4 := Lib.hid AK4
  have AK5 := Lib.hid AK5
  have AK6 := Lib.hid AK6
  have AK7 := Lib.hid AK7
  have AK8 := Lib.hid AK8
  have AK9 := Lib.hid AK9
  have RO := Lib.hid RO
  have RL := Lib.hid RL
  have SZ5 := Lib.hid SZ5
  have SZ1 := Lib.hid SZ1
  have SZA := Lib.hid SZA
  have LK1 := Lib.hid LK1
  have LK2 := Lib.hid LK2
  go_upto_region 16 with fail
  refine inames_rows _ b1 b2 b3 b4 b5 b6 _ _ _ _ _ _ s6 s5 s4 s3 s2 s1 a1 a2 a3 a4 a5 a6 a7 a8 a9 B1.out rfl B2.out rfl B3.out rfl B4.out rfl B5.out rfl B6.out rfl BY1.out BY2.out BY3.out BY4.out BY5.out BY6.out AK1.out AK2.out AK3.out AK4.out AK5.out AK6.out AK7.out AK8.out AK9.out SZ5.out SZ1.out ?_
  intro u49 u50 u51 u52 u53 u54 u55 u56 u57 u58 u59 u60 u61 u62 u63 u64 u65 u66 u67 u68 u69 u70 u71 u72 u73 u74 u75 u76 u77 u78 u79 u80 u81 u82 u83 u84 u85 u86 u87 u88 u89 u90 u91 u92 u93 u94 u95 u96 u97 u98 u99 u100 u101 u102 u103 u104 u105 u106 v107 v108 v109 wc hcut
  obtain ⟨hg, rfl, rfl, lb, rfl, hf⟩ := hcut
  have F := Lib.hid hf
  clear hf
  clear BY2 BY3 BY4 BY5 BY6 AK1 AK3 AK4 AK5 AK6 AK7 AK8 AK9 SZ5 B2 B3 B4 B5 B6 Q1 Q3 Q4
  have BY1' := Lib.hid (fun (w' : World) (g : wc.grownBy w' none) => BY1.out w' (gtrans hg g))
  clear BY1
  have BY1 := BY1'
  clear BY1'
  have G' := Lib.hid (gtrans G.out hg)
  have B1' := Lib.hid (gblock hg B1.out (by simp))
  clear hg G B1
  have G := G'
  have B1 := B1'
  clear G' B1'
  go_step
  refine inames_loop wc (HE.out.kept G.out (by simp)) (HT.out.kept G.out (by simp)) lb _ rfl F.out RO.out RL.out ?_
  clear F RO RL
  intro u0 u8 u9 u109 u110 u111 u112 u113 u114 u115 u116 u117 u118 u119 u120 u121 u122 u123 u124 u125 u126 u127 u128 u129 u130 u131 u132 u133 u134 u135 u136 u137 u138 u139 u140 u141 u142 u143 u144 u145 u146 u147 u148 u149 u150 u151 u152 u153 u154 u155 u156 u157 u158 u159 u160 u161 u162 wr hg
  have BY1' := Lib.hid (fun (w' : World) (g : wr.grownBy w' none) => BY1.out w' (gtrans hg g))
  clear BY1
  have BY1 := BY1'
  clear BY1'
  have G' := Lib.hid (gtrans G.out hg)
  have B1' := Lib.hid (gblock hg B1.out (by simp))
  clear hg G B1
  have G := G'
  have B1 := B1'
  clear G' B1'
  go_step
  exact inames_rest w wr HE.out HT.out G.out b1 _ rfl B1.out s1 a2 BY1.out AK2.out SZ1.out SZA.out LK1.out LK2.out
end Go.Proofs.YtkhigfbmdolgmaaGreatDoor
