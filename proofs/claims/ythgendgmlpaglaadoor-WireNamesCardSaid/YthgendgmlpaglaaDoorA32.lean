/-
  Wire: limits, the body of its own that would be too long.
  Wire: limits.
  Wire: WireNames' walk.
-/
import Derived.Test.YthgendgmlpaglaaDoorWnK
import Derived.Test.YthgendgmlpaglaaDoorA31
import Derived.Test.YthgendgmlpaglaaDoorWnM

namespace Go.Proofs.YthgendgmlpaglaaDoor
open Go.RowKit

def rS : ByteArray := ⟨rL.toArray⟩
theorem rS_cat : (⟨#[0, 0, 99, 0, 1, 0, 0, 0, 0, 0, 255]⟩ : ByteArray) ++ far = rS := by kernel_rfl
theorem rS_size : rS.size = 266 := by unfold rS; rw [size_mk, rL_len]
def preS : ByteArray := ⟨(preL 1 1).toArray⟩
theorem preS_cat : (⟨#[0, 9, 0, 0, 0, 0, 1, 1, 0, 0, 0, 0]⟩ : ByteArray) ++ rS = preS := by kernel_rfl
theorem preS_size : preS.size = 278 := by unfold preS; rw [size_mk, preL_len]
def qS : ByteArray := ⟨qL.toArray⟩
theorem many_0 : preS.data.toList = manyL 1 1 0 := by unfold manyL; exact (List.append_nil _).symm
theorem many_S (i : Nat) : manyL 1 1 i ++ qS.data.toList = manyL 1 1 (i + 1) := by
  show manyL 1 1 i ++ qL = _
  unfold manyL
  rw [qsL_add i 1, List.append_assoc]
  rfl
theorem many_set (a b c d : UInt8) (n : Nat) : ((manyL a b n).set 6 c).set 7 d = manyL c d n := rfl
theorem many_set7 (a b d : UInt8) (n : Nat) : (manyL a b n).set 7 d = manyL a d n := rfl
theorem many_front (a b : UInt8) (n k : Nat) : manyL a b (n + k) = manyL a b n ++ qsL k := by
  unfold manyL
  rw [qsL_add, List.append_assoc]
set_option maxRecDepth 100000 in
set_option maxHeartbeats 16000000 in
theorem limits_rest {c0 c1 c2 c3 c4 c5 c6 c7 c8 c9 c10 c11 c12 c13 c14 c15 c16 c18 c19 c20 c21 c22 c23 c24 c25 c26 c27 c28 c29 c30 c31 c32 c33 c34 c35 c36 c37 c38 c39 c40 c41 c42 c43 c44 c45 c46 c47 c48 c49 c50 c51 c52 c53 c54 c55 c56 c57 c58 c59 c60 c61 c62 c63 c64 c65 c66 c67 c68 c69 c70 c71 c72 c73 c74 c75 c76 c77 c78 c79 c80 c81 c82 c83 c84 c85 c86 c87 c88 c89 c90 c91 c92 c93 c94 c95 c96 c97 c98 c99 c100 c101 c102 c103 c104 c105 c106 c107 c108 c109 c110 c111 c112 c113 c114 c115 c116 c117 c118 c119 c120 c121 c122 c123 c124 c125 c126 c127 c128 c129 c130 c131 c132 c133 c134 c135 c136 c137 c138 c139 c140 c141 c142 c143 c144 c145 c146 c147 c148 c149 c150 c151 c152 c153 c154 c155 c156 c157 c158 c159 c160 c161 c162 c163 c164 c165 c166 c167 c168 c169 c170 c171 c172 c173 c174 c175 c176 c177 c178 c179 c180 c181 c182 c183 c184 c185 c186 c187 c188 c189 c190 c191 c192 c193 c194 c195 c196 c197 c198 c199 c200 c201 c202 c203 c204 c205 c206 c207 c208 c209 c210 c211 c212 c213 c214 c215 c216 c217 c218 c219 c220 c221 c222 : Value} (w wr : World) (he : Et w) (hb : Bt w) (hg0 : w.grownBy wr none) :
    Code.wp Tryd.prog (cTail 10 (Tryd.f8.body.getD .skip)) (bodyPost Tryd.prog Tryd.f8 fun e w' => e = .returned (.bool true) ∧ w.grownBy w' none) ⟨#[c0, c1, c2, c3, c4, c5, c6, c7, c8, c9, c10, c11, c12, c13, c14, c15, c16, .string far, c18, c19, c20, c21, c22, c23, c24, c25, c26, c27, c28, c29, c30, c31, c32, c33, c34, c35, c36, c37, c38, c39, c40, c41, c42, c43, c44, c45, c46, c47, c48, c49, c50, c51, c52, c53, c54, c55, c56, c57, c58, c59, c60, c61, c62, c63, c64, c65, c66, c67, c68, c69, c70, c71, c72, c73, c74, c75, c76, c77, c78, c79, c80, c81, c82, c83, c84, c85, c86, c87, c88, c89, c90, c91, c92, c93, c94, c95, c96, c97, c98, c99, c100, c101, c102, c103, c104, c105, c106, c107, c108, c109, c110, c111, c112, c113, c114, c115, c116, c117, c118, c119, c120, c121, c122, c123, c124, c125, c126, c127, c128, c129, c130, c131, c132, c133, c134, c135, c136, c137, c138, c139, c140, c141, c142, c143, c144, c145, c146, c147, c148, c149, c150, c151, c152, c153, c154, c155, c156, c157, c158, c159, c160, c161, c162, c163, c164, c165, c166, c167, c168, c169, c170, c171, c172, c173, c174, c175, c176, c177, c178, c179, c180, c181, c182, c183, c184, c185, c186, c187, c188, c189, c190, c191, c192, c193, c194, c195, c196, c197, c198, c199, c200, c201, c202, c203, c204, c205, c206, c207, c208, c209, c210, c211, c212, c213, c214, c215, c216, c217, c218, c219, c220, c221, c222], []⟩ wr := by
  conv => arg 2; whnf
  have HE := Lib.hid he
  have HT := Lib.hid hb
  have G := Lib.hid hg0
  clear he hb hg0
  obtain ⟨i0, hi, hz0, hz1, hz2⟩ := info_parts Tryd.infoByte
  have rc := rS_cat
  have nl1 := nlW ((⟨#[0, 0, 99, 0, 1, 0, 0, 0, 0, 0, 255]⟩ : ByteArray).size + far.size) (by rw [far_size]; decide)
  go_upto_region 19 with fail
  clear rc nl1
  have pc := preS_cat
  have nl1 := nlW ((⟨#[0, 9, 0, 0, 0, 0, 1, 1, 0, 0, 0, 0]⟩ : ByteArray).size + rS.size) (by rw [rS_size]; decide)
  have hcv := Lib.run_convert_string_bytes (P := Tryd.prog) wr 9 26 5 preS Tryd.underlying9 Tryd.underlying26 Tryd.underlying5
  have OC := Lib.hid (OwnM.conv wr preS (by rw [preS_size]; omega))
  have gc := conv_grown wr 5 preS
  rw [preS_size] at hcv OC
  rw [many_0] at OC
  generalize Lib.bytesWorld wr 5 preS = v5 at *
  generalize grownCap wr 278 0 5 = cap0 at *
  have HC := Lib.hid hcv
  clear hcv
  have OC := Lib.hid (OC.out.base (Nat.le_trans G.out.size (Nat.le_refl _)) : OwnM v5 w.heap.size _ _)
  have G' := Lib.hid (gtrans G.out gc)
  clear G gc
  have G := G'
  clear G'
  have hcv := HC.out
  generalize wr.heap.size = mb0 at *
  go_upto_block 2 with fail
  clear pc nl1 hcv HC
  go_wp2_with fail
  go_loopw [20, 21] (fun v20 vi wq => ∃ i : Nat, vi = .int .i64 i ∧ i ≤ 256 ∧ OwnM wq w.heap.size v20 (manyL 1 1 i) ∧ w.grownBy wq none) (fun _ vi _ => 256 - (intOf vi).toNat)
  case atStart => exact ⟨0, rfl, by omega, OC.out, G.out⟩
  case round =>
    clear OC G
    obtain ⟨i, rfl, hil, ho, hgr⟩ := hrel
    have HO := Lib.hid ho
    have G := Lib.hid hgr
    obtain ⟨A, cap, rfl, hc, _⟩ := ho.shape
    have hp : 0 < (manyL 1 1 i).length := by rw [manyL_len]; omega
    obtain ⟨g, rfl, hbg, hgs, _, _⟩ := ho.at hp
    have HB := Lib.hid hbg
    clear hgr ho hp hbg
    rw [manyL_len] at hc
    obtain ⟨n, hn⟩ : ∃ n, (manyL 1 1 i).length = n := ⟨_, rfl⟩
    rw [hn] at HO ⊢
    rw [manyL_len] at hn
    have HN := Lib.hid hn
    clear hn
    have HC := Lib.hid hc
    clear hc
    by_cases hlt : i < 256
    case pos =>
      have q1 : (i : Int) < 256 := by omega
      have HI := Lib.hid hlt
      clear hlt hil
      go_wp2_with (at_builtin; refine wpList_app_strM rfl (.tmp 170) (.tmp 171) 26 9 rfl w.heap.size i0 Tryd.underlying26 Tryd.underlying9 hi hz0 hz1 hz2 _ (manyL 1 1 i) rfl HO.out qS rfl ?c1 ?c2 ?_)
      case c1 => rw [manyL_len]; show 278 + 19 * i + 19 ≤ _; have := HI.out; omega
      case c2 => exact G.out.size
      intro v2 w2 ho2 hg2
      rw [many_S] at ho2
      have G2 := Lib.hid (gof G.out hg2 HB.out)
      have O2 := Lib.hid ho2
      clear ho2 hg2
      go_wp2_with fail
      go_roundw
      case rel => exact ⟨i + 1, by go_num, HI.out, O2.out, G2.out⟩
      case measure => have := HI.out; simp [intOf]; omega
    case neg =>
      obtain rfl : i = 256 := by omega
      clear hlt hil
      obtain rfl : n = 5142 := by have := HN.out; omega
      clear HN
      obtain ⟨S1, hS1⟩ : ∃ S, (⟨(manyL 1 1 256).toArray⟩ : ByteArray) = S := ⟨_, rfl⟩
      have cv := cvs HO.out.sl
      rw [hS1] at cv
      have D1 := Lib.hid (show dcE S1 = 5 from by rw [← hS1]; exact dc_many256)
      clear hS1
      go_wp2_with fail
      clear cv
      refine Calls.mono (dec_c _ S1 (HE.out.kept G.out (by simp)) (HT.out.kept G.out (by simp))) ?_
      rintro e x1 ⟨C1, rfl, hC1, hC2, _, hg⟩
      rw [D1.out]
      have gk : x1.grownBy ((x1.alloc (.cells #[.int .u16 0, .bool false, .int .u8 0, .bool false, .bool false, .bool false, .bool false, .bool false, .bool false, .bool false, .int .u8 0, .slice none 0 0, .slice none 0 0, .slice none 0 0, .slice none 0 0, .bool false, .int .u16 0, .int .u8 0, .int .u8 0, .int .u16 0, .slice none 0 0] 37)).setRow x1.heap.size C1) none := gsetRow (galloc (grefl x1 none) _) (Nat.le_refl _) _
      have ZA := Lib.hid (balloc x1 (.cells #[.int .u16 0, .bool false, .int .u8 0, .bool false, .bool false, .bool false, .bool false, .bool false, .bool false, .bool false, .int .u8 0, .slice none 0 0, .slice none 0 0, .slice none 0 0, .slice none 0 0, .bool false, .int .u16 0, .int .u8 0, .int .u8 0, .int .u16 0, .slice none 0 0] 37))
      have G' := Lib.hid (gtrans G.out (gtrans hg gk))
      have HO' := Lib.hid (HO.out.kept0 (gtrans hg gk))
      clear G HO hg gk
      have G := G'
      have HO := HO'
      clear G' HO'
      go_upto_region 26 with (refine wpList_store_row rfl 37 _ _ rfl x1.heap.size C1 rfl rfl 37 _ ZA.out (by rw [hC1]; kernel_rfl) hC1.symm hC2 ?_)
      clear ZA hC1 hC2 D1
      generalize ((x1.alloc (.cells #[.int .u16 0, .bool false, .int .u8 0, .bool false, .bool false, .bool false, .bool false, .bool false, .bool false, .bool false, .int .u8 0, .slice none 0 0, .slice none 0 0, .slice none 0 0, .slice none 0 0, .bool false, .int .u16 0, .int .u8 0, .int .u8 0, .int .u16 0, .slice none 0 0] 37)).setRow x1.heap.size C1) = x2 at *
      generalize x1.heap.size = b1 at *
      obtain ⟨g', e, _, hgs, hcap, hat⟩ := HO.out.at (by rw [manyL_len]; omega)
      cases e
      obtain ⟨c6, f6, o6⟩ := hat 6 (by rw [manyL_len]; omega)
      have c6 : x2.cell? ⟨g, 6, none⟩ = some (.int .u8 1) := c6
      have O6 : OwnM (x2.setCell ⟨g, 6, none⟩ (.int .u8 0)) w.heap.size (.slice (some ⟨g, 0, none⟩) 5142 cap) ((manyL 1 1 256).set 6 0) := o6 0
      clear o6 hat
      obtain ⟨g', e, _, hgs', _, hat⟩ := O6.at (by rw [List.length_set, manyL_len]; omega)
      cases e
      obtain ⟨c7, f7, o7⟩ := hat 7 (by rw [List.length_set, manyL_len]; omega)
      have c7 : (x2.setCell ⟨g, 6, none⟩ (.int .u8 0)).cell? ⟨g, 7, none⟩ = some (.int .u8 1) := c7
      have O7 : OwnM ((x2.setCell ⟨g, 6, none⟩ (.int .u8 0)).setCell ⟨g, 7, none⟩ (.int .u8 241)) w.heap.size (.slice (some ⟨g, 0, none⟩) 5142 cap) (manyL 0 241 256) := o7 241
      clear o7 hat O6
      have G' := Lib.hid (gset2 (gset2 G.out (p := ⟨g, 6, none⟩) (v := .int .u8 0) HB.out) (p := ⟨g, 7, none⟩) (v := .int .u8 241) HB.out)
      clear G HO
      have G := G'
      clear G'
      have HO := Lib.hid O7
      clear O7
      go_upto_region 27 with fail
      clear c6 f6 c7 f7 hgs'
      generalize ((x2.setCell ⟨g, 6, none⟩ (.int .u8 0)).setCell ⟨g, 7, none⟩ (.int .u8 241)) = x3 at *
      obtain ⟨S2, hS2⟩ : ∃ S, (⟨(manyL 0 241 240).toArray⟩ : ByteArray) = S := ⟨_, rfl⟩
      have HF := HO.out.sl
      rw [show manyL 0 241 256 = manyL 0 241 240 ++ qsL 16 from many_front 0 241 240 16] at HF
      have HF := HF.front (by simp)
      rw [manyL_len] at HF
      have cv := cvs HF
      rw [hS2] at cv
      have D2 := Lib.hid (show dcE S2 = 5 from by rw [← hS2]; exact dc_many240)
      clear hS2 HF
      have rz := rS_size
      have hk : 5142 ≤ cap := HC.out
      go_wp2_with fail
      clear cv
      refine Calls.mono (dec_c _ S2 (HE.out.kept G.out (by simp)) (HT.out.kept G.out (by simp))) ?_
      rintro e x4 ⟨C2, rfl, hC1, hC2, _, hg⟩
      rw [D2.out]
      have gk : x4.grownBy ((x4.alloc (.cells #[.int .u16 0, .bool false, .int .u8 0, .bool false, .bool false, .bool false, .bool false, .bool false, .bool false, .bool false, .int .u8 0, .slice none 0 0, .slice none 0 0, .slice none 0 0, .slice none 0 0, .bool false, .int .u16 0, .int .u8 0, .int .u8 0, .int .u16 0, .slice none 0 0] 37)).setRow x4.heap.size C2) none := gsetRow (galloc (grefl x4 none) _) (Nat.le_refl _) _
      have ZA := Lib.hid (balloc x4 (.cells #[.int .u16 0, .bool false, .int .u8 0, .bool false, .bool false, .bool false, .bool false, .bool false, .bool false, .bool false, .int .u8 0, .slice none 0 0, .slice none 0 0, .slice none 0 0, .slice none 0 0, .bool false, .int .u16 0, .int .u8 0, .int .u8 0, .int .u16 0, .slice none 0 0] 37))
      have G' := Lib.hid (gtrans G.out (gtrans hg gk))
      have HO' := Lib.hid (HO.out.kept0 (gtrans hg gk))
      clear G HO hg gk
      have G := G'
      have HO := HO'
      clear G' HO'
      go_upto_region 28 with (refine wpList_store_row rfl 37 _ _ rfl x4.heap.size C2 rfl rfl 37 _ ZA.out (by rw [hC1]; kernel_rfl) hC1.symm hC2 ?_)
      clear ZA hC1 hC2 D2
      generalize ((x4.alloc (.cells #[.int .u16 0, .bool false, .int .u8 0, .bool false, .bool false, .bool false, .bool false, .bool false, .bool false, .bool false, .int .u8 0, .slice none 0 0, .slice none 0 0, .slice none 0 0, .slice none 0 0, .bool false, .int .u16 0, .int .u8 0, .int .u8 0, .int .u16 0, .slice none 0 0] 37)).setRow x4.heap.size C2) = x5 at *
      generalize x4.heap.size = b2 at *
      obtain ⟨g', e, _, _, _, hat⟩ := HO.out.at (by rw [manyL_len]; omega)
      cases e
      obtain ⟨c7, f7, o7⟩ := hat 7 (by rw [manyL_len]; omega)
      have c7 : x5.cell? ⟨g, 7, none⟩ = some (.int .u8 241) := c7
      have O7 : OwnM (x5.setCell ⟨g, 7, none⟩ (.int .u8 240)) w.heap.size (.slice (some ⟨g, 0, none⟩) 5142 cap) (manyL 0 240 256) := o7 240
      clear o7 hat
      have G' := Lib.hid (gset2 G.out (p := ⟨g, 7, none⟩) (v := .int .u8 240) HB.out)
      clear G HO
      have G := G'
      clear G'
      have HO := Lib.hid O7
      clear O7
      go_upto_region 29 with fail
      clear c7 f7
      generalize (x5.setCell ⟨g, 7, none⟩ (.int .u8 240)) = x6 at *
      obtain ⟨S3, hS3⟩ : ∃ S, (⟨(manyL 0 240 239).toArray⟩ : ByteArray) = S := ⟨_, rfl⟩
      have HF := HO.out.sl
      rw [show manyL 0 240 256 = manyL 0 240 239 ++ qsL 17 from many_front 0 240 239 17] at HF
      have HF := HF.front (by simp)
      rw [manyL_len] at HF
      have cv := cvs HF
      rw [hS3] at cv
      have D3 := Lib.hid (show dcE S3 = 0 from by rw [← hS3]; exact dc_many239)
      clear hS3 HF
      go_wp2_with fail
      clear cv
      refine Calls.mono (dec_c _ S3 (HE.out.kept G.out (by simp)) (HT.out.kept G.out (by simp))) ?_
      rintro e x7 ⟨C3, rfl, hC1, hC2, _, hg⟩
      rw [D3.out]
      have gk : x7.grownBy ((x7.alloc (.cells #[.int .u16 0, .bool false, .int .u8 0, .bool false, .bool false, .bool false, .bool false, .bool false, .bool false, .bool false, .int .u8 0, .slice none 0 0, .slice none 0 0, .slice none 0 0, .slice none 0 0, .bool false, .int .u16 0, .int .u8 0, .int .u8 0, .int .u16 0, .slice none 0 0] 37)).setRow x7.heap.size C3) none := gsetRow (galloc (grefl x7 none) _) (Nat.le_refl _) _
      have ZA := Lib.hid (balloc x7 (.cells #[.int .u16 0, .bool false, .int .u8 0, .bool false, .bool false, .bool false, .bool false, .bool false, .bool false, .bool false, .int .u8 0, .slice none 0 0, .slice none 0 0, .slice none 0 0, .slice none 0 0, .bool false, .int .u16 0, .int .u8 0, .int .u8 0, .int .u16 0, .slice none 0 0] 37))
      have G' := Lib.hid (gtrans G.out (gtrans hg gk))
      have HO' := Lib.hid (HO.out.kept0 (gtrans hg gk))
      clear G HO hg gk
      have G := G'
      have HO := HO'
      clear G' HO'
      go_upto_region 30 with (refine wpList_store_row rfl 37 _ _ rfl x7.heap.size C3 rfl rfl 37 _ ZA.out (by rw [hC1]; kernel_rfl) hC1.symm hC2 ?_)
      clear ZA hC1 hC2 D3
      generalize ((x7.alloc (.cells #[.int .u16 0, .bool false, .int .u8 0, .bool false, .bool false, .bool false, .bool false, .bool false, .bool false, .bool false, .int .u8 0, .slice none 0 0, .slice none 0 0, .slice none 0 0, .slice none 0 0, .bool false, .int .u16 0, .int .u8 0, .int .u8 0, .int .u16 0, .slice none 0 0] 37)).setRow x7.heap.size C3) = x8 at *
      generalize x7.heap.size = b3 at *
      go_wp2_with fail
      go_ret
      exact ⟨rfl, G.out⟩
end Go.Proofs.YthgendgmlpaglaaDoor
namespace Go.Proofs.YthgendgmlpaglaaDoor
open Go.RowKit

set_option maxRecDepth 100000 in
set_option maxHeartbeats 16000000 in
theorem limits_walk (w : World) (he : Et w) (hb : Bt w) : Calls Tryd.prog 8 #[] w fun e w' => e = .returned (.bool true) ∧ w.grownBy w' none := by
  have HE := Lib.hid he
  have HT := Lib.hid hb
  clear he hb
  have G := Lib.hid (grefl w none)
  obtain ⟨i0, hi, hz0, hz1, hz2⟩ := info_parts Tryd.infoByte
  obtain ⟨S, hS⟩ : ∃ S, (mAny 65512).out = S := ⟨_, rfl⟩
  have HS := Lib.hid hS
  have S1 := Lib.hid (show S.size = 65535 from by rw [← hS, mAny_out 65512 (by omega)])
  have S2 := Lib.hid (show dcE S = 0 ∧ dcM S = mAny 65512 from by rw [← hS]; exact ⟨(dc_ok (mAny_rng 65512 (by omega)) (mAny_ok 65512 (by omega))).2, (dc_ok (mAny_rng 65512 (by omega)) (mAny_ok 65512 (by omega))).1⟩)
  clear hS
  go_enter Tryd.func8, Tryd.ntmps8
  go_wp2_with fail
  refine Calls.mono (any_is 65512 _ (by omega) _ rfl) ?_
  rintro e w1 ⟨g1, rfl, hq, hg⟩
  have G' := Lib.hid (gtrans G.out hg)
  clear G hg 
  have G := G'
  clear G'
  have HQ := Lib.hid hq
  clear hq
  go_wp2_with fail
  refine Calls.mono (enc_any_is 65512 S 0 g1 w1 (HE.out.kept G.out (by simp)) (HT.out.kept G.out (by simp)) (by omega) HQ.out HS.out (by rw [mAny_ok 65512 (by omega)]; rfl)) ?_
  rintro e w2 ⟨rfl, hg⟩
  have G' := Lib.hid (gtrans G.out hg)
  clear G hg 
  have G := G'
  clear G'
  clear HQ HS
  go_wp2_with fail
  refine Calls.mono (dec_c w2 S (HE.out.kept G.out (by simp)) (HT.out.kept G.out (by simp))) ?_
  rintro e w3 ⟨C, rfl, hC1, hC2, ⟨A, cap, hC3⟩, hg⟩
  rw [S2.out.1]
  rw [S2.out.2] at hC3
  have HC3 := Lib.hid hC3
  clear hC3 S2
  have gk : w3.grownBy ((w3.alloc (.cells #[.int .u16 0, .bool false, .int .u8 0, .bool false, .bool false, .bool false, .bool false, .bool false, .bool false, .bool false, .int .u8 0, .slice none 0 0, .slice none 0 0, .slice none 0 0, .slice none 0 0, .bool false, .int .u16 0, .int .u8 0, .int .u8 0, .int .u16 0, .slice none 0 0] 37)).setRow w3.heap.size C) none := gsetRow (galloc (grefl w3 none) _) (Nat.le_refl _) _
  have BM := Lib.hid (bsetR (balloc w3 (.cells #[.int .u16 0, .bool false, .int .u8 0, .bool false, .bool false, .bool false, .bool false, .bool false, .bool false, .bool false, .int .u8 0, .slice none 0 0, .slice none 0 0, .slice none 0 0, .slice none 0 0, .bool false, .int .u16 0, .int .u8 0, .int .u8 0, .int .u16 0, .slice none 0 0] 37)) C)
  have ZA := Lib.hid (balloc w3 (.cells #[.int .u16 0, .bool false, .int .u8 0, .bool false, .bool false, .bool false, .bool false, .bool false, .bool false, .bool false, .int .u8 0, .slice none 0 0, .slice none 0 0, .slice none 0 0, .slice none 0 0, .bool false, .int .u16 0, .int .u8 0, .int .u8 0, .int .u16 0, .slice none 0 0] 37))
  have G' := Lib.hid (gtrans G.out (gtrans hg gk))
  clear G hg gk
  have G := G'
  clear G'
  go_upto_region 4 with (refine wpList_store_row rfl 37 _ _ rfl w3.heap.size C rfl rfl 37 _ ZA.out (by rw [hC1]; kernel_rfl) hC1.symm hC2 ?_)
  clear ZA
  generalize ((w3.alloc (.cells #[.int .u16 0, .bool false, .int .u8 0, .bool false, .bool false, .bool false, .bool false, .bool false, .bool false, .bool false, .int .u8 0, .slice none 0 0, .slice none 0 0, .slice none 0 0, .slice none 0 0, .bool false, .int .u16 0, .int .u8 0, .int .u8 0, .int .u16 0, .slice none 0 0] 37)).setRow w3.heap.size C) = w4 at *
  generalize w3.heap.size = mb at *
  go_wp2_with fail
  refine Calls.mono (any_is 65513 _ (by omega) _ rfl) ?_
  rintro e w5 ⟨g2, rfl, hq, hg⟩
  have G' := Lib.hid (gtrans G.out hg)
  have BM' := Lib.hid (gblock hg BM.out (by simp))
  clear G hg BM
  have G := G'
  clear G'
  have BM := BM'
  clear BM'
  have HQ := Lib.hid hq
  clear hq
  go_wp2_with fail
  refine Calls.mono (enc_any_is 65513 _ 5 g2 w5 (HE.out.kept G.out (by simp)) (HT.out.kept G.out (by simp)) (by omega) HQ.out rfl (by rw [mAny_long 65513 (by omega)]; rfl)) ?_
  rintro e w6 ⟨rfl, hg⟩
  have G' := Lib.hid (gtrans G.out hg)
  have BM' := Lib.hid (gblock hg BM.out (by simp))
  clear G hg BM
  have G := G'
  clear G'
  have BM := BM'
  clear BM'
  clear HQ
  generalize (mAny 65513).out = S5 at *
  go_upto_region 5 with (fail)
  refine wp_region_lit ?_
  refine (wpList_make_z rfl _ _ 26 rfl w6.heap.size i0 Tryd.underlying26 hi hz0 hz1 hz2 .i64 .i64 65536 65536 65536 rfl rfl rfl rfl (by omega) (Nat.le_refl _) ?_)
  intro w7 ho hg
  have cv := cvs ho.sl
  rw [zs_mk] at cv
  clear ho
  have G' := Lib.hid (gtrans G.out hg)
  have BM' := Lib.hid (gblock hg BM.out (by simp))
  clear G BM hg
  have G := G'
  have BM := BM'
  clear G' BM'
  generalize w6.heap.size = zb at *
  generalize hzz : zs 65536 = ZZ at *
  have HZ := Lib.hid hzz
  clear hzz
  have gk : w7.grownBy (w7.alloc (.cells #[.int .u16 0, .string ZZ] 57)) none := galloc (grefl w7 none) _
  have BQ := Lib.hid (show (w7.alloc (.cells #[.int .u16 0, .string ZZ] 57)).heap[w7.heap.size]? = some (.cells #[.int .u16 0, .string (zs 65536)] 57 (0, 0)) from by rw [HZ.out]; exact balloc w7 _)
  have G' := Lib.hid (gtrans G.out gk)
  have BM' := Lib.hid (gblock gk BM.out (by simp))
  clear G BM gk
  have G := G'
  have BM := BM'
  clear G' BM'
  go_wp2_with fail
  clear cv
  generalize (w7.alloc (.cells #[.int .u16 0, .string ZZ] 57)) = w8 at *
  generalize w7.heap.size = g3 at *
  refine Calls.mono (enc_opt_is 65536 5 g3 w8 (HE.out.kept G.out (by simp)) (HT.out.kept G.out (by simp)) BQ.out (by rw [mOpt_wE, if_neg (by omega)]; rfl)) ?_
  rintro e w9 ⟨rfl, hg⟩
  have G' := Lib.hid (gtrans G.out hg)
  have BM' := Lib.hid (gblock hg BM.out (by simp))
  clear G hg BM
  have G := G'
  clear G'
  have BM := BM'
  clear BM'
  clear BQ HZ
  generalize (mOpt 65536).out = S8 at *
  go_wp2_with fail
  refine Calls.mono (opts_is 65508 0 w9 (by omega) (HE.out.kept G.out (by simp)) (HT.out.kept G.out (by simp)) (by rw [mOpt_wE, if_pos (by omega)]; rfl) _ rfl) ?_
  rintro e wa ⟨rfl, hg⟩
  have G' := Lib.hid (gtrans G.out hg)
  have BM' := Lib.hid (gblock hg BM.out (by simp))
  clear G hg BM
  have G := G'
  clear G'
  have BM := BM'
  clear BM'
  go_wp2_with fail
  refine Calls.mono (opts_is 65509 5 wa (by omega) (HE.out.kept G.out (by simp)) (HT.out.kept G.out (by simp)) (by rw [mOpt_wE, if_neg (by omega)]; rfl) _ rfl) ?_
  rintro e wb ⟨rfl, hg⟩
  have G' := Lib.hid (gtrans G.out hg)
  have BM' := Lib.hid (gblock hg BM.out (by simp))
  clear G hg BM
  have G := G'
  clear G'
  have BM := BM'
  clear BM'
  have k1 : ((S.size : Int) != 65535) = false := by rw [S1.out]; rfl
  have c12 : wb.cell? ⟨mb, 12, none⟩ = some (.slice A 1 cap) := (bcellAt BM.out 12).trans HC3.out
  go_upto_region 9 with fail
  clear k1 c12 BM HC3 hC1 hC2 hi hz0 hz1 hz2 i0 S1
  refine limits_rows _ ?_
  intro u90 u91 u92 u93 u94 u95 u96 u97 u98 u99 u100 u101 u102 u103 u104 u105 u106 u107 u108 u109 gb wc hbad hg
  have G' := Lib.hid (gtrans G.out hg)
  clear G hg
  have G := G'
  clear G'
  go_step
  refine limits_loop wc (HE.out.kept G.out (by simp)) (HT.out.kept G.out (by simp)) gb hbad ?_
  clear hbad
  intro u0 u12 u13 u14 u15 u16 u112 u113 u114 u115 u116 u117 u118 u119 u120 u121 u122 u123 u124 u125 u126 u127 u128 u129 u130 u131 u132 u133 u134 u135 u136 u137 u138 u139 u140 u141 u142 u143 u144 wd hg
  have G' := Lib.hid (gtrans G.out hg)
  clear G hg
  have G := G'
  clear G'
  go_step
  go_upto_region 17 with fail
  refine limits_far _ ?_
  intro u145 u146 u147 u148 u149 u150 u151 u152 u153 u154 u155 u156 u157 u158 u159 u160 we hg
  have G' := Lib.hid (gtrans G.out hg)
  clear G hg
  have G := G'
  clear G'
  go_step
  exact limits_rest w we HE.out HT.out G.out
end Go.Proofs.YthgendgmlpaglaaDoor
namespace Go.Proofs.YthgendgmlpaglaaDoor
open Go.RowKit

set_option maxRecDepth 100000 in
set_option maxHeartbeats 16000000 in
theorem wnames_walk (w : World) (he : Et w) (hb : Bt w) : Calls Tryd.prog 3 #[] w fun e w' => e = .returned (.bool true) ∧ w.grownBy w' none := by
  have HE := Lib.hid he
  have HT := Lib.hid hb
  clear he hb
  go_enter Tryd.func3, Tryd.ntmps3
  go_wp2_with fail
  refine Calls.mono (awake_any w HE.out HT.out) ?_
  rintro e w1 ⟨rfl, hg⟩
  have G := Lib.hid hg
  clear hg
  go_upto_region 5 with fail
  refine wn_rows _ ?_
  intro u11 u12 u13 u14 u15 u16 u17 u18 u19 u20 u21 u22 u23 u24 u25 u26 u27 u28 u29 u30 u31 u32 u33 u34 u35 u36 u37 u38 u39 u40 u41 u42 u43 u44 u45 u46 u47 u48 u49 u50 u51 u52 u53 u54 u55 u56 u57 u58 u59 u60 u61 u62 u63 u64 u65 u66 u67 u68 u69 u70 u71 u72 u73 u74 u75 u76 u77 u78 u79 u80 u81 u82 u83 u84 u85 u86 u87 u88 u89 u90 u91 u92 u93 u94 u95 u96 u97 u98 u99 u100 u101 u102 u103 u104 u105 u106 u107 u108 u109 u110 u111 u112 u113 u114 u115 u116 u117 u118 u119 u120 u121 g w2 hf hg
  have G' := Lib.hid (gtrans G.out hg)
  clear G hg
  have G := G'
  clear G'
  go_step
  refine wn_loop w2 (HE.out.kept G.out (by simp)) (HT.out.kept G.out (by simp)) g wnRows wnRows_len hf wnRows_ok ?_
  clear hf
  intro u0 u4 u5 u6 u124 u125 u126 u127 u128 u129 u130 u131 u132 u133 u134 u135 u136 u137 u138 u139 u140 u141 u142 u143 u144 u145 u146 u147 u148 w3 hg
  have G' := Lib.hid (gtrans G.out hg)
  clear G hg
  have G := G'
  clear G'
  go_step
  go_wp2_with fail
  refine Calls.mono (limits_walk w3 (HE.out.kept G.out (by simp)) (HT.out.kept G.out (by simp))) ?_
  rintro e w4 ⟨rfl, hg⟩
  have G' := Lib.hid (gtrans G.out hg)
  clear G hg
  go_wp2_with fail
  go_ret
  exact ⟨rfl, G'.out⟩
end Go.Proofs.YthgendgmlpaglaaDoor
