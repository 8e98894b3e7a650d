/-
  SoaTime.
-/
import Derived.Test.YtomjiephbacocaaDoorSo10p
namespace Go.Proofs.YtomjiephbacocaaDoor
open Go.RowKit

/-- The four bytes of a number. -/
def fourB (n : Nat) : List UInt8 := [UInt8.ofNat (n / 16777216), UInt8.ofNat (n / 65536 % 256), UInt8.ofNat (n / 256 % 256), UInt8.ofNat (n % 256)]
theorem fourB_be {n : Nat} (h : n < 4294967296) : be (fourB n) = n := by
  unfold be fourB
  simp only [List.foldl_cons, List.foldl_nil, UInt8.toNat_ofNat']
  omega
theorem fourB_bv {n : Nat} (h : n < 4294967296) : (#[.int .u8 ((n : Int) / 16777216), .int .u8 ((n : Int) / 65536 % 256), .int .u8 ((n : Int) / 256 % 256), .int .u8 ((n : Int) % 256)] : Array Value).toList = bv (fourB n) := by
  unfold bv fourB
  simp only [List.map_cons, List.map_nil, UInt8.toNat_ofNat']
  have h1 : ((n : Int) / 16777216) = ((n / 16777216 % 2 ^ 8 : Nat) : Int) := by omega
  have h2 : ((n : Int) / 65536 % 256) = ((n / 65536 % 256 % 2 ^ 8 : Nat) : Int) := by omega
  have h3 : ((n : Int) / 256 % 256) = ((n / 256 % 256 % 2 ^ 8 : Nat) : Int) := by omega
  have h4 : ((n : Int) % 256) = ((n % 256 % 2 ^ 8 : Nat) : Int) := by omega
  rw [h1, h2, h3, h4]
theorem soa_tm {a b m f : ByteArray} (n : ByteArray) (k t : Nat) (v : Value) (ha : may a = true) (hb : may b = true) (hm : m.size = 16) (hf : f.size = 4) : tmF ⟨n, 6, k, t, v, [a ++ b ++ m ++ f]⟩ = min (clp t) (clp (be f.data.toList)) := by
  have e1 : (a ++ b ++ m ++ f).data.toList = (a ++ b ++ m).data.toList ++ f.data.toList := by simp
  have e2 : mayD 6 (a ++ b ++ m ++ f) = true := by
    have := soa_may (x := m ++ f) ha hb (by simp [hm, hf])
    rw [show (a ++ b ++ m ++ f) = (⟨(a.data.toList ++ b.data.toList ++ (m ++ f).data.toList).toArray⟩ : ByteArray) from by apply ba_ext; simp]
    exact this
  refine Eq.trans (b := min (clp t) (clp (num (a ++ b ++ m ++ f) ((a ++ b ++ m ++ f).size - 4) 4))) (if_pos ⟨rfl, e2⟩) ?_
  rw [num_last e1 hf]

set_option maxRecDepth 100000 in
set_option maxHeartbeats 16000000 in
theorem time10_walk (a b middle : ByteArray) (last ttl : Nat) (w : World) (he : Et w) (hl : last < 4294967296) (ht : ttl < 4294967296) : Calls Tryd.prog 5 #[.string a, .string b, .string middle, .int .u32 (last : Int), .int .u32 (ttl : Int)] w fun e w' => e = .returned (.bool true) ∧ w.grownBy w' none := by
  have HE := Lib.hid he
  clear he
  go_enter Tryd.func5, Tryd.ntmps5
  go_wp2_with fail
  refine (may_any a w).mono ?_
  rintro e w1 ⟨rfl, rfl⟩
  by_cases ha : may a = true
  · have HA := Lib.hid ha
    rw [ha]
    clear ha
    go_wp2_with fail
    refine (may_any b w).mono ?_
    rintro e w1 ⟨rfl, rfl⟩
    by_cases hb : may b = true
    · have HB := Lib.hid hb
      rw [hb]
      clear hb
      by_cases hm : middle.size < 16
      · have k0 : decide ((middle.size : Int) < 16) = true := by simp; omega
        go_wp2_with fail
        refine (awake10 w HE.out).mono ?_
        rintro e w1 ⟨rfl, hg⟩
        go_wp2_with fail
        go_ret
        exact ⟨rfl, hg⟩
      · have k0 : decide ((middle.size : Int) < 16) = false := by simp; omega
        by_cases hm2 : 3000 < middle.size
        · have k1 : decide ((3000 : Int) < (middle.size : Int)) = true := by simp; omega
          go_wp2_with fail
          refine (awake10 w HE.out).mono ?_
          rintro e w1 ⟨rfl, hg⟩
          go_wp2_with fail
          go_ret
          exact ⟨rfl, hg⟩
        · have k1 : decide ((3000 : Int) < (middle.size : Int)) = false := by simp; omega
          go_wp2_with fail
          refine (awake10 w HE.out).mono ?_
          rintro e w1 ⟨rfl, hg⟩
          have HG := Lib.hid hg
          clear hg k0 k1
          have hcv := cvs (sl_new w1 5 (fourB last) #[.int .u8 ((last : Int) / 16777216), .int .u8 ((last : Int) / 65536 % 256), .int .u8 ((last : Int) / 256 % 256), .int .u8 ((last : Int) % 256)] 4 (fourB_bv hl) rfl)
          have HF4 := Lib.hid (show (⟨(fourB last).toArray⟩ : ByteArray).size = 4 from rfl)
          have hf4 : (⟨(fourB last).toArray⟩ : ByteArray).size ≤ 4 := Nat.le_refl _
          have HFb := Lib.hid (show be (⟨(fourB last).toArray⟩ : ByteArray).data.toList = last from fourB_be hl)
          generalize (⟨(fourB last).toArray⟩ : ByteArray) = F at *
          have has := (may_scan HA.out).1
          have hbs := (may_scan HB.out).1
          have HM16 := Lib.hid (show (middle.extract 0 16).size = 16 by rw [ByteArray.size_extract]; omega)
          have hm16 : (middle.extract 0 16).size ≤ 16 := by rw [HM16.out]; exact Nat.le_refl _
          have hms : 16 ≤ middle.size := by omega
          have hmL : middle.size ≤ 3000 := by omega
          have HTm := Lib.hid (fun v => soa_tm a 7 ttl v HA.out HB.out HM16.out HF4.out)
          have HTo := Lib.hid (fun g => tm_of zR ttl F g HF4.out)
          rw [HFb.out] at HTm HTo
          clear hm hm2
          have HX := Lib.hid (sl_new1 (w1.alloc (.cells #[.int .u8 ((last : Int) / 16777216), .int .u8 ((last : Int) / 65536 % 256), .int .u8 ((last : Int) / 256 % 256), .int .u8 ((last : Int) % 256)] 5)) 9 (a ++ b ++ middle.extract 0 16 ++ F))
          simp only [asz] at HX
          have HSz := Lib.hid (show ∀ s ∈ [a ++ b ++ middle.extract 0 16 ++ F], s.size ≤ 1000000 from fun s hs => by
            rw [List.mem_singleton.1 hs]
            simp only [ByteArray.size_append]
            omega)
          by_cases hL : 2147483647 < last
          · rw [show min (clp ttl) (clp last) = 0 by unfold clp; (repeat' split) <;> omega] at HTm HTo
            have kL : decide ((2147483647 : Int) < (last : Int)) = true := by simp; omega
            go_wp2_with fail
            all_goals
              refine (stime_any ⟨a, 6, 7, ttl, .slice (some ⟨w1.heap.size + 1, 0, none⟩) 1 1, [a ++ b ++ middle.extract 0 16 ++ F]⟩ _ (HE.out.kept (galloc (galloc (galloc HG.out _) _) _) (by simp)) (HX.out.kept0 (galloc (grefl _ none) _)) HSz.out).mono ?_
              rintro e w2 ⟨rfl, hg⟩
              have HG2 := Lib.hid (gtrans (galloc (galloc (galloc HG.out _) _) _) hg)
              rw [HTm.out]
              clear hg hcv
              go_wp2_with fail
              refine (of_any zR ttl F w2 (by omega)).mono ?_
              rintro e w3 ⟨g, rfl, hs, hg⟩
              have HS := Lib.hid hs
              have HG3 := Lib.hid (gtrans HG2.out hg)
              have HV := Lib.hid (show tmF (ofS zR ttl F g) = _ from HTo.out g)
              have HZ := Lib.hid (show ∀ s ∈ (ofS zR ttl F g).data, s.size ≤ 1000000 from exd_small HF4.out)
              clear hs hg HG2
              simp only [St.val, ofS]
              go_wp2_with fail
              refine (stime_any (ofS zR ttl F g) w3 (HE.out.kept HG3.out (by simp)) HS.out HZ.out).mono ?_
              rintro e w4 ⟨rfl, hg⟩
              have HG4 := Lib.hid (gtrans HG3.out hg)
              rw [HV.out]
              clear hg HG3 HS HV
              go_wp2_with fail
              go_ret
              exact ⟨rfl, HG4.out⟩
          · by_cases hT : 2147483647 < ttl
            · rw [show min (clp ttl) (clp last) = 0 by unfold clp; (repeat' split) <;> omega] at HTm HTo
              have kL : decide ((2147483647 : Int) < (last : Int)) = false := by simp; omega
              have kT : decide ((2147483647 : Int) < (ttl : Int)) = true := by simp; omega
              go_wp2_with fail
              all_goals
                refine (stime_any ⟨a, 6, 7, ttl, .slice (some ⟨w1.heap.size + 1, 0, none⟩) 1 1, [a ++ b ++ middle.extract 0 16 ++ F]⟩ _ (HE.out.kept (galloc (galloc (galloc HG.out _) _) _) (by simp)) (HX.out.kept0 (galloc (grefl _ none) _)) HSz.out).mono ?_
                rintro e w2 ⟨rfl, hg⟩
                have HG2 := Lib.hid (gtrans (galloc (galloc (galloc HG.out _) _) _) hg)
                rw [HTm.out]
                clear hg hcv
                go_wp2_with fail
                refine (of_any zR ttl F w2 (by omega)).mono ?_
                rintro e w3 ⟨g, rfl, hs, hg⟩
                have HS := Lib.hid hs
                have HG3 := Lib.hid (gtrans HG2.out hg)
                have HV := Lib.hid (show tmF (ofS zR ttl F g) = _ from HTo.out g)
                have HZ := Lib.hid (show ∀ s ∈ (ofS zR ttl F g).data, s.size ≤ 1000000 from exd_small HF4.out)
                clear hs hg HG2
                simp only [St.val, ofS]
                go_wp2_with fail
                refine (stime_any (ofS zR ttl F g) w3 (HE.out.kept HG3.out (by simp)) HS.out HZ.out).mono ?_
                rintro e w4 ⟨rfl, hg⟩
                have HG4 := Lib.hid (gtrans HG3.out hg)
                rw [HV.out]
                clear hg HG3 HS HV
                go_wp2_with fail
                go_ret
                exact ⟨rfl, HG4.out⟩
            · by_cases hlt : ttl < last
              · rw [show min (clp ttl) (clp last) = ttl by unfold clp; (repeat' split) <;> omega] at HTm HTo
                have kL : decide ((2147483647 : Int) < (last : Int)) = false := by simp; omega
                have kT : decide ((2147483647 : Int) < (ttl : Int)) = false := by simp; omega
                go_wp2_with fail
                all_goals
                  refine (stime_any ⟨a, 6, 7, ttl, .slice (some ⟨w1.heap.size + 1, 0, none⟩) 1 1, [a ++ b ++ middle.extract 0 16 ++ F]⟩ _ (HE.out.kept (galloc (galloc (galloc HG.out _) _) _) (by simp)) (HX.out.kept0 (galloc (grefl _ none) _)) HSz.out).mono ?_
                  rintro e w2 ⟨rfl, hg⟩
                  have HG2 := Lib.hid (gtrans (galloc (galloc (galloc HG.out _) _) _) hg)
                  rw [HTm.out]
                  clear hg hcv
                  go_wp2_with fail
                  refine (of_any zR ttl F w2 (by omega)).mono ?_
                  rintro e w3 ⟨g, rfl, hs, hg⟩
                  have HS := Lib.hid hs
                  have HG3 := Lib.hid (gtrans HG2.out hg)
                  have HV := Lib.hid (show tmF (ofS zR ttl F g) = _ from HTo.out g)
                  have HZ := Lib.hid (show ∀ s ∈ (ofS zR ttl F g).data, s.size ≤ 1000000 from exd_small HF4.out)
                  clear hs hg HG2
                  simp only [St.val, ofS]
                  go_wp2_with fail
                  refine (stime_any (ofS zR ttl F g) w3 (HE.out.kept HG3.out (by simp)) HS.out HZ.out).mono ?_
                  rintro e w4 ⟨rfl, hg⟩
                  have HG4 := Lib.hid (gtrans HG3.out hg)
                  rw [HV.out]
                  clear hg HG3 HS HV
                  go_wp2_with fail
                  go_ret
                  exact ⟨rfl, HG4.out⟩
              · have hge : last ≤ ttl := by omega
                rw [show min (clp ttl) (clp last) = last by unfold clp; (repeat' split) <;> omega] at HTm HTo
                have kL : decide ((2147483647 : Int) < (last : Int)) = false := by simp; omega
                have kT : decide ((2147483647 : Int) < (ttl : Int)) = false := by simp; omega
                go_wp2_with fail
                all_goals
                  refine (stime_any ⟨a, 6, 7, ttl, .slice (some ⟨w1.heap.size + 1, 0, none⟩) 1 1, [a ++ b ++ middle.extract 0 16 ++ F]⟩ _ (HE.out.kept (galloc (galloc (galloc HG.out _) _) _) (by simp)) (HX.out.kept0 (galloc (grefl _ none) _)) HSz.out).mono ?_
                  rintro e w2 ⟨rfl, hg⟩
                  have HG2 := Lib.hid (gtrans (galloc (galloc (galloc HG.out _) _) _) hg)
                  rw [HTm.out]
                  clear hg hcv
                  go_wp2_with fail
                  refine (of_any zR ttl F w2 (by omega)).mono ?_
                  rintro e w3 ⟨g, rfl, hs, hg⟩
                  have HS := Lib.hid hs
                  have HG3 := Lib.hid (gtrans HG2.out hg)
                  have HV := Lib.hid (show tmF (ofS zR ttl F g) = _ from HTo.out g)
                  have HZ := Lib.hid (show ∀ s ∈ (ofS zR ttl F g).data, s.size ≤ 1000000 from exd_small HF4.out)
                  clear hs hg HG2
                  simp only [St.val, ofS]
                  go_wp2_with fail
                  refine (stime_any (ofS zR ttl F g) w3 (HE.out.kept HG3.out (by simp)) HS.out HZ.out).mono ?_
                  rintro e w4 ⟨rfl, hg⟩
                  have HG4 := Lib.hid (gtrans HG3.out hg)
                  rw [HV.out]
                  clear hg HG3 HS HV
                  go_wp2_with fail
                  go_ret
                  exact ⟨rfl, HG4.out⟩
    · have hb' : may b = false := by simpa using hb
      rw [hb']
      clear hb hb'
      go_wp2_with fail
      refine (awake10 w HE.out).mono ?_
      rintro e w1 ⟨rfl, hg⟩
      go_wp2_with fail
      go_ret
      exact ⟨rfl, hg⟩
  · have ha' : may a = false := by simpa using ha
    rw [ha']
    clear ha ha'
    go_wp2_with fail
    refine (awake10 w HE.out).mono ?_
    rintro e w1 ⟨rfl, hg⟩
    go_wp2_with fail
    go_ret
    exact ⟨rfl, hg⟩
end Go.Proofs.YtomjiephbacocaaDoor
