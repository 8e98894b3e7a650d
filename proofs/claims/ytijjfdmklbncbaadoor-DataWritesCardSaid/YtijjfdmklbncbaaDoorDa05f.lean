/-
  Read, Write (layer 5).
-/
import Derived.Test.YtijjfdmklbncbaaDoorDa05e
namespace Go.Proofs.YtijjfdmklbncbaaDoor
open Go.RowKit

/-- What Read gives: data, and an error's number. -/
def rdD (msg : ByteArray) (at_ n : Int) (kind : Nat) : ByteArray × Nat :=
  if at_ < 0 ∨ n < 0 ∨ (msg.size : Int) - at_ < n then (⟨#[]⟩, 1)
  else match splF (msg.extract 0 (at_ + n).toNat) at_.toNat kind with
    | .ok l => (⟨(tx l).toArray⟩, 0)
    | .no e => (⟨#[]⟩, e)
set_option maxRecDepth 100000 in
set_option maxHeartbeats 1000000 in
theorem rdata_any (msg : ByteArray) (at_ n : Int) (kind : Nat) (w : World) (he : Et w) (hs : msg.size ≤ 1000000) (ha : Hid (at_ ≤ 9223372036854775807)) : Calls Tryd.prog 12 #[.string msg, .int .i64 at_, .int .i64 n, .int .u16 kind] w fun e w' => e = .returned (.tuple #[.string (rdD msg at_ n kind).1, .int .i64 ((rdD msg at_ n kind).2 : Int)]) ∧ w.grownBy w' none := by
  by_cases h : at_ < 0 ∨ n < 0 ∨ (msg.size : Int) - at_ < n
  · have HR := Lib.hid (show rdD msg at_ n kind = (⟨#[]⟩, 1) from if_pos h)
    rw [HR.out]
    by_cases h1 : at_ < 0
    · have q1 : decide (at_ < 0) = true := by simpa using h1
      clear h
      go_enter Tryd.func12, Tryd.ntmps12
      go_wp2_with fail
      go_ret2
      exact ⟨rfl, grefl _ _⟩
    · have q1 : decide (at_ < 0) = false := by simpa using h1
      by_cases h2 : n < 0
      · have q2 : decide (n < 0) = true := by simpa using h2
        clear h
        go_enter Tryd.func12, Tryd.ntmps12
        go_wp2_with fail
        go_ret2
        exact ⟨rfl, grefl _ _⟩
      · have q2 : decide (n < 0) = false := by simpa using h2
        have h3 : (msg.size : Int) - at_ < n := by omega
        have q3 : decide ((msg.size : Int) - at_ < n) = true := by simpa using h3
        clear h
        have hw : wrap64 ((msg.size : Int) - at_) = (msg.size : Int) - at_ := by unfold wrap64; have := ha.out; omega
        go_enter Tryd.func12, Tryd.ntmps12
        go_wp2_with fail
        go_ret2
        exact ⟨rfl, grefl _ _⟩
  · obtain ⟨h1, h2, h3⟩ : 0 ≤ at_ ∧ 0 ≤ n ∧ n ≤ (msg.size : Int) - at_ := by omega
    have HR := Lib.hid (show rdD msg at_ n kind = _ from if_neg h)
    clear h
    obtain ⟨a, rfl⟩ := Int.eq_ofNat_of_zero_le h1
    obtain ⟨k, rfl⟩ := Int.eq_ofNat_of_zero_le h2
    have hak : a + k ≤ msg.size := by omega
    rw [show ((a : Int) + (k : Int)).toNat = a + k by omega, show ((a : Int)).toNat = a by omega] at HR
    have q1 : decide ((a : Int) < 0) = false := by simp
    have q2 : decide ((k : Int) < 0) = false := by simp
    have q3 : decide ((msg.size : Int) - (a : Int) < (k : Int)) = false := by simp; omega
    have hm : (msg.extract 0 (a + k)).size = a + k := by rw [ext_size]; omega
    have HS := Lib.hid (fun w1 h => split_any (msg.extract 0 (a + k)) a kind w1 h (by omega) (by omega))
    have HE := Lib.hid he
    clear he h1 h2 h3
    unfold SpPost at HS
    cases hr : splF (msg.extract 0 (a + k)) a kind with
    | no er =>
      rw [hr] at HS HR
      clear hr
      go_enter Tryd.func12, Tryd.ntmps12
      go_wp2_with fail
      refine Calls.mono (HS.out w HE.out) ?_
      rintro e w1 ⟨hg, hp1, hp2, rfl⟩
      have G1 := Lib.hid hg
      have k1 : ((er : Int) != 0) = true := by simp; omega
      clear hg HS
      go_wp2_with fail
      go_ret2
      rw [HR.out]
      exact ⟨rfl, G1.out⟩
    | ok l =>
      rw [hr] at HS HR
      have hgd := spl_good (by omega) hr
      have HT := Lib.hid (fun v w1 (h : Pcs w1 v l) => text_any v l w1 h (spl_len hr) (fun x hx => by have := (hgd x hx).1; omega))
      clear hgd hr
      go_enter Tryd.func12, Tryd.ntmps12
      go_wp2_with fail
      refine Calls.mono (HS.out w HE.out) ?_
      rintro e w1 ⟨hg, _, v, rfl, ho⟩
      have G1 := Lib.hid hg
      have P1 := Lib.hid (Pcs.of ho)
      obtain ⟨A, cap, rfl, _, _⟩ := own_shape ho
      clear hg HS ho
      go_wp2_with fail
      refine Calls.mono (HT.out _ w1 P1.out) ?_
      rintro e w2 ⟨rfl, hg⟩
      have G2 := Lib.hid (gtrans G1.out hg)
      clear hg
      go_wp2_with fail
      go_ret2
      rw [HR.out]
      exact ⟨rfl, G2.out⟩

/-- Parts, written one behind the other. -/
def wrF (cmp : Bool) : List Pc → Tb → List UInt8 → List UInt8 × Tb
  | [], T, out => (out, T)
  | x :: l, T, out => if x.name = true then wrF cmp l (putF x.text cmp cmp 0 T out).2 (putF x.text cmp cmp 0 T out).1 else wrF cmp l T (out ++ x.text.data.toList)
theorem wrF_txt {cmp : Bool} {x : Pc} {l : List Pc} {T : Tb} {out : List UInt8} (h : x.name = false) : wrF cmp (x :: l) T out = wrF cmp l T (out ++ x.text.data.toList) := by rw [wrF, if_neg (by simp [h])]
theorem wrF_nam {cmp : Bool} {x : Pc} {l : List Pc} {T : Tb} {out : List UInt8} (h : x.name = true) : wrF cmp (x :: l) T out = wrF cmp l (putF x.text cmp cmp 0 T out).2 (putF x.text cmp cmp 0 T out).1 := by rw [wrF, if_pos h]
def WrPost (b : Nat) (m : Option Nat) (T : Tb) (a : List UInt8) (kind : Nat) (d : ByteArray) (w : World) (e : Ending) (w' : World) : Prop :=
  match whF kind d with
  | none => e = .returned (.tuple #[.slice none 0 0, .int .i64 3]) ∧ w.grownBy w' none
  | some l => ∃ v' m', e = .returned (.tuple #[v', .int .i64 0]) ∧ Own w' w.heap.size v' (wrF (cmpF kind) l T a).1 ∧ Tab w' b m' (wrF (cmpF kind) l T a).2 ∧ TG w w' b m ∧ ∀ i, m' = some i → m = some i ∨ w.heap.size ≤ i
theorem PtM.put {w : World} {b : Nat} {m : Option Nat} {T' T2 : Tb} {out out' : List UInt8} {mr m2 : Option Nat} {v v' : Value} {wr w2 : World} (h : PtM w b m T' out mr v wr) (ho : Own w2 wr.heap.size v' out') (ht : Tab w2 b m2 T2) (hg : TG wr w2 b mr) (hm : ∀ i, m2 = some i → mr = some i ∨ wr.heap.size ≤ i) : PtM w b m T2 out' m2 v' w2 :=
  ⟨ho.base h.tg.size, ht, h.tg.trans hg h.ms, tg_ms h.tg h.ms hm⟩
theorem putF_outlen (n : ByteArray) (cmp known : Bool) : ∀ k p (T : Tb) (out : List UInt8), n.size - p = k → scan n p = true → (putF n cmp known p T out).1.length ≤ out.length + (n.size - p) + 1 := by
  intro k
  induction k using Nat.strongRecOn with
  | _ k ih =>
    intro p T out hk hsc
    have hp := scan_lt hsc
    by_cases h0 : bt n p = 0
    · rw [putF_end h0]; simp
    · have hl := scan_lab hsc h0
      cases hg : tget T (suf n p) with
      | some q =>
        cases cmp with
        | true => rw [putF_ptr hp h0 hg rfl]; simp [ptrB]; omega
        | false =>
          rw [putF_step hp h0 (.inr rfl)]
          have := ih (n.size - (p + 1 + bt n p)) (by omega) _ (tadd n known p T out.length) (out ++ lab n p) rfl hl.2.2
          rw [List.length_append, lab_len n p (by omega)] at this
          omega
      | none =>
        rw [putF_step hp h0 (.inl hg)]
        have := ih (n.size - (p + 1 + bt n p)) (by omega) _ (tadd n known p T out.length) (out ++ lab n p) rfl hl.2.2
        rw [List.length_append, lab_len n p (by omega)] at this
        omega
theorem putF_few' {n : ByteArray} (cmp : Bool) (T : Tb) (out : List UInt8) (hn : may n = true) : (putF n cmp cmp 0 T out).2.length ≤ T.length + 255 ∧ (putF n cmp cmp 0 T out).1.length ≤ out.length + 256 := by
  have h1 := putF_few n cmp cmp _ 0 T out rfl
  have h2 := putF_outlen n cmp cmp _ 0 T out rfl (may_size hn).2
  have := (may_size hn).1
  omega
theorem Pcs.keptT {w w' : World} {v : Value} {l : List Pc} {b : Nat} {m : Option Nat} {T : Tb} (h : Pcs w v l) (t : Tab w b m T) (g : TG w w' b m) : Pcs w' v l := by
  obtain ⟨h1, h2⟩ := h
  refine ⟨h1, ?_⟩
  rcases h2 with h2 | ⟨k, cap, cur, e, hb, hk, hc⟩
  · exact .inl h2
  · refine .inr ⟨k, cap, cur, e, hb, g.blk hk ?_ ?_, hc⟩
    · intro e
      subst e
      have := t.cell
      rw [hk] at this
      cases this
    · intro e
      subst e
      obtain ⟨⟨D, ⟨es, clock, hm, _⟩, _⟩, _⟩ := t.some k rfl
      rw [hk] at hm
      cases hm
structure WtL (w : World) (b : Nat) (m : Option Nat) (T : Tb) (a : List UInt8) (cmp : Bool) (l : List Pc) (i : Nat) (T' : Tb) (out : List UInt8) (mr : Option Nat) (v : Value) (wr : World) : Prop where
  pm : PtM w b m T' out mr v wr
  eq : wrF cmp l T a = wrF cmp (l.drop i) T' out
  few : T'.length ≤ T.length + 255 * i
  len : out.length ≤ a.length + 1300000 * i
theorem twrite_nil (va : Value) (kind : Nat) (d : ByteArray) (w : World) : Calls Tryd.prog 16 #[va, .pointer none, .int .u16 kind, .string d] w fun e w' => e = .returned (.tuple #[.slice none 0 0, .int .i64 2]) ∧ w.grownBy w' none := by
  go_enter Tryd.func16, Tryd.ntmps16
  go_wp2_with fail
  go_ret2
  exact ⟨rfl, grefl _ _⟩

set_option maxRecDepth 100000 in
set_option maxHeartbeats 2000000 in
theorem twrite_any (b : Nat) (m : Option Nat) (T : Tb) (va : Value) (a : List UInt8) (kind : Nat) (d : ByteArray) (w : World) (he : Et w) (h : Tab w b m T) (ha : SlB w va a) (hd : d.size ≤ 1000000) (hT : T.length ≤ 900000) (hal : a.length ≤ 900000000) :
    Calls Tryd.prog 16 #[va, .pointer (some ⟨b, 0, none⟩), .int .u16 kind, .string d] w (WrPost b m T a kind d w) := by
  obtain ⟨i0, hi, hz0, hz1, hz2⟩ := info_parts Tryd.infoByte
  have HW := Lib.hid (whole_l kind d w he hd)
  have HT := Lib.hid h
  have HA := Lib.hid ha
  have hbl := blt h.cell
  obtain ⟨hl3, hgood⟩ := whL_good kind d
  obtain ⟨A, capa, rfl, _, _, _⟩ := ha
  clear h he
  cases hm : whF kind d with
  | none =>
    have HP := Lib.hid hm
    rw [show mayD kind d = false by unfold mayD; rw [hm]; rfl] at HW
    clear hm hgood
    go_enter Tryd.func16, Tryd.ntmps16
    go_wp2_with fail
    refine Calls.mono HW.out ?_
    rintro e w1 ⟨v, rfl, _, hg⟩
    have G1 := Lib.hid hg
    clear hg HW
    go_wp2_with fail
    go_ret2
    unfold WrPost
    rw [HP.out]
    exact ⟨rfl, G1.out⟩
  | some l =>
    have HP := Lib.hid hm
    rw [show mayD kind d = true by unfold mayD; rw [hm]; rfl] at HW
    rw [show whL kind d = l by unfold whL; rw [hm]; rfl] at HW hl3 hgood
    have HX := Lib.hid hgood
    clear hm hgood
    go_enter Tryd.func16, Tryd.ntmps16
    go_wp2_with fail
    refine Calls.mono HW.out ?_
    rintro e w1 ⟨v, rfl, hp, hg⟩
    have G1 := Lib.hid hg
    have P1 := Lib.hid hp
    have T1 := Lib.hid (HT.out.kept0 hg)
    have A1 := Lib.hid (HA.out.kept0 hg)
    obtain ⟨Ap, cp, rfl⟩ := FS.len hp
    have hb1 := blt T1.out.cell
    have hbd := hg.size
    clear hg hp HW HA HT
    go_wp2_with (at_make; refine wpList_make_own _ rfl _ _ 30 rfl w1.heap.size 5 i0 (.int .u8 0) 1 Tryd.underlying30 hi hz0 hz1 _ _ _ (a.length + d.size) rfl rfl (by omega) ?b2 ?b3 (Nat.le_refl _) ?_)
    case b2 => rw [hz2]; omega
    case b3 => unfold maxLen; omega
    intro w0 hown0 hgrow0
    have ho0 : Own w0 w1.heap.size (.slice (some ⟨w1.heap.size, 0, none⟩) ([] : List UInt8).length (a.length + d.size)) [] := hown0
    go_wp2_with (at_builtin; refine wpList_app_sl rfl (.tmp 34) (.tmp 35) 30 rfl w1.heap.size i0 Tryd.underlying30 hi hz0 hz1 hz2 _ [] a rfl ho0 _ rfl (A1.out.kept0 hgrow0) ?c1 ?c2 ?_)
    case c1 => simp; omega
    case c2 => exact hgrow0.size
    intro v1 w2 ho1 hg1
    have HL := Lib.hid (show WtL w1 b m T a (cmpF kind) l 0 T a m v1 w2 from by
      have g01 : w1.grownBy w2 none := gstep hgrow0 hg1 (fun r hr => (ho0.block r hr).1)
      exact ⟨⟨ho1, T1.out.kept0 g01, TG.of0 g01 _ _, fun i e => .inl e⟩, rfl, by omega, by omega⟩)
    clear ho1 hg1 ho0 hown0 hgrow0 A1
    go_wp2_with fail
    refine Calls.mono (compr_any kind w2) ?_
    rintro e wq ⟨rfl, hq⟩
    subst hq
    obtain ⟨cmp, hcm⟩ : ∃ c, cmpF kind = c := ⟨_, rfl⟩
    rw [hcm] at HL ⊢
    have HCM := Lib.hid hcm
    clear hcm
    go_wp2_with fail
    go_loopw [12, 41] (fun vo vi wr => ∃ (i : Nat) (T' : Tb) (out : List UInt8) (mr : Option Nat), vi = .int .i64 i ∧ i ≤ l.length ∧ WtL w1 b m T a cmp l i T' out mr vo wr) (fun _ vi _ => l.length - (intOf vi).toNat)
    case atStart => exact ⟨0, T, a, m, rfl, by omega, HL.out⟩
    case round =>
      clear HL
      obtain ⟨i, T', out, mr, rfl, hil, hr⟩ := hrel
      have R0 := Lib.hid hr
      have hfew := hr.few
      have hlen := hr.len
      obtain ⟨O, cap, rfl, hcap, hcm⟩ := hr.pm.own.shape
      unfold maxLen at hcm
      clear hr
      by_cases hlt : i < l.length
      · have k0 : decide ((i : Int) < (l.length : Int)) = true := by simp; omega
        obtain ⟨g, rfl, _, hgl, c0, c1, c2⟩ := (P1.out.keptT T1.out R0.out.pm.tg).at hlt
        obtain ⟨hx1, hx2⟩ := HX.out l[i] (List.getElem_mem hlt)
        have HD := Lib.hid (show l.drop i = l[i] :: l.drop (i + 1) from List.drop_eq_getElem_cons hlt)
        cases hb : l[i].name with
        | false =>
          rw [hb] at c1
          have HN := Lib.hid (show wrF cmp l T a = wrF cmp (l.drop (i + 1)) T' (out ++ l[i].text.data.toList) by
            rw [R0.out.eq, HD.out, wrF_txt hb])
          have hnl := nlen l[i].text
          clear hb hx2 HD
          generalize l[i] = x at *
          have M1 := Lib.hid (R0.out.pm.quiet (galloc (grefl wr none) (.cells #[.string x.text, .bool false, .int .i64 (x.next : Int)] 73)))
          go_wp2_with (at_builtin; refine wpList_app_str rfl (.tmp 48) (.tmp 50) 30 9 rfl w1.heap.size i0 Tryd.underlying30 Tryd.underlying9 hi hz0 hz1 hz2 _ _ rfl (R0.out.pm.own.kept0 (galloc (grefl _ none) _)) x.text rfl ?e1 ?e2 ?_)
          case e1 => omega
          case e2 => have := R0.out.pm.tg.size; simp; omega
          intro v6 w6 ho6 hg6
          have R6 := Lib.hid (show WtL w1 b m T a cmp l (i + 1) T' (out ++ x.text.data.toList) mr v6 w6 from ⟨M1.out.app hb1 hg6 ho6, HN.out, by omega, by simp only [List.length_append]; omega⟩)
          obtain ⟨A6, c6, rfl, _, _⟩ := ho6.shape
          clear ho6 hg6 M1
          go_wp2_with fail
          go_roundw
          case rel => exact ⟨i + 1, T', out ++ x.text.data.toList, mr, by go_num, by omega, R6.out⟩
          case measure => simp [intOf]; omega
        | true =>
          rw [hb] at c1
          have HN := Lib.hid (show wrF cmp l T a = wrF cmp (l.drop (i + 1)) (putF l[i].text cmp cmp 0 T' out).2 (putF l[i].text cmp cmp 0 T' out).1 by
            rw [R0.out.eq, HD.out, wrF_nam hb])
          have hmy := hx2 hb
          have HF := Lib.hid (putF_few' cmp T' out hmy)
          have h255 := (may_size hmy).1
          have HM := Lib.hid hmy
          clear hb hx2 HD hmy
          generalize l[i] = x at *
          have M1 := Lib.hid (R0.out.pm.quiet (galloc (grefl wr none) (.cells #[.string x.text, .bool true, .int .i64 (x.next : Int)] 73)))
          go_wp2_with fail
          refine Calls.mono (tput_ok b mr T' _ out x.text cmp cmp _ M1.out.tab M1.out.own.sl HM.out (by omega) (by omega)) ?_
          rintro e w6 ⟨v', m', rfl, ho, ht, hg, hms⟩
          have R6 := Lib.hid (show WtL w1 b m T a cmp l (i + 1) (putF x.text cmp cmp 0 T' out).2 (putF x.text cmp cmp 0 T' out).1 m' v' w6 from ⟨M1.out.put ho ht hg hms, HN.out, by have := HF.out.1; omega, by have := HF.out.2; omega⟩)
          obtain ⟨A6, c6, rfl, _, _⟩ := ho.shape
          clear ho ht hg hms M1 HN HF
          generalize putF x.text cmp cmp 0 T' out = pq at *
          go_wp2_with fail
          go_roundw
          case rel => exact ⟨i + 1, pq.2, pq.1, m', by go_num, by omega, R6.out⟩
          case measure => simp [intOf]; omega
      · have k0 : decide ((i : Int) < (l.length : Int)) = false := by simp; omega
        have HE := Lib.hid (show wrF cmp l T a = (out, T') by rw [R0.out.eq, List.drop_eq_nil_of_le (by omega)]; rfl)
        have HC := Lib.hid (show cmpF kind = cmp from HCM.out)
        go_wp2_with fail
        go_ret2
        unfold WrPost
        rw [HP.out]
        simp only
        rw [HC.out, HE.out]
        exact ⟨_, mr, rfl, R0.out.pm.own.base hbd, R0.out.pm.tab, (TG.of0 G1.out b m).trans R0.out.pm.tg (fun i e => .inl e), fun i e => by
          rcases R0.out.pm.ms i e with h1 | h1
          · exact .inl h1
          · exact .inr (Nat.le_trans hbd h1)⟩
end Go.Proofs.YtijjfdmklbncbaaDoor
