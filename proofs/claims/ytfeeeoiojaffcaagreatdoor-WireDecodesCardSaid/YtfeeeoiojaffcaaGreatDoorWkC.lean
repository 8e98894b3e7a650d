/-
  Wire: the document's put.
-/
import Derived.Test.YtfeeeoiojaffcaaGreatDoorWkB
namespace Go.Proofs.YtfeeeoiojaffcaaGreatDoor
open Go.RowKit

theorem put_le_ (n : ByteArray) (cmp known : Bool) (T : Tb) (b : List UInt8) (hsc : scan n 0 = true) (hl : Low T) : (putF n cmp known 0 T b).1.length ≤ b.length + n.size := by
  rcases put_shape n cmp known 16384 _ 0 T b rfl hsc hl (fun x hx => .inl (by have := hl x hx; omega)) with h | ⟨q, j, _, h1, _, _, h⟩
  · rw [h]; have := nlen n; simp <;> omega
  · rw [h]; have := nlen n; simp [ptrB] <;> omega
theorem gcell_ {w w' : World} {row : Option Nat} {b i : Nat} {v : Value} (g : w.grownBy w' row) (h : w.cell? ⟨b, i, none⟩ = some v) (hn : some b ≠ row) : w'.cell? ⟨b, i, none⟩ = some v := by
  have hb : b < w.heap.size := by
    unfold World.cell? at h
    cases hh : w.heap[b]? with
    | none => rw [hh] at h; cases h
    | some o => exact blt hh
  unfold World.cell? at h ⊢
  rw [g.block b hb hn]
  exact h
theorem fx_str (S : Ws) (k c t : Nat) : (⟨S.1.toArray⟩ : ByteArray) ++ ⟨(enc 2 k).toArray⟩ ++ ⟨(enc 2 c).toArray⟩ ++ ⟨(enc 4 t).toArray⟩ = ⟨(adF (fx k c t) S).1.toArray⟩ := by
  rw [mk_append_list, mk_append_list, mk_append_list]
  unfold adF fx
  simp only [List.append_assoc]
theorem cls_str (S : Ws) (k c : Nat) : (⟨S.1.toArray⟩ : ByteArray) ++ ⟨(enc 2 k).toArray⟩ ++ ⟨(enc 2 c).toArray⟩ = ⟨(adF (enc 2 k ++ enc 2 c) S).1.toArray⟩ := by
  rw [mk_append_list, mk_append_list]
  unfold adF
  simp only [List.append_assoc]
theorem kb_some {w w' : World} {b : Nat} (g : w.grownBy w' (some b)) (h : b ≤ w.heap.size) : KB b w w' :=
  ⟨g.os, g.tape, g.output, g.size, fun i hi => g.block i (by omega) (by simp; omega)⟩
theorem gsome {a w w' : World} {b : Nat} (g : a.grownBy w (some b)) (h : w.grownBy w' (some b)) : a.grownBy w' (some b) :=
  ⟨h.os.trans g.os, h.tape.trans g.tape, h.output.trans g.output, Nat.le_trans g.size h.size, fun i hi hn => (h.block i (Nat.lt_of_lt_of_le hi g.size) hn).trans (g.block i hi hn)⟩
theorem gany' {w w' : World} {row : Option Nat} (g : w.grownBy w' none) : w.grownBy w' row := ⟨g.os, g.tape, g.output, g.size, fun k hk _ => g.block k hk (by simp)⟩
theorem mk_self'' (n : ByteArray) : (⟨n.data.toList.toArray⟩ : ByteArray) = n := by cases n; simp
theorem mk_drop (l : List UInt8) (k : Nat) : (⟨l.toArray⟩ : ByteArray).extract k l.length = ⟨(l.drop k).toArray⟩ := by
  have e : ((⟨l.toArray⟩ : ByteArray).extract k l.length).data.toList = l.drop k := by
    rw [Lib.extract_data]
    show List.take (_ - k) (List.drop k l) = _
    rw [List.take_of_length_le (by rw [List.length_drop]; omega)]
  rw [← e, mk_self'']
theorem rF_str (a e u : List UInt8) (k : Nat) : (⟨a.toArray⟩ : ByteArray) ++ ⟨e.toArray⟩ ++ (⟨u.toArray⟩ : ByteArray).extract k u.length = ⟨(a ++ (e ++ u.drop k)).toArray⟩ := by
  rw [mk_drop, mk_append_list, mk_append_list, List.append_assoc]
/-- What may stand in a section that is written. -/
structure Rc.put (r : Rc) : Prop where
  may : okR' r = true
  kind : r.kind < 65536
  cls : r.cls < 65536
  ttl : r.ttl < 4294967296
  data : r.data.size ≤ 5000
theorem rH_len (s : Ws) (r : Rc) : (rH s r).1 = (adF (fx r.kind r.cls r.ttl) (nmF r.name s)).1 ++ [0, 0] := rfl
theorem Rc.put.data' {r : Rc} (h : r.put) : ∃ l, whF r.kind r.data = some l := by
  have := h.may
  unfold okR' mayD at this
  simp only [Bool.and_eq_true] at this
  exact Option.isSome_iff_exists.1 this.2
theorem Rc.put.name {r : Rc} (h : r.put) : Go.Proofs.YtfeeeoiojaffcaaGreatDoor.may r.name = true := by
  have := h.may
  unfold okR' at this
  simp only [Bool.and_eq_true] at this
  exact this.1
def PutsPost (b : Nat) (st : Ws) (w : World) (e : Ending) (w' : World) : Prop :=
  w.grownBy w' (some b) ∧ if 65535 < st.1.length then e = .returned (.tuple #[.string ByteArray.empty, .bool false]) else e = .returned (.tuple #[.string ⟨st.1.toArray⟩, .bool true]) ∧ ∃ vt, RT w' b vt st.2
theorem PutsPost.no {b : Nat} {st : Ws} {w w' : World} {e : Ending} (h : 65535 < st.1.length) (g : w.grownBy w' (some b)) (he : e = .returned (.tuple #[.string ByteArray.empty, .bool false])) : PutsPost b st w e w' := ⟨g, by rw [if_pos h]; exact he⟩
theorem PutsPost.yes {b : Nat} {st : Ws} {w w' : World} {e : Ending} {vt : Value} (h : ¬ 65535 < st.1.length) (g : w.grownBy w' (some b)) (he : e = .returned (.tuple #[.string ⟨st.1.toArray⟩, .bool true])) (k : RT w' b vt st.2) : PutsPost b st w e w' := ⟨g, by rw [if_neg h]; exact ⟨he, vt, k⟩⟩
theorem rslice_lt {w : World} {v : Value} {l : List Rc} {b : Nat} (h : Rs w v l) (hb : ∀ k, v.ownBlock = some k → k < b) : ∀ {w' : World}, w.grownBy w' (some b) → Rs w' v l :=
  fun g => Sl.kept h g fun k e => by cases e; exact .inr fun hk => by have := hb _ hk; omega
set_option maxRecDepth 100000 in
set_option maxHeartbeats 4000000 in
theorem rputs_any (b : Nat) (vt : Value) (st : Ws) (v : Value) (l : List Rc) (w : World) (ht : RT w b vt st.2) (hlow : Low st.2) (hfew : st.2.length ≤ st.1.length) (hlen : st.1.length ≤ 65535) (hv : Rs w v l) (hr : ∀ r ∈ l, r.put) (hb : 0 < l.length → ∀ k, v.ownBlock = some k → k < b) (hll : l.length ≤ 65535) :
    Calls Tryz.prog 32 #[.string ⟨st.1.toArray⟩, .pointer (some ⟨b, 0, none⟩), v] w (PutsPost b (rsF st l) w) := by
  have HV := Lib.hid hv
  have HR := Lib.hid hr
  have HB := Lib.hid hb
  obtain ⟨A, cap, rfl⟩ := hv.form
  have LE := Lib.hid (fun k => rsF_take_le st l k)
  have SN := Lib.hid (fun k h => rsF_snoc st l k h)
  have LW := Lib.hid (fun k => rsF_low hlow (l.take k))
  have FW := Lib.hid (fun k => (rsF_le (l.take k) st).few hfew)
  have TK := Lib.hid (show rsF st (l.take l.length) = rsF st l from by rw [List.take_length])
  have E0 := Lib.hid (show rsF st (l.take 0) = st from rfl)
  clear hv hr hb hlow hfew
  go_enter Tryz.func32, Tryz.ntmps32
  go_wp2_with fail
  go_loopw [0, 8] (fun vs vi wr => ∃ (i : Nat) (vt' : Value), vi = .int .i64 i ∧ i ≤ l.length ∧ vs = .string ⟨(rsF st (l.take i)).1.toArray⟩ ∧ RT wr b vt' (rsF st (l.take i)).2 ∧ (rsF st (l.take i)).1.length ≤ 65535 ∧ w.grownBy wr (some b)) (fun _ vi _ => l.length - (intOf vi).toNat)
  case atStart => exact ⟨0, vt, rfl, by omega, rfl, ht, hlen, grefl _ _⟩
  case round =>
    obtain ⟨i, vt', rfl, hil, rfl, hT, hl5, hg⟩ := hrel
    have GR := Lib.hid hg
    have T0 := Lib.hid hT
    clear ht hg hT hlen
    by_cases hlt : i < l.length
    · have R0 := Lib.hid (rslice_lt HV.out (HB.out (by omega)) GR.out)
      obtain ⟨bl, off, hA, l0, l1, l2, l3, l4⟩ := R0.out.at hlt
      subst hA
      have hbl : bl < b := HB.out (by omega) bl rfl
      have q0 : (0 : Int) ≤ (i : Int) := by omega
      have q1 : (i : Int) < (l.length : Int) := by omega
      have HP := Lib.hid (HR.out l[i] (List.getElem_mem hlt))
      have SI := Lib.hid (SN.out i hlt)
      have LI := Lib.hid (LW.out i)
      have FI := Lib.hid (FW.out i)
      have LN := Lib.hid (LE.out (i + 1))
      generalize l[i] = r at *
      generalize rsF st (l.take i) = S at *
      obtain ⟨S', hS'⟩ : ∃ s, rsF st (l.take (i + 1)) = s := ⟨_, rfl⟩
      rw [hS'] at SI LN
      have ES := Lib.hid hS'
      clear hS'
      have P1 := rput_ok b vt' S.2 S.1 r.name true true _ T0.out LI.out HP.out.name (by have := (may_size HP.out.name).1; have := FI.out; omega) (by omega)
      have L5 := Lib.hid hl5
      clear hl5
      go_wp2_with fail
      refine Calls.mono P1 ?_
      clear P1
      rintro e w1 ⟨rfl, vt1, hT1, hg1⟩
      have T1 := Lib.hid hT1
      have G1 := Lib.hid (gsome GR.out hg1)
      have N1 := Lib.hid (show putF r.name true true 0 S.2 S.1 = nmF r.name S from rfl)
      have LW1 := Lib.hid (show Low (nmF r.name S).2 from putF_low r.name true true _ 0 S.2 S.1 rfl LI.out)
      have LS1 := Lib.hid (show (nmF r.name S).1.length ≤ 65800 from by have := put_le_ r.name true true S.2 S.1 (may_size HP.out.name).2 LI.out; have := (may_size HP.out.name).1; have := L5.out; show (putF r.name true true 0 S.2 S.1).1.length ≤ 65800; omega)
      have FW1 := Lib.hid ((nmF_le r.name S).few FI.out)
      have D1 := Lib.hid (show rD S r = wrF (cmpF r.kind) ((whF r.kind r.data).getD []) (nmF r.name S).2 ((adF (fx r.kind r.cls r.ttl) (nmF r.name S)).1 ++ [0, 0]) from rfl)
      have RF1 := Lib.hid (show rF S r = ((adF (fx r.kind r.cls r.ttl) (nmF r.name S)).1 ++ (enc 2 ((rD S r).1.length - ((adF (fx r.kind r.cls r.ttl) (nmF r.name S)).1 ++ [0, 0]).length) ++ (rD S r).1.drop ((adF (fx r.kind r.cls r.ttl) (nmF r.name S)).1 ++ [0, 0]).length), (rD S r).2) from rfl)
      have RL := Lib.hid (rF_len S r)
      have RDle := Lib.hid (show ∃ X, (rD S r).1 = ((adF (fx r.kind r.cls r.ttl) (nmF r.name S)).1 ++ [0, 0]) ++ X from (rD_le S r).1)
      rw [N1.out] at T1 ⊢
      clear hT1 N1 T0 LI FI
      generalize nmF r.name S = S1 at *
      have l1' := gcell_ hg1 l1 (by simp; omega)
      have l2' := gcell_ hg1 l2 (by simp; omega)
      have l3' := gcell_ hg1 l3 (by simp; omega)
      have l4' := gcell_ hg1 l4 (by simp; omega)
      clear hg1 l0 l1 l2 l3 l4 R0
      have GR := G1
      clear G1
      go_wp2_with fail
      have K2 := Lib.hid (fun w' => rput_any r.kind 2 (by have := HP.out.kind; omega) (by omega) w')
      have K3 := Lib.hid (fun w' => rput_any r.cls 2 (by have := HP.out.cls; omega) (by omega) w')
      have K4 := Lib.hid (fun w' => rput_any r.ttl 4 HP.out.ttl (by omega) w')
      have w2 : IntKind.u64.wrap (r.kind : Int) = r.kind := by rw [IntKind.wrap_u64]; have := HP.out.kind; omega
      have w3 : IntKind.u64.wrap (r.cls : Int) = r.cls := by rw [IntKind.wrap_u64]; have := HP.out.cls; omega
      have w4 : IntKind.u64.wrap (r.ttl : Int) = r.ttl := by rw [IntKind.wrap_u64]; have := HP.out.ttl; omega
      have ZF := Lib.hid (fx_str S1 r.kind r.cls r.ttl)
      have S2T := Lib.hid (show (adF (fx r.kind r.cls r.ttl) S1).2 = S1.2 from rfl)
      have S2L := Lib.hid (show (adF (fx r.kind r.cls r.ttl) S1).1.length = S1.1.length + 8 from by unfold adF fx; simp [enc_len] <;> omega)
      generalize adF (fx r.kind r.cls r.ttl) S1 = S2 at *
      have c1 := Gr.cell l1'
      have c2 := Gr.cell l2'
      have c3 := Gr.cell l3'
      have nl1 : ¬ (9223372036854775807 < S1.1.length + (enc 2 r.kind).length) := by rw [enc_len]; have := LS1.out; omega
      have nl2 : ¬ (9223372036854775807 < S1.1.length + (enc 2 r.kind).length + (enc 2 r.cls).length) := by rw [enc_len, enc_len]; have := LS1.out; omega
      have nl3 : ¬ (9223372036854775807 < S1.1.length + (enc 2 r.kind).length + (enc 2 r.cls).length + (enc 4 r.ttl).length) := by rw [enc_len, enc_len, enc_len]; have := LS1.out; omega
      refine wp_region_noPanic ?_
      refine wp_region_gr (by kernel_rfl) (by kernel_rfl) ?_
      repeat (go_big_quiet_step (first | (go_at_call 31; with_reducible exact Calls.gr (K2.out _)) | (go_at_call 31; with_reducible exact Calls.gr (K3.out _)) | (go_at_call 31; with_reducible exact Calls.gr (K4.out _))))
      refine wpQuiet_nil ?_
      rintro _ ⟨gq, rfl⟩
      refine NoPanic.normal ?_
      rw [ZF.out]
      have T2 := Lib.hid (T1.out.kept0 gq.h)
      have G2 := Lib.hid (show w.grownBy gq.w (some b) from gsome GR.out (gany' gq.h))
      have m1 := gcell_ gq.h l1' (by simp)
      have m4 := gcell_ gq.h l4' (by simp)
      clear c1 c2 c3 nl1 nl2 nl3 K2 K3 K4 w2 w3 w4 ZF l1' l2' l3' l4' T1 GR
      generalize gq.w = w2 at *
      clear gq
      have hsz : (⟨S2.1.toArray⟩ : ByteArray).size = S2.1.length := size_mk _
      obtain ⟨X2, hX2⟩ : ∃ X : ByteArray, X = ⟨S2.1.toArray⟩ := ⟨_, rfl⟩
      rw [← hX2] at hsz ⊢
      have z3 : X2 ++ (⟨#[0, 0]⟩ : ByteArray) = ⟨(S2.1 ++ [0, 0]).toArray⟩ := by rw [hX2]; exact mk_append_list S2.1 [0, 0]
      have HX := Lib.hid hX2
      clear hX2
      go_wp2_with fail
      have KW := rwrite_any b vt1 S1.2 (S2.1 ++ [0, 0]) r.kind r.data w2.drew (T2.out.kept0 (gdrew (grefl w2 none))) LW1.out HP.out.data (by have := FW1.out; have := LS1.out; omega) (by rw [List.length_append]; have := S2L.out; have := LS1.out; simp; omega)
      obtain ⟨L, hL⟩ := HP.out.data'
      unfold RwrPost at KW
      rw [hL] at KW
      have D2 := Lib.hid (show wrF (cmpF r.kind) L S1.2 (S2.1 ++ [0, 0]) = rD S r from by rw [D1.out, hL]; rfl)
      dsimp only at KW
      rw [D2.out] at KW
      have KW := Lib.hid KW
      clear hL D1 D2
      generalize rD S r = U at *
      have hb2 := Lib.hid (blt T2.out.cell)
      have d1 : ∀ g : GrB b w2.drew, g.w.cell? ⟨bl, off + i * 5 + 1, none⟩ = some (.int .u16 r.kind) := GrB.cell m1 hbl
      have d4 : ∀ g : GrB b w2.drew, g.w.cell? ⟨bl, off + i * 5 + 4, none⟩ = some (.string r.data) := GrB.cell m4 hbl
      have nl4 : ¬ (9223372036854775807 < S2.1.length + 2) := by have := S2L.out; have := LS1.out; omega
      refine wp_region_segsB b [(true, [0, 1, 2, 3, 4, 5, 6, 7, 8, 9, 10, 11, 12]), (false, [13]), (true, [14, 15, 16, 17, 18])] (by kernel_rfl) (by kernel_rfl) ?_
      refine wpSegsB_quiet rfl ?_
      simp only [List.filterMap_cons, List.filterMap_nil, List.getElem?_toArray, List.getElem?_cons_succ, List.getElem?_cons_zero]
      show wpQuiet _ _ _ _ [_, _, _, _, _, _, _, _, _, _, _, _, _] _
      repeat (go_big_quiet_step (fail))
      refine wpQuiet_nil ?_
      refine wpSegsB_one (by simp only [List.getElem?_toArray, List.getElem?_cons_succ, List.getElem?_cons_zero]; exact rfl) ?_
      go_wp2_with fail
      refine Calls.mono KW.out ?_
      rintro e w3 ⟨rfl, vt2, hT3, hg3⟩
      have T3 := Lib.hid hT3
      have G3 := Lib.hid (gsome G2.out (gsome (gany' (gdrew (grefl w2 none))) hg3))
      have KBx := Lib.hid (kb_some hg3 (Nat.le_of_lt hb2.out))
      clear hT3 hg3 KW T2 G2 d1 d4 m1 m4 hb2 z3 nl4
      go_wp2_with fail
      refine ⟨KBx.out, ?_⟩
      clear KBx
      refine wpSegsB_quiet rfl ?_
      simp only [List.filterMap_cons, List.filterMap_nil, List.getElem?_toArray, List.getElem?_cons_succ, List.getElem?_cons_zero]
      show wpQuiet _ _ _ _ [_, _, _, _, _] _
      repeat (go_big_quiet_step (fail))
      refine wpQuiet_nil ?_
      refine wpSegsB_done ?_
      have usz : (⟨U.1.toArray⟩ : ByteArray).size = U.1.length := size_mk _
      obtain ⟨UU, hUU⟩ : ∃ X : ByteArray, X = ⟨U.1.toArray⟩ := ⟨_, rfl⟩
      rw [← hUU] at usz ⊢
      have HU := Lib.hid hUU
      clear hUU
      by_cases h6 : 65535 < U.1.length
      · have d6 : decide ((65535 : Int) < (U.1.length : Int)) = true := decide_eq_true (by omega)
        have LO := Lib.hid (show 65535 < (rsF st l).1.length from by have h1 := LN.out.len; rw [SI.out, RL.out] at h1; omega)
        clear h6
        go_wp2_with fail
        go_ret2
        exact PutsPost.no LO.out G3.out rfl
      have d6 : decide ((65535 : Int) < (U.1.length : Int)) = false := decide_eq_false (by omega)
      obtain ⟨X, hX⟩ := RDle.out
      have UL := Lib.hid (show S2.1.length + 2 ≤ U.1.length ∧ U.1.length ≤ 65535 from ⟨by rw [hX]; simp <;> omega, by omega⟩)
      have zl : (S2.1 ++ ([0, 0] : List UInt8)).length = S2.1.length + 2 := List.length_append
      have RF2 := RF1.out
      rw [zl] at RF2
      have z5 : X2 ++ (⟨(enc 2 (U.1.length - (S2.1.length + 2))).toArray⟩ : ByteArray) ++ UU.extract (S2.1.length + 2) U.1.length = ⟨(rF S r).1.toArray⟩ := by
        rw [RF2, HX.out, HU.out]
        exact rF_str _ _ _ _
      clear zl RF2
      have Z5 := Lib.hid z5
      have RT2 := Lib.hid (show (rF S r).2 = U.2 from by rw [RF1.out])
      clear hX h6 z5 RF1 RDle
      generalize S2.1.length = k2 at *
      generalize U.1.length = ku at *
      obtain ⟨n, hn⟩ : ∃ n, ku - (k2 + 2) = n := ⟨_, rfl⟩
      rw [hn] at Z5
      have HN := Lib.hid hn
      clear hn
      have KP := Lib.hid (fun w' => rput_any n 2 (by have := UL.out; have := HN.out; omega) (by omega) w')
      go_wp2_with fail
      clear d6
      obtain ⟨k3, hk3⟩ : ∃ k, k2 + 2 = k := ⟨_, rfl⟩
      obtain ⟨x1, hx1⟩ : ∃ x : Int, (ku : Int) - (k2 : Int) = x := ⟨_, rfl⟩
      have a1 : wrap64 ((ku : Int) - (k2 : Int)) = x1 := by have := UL.out; unfold wrap64; omega
      have a2 : wrap64 (x1 - 2) = (n : Int) := by have := UL.out; have := HN.out; unfold wrap64; omega
      have a3 : IntKind.u64.wrap (n : Int) = n := by rw [IntKind.wrap_u64]; have := UL.out; have := HN.out; omega
      have a4 : wrap64 ((k2 : Int) + 2) = (k3 : Int) := by have := UL.out; unfold wrap64; omega
      have a5 : k3 ≤ ku := by have := UL.out.1; omega
      have nl5 : ¬ (9223372036854775807 < k2 + (enc 2 n).length) := Nat.not_lt.2 (by rw [enc_len]; exact Nat.le_trans (Nat.le_trans UL.out.1 UL.out.2) (by decide))
      have nl6 : ¬ (9223372036854775807 < k2 + (enc 2 n).length + (ku - k3)) := Nat.not_lt.2 (by rw [enc_len]; exact Nat.le_trans (Nat.add_le_add (Nat.le_trans UL.out.1 UL.out.2) (Nat.le_trans (Nat.sub_le _ _) UL.out.2)) (by decide))
      rw [hk3] at Z5
      clear hk3 hx1
      refine wp_region_noPanic ?_
      refine wp_region_gr (by kernel_rfl) (by kernel_rfl) ?_
      repeat (go_big_quiet_step ((go_at_call 31; with_reducible exact Calls.gr (KP.out _))))
      refine wpQuiet_nil ?_
      rintro _ ⟨gq, rfl⟩
      refine NoPanic.normal ?_
      rw [Z5.out]
      have T4 := Lib.hid (T3.out.kept0 gq.h)
      have G4 := Lib.hid (gsome G3.out (gany' gq.h))
      clear T3 G3 nl5 nl6 a1 a2 a3 a4 a5
      generalize gq.w = w4 at *
      clear gq
      go_wp2_with fail
      go_roundw
      case rel => exact ⟨i + 1, vt2, by go_num, by omega, by rw [ES.out, SI.out], by rw [ES.out, SI.out, RT2.out]; exact T4.out, by rw [ES.out, SI.out, RL.out]; exact UL.out.2, G4.out⟩
      case measure => simp [intOf]; omega
    · have k1 : decide ((i : Int) < (l.length : Int)) = false := decide_eq_false (by omega)
      obtain rfl : i = l.length := by omega
      rw [TK.out] at T0 hl5 ⊢
      go_wp2_with fail
      go_ret2
      exact PutsPost.yes (by omega) GR.out rfl T0.out
end Go.Proofs.YtfeeeoiojaffcaaGreatDoor
