/- Walk: wal.Repair, Recover, Commit. -/
import Derived.Test.YtagpimahicgkmaaDoorWalE
namespace Go.Proofs.YtagpimahicgkmaaDoor
open Go.RowKit

theorem run_sec (A B : Option Addr) (n c m e : Nat) (w : World) : (Instr.field 25 (.agg #[.slice A n c, .slice B m e]) 0).run Tryd.prog w = .ok (.slice A n c) w := by kernel_rfl
theorem rep_no {d : Dk} (h : suitsB d = false) : repOps d = [] := by unfold repOps; rw [h]; rfl
theorem rep_tail {d : Dk} (h : suitsB d = true) (hb : byteAt (atS (viewD d) 0) 0 = 74) : repOps d = repTail (viewD d) := by unfold repOps; rw [h, decide_eq_true hb]; rfl
theorem repTail_yes {c : List ByteArray} (h : entriesB c = true) : repTail c = ((entR c).map wop ++ [opF]) ++ [wop ⟨0, zerosB 64⟩, opF] := by
  unfold repTail; rw [if_pos h, entR_yes h]; simp [tailOps]
theorem repTail_no {c : List ByteArray} (h : entriesB c = false) : repTail c = [] ++ [wop ⟨0, zerosB 64⟩, opF] := by
  unfold repTail; rw [h]; rfl
theorem suits_parts {d : Dk} (h : suitsB d = true) : 61 < d.sec.length ∧ rightB d = true := by
  simp only [suitsB, Bool.and_eq_true, decide_eq_true_eq] at h; exact h
theorem entR_few (c : List ByteArray) : (entR c).length ≤ 30 := by
  unfold entR
  split
  · rename_i h
    rw [entL_len]
    unfold entriesB at h
    simp only [Bool.and_eq_true, decide_eq_true_eq] at h
    exact h.1.1.2
  · simp
theorem opsAt_own {V : List Nat} {w : World} {base : Nat} {A : Option Addr} {n c : Nat} {l : List WOp} (h : w.ownsRow base 40 3 (.slice A n c) l.length (l.flatMap opC)) (hV : ∀ k ∈ V, k < base) (hn : n = l.length) : OpsAt V w (.slice A n c) l := by
  subst hn
  obtain ⟨A9, c9, e9, h91, h92, h93⟩ := own_form (V := V) h hV
  exact ⟨A9, c9, e9, h91, h92, h93⟩

set_option maxRecDepth 100000 in
set_option maxHeartbeats 4000000 in
theorem repair_any (V : List Nat) (d : Dk) (v : Value) (w : World) (ht : Tabs w) (h : DkAt V w v d) (hV : Old V w) :
    Calls Tryd.prog 16 #[v] w fun e w' => ∃ r, e = .returned r ∧ OpsAt V w' r (repOps d) ∧ Kept w w' := by
  have HT := Lib.hid ht
  have HOV := Lib.hid hV
  have HV := Lib.hid h
  obtain ⟨_, _, rfl, _, _⟩ := h
  obtain ⟨A0, c0, B0, e0, rfl, rfl⟩ := HV.out.form
  clear ht hV
  generalize hn0 : d.sec.length = n0 at *
  generalize hm0 : d.cache.length = m0 at *
  have HN0 := Lib.hid hn0
  have HM0 := Lib.hid hm0
  clear hn0 hm0
  go_enter Tryd.func16, Tryd.ntmps16
  go_wp2_with fail
  have OD := Lib.hid (Own.newAt w w.heap.size 25 [.slice A0 n0 c0, .slice B0 m0 e0] (by simp))
  have K := ((Kept.refl w).alloc (.cells #[.slice A0 n0 c0, .slice B0 m0 e0] 25))
  generalize (w.alloc (.cells #[.slice A0 n0 c0, .slice B0 m0 e0] 25)) = w1 at *
  obtain ⟨cD0, cD1, fD0, fD1⟩ := OD.out.two
  replace HV := Lib.hid (HV.out.go K (Ext.refl _ _))
  refine (suits_any V d _ _ HV.out).mono ?_
  rintro e w2 ⟨rfl, hk⟩
  clear cD0 cD1 fD0 fD1
  replace OD := Lib.hid (OD.out.kept hk)
  replace HV := Lib.hid (HV.out.go hk (Ext.refl _ _))
  replace K := K.trans hk
  clear hk
  rcases Bool.eq_false_or_eq_true (suitsB d) with hs | hs
  · skip
    obtain ⟨hlen, hright⟩ := suits_parts hs
    have HS := Lib.hid hs
    rw [hs]
    clear hs
    obtain ⟨cD0, cD1, fD0, fD1⟩ := OD.out.two
    go_wp2_with fail
    refine (flush_any V d _ _ HV.out (HOV.out.go K)).mono ?_
    rintro e w3 ⟨s2, d2, rfl, hd2, hk⟩
    clear cD0 cD1 fD0 fD1
    replace OD := Lib.hid (OD.out.kept hk)
    replace HV := Lib.hid (HV.out.go hk (Ext.refl _ _))
    replace K := K.trans hk
    rw [flushD_view hright] at hd2
    clear hk
    clear HV
    obtain ⟨A1, c1, A2, c2, rfl, rfl⟩ := hd2.form
    obtain ⟨_, _, hc1, hc2, _, _, hrow, _⟩ := hd2.rows
    have hvl : 61 < (viewD d).length := by rw [view_len]; exact hlen
    have hv64 : ∀ s ∈ viewD d, s.size = 64 := (right_parts (right_flush hright)).2.2.1
    have hv24 : (viewD d).length ≤ 1024 := (right_parts (right_flush hright)).2.1
    have HRT := Lib.hid (rep_tail HS.out)
    have HRZ := Lib.hid (rep_zero (d := d))
    dsimp only [List.length_nil] at hd2 hc1 hrow ⊢
    clear hd2
    generalize hv : viewD d = vw at *
    have HST : Hid (StrsAt [] w3 (.slice A1 vw.length c1) vw) := ⟨_, _, rfl, hc1, hc2, fun hx => by
      obtain ⟨b, o, e, h1, _, h3⟩ := hrow hx
      exact ⟨b, o, e, h1, by simp, h3⟩⟩
    obtain ⟨b, o, rfl, hb, _, hcs⟩ := hrow (by rw [strs_length]; omega)
    have g0 := hcs 0 _ (strs_atS (n := 0) (by omega))
    rw [Nat.add_zero] at g0
    have hs0 : (atS vw 0).size = 64 := hv64 _ (atS_mem (by omega))
    have hfd := run_sec (some ⟨b, o, none⟩) A2 vw.length c1 0 c2
    obtain ⟨s0, hse⟩ : ∃ s0, atS vw 0 = s0 := ⟨_, rfl⟩
    rw [hse] at g0 hs0
    have hbb : byteAt (atS vw 0) 0 = s0[0] := by rw [hse]; exact byteAt_lt (by omega)
    have HSE := Lib.hid hse
    clear hse
    have HBB := Lib.hid hbb
    have HVV := Lib.hid hv
    have HV64 := Lib.hid hv64
    unfold maxLen at hc2
    clear hcs hrow hbb hv hv64
    have i1 : 0 < vw.length := by omega
    by_cases h74 : s0[0].toNat = 74
    · have t1 := bne_f (a := (s0[0].toNat : Int)) (b := 74) (by omega)
      have HQ : Hid (repOps d = repTail vw) := HRT.out (by rw [HBB.out]; exact UInt8.toNat_inj.1 h74)
      clear HRT HRZ
      have HEN := Lib.hid (fun w' (k : Kept w3 w') => entries_any V vw _ w' (HT.out.kept (K.trans k)) (HST.out.go k (Ext.refl _ _)) (HOV.out.go (K.trans k)) HV64.out (by omega) hv24)
      obtain ⟨cD0, cD1, fD0, fD1⟩ := OD.out.two
      go_wp2_with fail
      refine (HEN.out _ (Kept.refl _)).mono ?_
      rintro e w4 ⟨r3, rfl, hr3, hk⟩
      clear cD0 cD1 fD0 fD1
      replace OD := Lib.hid (OD.out.kept hk)
      replace K := K.trans hk
      have HR3 := Lib.hid hr3
      clear hr3 HEN HST HBB HSE
      clear hk
      obtain ⟨A3, c3, rfl, h31, h32, h33⟩ := HR3.out
      unfold maxLen at h32
      have HROW3 := Lib.hid h33
      have HFEW := Lib.hid (entR_few vw)
      clear h33 HR3
      have HBW : Hid (w.heap.size ≤ w4.heap.size) := K.size
      have K3 := Lib.hid K
      rcases Bool.eq_false_or_eq_true (entriesB vw) with he | he
      · rw [he]
        replace HQ : Hid (repOps d = ((entR vw).map wop ++ [opF]) ++ [wop ⟨0, zerosB 64⟩, opF]) := by show _ = _; rw [HQ.out, repTail_yes he]
        clear he
        generalize entR vw = L at *
        have hfew := HFEW.out
        obtain ⟨cD0, cD1, fD0, fD1⟩ := OD.out.two
        go_wp2_with fail
        go_loopw [4, 28] (fun ov iv wq => ∃ (k : Nat) (B : Option Addr) (cap : Nat), k ≤ L.length ∧ iv = .int .i64 k ∧ ov = .slice B k cap ∧ wq.ownsRow w4.heap.size 40 3 (.slice B k cap) ((L.take k).map wop).length (((L.take k).map wop).flatMap opC) ∧ Kept w4 wq) (fun _ iv _ => L.length - (intOf iv).toNat)
        case atStart => exact ⟨0, none, 0, Nat.zero_le _, rfl, rfl, World.ownsRow_nil _ _ _ _, Kept.refl _⟩
        case round =>
          clear K
          obtain ⟨k, B, cap, hk, rfl, rfl, ho, K⟩ := hrel
          have HO := Lib.hid ho
          clear ho
          have hml : ((L.take k).map wop).length = k := by rw [List.length_map, List.length_take]; omega
          by_cases hlt : k < L.length
          · skip
            have HRW := HROW3.out.kept K
            obtain ⟨b2, o2, rfl, hb2, _, hcs2⟩ := HRW (by rw [wrs_length]; omega)
            have g1 : wr.cell? ⟨b2, o2 + k * 2, none⟩ = some (.int .i64 L[k].at_) := hcs2 _ _ (wrs_at hlt).1
            have g2 : wr.cell? ⟨b2, o2 + k * 2 + 1, none⟩ = some (.string L[k].data) := hcs2 _ _ (wrs_at hlt).2
            have HM : Hid ((L.take (k + 1)).map wop = (L.take k).map wop ++ [wop L[k]]) := by show _ = _; rw [List.take_succ_eq_append_getElem hlt, List.map_append]; rfl
            clear hcs2 HRW
            generalize L[k] = x at *
            generalize (L.take k).map wop = M at *
            have hmf : M.length ≤ 30 := by omega
            have HML := Lib.hid hml
            clear hml
            have zb2 := hb2
            go_upto_region 13 with (at_builtin; go_must (refine Tryd.elOp.wpList_app rfl (.tmp 32) (.tmp 35) rfl w4.heap.size _ M rfl ((HO.out.alloc _).alloc _) [] (some ⟨wr.heap.size + 1, 0, none⟩) 1 [wop x] rfl ((Own.new1 wr _ 40 ([wop x].flatMap opC)).row (by simp)) (opC_one _) (by unfold maxLen; simp only [List.length_cons, List.length_nil]; omega) (by simp only [List.length_cons, List.length_nil]; omega) (by have := K.size; simp; omega) ?_; intro v9 w9 hap hgr hat))
            rw [← HM.out] at hap
            have K9 := ((K.alloc _).alloc _).grown hgr (fun k e => (HO.out.lt k e).1)
            obtain ⟨A9, c9, rfl, _, _, _⟩ := own_form (V := []) hap (by simp)
            have e : ((L.take (k + 1)).map wop).length = k + 1 := by rw [List.length_map, List.length_take]; omega
            rw [e] at hap ⊢
            have HE9 := Lib.hid e
            have HO9 := Lib.hid hap
            clear hap hgr hat e
            go_wp2
            go_roundw
            case rel => exact ⟨k + 1, A9, c9, by omega, by go_num, rfl, by rw [HE9.out]; exact HO9.out, K9⟩
            case measure => simp [intOf]; omega
          · skip
            have e : L.take k = L := List.take_of_length_le (by omega)
            rw [e] at HO hml
            clear e
            have HQ2 := HQ
            generalize L.map wop = M at *
            have HML := Lib.hid hml
            have hmf : M.length ≤ 30 := by omega
            have KK := K
            replace K := K3.out.trans K
            have hb0 : w4.heap.size ≤ wr.heap.size := KK.size
            clear hml
            go_wp2_with fail
            refine (opFlush_any _).mono ?_
            rintro e wz1 ⟨rfl, hk⟩
            replace HO := Lib.hid (ownsRow_kept HO.out hk)
            replace K := K.trans hk
            have hb1 := hk.size
            clear hk
            go_upto_region 15 with (at_builtin; go_must (refine Tryd.elOp.wpList_app rfl (.tmp 38) (.tmp 40) rfl w4.heap.size _ M rfl (HO.out.alloc _) [] (some ⟨wz1.heap.size, 0, none⟩) 1 [opF] rfl ((Own.new wz1 40 ([opF].flatMap opC)).row (by simp)) (opC_one _) (by unfold maxLen; simp only [List.length_cons, List.length_nil]; omega) (by simp only [List.length_cons, List.length_nil]; omega) (by simp; omega) ?_; intro v8 w8 hap hgr hat))
            replace K := (K.alloc _).grown hgr (fun k e => by have := (HO.out.lt k e).1; have := HBW.out; omega)
            have hb2 : w4.heap.size ≤ w8.heap.size := by have := hgr.size; simp at this; omega
            replace HO := Lib.hid hap
            have hmf : (M ++ [opF]).length ≤ 31 := by rw [List.length_append]; simp only [List.length_cons, List.length_nil]; omega
            clear hap hgr hat HQ2
            generalize M ++ [opF] = M at *
            go_wp2_with fail
            refine (zeros_any 64 (by omega) _).mono ?_
            rintro e wzt2 ⟨rfl, hk⟩
            replace HO := Lib.hid (ownsRow_kept HO.out hk)
            replace K := K.trans hk
            have hsb1 := hk.size
            clear hk
            generalize hZ : zerosB 64 = Z at *
            clear hZ
            go_wp2_with fail
            refine (opWrite_any 0 Z _).mono ?_
            rintro e wzt3 ⟨rfl, hk⟩
            replace HO := Lib.hid (ownsRow_kept HO.out hk)
            replace K := K.trans hk
            have hsb2 := hk.size
            clear hk
            go_wp2_with fail
            refine (opFlush_any _).mono ?_
            rintro e wzt4 ⟨rfl, hk⟩
            replace HO := Lib.hid (ownsRow_kept HO.out hk)
            replace K := K.trans hk
            have hsb3 := hk.size
            clear hk
            go_wp2_with (at_builtin; go_must (refine Tryd.elOp.wpList_app rfl (.tmp 42) (.tmp 46) rfl w4.heap.size _ M rfl (HO.out.alloc _) [] (some ⟨wzt4.heap.size, 0, none⟩) 2 [wop ⟨0, Z⟩, opF] rfl ((Own.new wzt4 40 ([wop ⟨0, Z⟩, opF].flatMap opC)).row (by simp)) (opC_one _) (by unfold maxLen; simp only [List.length_cons, List.length_nil]; omega) (by simp only [List.length_cons, List.length_nil]; omega) (by simp; omega) ?_; intro v9 w9 hap hgr hat))
            have K9 := (K.alloc _).grown hgr (fun k e => by have := (HO.out.lt k e).1; have := HBW.out; omega)
            obtain ⟨A9, c9, e9, h91, h92, h93⟩ := own_form (V := V) hap (fun j hj => by have := HOV.out j hj; have := HBW.out; omega)
            subst e9
            have HR9 := Lib.hid h93
            clear hap hgr hat h93
            go_ret
            exact ⟨_, rfl, by rw [HQ.out]; exact ⟨_, _, rfl, h91, h92, HR9.out⟩, K9⟩
      · rw [he]
        obtain ⟨M, hM⟩ : ∃ M : List WOp, M = [] := ⟨_, rfl⟩
        replace HQ : Hid (repOps d = M ++ [wop ⟨0, zerosB 64⟩, opF]) := by show _ = _; rw [HQ.out, repTail_no he, hM]
        have HO : Hid (w4.ownsRow w4.heap.size 40 3 (.slice none 0 0) M.length (M.flatMap opC)) := by rw [hM]; exact World.ownsRow_nil _ _ _ _
        have hmf : M.length ≤ 31 := by rw [hM]; exact Nat.zero_le _
        have hb0 : w4.heap.size ≤ w4.heap.size := Nat.le_refl _
        clear he hM
        obtain ⟨cD0, cD1, fD0, fD1⟩ := OD.out.two
        go_upto_region 15 with fail
        go_wp2_with fail
        refine (zeros_any 64 (by omega) _).mono ?_
        rintro e wt5 ⟨rfl, hk⟩
        clear cD0 cD1 fD0 fD1
        replace HO := Lib.hid (ownsRow_kept HO.out hk)
        replace K := K.trans hk
        have hsb1 := hk.size
        clear hk
        generalize hZ : zerosB 64 = Z at *
        clear hZ
        go_wp2_with fail
        refine (opWrite_any 0 Z _).mono ?_
        rintro e wt6 ⟨rfl, hk⟩
        replace HO := Lib.hid (ownsRow_kept HO.out hk)
        replace K := K.trans hk
        have hsb2 := hk.size
        clear hk
        go_wp2_with fail
        refine (opFlush_any _).mono ?_
        rintro e wt7 ⟨rfl, hk⟩
        replace HO := Lib.hid (ownsRow_kept HO.out hk)
        replace K := K.trans hk
        have hsb3 := hk.size
        clear hk
        go_wp2_with (at_builtin; go_must (refine Tryd.elOp.wpList_app rfl (.tmp 42) (.tmp 46) rfl w4.heap.size _ M rfl (HO.out.alloc _) [] (some ⟨wt7.heap.size, 0, none⟩) 2 [wop ⟨0, Z⟩, opF] rfl ((Own.new wt7 40 ([wop ⟨0, Z⟩, opF].flatMap opC)).row (by simp)) (opC_one _) (by unfold maxLen; simp only [List.length_cons, List.length_nil]; omega) (by simp only [List.length_cons, List.length_nil]; omega) (by simp; omega) ?_; intro v9 w9 hap hgr hat))
        have K9 := (K.alloc _).grown hgr (fun k e => by have := (HO.out.lt k e).1; have := HBW.out; omega)
        obtain ⟨A9, c9, e9, h91, h92, h93⟩ := own_form (V := V) hap (fun j hj => by have := HOV.out j hj; have := HBW.out; omega)
        subst e9
        have HR9 := Lib.hid h93
        clear hap hgr hat h93
        go_ret
        exact ⟨_, rfl, by rw [HQ.out]; exact ⟨_, _, rfl, h91, h92, HR9.out⟩, K9⟩
    · have t1 := bne_t (a := (s0[0].toNat : Int)) (b := 74) (by omega)
      obtain ⟨cD0, cD1, fD0, fD1⟩ := OD.out.two
      have HE : Hid (repOps d = []) := by show _ = _; exact HRZ.out (by rw [HBB.out]; intro e; exact h74 (by rw [e]; rfl))
      go_wp2
      go_ret
      exact ⟨_, rfl, by rw [HE.out]; exact opsAt_nil _ _, K⟩
  · rw [hs]
    have HE : Hid (repOps d = []) := by show _ = _; exact rep_no hs
    go_wp2
    go_ret
    exact ⟨_, rfl, by rw [HE.out]; exact opsAt_nil _ _, K⟩
end Go.Proofs.YtagpimahicgkmaaDoor
