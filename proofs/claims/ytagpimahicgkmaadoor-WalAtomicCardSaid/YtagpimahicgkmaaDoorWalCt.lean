/- Walk: mailsacklaw10.WalCounts. -/
import Derived.Test.YtagpimahicgkmaaDoorL10S
import Derived.Test.YtagpimahicgkmaaDoorAw10
namespace Go.Proofs.YtagpimahicgkmaaDoor
open Go.RowKit

def isF (o : WOp) : Bool := o.fl
def isH (o : WOp) : Bool := !o.fl && (o.wr.at_ == 0)
theorem cnt_wF (l : List Wr) : (l.map wop).countP isF = 0 := by
  rw [List.countP_eq_zero]; intro o ho
  obtain ⟨x, _, rfl⟩ := List.mem_map.1 ho
  simp [isF, wop]
theorem cnt_wH {l : List Wr} (h : ∀ x ∈ l, x.at_ ≠ 0) : (l.map wop).countP isH = 0 := by
  rw [List.countP_eq_zero]; intro o ho
  obtain ⟨x, hx, rfl⟩ := List.mem_map.1 ho
  simp [isH, wop, h x hx]
theorem cnt_F (l : List Wr) : (planOps l).countP isF = 4 := by
  rw [planOps_eq, tailOps]
  simp only [List.countP_append, List.countP_cons, cnt_wF, List.countP_nil]
  rfl
theorem cnt_H {d : Dk} {l : List Wr} (h : Ok d l) : (planOps l).countP isH = 2 := by
  rw [planOps_eq, tailOps]
  simp only [List.countP_append, List.countP_cons, List.countP_nil, cnt_wH (fun x hx => by have := (h.all x hx).1; omega : ∀ x ∈ l, x.at_ ≠ 0), cnt_wH (ent_zero l l.length), List.map_cons, List.map_nil]
  rfl
theorem cnt_succ (p : WOp → Bool) {l : List WOp} {k : Nat} (h : k < l.length) : (l.take (k + 1)).countP p = (l.take k).countP p + if p l[k] then 1 else 0 := by
  rw [List.take_succ_eq_append_getElem h, List.countP_append, List.countP_cons, List.countP_nil]; omega
theorem plan_last {l : List Wr} : (planOps l)[3 * l.length + 5]? = some opF := by
  have e : planOps l = (entTo l l.length ++ [opF, ⟨false, ⟨0, hdr l.length ⟨(allTo l l.length).toArray⟩⟩⟩, opF] ++ l.map (fun x => (⟨false, x⟩ : WOp)) ++ [opF, ⟨false, ⟨0, zerosB 64⟩⟩]) ++ [opF] := by
    unfold planOps; simp
  rw [e, List.getElem?_append_right (by simp [entTo_len]; omega)]
  have : 3 * l.length + 5 - (entTo l l.length ++ [opF, ⟨false, ⟨0, hdr l.length ⟨(allTo l l.length).toArray⟩⟩⟩, opF] ++ l.map (fun x => (⟨false, x⟩ : WOp)) ++ [opF, ⟨false, ⟨0, zerosB 64⟩⟩]).length = 0 := by simp [entTo_len]; omega
  rw [this]; rfl

set_option maxRecDepth 100000 in
set_option maxHeartbeats 4000000 in
theorem counts_any (d : Dk) (l : List Wr) (v u : Value) (w : World) (ht : Tabs w) (h : DkAt [] w v d) (hu : WrsAt [] w u l) (hreach : d.cache.length * 24 ≤ 140737488355328) :
    Calls Tryd.prog 3 #[v, u] w fun e w' => e = .returned (.bool true) ∧ Kept w w' := by
  have HT := Lib.hid ht
  have HD := Lib.hid h
  have HW := Lib.hid hu
  have HRE := Lib.hid hreach
  obtain ⟨_, _, rfl, _, _⟩ := h
  obtain ⟨A0, c0, B0, e0, rfl, rfl⟩ := HD.out.form
  obtain ⟨WA, wc, rfl, hw1, hw2, _⟩ := hu
  unfold maxLen at hw2
  clear ht hreach
  generalize hn0 : d.sec.length = n0 at *
  generalize hm0 : d.cache.length = m0 at *
  have HN0 := Lib.hid hn0
  have HM0 := Lib.hid hm0
  clear hn0 hm0
  go_enter Tryd.func3, Tryd.ntmps3
  go_wp2_with fail
  have OD := Lib.hid (Own.newAt w w.heap.size 25 [.slice A0 n0 c0, .slice B0 m0 e0] (by simp))
  have K := ((Kept.refl w).alloc (.cells #[.slice A0 n0 c0, .slice B0 m0 e0] 25))
  generalize (w.alloc (.cells #[.slice A0 n0 c0, .slice B0 m0 e0] 25)) = w1 at *
  obtain ⟨cD0, cD1, fD0, fD1⟩ := OD.out.two
  replace HD := Lib.hid (HD.out.go K (Ext.refl _ _))
  replace HW := Lib.hid (HW.out.go K (Ext.refl _ _))
  refine (ref10_any [] d _ _ HD.out (fun _ h => by cases h) (by rw [HM0.out]; exact HRE.out)).mono ?_
  rintro e w2 ⟨s1, c1, rfl, hd1, hk⟩
  clear cD0 cD1 fD0 fD1
  replace OD := Lib.hid (OD.out.kept hk)
  replace HD := Lib.hid (HD.out.go hk (Ext.refl _ _))
  replace HW := Lib.hid (HW.out.go hk (Ext.refl _ _))
  replace K := K.trans hk
  have HD1 := Lib.hid hd1
  obtain ⟨A1, c1, B1, e1, rfl, rfl⟩ := hd1.form
  clear hd1
  rw [HN0.out, HM0.out] at HD1 ⊢
  clear hk
  obtain ⟨cD0, cD1, fD0, fD1⟩ := OD.out.two
  go_wp2_with fail
  refine (small_any [] d _ _ HD1.out).mono ?_
  rintro e w3 ⟨rfl, hk⟩
  clear cD0 cD1 fD0 fD1
  replace OD := Lib.hid (OD.out.kept hk)
  replace HD := Lib.hid (HD.out.go hk (Ext.refl _ _))
  replace HW := Lib.hid (HW.out.go hk (Ext.refl _ _))
  replace HD1 := Lib.hid (HD1.out.go hk (Ext.refl _ _))
  replace K := K.trans hk
  clear hk
  clear HD1
  rcases Bool.eq_false_or_eq_true (smallB d) with hs | hs
  · skip
    rw [hs]
    obtain ⟨_, hs2⟩ := small_parts hs
    have HS2 := Lib.hid hs2
    clear hs hs2
    obtain ⟨cD0, cD1, fD0, fD1⟩ := OD.out.two
    go_wp2_with fail
    refine (few_any l _ _ HW.out).mono ?_
    rintro e w4 ⟨rfl, hk⟩
    clear cD0 cD1 fD0 fD1
    replace OD := Lib.hid (OD.out.kept hk)
    replace HD := Lib.hid (HD.out.go hk (Ext.refl _ _))
    replace HW := Lib.hid (HW.out.go hk (Ext.refl _ _))
    replace K := K.trans hk
    clear hk
    rcases Bool.eq_false_or_eq_true (fewB l) with hf | hf
    · skip
      rw [hf]
      have hl40 := few_len hf
      clear hf
      obtain ⟨cD0, cD1, fD0, fD1⟩ := OD.out.two
      go_wp2_with fail
      refine (plan_any [] d l _ _ _ (HT.out.kept K) HD.out HW.out (fun _ h => by cases h)).mono ?_
      rintro e w5 ⟨r1, rfl, hr1, hk⟩
      clear cD0 cD1 fD0 fD1
      replace OD := Lib.hid (OD.out.kept hk)
      replace HD := Lib.hid (HD.out.go hk (Ext.refl _ _))
      replace HW := Lib.hid (HW.out.go hk (Ext.refl _ _))
      replace K := K.trans hk
      have HR1 := Lib.hid hr1
      clear hr1
      obtain ⟨QA, qc, rfl, hq1, hq2, _⟩ := HR1.out
      unfold maxLen at hq2
      clear hk
      by_cases he : planErr d l = 0
      · have hok := ok_of he
        have hL := planL_yes he
        have hN : (planL d l).length = 3 * l.length + 6 := by rw [hL, planOps_len]
        have HCF : Hid ((planL d l).countP isF = 4) := by show _ = _; rw [hL, cnt_F]
        have HCH : Hid ((planL d l).countP isH = 2) := by show _ = _; rw [hL, cnt_H hok]
        have HLA : Hid ((planL d l)[3 * l.length + 5]? = some opF) := by show _ = _; rw [hL, plan_last]
        rw [he]
        clear hL hok he
        generalize planL d l = L at *
        have HNN := Lib.hid hN
        clear hN
        have hrow := HR1.out
        obtain ⟨_, _, e9, _, _, hrow⟩ := hrow
        cases e9
        obtain ⟨b, o, rfl, hb, _, hcs⟩ := hrow (by rw [Tryd.elOp.cells_length]; have := HNN.out; omega)
        have HCS := Lib.hid hcs
        have hN1 : L.length = 3 * l.length + 6 := HNN.out
        have hN2 : L.length ≤ 200 := by omega
        clear hcs hrow hN1
        obtain ⟨cD0, cD1, fD0, fD1⟩ := OD.out.two
        go_wp2_with fail
        clear cD0 cD1 fD0 fD1
        go_loopw [7, 8, 37] (fun fv hv iv wq => ∃ (k : Nat), k ≤ L.length ∧ iv = .int .i64 k ∧ fv = .int .i64 (((L.take k).countP isF : Nat) : Int) ∧ hv = .int .i64 (((L.take k).countP isH : Nat) : Int) ∧ Kept w5 wq) (fun _ _ iv _ => L.length - (intOf iv).toNat)
        case atStart => exact ⟨0, Nat.zero_le _, rfl, rfl, rfl, Kept.refl _⟩
        case round =>
          obtain ⟨k, hk, rfl, rfl, rfl, K9⟩ := hrel
          have hF9 : (L.take k).countP isF ≤ k := Nat.le_trans List.countP_le_length (by rw [List.length_take]; omega)
          have hH9 : (L.take k).countP isH ≤ k := Nat.le_trans List.countP_le_length (by rw [List.length_take]; omega)
          by_cases hlt : k < L.length
          · skip
            have HF1 := Lib.hid (cnt_succ isF hlt)
            have HH1 := Lib.hid (cnt_succ isH hlt)
            obtain ⟨g1, g2, g3⟩ := ops_at hlt
            replace g1 := (K9.cell (p := ⟨b, o + k * 3, none⟩) hb).trans (HCS.out _ _ g1)
            replace g2 := (K9.cell (p := ⟨b, o + k * 3 + 1, none⟩) hb).trans (HCS.out _ _ g2)
            replace g3 := (K9.cell (p := ⟨b, o + k * 3 + 2, none⟩) hb).trans (HCS.out _ _ g3)
            have zb := Nat.lt_of_lt_of_le hb K9.size
            generalize (L.take k).countP isF = cf at *
            generalize (L.take k).countP isH = ch at *
            generalize L[k] = op at *
            obtain ⟨fl, xa, xd⟩ := op
            simp only at g1 g2 g3
            cases fl with
            | true =>
              go_wp2
              go_roundw
              case rel => exact ⟨k + 1, by omega, by go_num, by rw [HF1.out]; rfl, by rw [HH1.out]; rfl, K9.alloc _⟩
              case measure => simp [intOf]; omega
            | false =>
              by_cases h0 : xa = 0
              · subst h0
                go_wp2
                go_roundw
                case rel => exact ⟨k + 1, by omega, by go_num, by rw [HF1.out]; rfl, by rw [HH1.out]; rfl, K9.alloc _⟩
                case measure => simp [intOf]; omega
              · have t1 := beq_f h0
                have HQ : Hid (isH ⟨false, xa, xd⟩ = false) := by show _ = _; simp [isH, h0]
                clear h0
                go_wp2
                go_roundw
                case rel => exact ⟨k + 1, by omega, by go_num, by rw [HF1.out]; rfl, by rw [HH1.out, HQ.out]; rfl, K9.alloc _⟩
                case measure => simp [intOf]; omega
          · obtain rfl : k = L.length := by omega
            rw [List.take_length, HCF.out, HCH.out]
            have g1 : wr.cell? ⟨b, o + (L.length - 1) * 3, none⟩ = some (.bool true) := by
              have h5 : 3 * l.length + 5 < L.length := by have := HNN.out; omega
              have := (ops_at h5).1
              rw [show L[3 * l.length + 5] = opF by have := HLA.out; rw [List.getElem?_eq_getElem h5] at this; injection this] at this
              have h6 := (K9.cell (p := ⟨b, o + (3 * l.length + 5) * 3, none⟩) hb).trans (HCS.out _ _ this)
              rw [show L.length - 1 = 3 * l.length + 5 by have := HNN.out; omega]
              exact h6
            have q1 : ((L.length : Int) == 3 * (l.length : Int) + 6) = true := beq_t (by have := HNN.out; omega)
            have q2 : (0 : Int) ≤ (L.length : Int) - 1 := by have := HNN.out; omega
            have q3 : ((L.length : Int) - 1).toNat = L.length - 1 := by omega
            have q4 : (L.length : Int) - 1 < (L.length : Int) := by omega
            replace K := K.trans K9
            clear hF9 hH9
            go_wp2_with fail
            refine (awake10 _ (HT.out.kept K)).mono ?_
            rintro e w6 ⟨rfl, hk⟩
            replace K := K.trans hk
            clear hk
            go_wp2
            go_ret
            exact ⟨rfl, K⟩
      · have t1 := bne_t he
        rw [planL_no rfl he] at HR1 hq1 ⊢
        have HEE := Lib.hid he
        clear he
        generalize planErr d l = pe at *
        have hl0 : (([] : List WOp).length : Int) = 0 := rfl
        obtain ⟨cD0, cD1, fD0, fD1⟩ := OD.out.two
        go_wp2_with fail
        refine (awake10 _ (HT.out.kept K)).mono ?_
        rintro e w6 ⟨rfl, hk⟩
        clear cD0 cD1 fD0 fD1
        replace OD := Lib.hid (OD.out.kept hk)
        replace HD := Lib.hid (HD.out.go hk (Ext.refl _ _))
        replace HW := Lib.hid (HW.out.go hk (Ext.refl _ _))
        replace K := K.trans hk
        clear hk
        go_wp2
        go_ret
        exact ⟨rfl, K⟩
    · rw [hf]
      clear hf
      obtain ⟨cD0, cD1, fD0, fD1⟩ := OD.out.two
      go_wp2_with fail
      refine (awake10 _ (HT.out.kept K)).mono ?_
      rintro e w5 ⟨rfl, hk⟩
      clear cD0 cD1 fD0 fD1
      replace OD := Lib.hid (OD.out.kept hk)
      replace HD := Lib.hid (HD.out.go hk (Ext.refl _ _))
      replace HW := Lib.hid (HW.out.go hk (Ext.refl _ _))
      replace K := K.trans hk
      clear hk
      go_wp2
      go_ret
      exact ⟨rfl, K⟩
  · rw [hs]
    clear hs
    obtain ⟨cD0, cD1, fD0, fD1⟩ := OD.out.two
    go_wp2_with fail
    refine (awake10 _ (HT.out.kept K)).mono ?_
    rintro e w4 ⟨rfl, hk⟩
    clear cD0 cD1 fD0 fD1
    replace OD := Lib.hid (OD.out.kept hk)
    replace HD := Lib.hid (HD.out.go hk (Ext.refl _ _))
    replace HW := Lib.hid (HW.out.go hk (Ext.refl _ _))
    replace K := K.trans hk
    clear hk
    go_wp2
    go_ret
    exact ⟨rfl, K⟩
end Go.Proofs.YtagpimahicgkmaaDoor
