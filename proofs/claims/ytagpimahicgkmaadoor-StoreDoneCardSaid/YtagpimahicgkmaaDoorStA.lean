/- Walk: store.Format, Apply. -/
import Derived.Test.YtagpimahicgkmaaDoorStM
import Derived.Test.YtagpimahicgkmaaDoorStWr
namespace Go.Proofs.YtagpimahicgkmaaDoor
open Go.RowKit

theorem new381 : newR 381 = (formD, 0) := by unfold newR; rw [if_pos (by decide)]; rfl
theorem formD_len : formD.sec.length = 381 ∧ formD.cache.length = 0 := ⟨List.length_replicate, rfl⟩

set_option maxRecDepth 100000 in
set_option maxHeartbeats 1000000 in
theorem format_any (V : List Nat) (w : World) (hV : Old V w) :
    Calls Tryd.prog 33 #[] w fun e w' => ∃ s' c', e = .returned (.agg #[s', c']) ∧ DkAt V w' (.agg #[s', c']) formD ∧ Kept w w' := by
  have HOV := Lib.hid hV
  have HN := Lib.hid new381
  have HFL := Lib.hid formD_len
  clear hV
  go_enter Tryd.func33, Tryd.ntmps33
  go_wp2_with fail
  have OR := Lib.hid (Own.newAt w w.heap.size 25 [.slice none 0 0, .slice none 0 0] (by simp))
  have K := ((Kept.refl w).alloc (.cells #[.slice none 0 0, .slice none 0 0] 25))
  generalize (w.alloc (.cells #[.slice none 0 0, .slice none 0 0] 25)) = w1 at *
  obtain ⟨cR0, cR1, fR0, fR1⟩ := OR.out.two
  clear cR0 cR1 fR0 fR1
  refine (new_any (w.heap.size :: V) 381 _ (Old.cons OR.out.lt (HOV.out.go K))).mono ?_
  rintro e w2 ⟨s1, c1, rfl, hd1, hk⟩
  replace OR := Lib.hid (OR.out.kept hk)
  replace K := K.trans hk
  rw [HN.out] at hd1 ⊢
  obtain ⟨A0, k0, B0, e0, rfl, rfl⟩ := hd1.form
  dsimp only at hd1 ⊢
  rw [HFL.out.1, HFL.out.2] at hd1 ⊢
  have HD := Lib.hid hd1
  clear hd1
  clear hk
  generalize hf0 : formD = d0 at *
  have HF0 := Lib.hid hf0
  clear hf0
  go_upto_region 2 with fail
  have zR2 := OR.out.lt
  have zK2 := K.size
  replace OR := Lib.hid (OR.out.alloc (.cells #[.slice A0 381 k0, .slice B0 0 e0] 25))
  have OD := Lib.hid (Own.new w2 25 [.slice A0 381 k0, .slice B0 0 e0])
  replace HD := Lib.hid (HD.out.go ((Kept.refl w2).alloc (.cells #[.slice A0 381 k0, .slice B0 0 e0] 25)) (Ext.refl _ _))
  replace K := K.alloc (.cells #[.slice A0 381 k0, .slice B0 0 e0] 25)
  generalize (w2.alloc (.cells #[.slice A0 381 k0, .slice B0 0 e0] 25)) = w3 at *
  obtain ⟨cR0, cR1, fR0, fR1⟩ := OR.out.two
  obtain ⟨cD0, cD1, fD0, fD1⟩ := OD.out.two
  go_wp2
  clear cR0 cR1 fR0 fR1 cD0 cD1 fD0 fD1
  replace OR : Hid (Own ((w3.setCell ⟨w.heap.size, 0, none⟩ (.slice A0 381 k0)).setCell ⟨w.heap.size, 1, none⟩ (.slice B0 0 e0)) w.heap.size 25 [.slice A0 381 k0, .slice B0 0 e0]) := Lib.hid ((OR.out.set_ 0 (.slice A0 381 k0)).set_ 1 (.slice B0 0 e0))
  replace OD : Hid (Own ((w3.setCell ⟨w.heap.size, 0, none⟩ (.slice A0 381 k0)).setCell ⟨w.heap.size, 1, none⟩ (.slice B0 0 e0)) w2.heap.size 25 [.slice A0 381 k0, .slice B0 0 e0]) := Lib.hid ((OD.out.far (p := ⟨w.heap.size, 0, none⟩) (by first | omega | (simp; omega) | simp) (.slice A0 381 k0)).far (p := ⟨w.heap.size, 1, none⟩) (by first | omega | (simp; omega) | simp) (.slice B0 0 e0))
  replace HD := Lib.hid ((HD.out.put (p := ⟨w.heap.size, 0, none⟩) (by simp) (.slice A0 381 k0)).put (p := ⟨w.heap.size, 1, none⟩) (by simp) (.slice B0 0 e0))
  replace K := ((K.setCell (p := ⟨w.heap.size, 0, none⟩) (by first | exact Nat.le_refl _ | (simp only []; omega) | simp) (.slice A0 381 k0)).setCell (p := ⟨w.heap.size, 1, none⟩) (by first | exact Nat.le_refl _ | (simp only []; omega) | simp) (.slice B0 0 e0))
  generalize ((w3.setCell ⟨w.heap.size, 0, none⟩ (.slice A0 381 k0)).setCell ⟨w.heap.size, 1, none⟩ (.slice B0 0 e0)) = w4 at *
  obtain ⟨cR0, cR1, fR0, fR1⟩ := OR.out.two
  obtain ⟨cD0, cD1, fD0, fD1⟩ := OD.out.two
  refine bodyPost_ret (v := .agg #[.slice A0 381 k0, .slice B0 0 e0]) (by simp [results, Tryd.results33, go_sem, cR0, cR1]) rfl ?_
  exact ⟨_, _, rfl, by rw [HF0.out]; exact HD.out.weak (fun _ hk => List.mem_cons_of_mem _ hk), K⟩
set_option maxRecDepth 100000 in
set_option maxHeartbeats 1000000 in
theorem apply_any (V : List Nat) (d : Dk) (cs : List Chg) (v vc : Value) (w : World) (ht : Tabs w) (h : DkAt V w v d) (hcs : ChgsAt [] w vc cs) (hV : Old V w) (hc : d.cache.length ≤ 50000) (hcn : cs.length ≤ 100) :
    Calls Tryd.prog 34 #[v, vc] w fun e w' => ∃ s' c', e = .returned (.tuple #[.agg #[s', c'], .int .i64 (applyR d cs).2]) ∧ DkAt V w' (.agg #[s', c']) (applyR d cs).1 ∧ Kept w w' := by
  have HT := Lib.hid ht
  have HOV := Lib.hid hV
  have HD := Lib.hid h
  have HC := Lib.hid hc
  have HCN := Lib.hid hcn
  have HCA := Lib.hid hcs
  obtain ⟨_, _, rfl, _, _⟩ := h
  obtain ⟨A0, c0, B0, e0, rfl, rfl⟩ := HD.out.form
  obtain ⟨CA, cc, rfl, hc1, hc2, _⟩ := hcs
  unfold maxLen at hc2
  clear ht hV hc hcn
  generalize hn0 : d.sec.length = n0 at *
  generalize hm0 : d.cache.length = m0 at *
  have HM0 := Lib.hid hm0
  clear hn0 hm0
  go_enter Tryd.func34, Tryd.ntmps34
  go_wp2_with fail
  have OD := Lib.hid ((Own.newAt w w.heap.size 25 [.slice A0 n0 c0, .slice B0 m0 e0] (by simp)).alloc (.cells #[.slice none 0 0, .slice none 0 0] 25))
  have OR := Lib.hid (Own.newAt (w.alloc (.cells #[.slice A0 n0 c0, .slice B0 m0 e0] 25)) (w.heap.size + 1) 25 [.slice none 0 0, .slice none 0 0] (by simp))
  have K := (((Kept.refl w).alloc (.cells #[.slice A0 n0 c0, .slice B0 m0 e0] 25)).alloc (.cells #[.slice none 0 0, .slice none 0 0] 25))
  generalize ((w.alloc (.cells #[.slice A0 n0 c0, .slice B0 m0 e0] 25)).alloc (.cells #[.slice none 0 0, .slice none 0 0] 25)) = w1 at *
  obtain ⟨cD0, cD1, fD0, fD1⟩ := OD.out.two
  obtain ⟨cR0, cR1, fR0, fR1⟩ := OR.out.two
  clear cD0 cD1 fD0 fD1 cR0 cR1 fR0 fR1
  replace HD := Lib.hid (HD.out.go K (Ext.cons (k := w.heap.size + 1) (by omega) (Ext.refl _ _)))
  obtain ⟨cD0, cD1, fD0, fD1⟩ := OD.out.two
  obtain ⟨cR0, cR1, fR0, fR1⟩ := OR.out.two
  refine (writes_any d cs _ _ _ (HD.out.weak (fun _ hk => by cases hk)) (HCA.out.go K (Ext.refl _ _)) HCN.out).mono ?_
  rintro e w2 ⟨r1, rfl, hr1, hk⟩
  clear cD0 cD1 fD0 fD1 cR0 cR1 fR0 fR1
  replace OD := Lib.hid (OD.out.kept hk)
  replace OR := Lib.hid (OR.out.kept hk)
  replace HD := Lib.hid (HD.out.go hk (Ext.refl _ _))
  replace K := K.trans hk
  have HAP : Hid (applyR d cs = if (writesR d cs).2 = 0 then if (writesR d cs).1.length = 0 then (flushD d, 0) else commitR d (writesR d cs).1 else (⟨[], []⟩, (writesR d cs).2)) := by show _ = _; unfold applyR; rfl
  generalize writesR d cs = wr0 at *
  obtain ⟨ws, code⟩ := wr0
  obtain ⟨QA, qc, rfl, hq1, hq2, hq3⟩ := hr1
  dsimp only at hq1 hq2 hq3 HAP ⊢
  have HRO : Hid (WrsAt [] w2 (.slice QA ws.length qc) ws) := ⟨_, _, rfl, hq1, hq2, hq3⟩
  unfold maxLen at hq2
  clear hq3 HCA
  clear hk
  by_cases he : code = 0
  · subst he
    by_cases hl : ws.length = 0
    · have HE : Hid (applyR d cs = (flushD d, 0)) := by show _ = _; rw [HAP.out, if_pos rfl, if_pos hl]
      rw [hl]
      have hl0 : ws.length = 0 := hl
      clear HAP
      obtain ⟨cD0, cD1, fD0, fD1⟩ := OD.out.two
      obtain ⟨cR0, cR1, fR0, fR1⟩ := OR.out.two
      go_wp2_with fail
      refine (flush_any ((w.heap.size + 1) :: V) d _ _ HD.out (Old.cons OR.out.lt (HOV.out.go K))).mono ?_
      rintro e w3 ⟨s2, d2, rfl, hd2, hk⟩
      clear cD0 cD1 fD0 fD1 cR0 cR1 fR0 fR1
      replace OD := Lib.hid (OD.out.kept hk)
      replace OR := Lib.hid (OR.out.kept hk)
      replace HD := Lib.hid (HD.out.go hk (Ext.refl _ _))
      replace HRO := Lib.hid (HRO.out.go hk (Ext.refl _ _))
      replace K := K.trans hk
      obtain ⟨A1, c1, B1, e1, rfl, rfl⟩ := hd2.form
      have HD2 := Lib.hid hd2
      generalize (flushD d).sec.length = n1 at *
      generalize (flushD d).cache.length = m1 at *
      clear hd2
      clear hk
      clear HD
      clear HRO
      obtain ⟨cD0, cD1, fD0, fD1⟩ := OD.out.two
      obtain ⟨cR0, cR1, fR0, fR1⟩ := OR.out.two
      go_wp2
      clear cD0 cD1 fD0 fD1 cR0 cR1 fR0 fR1
      replace OD : Hid (Own ((w3.setCell ⟨(w.heap.size + 1), 0, none⟩ (.slice A1 n1 c1)).setCell ⟨(w.heap.size + 1), 1, none⟩ (.slice B1 m1 e1)) w.heap.size 25 [.slice A0 n0 c0, .slice B0 m0 e0]) := Lib.hid ((OD.out.far (p := ⟨(w.heap.size + 1), 0, none⟩) (by first | omega | (simp; omega) | simp) (.slice A1 n1 c1)).far (p := ⟨(w.heap.size + 1), 1, none⟩) (by first | omega | (simp; omega) | simp) (.slice B1 m1 e1))
      replace OR : Hid (Own ((w3.setCell ⟨(w.heap.size + 1), 0, none⟩ (.slice A1 n1 c1)).setCell ⟨(w.heap.size + 1), 1, none⟩ (.slice B1 m1 e1)) (w.heap.size + 1) 25 [.slice A1 n1 c1, .slice B1 m1 e1]) := Lib.hid ((OR.out.set_ 0 (.slice A1 n1 c1)).set_ 1 (.slice B1 m1 e1))
      replace HD2 := Lib.hid ((HD2.out.put (p := ⟨(w.heap.size + 1), 0, none⟩) (by simp) (.slice A1 n1 c1)).put (p := ⟨(w.heap.size + 1), 1, none⟩) (by simp) (.slice B1 m1 e1))
      replace K := ((K.setCell (p := ⟨(w.heap.size + 1), 0, none⟩) (by first | exact Nat.le_refl _ | (simp only []; omega) | simp) (.slice A1 n1 c1)).setCell (p := ⟨(w.heap.size + 1), 1, none⟩) (by first | exact Nat.le_refl _ | (simp only []; omega) | simp) (.slice B1 m1 e1))
      generalize ((w3.setCell ⟨(w.heap.size + 1), 0, none⟩ (.slice A1 n1 c1)).setCell ⟨(w.heap.size + 1), 1, none⟩ (.slice B1 m1 e1)) = w4 at *
      obtain ⟨cD0, cD1, fD0, fD1⟩ := OD.out.two
      obtain ⟨cR0, cR1, fR0, fR1⟩ := OR.out.two
      refine bodyPost_ret (v := .tuple #[.agg #[.slice A1 n1 c1, .slice B1 m1 e1], .int .i64 0]) (by simp [results, Tryd.results34, go_sem, cR0, cR1]) rfl ?_
      exact ⟨_, _, by rw [HE.out], by rw [HE.out]; exact HD2.out.weak (fun _ hk => List.mem_cons_of_mem _ hk), K⟩
    · have HE : Hid (applyR d cs = commitR d ws) := by show _ = _; rw [HAP.out, if_pos rfl, if_neg hl]
      have t1 := beq_f (show ((ws.length : Nat) : Int) ≠ 0 by omega)
      clear HAP
      obtain ⟨cD0, cD1, fD0, fD1⟩ := OD.out.two
      obtain ⟨cR0, cR1, fR0, fR1⟩ := OR.out.two
      go_wp2_with fail
      refine (commit_any ((w.heap.size + 1) :: V) d ws _ _ _ (HT.out.kept K) HD.out HRO.out (Old.cons OR.out.lt (HOV.out.go K)) (by have := HM0.out; have := HC.out; omega)).mono ?_
      rintro e w3 ⟨s2, d2, rfl, hd2, hk⟩
      clear cD0 cD1 fD0 fD1 cR0 cR1 fR0 fR1
      replace OD := Lib.hid (OD.out.kept hk)
      replace OR := Lib.hid (OR.out.kept hk)
      replace HD := Lib.hid (HD.out.go hk (Ext.refl _ _))
      replace HRO := Lib.hid (HRO.out.go hk (Ext.refl _ _))
      replace K := K.trans hk
      generalize hcr0 : commitR d ws = cr at *
      have HCR := Lib.hid hcr0
      clear hcr0
      obtain ⟨A1, c1, B1, e1, rfl, rfl⟩ := hd2.form
      have HD2 := Lib.hid hd2
      generalize cr.1.sec.length = n1 at *
      generalize cr.1.cache.length = m1 at *
      generalize hcr2 : cr.2 = cr2 at *
      have HC2 := Lib.hid hcr2
      clear hd2 hcr2
      clear hk
      clear HD
      clear HRO
      obtain ⟨cD0, cD1, fD0, fD1⟩ := OD.out.two
      obtain ⟨cR0, cR1, fR0, fR1⟩ := OR.out.two
      go_wp2
      clear cD0 cD1 fD0 fD1 cR0 cR1 fR0 fR1
      replace OD : Hid (Own ((w3.setCell ⟨(w.heap.size + 1), 0, none⟩ (.slice A1 n1 c1)).setCell ⟨(w.heap.size + 1), 1, none⟩ (.slice B1 m1 e1)) w.heap.size 25 [.slice A0 n0 c0, .slice B0 m0 e0]) := Lib.hid ((OD.out.far (p := ⟨(w.heap.size + 1), 0, none⟩) (by first | omega | (simp; omega) | simp) (.slice A1 n1 c1)).far (p := ⟨(w.heap.size + 1), 1, none⟩) (by first | omega | (simp; omega) | simp) (.slice B1 m1 e1))
      replace OR : Hid (Own ((w3.setCell ⟨(w.heap.size + 1), 0, none⟩ (.slice A1 n1 c1)).setCell ⟨(w.heap.size + 1), 1, none⟩ (.slice B1 m1 e1)) (w.heap.size + 1) 25 [.slice A1 n1 c1, .slice B1 m1 e1]) := Lib.hid ((OR.out.set_ 0 (.slice A1 n1 c1)).set_ 1 (.slice B1 m1 e1))
      replace HD2 := Lib.hid ((HD2.out.put (p := ⟨(w.heap.size + 1), 0, none⟩) (by simp) (.slice A1 n1 c1)).put (p := ⟨(w.heap.size + 1), 1, none⟩) (by simp) (.slice B1 m1 e1))
      replace K := ((K.setCell (p := ⟨(w.heap.size + 1), 0, none⟩) (by first | exact Nat.le_refl _ | (simp only []; omega) | simp) (.slice A1 n1 c1)).setCell (p := ⟨(w.heap.size + 1), 1, none⟩) (by first | exact Nat.le_refl _ | (simp only []; omega) | simp) (.slice B1 m1 e1))
      generalize ((w3.setCell ⟨(w.heap.size + 1), 0, none⟩ (.slice A1 n1 c1)).setCell ⟨(w.heap.size + 1), 1, none⟩ (.slice B1 m1 e1)) = w4 at *
      obtain ⟨cD0, cD1, fD0, fD1⟩ := OD.out.two
      obtain ⟨cR0, cR1, fR0, fR1⟩ := OR.out.two
      refine bodyPost_ret (v := .tuple #[.agg #[.slice A1 n1 c1, .slice B1 m1 e1], .int .i64 cr2]) (by simp [results, Tryd.results34, go_sem, cR0, cR1]) rfl ?_
      exact ⟨_, _, by rw [HE.out, HC2.out], by rw [HE.out]; exact HD2.out.weak (fun _ hk => List.mem_cons_of_mem _ hk), K⟩
  · have HE : Hid (applyR d cs = (⟨[], []⟩, code)) := by show _ = _; rw [HAP.out, if_neg he]
    have t1 := bne_t he
    clear HAP he
    obtain ⟨cD0, cD1, fD0, fD1⟩ := OD.out.two
    obtain ⟨cR0, cR1, fR0, fR1⟩ := OR.out.two
    go_wp2
    clear HD
    clear HRO
    clear cD0 cD1 fD0 fD1 cR0 cR1 fR0 fR1
    replace OD : Hid (Own ((w2.setCell ⟨(w.heap.size + 1), 0, none⟩ (.slice none 0 0)).setCell ⟨(w.heap.size + 1), 1, none⟩ (.slice none 0 0)) w.heap.size 25 [.slice A0 n0 c0, .slice B0 m0 e0]) := Lib.hid ((OD.out.far (p := ⟨(w.heap.size + 1), 0, none⟩) (by first | omega | (simp; omega) | simp) (.slice none 0 0)).far (p := ⟨(w.heap.size + 1), 1, none⟩) (by first | omega | (simp; omega) | simp) (.slice none 0 0))
    replace OR : Hid (Own ((w2.setCell ⟨(w.heap.size + 1), 0, none⟩ (.slice none 0 0)).setCell ⟨(w.heap.size + 1), 1, none⟩ (.slice none 0 0)) (w.heap.size + 1) 25 [.slice none 0 0, .slice none 0 0]) := Lib.hid ((OR.out.set_ 0 (.slice none 0 0)).set_ 1 (.slice none 0 0))
    replace K := ((K.setCell (p := ⟨(w.heap.size + 1), 0, none⟩) (by first | exact Nat.le_refl _ | (simp only []; omega) | simp) (.slice none 0 0)).setCell (p := ⟨(w.heap.size + 1), 1, none⟩) (by first | exact Nat.le_refl _ | (simp only []; omega) | simp) (.slice none 0 0))
    generalize ((w2.setCell ⟨(w.heap.size + 1), 0, none⟩ (.slice none 0 0)).setCell ⟨(w.heap.size + 1), 1, none⟩ (.slice none 0 0)) = w3 at *
    obtain ⟨cD0, cD1, fD0, fD1⟩ := OD.out.two
    obtain ⟨cR0, cR1, fR0, fR1⟩ := OR.out.two
    refine bodyPost_ret (v := .tuple #[.agg #[.slice none 0 0, .slice none 0 0], .int .i64 code]) (by simp [results, Tryd.results34, go_sem, cR0, cR1]) rfl ?_
    exact ⟨_, _, by rw [HE.out], by rw [HE.out]; exact ⟨_, _, rfl, strsAt_nil _ _, wrsAt_nil _ _⟩, K⟩
end Go.Proofs.YtagpimahicgkmaaDoor
