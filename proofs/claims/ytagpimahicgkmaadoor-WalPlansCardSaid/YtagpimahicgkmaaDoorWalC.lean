/- Walk: wal.Recover, Commit. -/
import Derived.Test.YtagpimahicgkmaaDoorWalQ
namespace Go.Proofs.YtagpimahicgkmaaDoor
open Go.RowKit

theorem tailOps_len (l : List Wr) : (tailOps l).length = l.length + 3 := by simp [tailOps]
theorem repOps_len (d : Dk) : (repOps d).length ≤ 100 := by
  unfold repOps
  split
  · unfold repTail
    split
    · rename_i h
      have := entR_few (viewD d)
      rw [entR_yes h] at this
      rw [tailOps_len]; omega
    · simp
  · simp
def commitR (d : Dk) (l : List Wr) : Dk × Int := if planErr d l = 0 then (doneD d l, 0) else (⟨[], []⟩, planErr d l)
theorem planErr_cases (d : Dk) (l : List Wr) : planErr d l = 0 ∨ planErr d l = 1 ∨ planErr d l = 4 := by
  unfold planErr
  split
  · exact .inr (.inl rfl)
  · split
    · exact .inr (.inl rfl)
    · split
      · exact .inr (.inr rfl)
      · exact .inl rfl
theorem planL_len (d : Dk) (l : List Wr) : (planL d l).length ≤ 100 := by
  unfold planL
  split
  · rename_i h
    rw [planOps_len]; have := (ok_of h).few; omega
  · simp

set_option maxRecDepth 100000 in
set_option maxHeartbeats 1000000 in
theorem recover_any (V : List Nat) (d : Dk) (v : Value) (w : World) (ht : Tabs w) (h : DkAt V w v d) (hV : Old V w) (hc : d.cache.length ≤ 50000) :
    Calls Tryd.prog 21 #[v] w fun e w' => ∃ s' c', e = .returned (.agg #[s', c']) ∧ DkAt V w' (.agg #[s', c']) (recD d) ∧ Kept w w' := by
  have HT := Lib.hid ht
  have HOV := Lib.hid hV
  have HD := Lib.hid h
  have HC := Lib.hid hc
  obtain ⟨_, _, rfl, _, _⟩ := h
  obtain ⟨A0, c0, B0, e0, rfl, rfl⟩ := HD.out.form
  clear ht hV hc
  generalize hn0 : d.sec.length = n0 at *
  generalize hm0 : d.cache.length = m0 at *
  have HM0 := Lib.hid hm0
  clear hn0 hm0
  go_enter Tryd.func21, Tryd.ntmps21
  go_wp2_with fail
  have OD := Lib.hid ((Own.newAt w w.heap.size 25 [.slice A0 n0 c0, .slice B0 m0 e0] (by simp)).alloc (.cells #[.slice none 0 0, .slice none 0 0] 25))
  have OR := Lib.hid (Own.newAt (w.alloc (.cells #[.slice A0 n0 c0, .slice B0 m0 e0] 25)) (w.heap.size + 1) 25 [.slice none 0 0, .slice none 0 0] (by simp))
  have K := (((Kept.refl w).alloc (.cells #[.slice A0 n0 c0, .slice B0 m0 e0] 25)).alloc (.cells #[.slice none 0 0, .slice none 0 0] 25))
  generalize ((w.alloc (.cells #[.slice A0 n0 c0, .slice B0 m0 e0] 25)).alloc (.cells #[.slice none 0 0, .slice none 0 0] 25)) = w1 at *
  obtain ⟨cD0, cD1, fD0, fD1⟩ := OD.out.two
  obtain ⟨cR0, cR1, fR0, fR1⟩ := OR.out.two
  clear cD0 cD1 fD0 fD1 cR0 cR1 fR0 fR1
  replace HD := Lib.hid (HD.out.go K (Ext.cons (k := w.heap.size + 1) (by omega) (Ext.refl _ _)))
  obtain ⟨cD0, cD1, fD0, fD1⟩ := OD.out.two
  obtain ⟨cR0, cR1, fR0, fR1⟩ := OR.out.two
  refine (repair_any [] d _ _ (HT.out.kept K) (HD.out.weak (fun _ hk => by cases hk)) (fun _ hk => by cases hk)).mono ?_
  rintro e w2 ⟨r1, rfl, hr1, hk⟩
  clear cD0 cD1 fD0 fD1 cR0 cR1 fR0 fR1
  replace OD := Lib.hid (OD.out.kept hk)
  replace OR := Lib.hid (OR.out.kept hk)
  replace HD := Lib.hid (HD.out.go hk (Ext.refl _ _))
  replace K := K.trans hk
  obtain ⟨QA, qc, rfl, hq1, hq2, hq3⟩ := hr1
  have HRO : Hid (OpsAt [] w2 (.slice QA (repOps d).length qc) (repOps d)) := ⟨_, _, rfl, hq1, hq2, hq3⟩
  have HRL := Lib.hid (repOps_len d)
  have HRD : Hid (runO d (repOps d) (((repOps d).length : Nat) : Int).toNat = recD d) := by show _ = _; rw [Int.toNat_natCast]; rfl
  generalize repOps d = ops at *
  unfold maxLen at hq2
  clear hq3
  clear hk
  obtain ⟨cD0, cD1, fD0, fD1⟩ := OD.out.two
  obtain ⟨cR0, cR1, fR0, fR1⟩ := OR.out.two
  go_wp2_with fail
  refine (run_any ((w.heap.size + 1) :: V) d ops ops.length _ _ _ HD.out HRO.out (Old.cons OR.out.lt (HOV.out.go K)) (by have := HM0.out; have := HC.out; omega) (by have := HRL.out; omega)).mono ?_
  rintro e w3 ⟨s2, d2, rfl, hd2, hk⟩
  clear cD0 cD1 fD0 fD1 cR0 cR1 fR0 fR1
  replace OD := Lib.hid (OD.out.kept hk)
  replace OR := Lib.hid (OR.out.kept hk)
  replace HD := Lib.hid (HD.out.go hk (Ext.refl _ _))
  replace K := K.trans hk
  rw [HRD.out] at hd2
  obtain ⟨A1, c1, B1, e1, rfl, rfl⟩ := hd2.form
  generalize hdr0 : recD d = dr at *
  have HDR := Lib.hid hdr0
  clear hdr0
  generalize dr.sec.length = n1 at *
  generalize dr.cache.length = m1 at *
  have HD2 := Lib.hid hd2
  clear hd2 HRO
  clear hk
  clear HD
  obtain ⟨cD0, cD1, fD0, fD1⟩ := OD.out.two
  obtain ⟨cR0, cR1, fR0, fR1⟩ := OR.out.two
  go_wp2
  clear cD0 cD1 fD0 fD1 cR0 cR1 fR0 fR1
  replace OD : Hid (Own ((w3.setCell ⟨(w.heap.size + 1), 0, none⟩ (.slice A1 n1 c1)).setCell ⟨(w.heap.size + 1), 1, none⟩ (.slice B1 m1 e1)) w.heap.size 25 [.slice A0 n0 c0, .slice B0 m0 e0]) := Lib.hid ((OD.out.far (p := ⟨(w.heap.size + 1), 0, none⟩) (by first | omega | (simp; omega) | simp) (.slice A1 n1 c1)).far (p := ⟨(w.heap.size + 1), 1, none⟩) (by first | omega | (simp; omega) | simp) (.slice B1 m1 e1))
  replace OR : Hid (Own ((w3.setCell ⟨(w.heap.size + 1), 0, none⟩ (.slice A1 n1 c1)).setCell ⟨(w.heap.size + 1), 1, none⟩ (.slice B1 m1 e1)) (w.heap.size + 1) 25 [.slice A1 n1 c1, .slice B1 m1 e1]) := Lib.hid ((OR.out.set_ 0 (.slice A1 n1 c1)).set_ 1 (.slice B1 m1 e1))
  replace HD2 := Lib.hid ((HD2.out.put (p := ⟨(w.heap.size + 1), 0, none⟩) (by simp) (.slice A1 n1 c1)).put (p := ⟨(w.heap.size + 1), 1, none⟩) (by simp) (.slice B1 m1 e1))
  replace K := ((K.setCell (p := ⟨(w.heap.size + 1), 0, none⟩) (by first | exact Nat.le_refl _ | (simp only []; omega) | simp) (.slice A1 n1 c1)).setCell (p := ⟨(w.heap.size + 1), 1, none⟩) (by first | exact Nat.le_refl _ | (simp only []; omega) | simp) (.slice B1 m1 e1))
  generalize ((w3.setCell ⟨(w.heap.size + 1), 0, none⟩ (.slice A1 n1 c1)).setCell ⟨(w.heap.size + 1), 1, none⟩ (.slice B1 m1 e1)) = w4 at *
  obtain ⟨cD0, cD1, fD0, fD1⟩ := OD.out.two
  obtain ⟨cR0, cR1, fR0, fR1⟩ := OR.out.two
  refine bodyPost_ret (v := .agg #[.slice A1 n1 c1, .slice B1 m1 e1]) (by simp [results, Tryd.results21, go_sem, cR0, cR1]) rfl ?_
  exact ⟨_, _, rfl, by rw [HDR.out]; exact HD2.out.weak (fun _ hk => List.mem_cons_of_mem _ hk), K⟩
set_option maxRecDepth 100000 in
set_option maxHeartbeats 1000000 in
theorem commit_any (V : List Nat) (d : Dk) (l : List Wr) (v u : Value) (w : World) (ht : Tabs w) (h : DkAt V w v d) (hu : WrsAt [] w u l) (hV : Old V w) (hc : d.cache.length ≤ 50000) :
    Calls Tryd.prog 15 #[v, u] w fun e w' => ∃ s' c', e = .returned (.tuple #[.agg #[s', c'], .int .i64 (commitR d l).2]) ∧ DkAt V w' (.agg #[s', c']) (commitR d l).1 ∧ Kept w w' := by
  have HT := Lib.hid ht
  have HOV := Lib.hid hV
  have HD := Lib.hid h
  have HC := Lib.hid hc
  obtain ⟨_, _, rfl, _, _⟩ := h
  obtain ⟨A0, c0, B0, e0, rfl, rfl⟩ := HD.out.form
  clear ht hV hc
  generalize hn0 : d.sec.length = n0 at *
  generalize hm0 : d.cache.length = m0 at *
  have HM0 := Lib.hid hm0
  clear hn0 hm0
  have HWV := Lib.hid hu
  obtain ⟨WA, wc, rfl, hw1, hw2, hw3⟩ := hu
  unfold maxLen at hw2
  clear hw3
  have HPE := Lib.hid (planErr_cases d l)
  go_enter Tryd.func15, Tryd.ntmps15
  go_wp2_with fail
  have OD := Lib.hid ((Own.newAt w w.heap.size 25 [.slice A0 n0 c0, .slice B0 m0 e0] (by simp)).alloc (.cells #[.slice none 0 0, .slice none 0 0] 25))
  have OR := Lib.hid (Own.newAt (w.alloc (.cells #[.slice A0 n0 c0, .slice B0 m0 e0] 25)) (w.heap.size + 1) 25 [.slice none 0 0, .slice none 0 0] (by simp))
  have K := (((Kept.refl w).alloc (.cells #[.slice A0 n0 c0, .slice B0 m0 e0] 25)).alloc (.cells #[.slice none 0 0, .slice none 0 0] 25))
  generalize ((w.alloc (.cells #[.slice A0 n0 c0, .slice B0 m0 e0] 25)).alloc (.cells #[.slice none 0 0, .slice none 0 0] 25)) = w1 at *
  obtain ⟨cD0, cD1, fD0, fD1⟩ := OD.out.two
  obtain ⟨cR0, cR1, fR0, fR1⟩ := OR.out.two
  clear cD0 cD1 fD0 fD1 cR0 cR1 fR0 fR1
  replace HD := Lib.hid (HD.out.go K (Ext.cons (k := w.heap.size + 1) (by omega) (Ext.refl _ _)))
  obtain ⟨cD0, cD1, fD0, fD1⟩ := OD.out.two
  obtain ⟨cR0, cR1, fR0, fR1⟩ := OR.out.two
  refine (plan_any [] d l _ _ _ (HT.out.kept K) (HD.out.weak (fun _ hk => by cases hk)) (HWV.out.go K (Ext.refl _ _)) (fun _ hk => by cases hk)).mono ?_
  rintro e w2 ⟨r1, rfl, hr1, hk⟩
  clear cD0 cD1 fD0 fD1 cR0 cR1 fR0 fR1
  replace OD := Lib.hid (OD.out.kept hk)
  replace OR := Lib.hid (OR.out.kept hk)
  replace HD := Lib.hid (HD.out.go hk (Ext.refl _ _))
  replace K := K.trans hk
  obtain ⟨QA, qc, rfl, hq1, hq2, hq3⟩ := hr1
  have HRO : Hid (OpsAt [] w2 (.slice QA (planL d l).length qc) (planL d l)) := ⟨_, _, rfl, hq1, hq2, hq3⟩
  have HRL := Lib.hid (planL_len d l)
  have HRD : Hid (planErr d l = 0 → runO d (planL d l) (((planL d l).length : Nat) : Int).toNat = (commitR d l).1 ∧ (commitR d l).2 = 0) := fun he => by rw [Int.toNat_natCast]; unfold commitR; rw [if_pos he, planL_yes he, commit_run (ok_of he)]; exact ⟨rfl, rfl⟩
  have HRN : Hid (planErr d l ≠ 0 → commitR d l = (⟨[], []⟩, planErr d l)) := fun he => by unfold commitR; rw [if_neg he]
  generalize planL d l = ops at *
  unfold maxLen at hq2
  clear hq3
  generalize planErr d l = pe at *
  generalize hcr0 : commitR d l = cr at *
  have HCR := Lib.hid hcr0
  clear hcr0
  clear hk
  by_cases he : pe = 0
  · subst he
    obtain ⟨hc1, hc2⟩ := HRD.out rfl
    have HRD1 := Lib.hid hc1
    have HRD2 := Lib.hid hc2
    clear hc1 hc2 HRN HRD HPE
    obtain ⟨cD0, cD1, fD0, fD1⟩ := OD.out.two
    obtain ⟨cR0, cR1, fR0, fR1⟩ := OR.out.two
    go_wp2_with fail
    refine (run_any ((w.heap.size + 1) :: V) d ops ops.length _ _ _ HD.out HRO.out (Old.cons OR.out.lt (HOV.out.go K)) (by have := HM0.out; have := HC.out; omega) (by have := HRL.out; omega)).mono ?_
    rintro e w3 ⟨s2, d2, rfl, hd2, hk⟩
    clear cD0 cD1 fD0 fD1 cR0 cR1 fR0 fR1
    replace OD := Lib.hid (OD.out.kept hk)
    replace OR := Lib.hid (OR.out.kept hk)
    replace HD := Lib.hid (HD.out.go hk (Ext.refl _ _))
    replace K := K.trans hk
    rw [HRD1.out] at hd2
    obtain ⟨A1, c1, B1, e1, rfl, rfl⟩ := hd2.form
    have HD2 := Lib.hid hd2
    generalize cr.1.sec.length = n1 at *
    generalize cr.1.cache.length = m1 at *
    clear hd2 HRO
    clear hk
    clear HD
    obtain ⟨cD0, cD1, fD0, fD1⟩ := OD.out.two
    obtain ⟨cR0, cR1, fR0, fR1⟩ := OR.out.two
    go_wp2
    clear cD0 cD1 fD0 fD1 cR0 cR1 fR0 fR1
    replace OD : Hid (Own ((w3.setCell ⟨(w.heap.size + 1), 0, none⟩ (.slice A1 n1 c1)).setCell ⟨(w.heap.size + 1), 1, none⟩ (.slice B1 m1 e1)) w.heap.size 25 [.slice A0 n0 c0, .slice B0 m0 e0]) := Lib.hid ((OD.out.far (p := ⟨(w.heap.size + 1), 0, none⟩) (by first | omega | (simp; omega) | simp) (.slice A1 n1 c1)).far (p := ⟨(w.heap.size + 1), 1, none⟩) (by first | omega | (simp; omega) | simp) (.slice B1 m1 e1))
    replace OR : Hid (Own ((w3.setCell ⟨(w.heap.size + 1), 0, none⟩ (.slice A1 n1 c1)).setCell ⟨(w.heap.size + 1), 1, none⟩ (.slice B1 m1 e1)) (w.heap.size + 1) 25 [.slice A1 n1 c1, .slice B1 m1 e1]) := Lib.hid ((OR.out.set_ 0 (.slice A1 n1 c1)).set_ 1 (.slice B1 m1 e1))
    replace HD2 := Lib.hid ((HD2.out.put (p := ⟨(w.heap.size + 1), 0, none⟩) (by simp) (.slice A1 n1 c1)).put (p := ⟨(w.heap.size + 1), 1, none⟩) (by simp) (.slice B1 m1 e1))
    replace K := ((K.setCell (p := ⟨(w.heap.size + 1), 0, none⟩) (by first | exact Nat.le_refl _ | (simp only []; omega) | simp) (.slice A1 n1 c1)).setCell (p := ⟨(w.heap.size + 1), 1, none⟩) (by first | exact Nat.le_refl _ | (simp only []; omega) | simp) (.slice B1 m1 e1))
    generalize ((w3.setCell ⟨(w.heap.size + 1), 0, none⟩ (.slice A1 n1 c1)).setCell ⟨(w.heap.size + 1), 1, none⟩ (.slice B1 m1 e1)) = w4 at *
    obtain ⟨cD0, cD1, fD0, fD1⟩ := OD.out.two
    obtain ⟨cR0, cR1, fR0, fR1⟩ := OR.out.two
    refine bodyPost_ret (v := .tuple #[.agg #[.slice A1 n1 c1, .slice B1 m1 e1], .int .i64 0]) (by simp [results, Tryd.results15, go_sem, cR0, cR1]) rfl ?_
    exact ⟨_, _, by rw [HCR.out, HRD2.out], by rw [HCR.out]; exact HD2.out.weak (fun _ hk => List.mem_cons_of_mem _ hk), K⟩
  · have t1 := bne_t he
    have HRN2 := Lib.hid (HRN.out he)
    clear HRN HRD HRO HPE he
    obtain ⟨cD0, cD1, fD0, fD1⟩ := OD.out.two
    obtain ⟨cR0, cR1, fR0, fR1⟩ := OR.out.two
    go_wp2
    clear HD
    clear cD0 cD1 fD0 fD1 cR0 cR1 fR0 fR1
    replace OD : Hid (Own ((w2.setCell ⟨(w.heap.size + 1), 0, none⟩ (.slice none 0 0)).setCell ⟨(w.heap.size + 1), 1, none⟩ (.slice none 0 0)) w.heap.size 25 [.slice A0 n0 c0, .slice B0 m0 e0]) := Lib.hid ((OD.out.far (p := ⟨(w.heap.size + 1), 0, none⟩) (by first | omega | (simp; omega) | simp) (.slice none 0 0)).far (p := ⟨(w.heap.size + 1), 1, none⟩) (by first | omega | (simp; omega) | simp) (.slice none 0 0))
    replace OR : Hid (Own ((w2.setCell ⟨(w.heap.size + 1), 0, none⟩ (.slice none 0 0)).setCell ⟨(w.heap.size + 1), 1, none⟩ (.slice none 0 0)) (w.heap.size + 1) 25 [.slice none 0 0, .slice none 0 0]) := Lib.hid ((OR.out.set_ 0 (.slice none 0 0)).set_ 1 (.slice none 0 0))
    replace K := ((K.setCell (p := ⟨(w.heap.size + 1), 0, none⟩) (by first | exact Nat.le_refl _ | (simp only []; omega) | simp) (.slice none 0 0)).setCell (p := ⟨(w.heap.size + 1), 1, none⟩) (by first | exact Nat.le_refl _ | (simp only []; omega) | simp) (.slice none 0 0))
    generalize ((w2.setCell ⟨(w.heap.size + 1), 0, none⟩ (.slice none 0 0)).setCell ⟨(w.heap.size + 1), 1, none⟩ (.slice none 0 0)) = w3 at *
    obtain ⟨cD0, cD1, fD0, fD1⟩ := OD.out.two
    obtain ⟨cR0, cR1, fR0, fR1⟩ := OR.out.two
    refine bodyPost_ret (v := .tuple #[.agg #[.slice none 0 0, .slice none 0 0], .int .i64 pe]) (by simp [results, Tryd.results15, go_sem, cR0, cR1]) rfl ?_
    exact ⟨_, _, by rw [HCR.out, HRN2.out], by rw [HCR.out, HRN2.out]; exact ⟨_, _, rfl, strsAt_nil _ _, wrsAt_nil _ _⟩, K⟩
end Go.Proofs.YtagpimahicgkmaaDoor
