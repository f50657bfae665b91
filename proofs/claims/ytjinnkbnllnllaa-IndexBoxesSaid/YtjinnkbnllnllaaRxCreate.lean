/- Walk: mailsackref15.Create. -/
import Derived.Test.YtjinnkbnllnllaaRxApp
import Derived.Test.YtjinnkbnllnllaaL15Sort
namespace Go.Proofs.Ytjinnkbnllnllaa
open Go.RowKit

theorem ix_of_Row {V : List Nat} {w : World} {A : Option Addr} {n c : Nat} {sv : Value} {gv : Int} {qs : List Bp} {y : Ix} (hq : qs.map (·.1) = y.boxes) (hn : qs.length = n) (h1 : n ≤ c) (h2 : c ≤ maxLen) (hr : Row V w A (bxs qs)) (hm : MlsAll V w qs) (hs : StrsAt V w sv y.subs) (hg : y.given = gv) :
    IxAt V w (.agg #[.slice A n c, sv, .int .i64 gv]) y := by
  subst hn hg
  exact ⟨_, _, rfl, ⟨qs, hq, ⟨A, c, rfl, h1, h2, hr⟩, hm⟩, hs⟩
theorem boxes_cons {x : Ix} {ps : List Bp} (hr : rightB x = true) (hps : ps.map (·.1) = x.boxes) : ∃ b0 r, ps.map (·.1) = b0 :: r ∧ r.Pairwise (fun a b => lessB a.name b.name = true) ∧ ∀ c ∈ r, c ∈ x.boxes := by
  obtain ⟨b0, r, e, _, _, hp⟩ := (right_list hr).cons
  exact ⟨b0, r, hps.trans e, hp, fun c hc => by rw [e]; exact List.mem_cons_of_mem _ hc⟩
theorem cre_sort {x : Ix} {ps : List Bp} {p : Bp} (hr : rightB x = true) (hps : ps.map (·.1) = x.boxes) (hf : findX x p.1.name = none) : sortTo (ps ++ [p]) (ps ++ [p]).length = insB ps p := by
  obtain ⟨b0, r, e, hp, hm⟩ := boxes_cons hr hps
  exact sort_more e hp (fun c hc => find_no hf c (hm c hc))

set_option maxRecDepth 100000 in
set_option maxHeartbeats 1000000 in
theorem rcre_no1 (V : List Nat) (x : Ix) (v : Value) (nm : ByteArray) (w : World) (hV : Old V w) (h : IxAt V w v x) (hok : IxOk x) (hfew : Few x) (hr : rightB x = false) :
    Calls Try.prog 25 #[v, .string nm] w (IxPost V (creR x nm) w) := by
  have HEX : Hid (creR x nm = (ix0, 1)) := by
    show _ = _
    unfold creR; rw [hr]; rfl
  have HV := Lib.hid h
  have HOV := Lib.hid hV
  have HOK := Lib.hid hok
  have HFEW := Lib.hid hfew
  have HR := Lib.hid hr
  obtain ⟨A, c, A', c', rfl, hc1, hc2, hc3, hc4, hbx, hrow⟩ := (h.weak (U := []) (fun _ hk => by cases hk)).open_
  have HROW := Lib.hid hrow
  clear hbx hrow h hok hV hfew hr
  unfold maxLen at hc2 hc4
  generalize hn : x.boxes.length = n at *
  generalize hm : x.subs.length = m at *
  generalize hg : x.given = gv at *
  have HN := Lib.hid hn
  have HM := Lib.hid hm
  have HG := Lib.hid hg
  clear hn hm hg
  go_enter Try.func25, Try.ntmps25
  go_wp2_with fail
  have OX := Lib.hid ((Own.newAt w w.heap.size 29 [.slice A n c, .slice A' m c', .int .i64 gv] (by simp)).alloc (.cells #[.slice none 0 0, .slice none 0 0, .int .i64 0] 29))
  have OR := Lib.hid (Own.newAt (w.alloc (.cells #[.slice A n c, .slice A' m c', .int .i64 gv] 29)) (w.heap.size + 1) 29 [.slice none 0 0, .slice none 0 0, .int .i64 0] (by simp))
  have K := (((Kept.refl w).alloc (.cells #[.slice A n c, .slice A' m c', .int .i64 gv] 29)).alloc (.cells #[.slice none 0 0, .slice none 0 0, .int .i64 0] 29))
  generalize ((w.alloc (.cells #[.slice A n c, .slice A' m c', .int .i64 gv] 29)).alloc (.cells #[.slice none 0 0, .slice none 0 0, .int .i64 0] 29)) = w1 at *
  obtain ⟨cX0, cX1, cX2, fX0, fX1, fX2⟩ := OX.out.three
  obtain ⟨cR0, cR1, cR2, fR0, fR1, fR2⟩ := OR.out.three
  refine (rright_any x _ _ (HV.out.go K (Ext.nil _ _)) HOK.out HFEW.out).mono ?_
  rintro e w2 ⟨rfl, hk⟩
  clear cX0 cX1 cX2 fX0 fX1 fX2 cR0 cR1 cR2 fR0 fR1 fR2
  replace OX := Lib.hid (OX.out.kept hk)
  replace OR := Lib.hid (OR.out.kept hk)
  replace K := K.trans hk
  rw [HR.out]
  clear hk
  obtain ⟨cX0, cX1, cX2, fX0, fX1, fX2⟩ := OX.out.three
  obtain ⟨cR0, cR1, cR2, fR0, fR1, fR2⟩ := OR.out.three
  go_wp2
  clear cX0 cX1 cX2 fX0 fX1 fX2 cR0 cR1 cR2 fR0 fR1 fR2
  replace OX : Hid (Own (((w2.setCell ⟨(w.heap.size + 1), 0, none⟩ (.slice none 0 0)).setCell ⟨(w.heap.size + 1), 1, none⟩ (.slice none 0 0)).setCell ⟨(w.heap.size + 1), 2, none⟩ (.int .i64 0)) w.heap.size 29 [.slice A n c, .slice A' m c', .int .i64 gv]) := Lib.hid (((OX.out.far (p := ⟨(w.heap.size + 1), 0, none⟩) (by first | omega | (simp; omega) | simp) (.slice none 0 0)).far (p := ⟨(w.heap.size + 1), 1, none⟩) (by first | omega | (simp; omega) | simp) (.slice none 0 0)).far (p := ⟨(w.heap.size + 1), 2, none⟩) (by first | omega | (simp; omega) | simp) (.int .i64 0))
  replace OR : Hid (Own (((w2.setCell ⟨(w.heap.size + 1), 0, none⟩ (.slice none 0 0)).setCell ⟨(w.heap.size + 1), 1, none⟩ (.slice none 0 0)).setCell ⟨(w.heap.size + 1), 2, none⟩ (.int .i64 0)) (w.heap.size + 1) 29 [.slice none 0 0, .slice none 0 0, .int .i64 0]) := Lib.hid (((OR.out.set_ 0 (.slice none 0 0)).set_ 1 (.slice none 0 0)).set_ 2 (.int .i64 0))
  replace K := (((K.setCell (p := ⟨(w.heap.size + 1), 0, none⟩) (by first | exact Nat.le_refl _ | (simp only []; omega) | simp) (.slice none 0 0)).setCell (p := ⟨(w.heap.size + 1), 1, none⟩) (by first | exact Nat.le_refl _ | (simp only []; omega) | simp) (.slice none 0 0)).setCell (p := ⟨(w.heap.size + 1), 2, none⟩) (by first | exact Nat.le_refl _ | (simp only []; omega) | simp) (.int .i64 0))
  generalize (((w2.setCell ⟨(w.heap.size + 1), 0, none⟩ (.slice none 0 0)).setCell ⟨(w.heap.size + 1), 1, none⟩ (.slice none 0 0)).setCell ⟨(w.heap.size + 1), 2, none⟩ (.int .i64 0)) = w3 at *
  obtain ⟨cX0, cX1, cX2, fX0, fX1, fX2⟩ := OX.out.three
  obtain ⟨cR0, cR1, cR2, fR0, fR1, fR2⟩ := OR.out.three
  refine bodyPost_ret (v := .tuple #[.agg #[.slice none 0 0, .slice none 0 0, .int .i64 0], .int .i64 1]) (by simp [results, Try.results25, go_sem, cR0, cR1, cR2]) rfl ?_
  exact ⟨_, by rw [HEX.out], by rw [HEX.out]; exact ixAt_nil _ _, K⟩

set_option maxRecDepth 100000 in
set_option maxHeartbeats 1000000 in
theorem rcre_no2 (V : List Nat) (x : Ix) (v : Value) (nm : ByteArray) (w : World) (hV : Old V w) (h : IxAt V w v x) (hok : IxOk x) (hfew : Few x) (hr : rightB x = true) (hnb : nameB nm = false) (hns : nm.size ≤ maxLen) :
    Calls Try.prog 25 #[v, .string nm] w (IxPost V (creR x nm) w) := by
  have HEX : Hid (creR x nm = (ix0, 1)) := by
    show _ = _
    unfold creR; rw [hr, hnb]; rfl
  have HV := Lib.hid h
  have HOV := Lib.hid hV
  have HOK := Lib.hid hok
  have HFEW := Lib.hid hfew
  have HR := Lib.hid hr
  have HNB := Lib.hid hnb
  have HNS := Lib.hid hns
  obtain ⟨A, c, A', c', rfl, hc1, hc2, hc3, hc4, hbx, hrow⟩ := (h.weak (U := []) (fun _ hk => by cases hk)).open_
  have HROW := Lib.hid hrow
  clear hbx hrow h hok hV hfew hr hnb hns
  unfold maxLen at hc2 hc4
  generalize hn : x.boxes.length = n at *
  generalize hm : x.subs.length = m at *
  generalize hg : x.given = gv at *
  have HN := Lib.hid hn
  have HM := Lib.hid hm
  have HG := Lib.hid hg
  clear hn hm hg
  go_enter Try.func25, Try.ntmps25
  go_wp2_with fail
  have OX := Lib.hid ((Own.newAt w w.heap.size 29 [.slice A n c, .slice A' m c', .int .i64 gv] (by simp)).alloc (.cells #[.slice none 0 0, .slice none 0 0, .int .i64 0] 29))
  have OR := Lib.hid (Own.newAt (w.alloc (.cells #[.slice A n c, .slice A' m c', .int .i64 gv] 29)) (w.heap.size + 1) 29 [.slice none 0 0, .slice none 0 0, .int .i64 0] (by simp))
  have K := (((Kept.refl w).alloc (.cells #[.slice A n c, .slice A' m c', .int .i64 gv] 29)).alloc (.cells #[.slice none 0 0, .slice none 0 0, .int .i64 0] 29))
  generalize ((w.alloc (.cells #[.slice A n c, .slice A' m c', .int .i64 gv] 29)).alloc (.cells #[.slice none 0 0, .slice none 0 0, .int .i64 0] 29)) = w1 at *
  obtain ⟨cX0, cX1, cX2, fX0, fX1, fX2⟩ := OX.out.three
  obtain ⟨cR0, cR1, cR2, fR0, fR1, fR2⟩ := OR.out.three
  refine (rright_any x _ _ (HV.out.go K (Ext.nil _ _)) HOK.out HFEW.out).mono ?_
  rintro e w2 ⟨rfl, hk⟩
  clear cX0 cX1 cX2 fX0 fX1 fX2 cR0 cR1 cR2 fR0 fR1 fR2
  replace OX := Lib.hid (OX.out.kept hk)
  replace OR := Lib.hid (OR.out.kept hk)
  replace K := K.trans hk
  rw [HR.out]
  clear hk
  obtain ⟨cX0, cX1, cX2, fX0, fX1, fX2⟩ := OX.out.three
  obtain ⟨cR0, cR1, cR2, fR0, fR1, fR2⟩ := OR.out.three
  go_wp2_with fail
  refine (rname_any nm _ HNS.out).mono ?_
  rintro e _ ⟨rfl, rfl⟩
  rw [HNB.out]
  go_wp2
  clear cX0 cX1 cX2 fX0 fX1 fX2 cR0 cR1 cR2 fR0 fR1 fR2
  replace OX : Hid (Own (((w2.setCell ⟨(w.heap.size + 1), 0, none⟩ (.slice none 0 0)).setCell ⟨(w.heap.size + 1), 1, none⟩ (.slice none 0 0)).setCell ⟨(w.heap.size + 1), 2, none⟩ (.int .i64 0)) w.heap.size 29 [.slice A n c, .slice A' m c', .int .i64 gv]) := Lib.hid (((OX.out.far (p := ⟨(w.heap.size + 1), 0, none⟩) (by first | omega | (simp; omega) | simp) (.slice none 0 0)).far (p := ⟨(w.heap.size + 1), 1, none⟩) (by first | omega | (simp; omega) | simp) (.slice none 0 0)).far (p := ⟨(w.heap.size + 1), 2, none⟩) (by first | omega | (simp; omega) | simp) (.int .i64 0))
  replace OR : Hid (Own (((w2.setCell ⟨(w.heap.size + 1), 0, none⟩ (.slice none 0 0)).setCell ⟨(w.heap.size + 1), 1, none⟩ (.slice none 0 0)).setCell ⟨(w.heap.size + 1), 2, none⟩ (.int .i64 0)) (w.heap.size + 1) 29 [.slice none 0 0, .slice none 0 0, .int .i64 0]) := Lib.hid (((OR.out.set_ 0 (.slice none 0 0)).set_ 1 (.slice none 0 0)).set_ 2 (.int .i64 0))
  replace K := (((K.setCell (p := ⟨(w.heap.size + 1), 0, none⟩) (by first | exact Nat.le_refl _ | (simp only []; omega) | simp) (.slice none 0 0)).setCell (p := ⟨(w.heap.size + 1), 1, none⟩) (by first | exact Nat.le_refl _ | (simp only []; omega) | simp) (.slice none 0 0)).setCell (p := ⟨(w.heap.size + 1), 2, none⟩) (by first | exact Nat.le_refl _ | (simp only []; omega) | simp) (.int .i64 0))
  generalize (((w2.setCell ⟨(w.heap.size + 1), 0, none⟩ (.slice none 0 0)).setCell ⟨(w.heap.size + 1), 1, none⟩ (.slice none 0 0)).setCell ⟨(w.heap.size + 1), 2, none⟩ (.int .i64 0)) = w3 at *
  obtain ⟨cX0, cX1, cX2, fX0, fX1, fX2⟩ := OX.out.three
  obtain ⟨cR0, cR1, cR2, fR0, fR1, fR2⟩ := OR.out.three
  refine bodyPost_ret (v := .tuple #[.agg #[.slice none 0 0, .slice none 0 0, .int .i64 0], .int .i64 1]) (by simp [results, Try.results25, go_sem, cR0, cR1, cR2]) rfl ?_
  exact ⟨_, by rw [HEX.out], by rw [HEX.out]; exact ixAt_nil _ _, K⟩

set_option maxRecDepth 100000 in
set_option maxHeartbeats 1000000 in
theorem rcre_no3 (V : List Nat) (x : Ix) (v : Value) (q : Nat) (nm : ByteArray) (w : World) (hV : Old V w) (h : IxAt V w v x) (hok : IxOk x) (hfew : Few x) (hr : rightB x = true) (hnb : nameB nm = true) (hns : nm.size ≤ maxLen) (hf : findX x nm = some q) :
    Calls Try.prog 25 #[v, .string nm] w (IxPost V (creR x nm) w) := by
  have HEX : Hid (creR x nm = (ix0, 8)) := by
    show _ = _
    unfold creR; rw [hr, hnb, hf]; rfl
  have HV := Lib.hid h
  have HOV := Lib.hid hV
  have HOK := Lib.hid hok
  have HFEW := Lib.hid hfew
  have HR := Lib.hid hr
  have HNB := Lib.hid hnb
  have HNS := Lib.hid hns
  have HF := Lib.hid hf
  obtain ⟨A, c, A', c', rfl, hc1, hc2, hc3, hc4, hbx, hrow⟩ := (h.weak (U := []) (fun _ hk => by cases hk)).open_
  have HROW := Lib.hid hrow
  clear hbx hrow h hok hV hfew hr hnb hns hf
  unfold maxLen at hc2 hc4
  generalize hn : x.boxes.length = n at *
  generalize hm : x.subs.length = m at *
  generalize hg : x.given = gv at *
  have HN := Lib.hid hn
  have HM := Lib.hid hm
  have HG := Lib.hid hg
  clear hn hm hg
  go_enter Try.func25, Try.ntmps25
  go_wp2_with fail
  have OX := Lib.hid ((Own.newAt w w.heap.size 29 [.slice A n c, .slice A' m c', .int .i64 gv] (by simp)).alloc (.cells #[.slice none 0 0, .slice none 0 0, .int .i64 0] 29))
  have OR := Lib.hid (Own.newAt (w.alloc (.cells #[.slice A n c, .slice A' m c', .int .i64 gv] 29)) (w.heap.size + 1) 29 [.slice none 0 0, .slice none 0 0, .int .i64 0] (by simp))
  have K := (((Kept.refl w).alloc (.cells #[.slice A n c, .slice A' m c', .int .i64 gv] 29)).alloc (.cells #[.slice none 0 0, .slice none 0 0, .int .i64 0] 29))
  generalize ((w.alloc (.cells #[.slice A n c, .slice A' m c', .int .i64 gv] 29)).alloc (.cells #[.slice none 0 0, .slice none 0 0, .int .i64 0] 29)) = w1 at *
  obtain ⟨cX0, cX1, cX2, fX0, fX1, fX2⟩ := OX.out.three
  obtain ⟨cR0, cR1, cR2, fR0, fR1, fR2⟩ := OR.out.three
  refine (rright_any x _ _ (HV.out.go K (Ext.nil _ _)) HOK.out HFEW.out).mono ?_
  rintro e w2 ⟨rfl, hk⟩
  clear cX0 cX1 cX2 fX0 fX1 fX2 cR0 cR1 cR2 fR0 fR1 fR2
  replace OX := Lib.hid (OX.out.kept hk)
  replace OR := Lib.hid (OR.out.kept hk)
  replace K := K.trans hk
  rw [HR.out]
  clear hk
  obtain ⟨cX0, cX1, cX2, fX0, fX1, fX2⟩ := OX.out.three
  obtain ⟨cR0, cR1, cR2, fR0, fR1, fR2⟩ := OR.out.three
  go_wp2_with fail
  refine (rname_any nm _ HNS.out).mono ?_
  rintro e _ ⟨rfl, rfl⟩
  rw [HNB.out]
  go_wp2_with fail
  refine (rfind_any x _ nm _ (HV.out.go K (Ext.nil _ _))).mono ?_
  rintro e w3 ⟨rfl, hk⟩
  clear cX0 cX1 cX2 fX0 fX1 fX2 cR0 cR1 cR2 fR0 fR1 fR2
  replace OX := Lib.hid (OX.out.kept hk)
  replace OR := Lib.hid (OR.out.kept hk)
  replace K := K.trans hk
  rw [HF.out, show ofO (some q) = (q : Int) from rfl]
  have q0 : (0 : Int) ≤ (q : Int) := by omega
  clear hk
  obtain ⟨cX0, cX1, cX2, fX0, fX1, fX2⟩ := OX.out.three
  obtain ⟨cR0, cR1, cR2, fR0, fR1, fR2⟩ := OR.out.three
  go_wp2
  clear cX0 cX1 cX2 fX0 fX1 fX2 cR0 cR1 cR2 fR0 fR1 fR2
  replace OX : Hid (Own (((w3.setCell ⟨(w.heap.size + 1), 0, none⟩ (.slice none 0 0)).setCell ⟨(w.heap.size + 1), 1, none⟩ (.slice none 0 0)).setCell ⟨(w.heap.size + 1), 2, none⟩ (.int .i64 0)) w.heap.size 29 [.slice A n c, .slice A' m c', .int .i64 gv]) := Lib.hid (((OX.out.far (p := ⟨(w.heap.size + 1), 0, none⟩) (by first | omega | (simp; omega) | simp) (.slice none 0 0)).far (p := ⟨(w.heap.size + 1), 1, none⟩) (by first | omega | (simp; omega) | simp) (.slice none 0 0)).far (p := ⟨(w.heap.size + 1), 2, none⟩) (by first | omega | (simp; omega) | simp) (.int .i64 0))
  replace OR : Hid (Own (((w3.setCell ⟨(w.heap.size + 1), 0, none⟩ (.slice none 0 0)).setCell ⟨(w.heap.size + 1), 1, none⟩ (.slice none 0 0)).setCell ⟨(w.heap.size + 1), 2, none⟩ (.int .i64 0)) (w.heap.size + 1) 29 [.slice none 0 0, .slice none 0 0, .int .i64 0]) := Lib.hid (((OR.out.set_ 0 (.slice none 0 0)).set_ 1 (.slice none 0 0)).set_ 2 (.int .i64 0))
  replace K := (((K.setCell (p := ⟨(w.heap.size + 1), 0, none⟩) (by first | exact Nat.le_refl _ | (simp only []; omega) | simp) (.slice none 0 0)).setCell (p := ⟨(w.heap.size + 1), 1, none⟩) (by first | exact Nat.le_refl _ | (simp only []; omega) | simp) (.slice none 0 0)).setCell (p := ⟨(w.heap.size + 1), 2, none⟩) (by first | exact Nat.le_refl _ | (simp only []; omega) | simp) (.int .i64 0))
  generalize (((w3.setCell ⟨(w.heap.size + 1), 0, none⟩ (.slice none 0 0)).setCell ⟨(w.heap.size + 1), 1, none⟩ (.slice none 0 0)).setCell ⟨(w.heap.size + 1), 2, none⟩ (.int .i64 0)) = w4 at *
  obtain ⟨cX0, cX1, cX2, fX0, fX1, fX2⟩ := OX.out.three
  obtain ⟨cR0, cR1, cR2, fR0, fR1, fR2⟩ := OR.out.three
  refine bodyPost_ret (v := .tuple #[.agg #[.slice none 0 0, .slice none 0 0, .int .i64 0], .int .i64 8]) (by simp [results, Try.results25, go_sem, cR0, cR1, cR2]) rfl ?_
  exact ⟨_, by rw [HEX.out], by rw [HEX.out]; exact ixAt_nil _ _, K⟩

set_option maxRecDepth 100000 in
set_option maxHeartbeats 1000000 in
theorem rcre_no4 (V : List Nat) (x : Ix) (v : Value) (nm : ByteArray) (w : World) (hV : Old V w) (h : IxAt V w v x) (hok : IxOk x) (hfew : Few x) (hr : rightB x = true) (hnb : nameB nm = true) (hns : nm.size ≤ maxLen) (hf : findX x nm = none) (h6 : 6 ≤ x.boxes.length) :
    Calls Try.prog 25 #[v, .string nm] w (IxPost V (creR x nm) w) := by
  have HEX : Hid (creR x nm = (ix0, 5)) := by
    show _ = _
    unfold creR; rw [hr, hnb, hf]; simp [h6]
  have HV := Lib.hid h
  have HOV := Lib.hid hV
  have HOK := Lib.hid hok
  have HFEW := Lib.hid hfew
  have HR := Lib.hid hr
  have HNB := Lib.hid hnb
  have HNS := Lib.hid hns
  have HF := Lib.hid hf
  obtain ⟨A, c, A', c', rfl, hc1, hc2, hc3, hc4, hbx, hrow⟩ := (h.weak (U := []) (fun _ hk => by cases hk)).open_
  have HROW := Lib.hid hrow
  clear hbx hrow h hok hV hfew hr hnb hns hf
  unfold maxLen at hc2 hc4
  generalize hn : x.boxes.length = n at *
  generalize hm : x.subs.length = m at *
  generalize hg : x.given = gv at *
  have HN := Lib.hid hn
  have HM := Lib.hid hm
  have HG := Lib.hid hg
  clear hn hm hg
  go_enter Try.func25, Try.ntmps25
  go_wp2_with fail
  have OX := Lib.hid ((Own.newAt w w.heap.size 29 [.slice A n c, .slice A' m c', .int .i64 gv] (by simp)).alloc (.cells #[.slice none 0 0, .slice none 0 0, .int .i64 0] 29))
  have OR := Lib.hid (Own.newAt (w.alloc (.cells #[.slice A n c, .slice A' m c', .int .i64 gv] 29)) (w.heap.size + 1) 29 [.slice none 0 0, .slice none 0 0, .int .i64 0] (by simp))
  have K := (((Kept.refl w).alloc (.cells #[.slice A n c, .slice A' m c', .int .i64 gv] 29)).alloc (.cells #[.slice none 0 0, .slice none 0 0, .int .i64 0] 29))
  generalize ((w.alloc (.cells #[.slice A n c, .slice A' m c', .int .i64 gv] 29)).alloc (.cells #[.slice none 0 0, .slice none 0 0, .int .i64 0] 29)) = w1 at *
  obtain ⟨cX0, cX1, cX2, fX0, fX1, fX2⟩ := OX.out.three
  obtain ⟨cR0, cR1, cR2, fR0, fR1, fR2⟩ := OR.out.three
  refine (rright_any x _ _ (HV.out.go K (Ext.nil _ _)) HOK.out HFEW.out).mono ?_
  rintro e w2 ⟨rfl, hk⟩
  clear cX0 cX1 cX2 fX0 fX1 fX2 cR0 cR1 cR2 fR0 fR1 fR2
  replace OX := Lib.hid (OX.out.kept hk)
  replace OR := Lib.hid (OR.out.kept hk)
  replace K := K.trans hk
  rw [HR.out]
  clear hk
  obtain ⟨cX0, cX1, cX2, fX0, fX1, fX2⟩ := OX.out.three
  obtain ⟨cR0, cR1, cR2, fR0, fR1, fR2⟩ := OR.out.three
  go_wp2_with fail
  refine (rname_any nm _ HNS.out).mono ?_
  rintro e _ ⟨rfl, rfl⟩
  rw [HNB.out]
  go_wp2_with fail
  refine (rfind_any x _ nm _ (HV.out.go K (Ext.nil _ _))).mono ?_
  rintro e w3 ⟨rfl, hk⟩
  clear cX0 cX1 cX2 fX0 fX1 fX2 cR0 cR1 cR2 fR0 fR1 fR2
  replace OX := Lib.hid (OX.out.kept hk)
  replace OR := Lib.hid (OR.out.kept hk)
  replace K := K.trans hk
  rw [HF.out, show ofO none = -1 from rfl]
  clear hk
  obtain ⟨cX0, cX1, cX2, fX0, fX1, fX2⟩ := OX.out.three
  obtain ⟨cR0, cR1, cR2, fR0, fR1, fR2⟩ := OR.out.three
  have hn6 : (5 : Int) < (n : Int) := by omega
  go_wp2
  clear cX0 cX1 cX2 fX0 fX1 fX2 cR0 cR1 cR2 fR0 fR1 fR2
  replace OX : Hid (Own (((w3.setCell ⟨(w.heap.size + 1), 0, none⟩ (.slice none 0 0)).setCell ⟨(w.heap.size + 1), 1, none⟩ (.slice none 0 0)).setCell ⟨(w.heap.size + 1), 2, none⟩ (.int .i64 0)) w.heap.size 29 [.slice A n c, .slice A' m c', .int .i64 gv]) := Lib.hid (((OX.out.far (p := ⟨(w.heap.size + 1), 0, none⟩) (by first | omega | (simp; omega) | simp) (.slice none 0 0)).far (p := ⟨(w.heap.size + 1), 1, none⟩) (by first | omega | (simp; omega) | simp) (.slice none 0 0)).far (p := ⟨(w.heap.size + 1), 2, none⟩) (by first | omega | (simp; omega) | simp) (.int .i64 0))
  replace OR : Hid (Own (((w3.setCell ⟨(w.heap.size + 1), 0, none⟩ (.slice none 0 0)).setCell ⟨(w.heap.size + 1), 1, none⟩ (.slice none 0 0)).setCell ⟨(w.heap.size + 1), 2, none⟩ (.int .i64 0)) (w.heap.size + 1) 29 [.slice none 0 0, .slice none 0 0, .int .i64 0]) := Lib.hid (((OR.out.set_ 0 (.slice none 0 0)).set_ 1 (.slice none 0 0)).set_ 2 (.int .i64 0))
  replace K := (((K.setCell (p := ⟨(w.heap.size + 1), 0, none⟩) (by first | exact Nat.le_refl _ | (simp only []; omega) | simp) (.slice none 0 0)).setCell (p := ⟨(w.heap.size + 1), 1, none⟩) (by first | exact Nat.le_refl _ | (simp only []; omega) | simp) (.slice none 0 0)).setCell (p := ⟨(w.heap.size + 1), 2, none⟩) (by first | exact Nat.le_refl _ | (simp only []; omega) | simp) (.int .i64 0))
  generalize (((w3.setCell ⟨(w.heap.size + 1), 0, none⟩ (.slice none 0 0)).setCell ⟨(w.heap.size + 1), 1, none⟩ (.slice none 0 0)).setCell ⟨(w.heap.size + 1), 2, none⟩ (.int .i64 0)) = w4 at *
  obtain ⟨cX0, cX1, cX2, fX0, fX1, fX2⟩ := OX.out.three
  obtain ⟨cR0, cR1, cR2, fR0, fR1, fR2⟩ := OR.out.three
  refine bodyPost_ret (v := .tuple #[.agg #[.slice none 0 0, .slice none 0 0, .int .i64 0], .int .i64 5]) (by simp [results, Try.results25, go_sem, cR0, cR1, cR2]) rfl ?_
  exact ⟨_, by rw [HEX.out], by rw [HEX.out]; exact ixAt_nil _ _, K⟩

set_option maxRecDepth 100000 in
set_option maxHeartbeats 1000000 in
theorem rcre_no5 (V : List Nat) (x : Ix) (v : Value) (nm : ByteArray) (w : World) (hV : Old V w) (h : IxAt V w v x) (hok : IxOk x) (hfew : Few x) (hr : rightB x = true) (hnb : nameB nm = true) (hns : nm.size ≤ maxLen) (hf : findX x nm = none) (h6 : ¬ 6 ≤ x.boxes.length) (hgg : 4294967295 ≤ x.given) (hgl : x.given ≤ 4294967295) :
    Calls Try.prog 25 #[v, .string nm] w (IxPost V (creR x nm) w) := by
  have HEX : Hid (creR x nm = (ix0, 5)) := by
    show _ = _
    unfold creR; rw [hr, hnb, hf]; simp [hgg]
  have HV := Lib.hid h
  have HOV := Lib.hid hV
  have HOK := Lib.hid hok
  have HFEW := Lib.hid hfew
  have HR := Lib.hid hr
  have HNB := Lib.hid hnb
  have HNS := Lib.hid hns
  have HF := Lib.hid hf
  obtain ⟨A, c, A', c', rfl, hc1, hc2, hc3, hc4, hbx, hrow⟩ := (h.weak (U := []) (fun _ hk => by cases hk)).open_
  have HROW := Lib.hid hrow
  clear hbx hrow h hok hV hfew hr hnb hns hf
  unfold maxLen at hc2 hc4
  generalize hn : x.boxes.length = n at *
  generalize hm : x.subs.length = m at *
  generalize hg : x.given = gv at *
  have HN := Lib.hid hn
  have HM := Lib.hid hm
  have HG := Lib.hid hg
  clear hn hm hg
  go_enter Try.func25, Try.ntmps25
  go_wp2_with fail
  have OX := Lib.hid ((Own.newAt w w.heap.size 29 [.slice A n c, .slice A' m c', .int .i64 gv] (by simp)).alloc (.cells #[.slice none 0 0, .slice none 0 0, .int .i64 0] 29))
  have OR := Lib.hid (Own.newAt (w.alloc (.cells #[.slice A n c, .slice A' m c', .int .i64 gv] 29)) (w.heap.size + 1) 29 [.slice none 0 0, .slice none 0 0, .int .i64 0] (by simp))
  have K := (((Kept.refl w).alloc (.cells #[.slice A n c, .slice A' m c', .int .i64 gv] 29)).alloc (.cells #[.slice none 0 0, .slice none 0 0, .int .i64 0] 29))
  generalize ((w.alloc (.cells #[.slice A n c, .slice A' m c', .int .i64 gv] 29)).alloc (.cells #[.slice none 0 0, .slice none 0 0, .int .i64 0] 29)) = w1 at *
  obtain ⟨cX0, cX1, cX2, fX0, fX1, fX2⟩ := OX.out.three
  obtain ⟨cR0, cR1, cR2, fR0, fR1, fR2⟩ := OR.out.three
  refine (rright_any x _ _ (HV.out.go K (Ext.nil _ _)) HOK.out HFEW.out).mono ?_
  rintro e w2 ⟨rfl, hk⟩
  clear cX0 cX1 cX2 fX0 fX1 fX2 cR0 cR1 cR2 fR0 fR1 fR2
  replace OX := Lib.hid (OX.out.kept hk)
  replace OR := Lib.hid (OR.out.kept hk)
  replace K := K.trans hk
  rw [HR.out]
  clear hk
  obtain ⟨cX0, cX1, cX2, fX0, fX1, fX2⟩ := OX.out.three
  obtain ⟨cR0, cR1, cR2, fR0, fR1, fR2⟩ := OR.out.three
  go_wp2_with fail
  refine (rname_any nm _ HNS.out).mono ?_
  rintro e _ ⟨rfl, rfl⟩
  rw [HNB.out]
  go_wp2_with fail
  refine (rfind_any x _ nm _ (HV.out.go K (Ext.nil _ _))).mono ?_
  rintro e w3 ⟨rfl, hk⟩
  clear cX0 cX1 cX2 fX0 fX1 fX2 cR0 cR1 cR2 fR0 fR1 fR2
  replace OX := Lib.hid (OX.out.kept hk)
  replace OR := Lib.hid (OR.out.kept hk)
  replace K := K.trans hk
  rw [HF.out, show ofO none = -1 from rfl]
  clear hk
  obtain ⟨cX0, cX1, cX2, fX0, fX1, fX2⟩ := OX.out.three
  obtain ⟨cR0, cR1, cR2, fR0, fR1, fR2⟩ := OR.out.three
  have hn6 : ¬ (5 : Int) < (n : Int) := by omega
  have hgq : (gv == 4294967295) = true := beq_t (by omega)
  go_wp2
  clear cX0 cX1 cX2 fX0 fX1 fX2 cR0 cR1 cR2 fR0 fR1 fR2
  replace OX : Hid (Own (((w3.setCell ⟨(w.heap.size + 1), 0, none⟩ (.slice none 0 0)).setCell ⟨(w.heap.size + 1), 1, none⟩ (.slice none 0 0)).setCell ⟨(w.heap.size + 1), 2, none⟩ (.int .i64 0)) w.heap.size 29 [.slice A n c, .slice A' m c', .int .i64 gv]) := Lib.hid (((OX.out.far (p := ⟨(w.heap.size + 1), 0, none⟩) (by first | omega | (simp; omega) | simp) (.slice none 0 0)).far (p := ⟨(w.heap.size + 1), 1, none⟩) (by first | omega | (simp; omega) | simp) (.slice none 0 0)).far (p := ⟨(w.heap.size + 1), 2, none⟩) (by first | omega | (simp; omega) | simp) (.int .i64 0))
  replace OR : Hid (Own (((w3.setCell ⟨(w.heap.size + 1), 0, none⟩ (.slice none 0 0)).setCell ⟨(w.heap.size + 1), 1, none⟩ (.slice none 0 0)).setCell ⟨(w.heap.size + 1), 2, none⟩ (.int .i64 0)) (w.heap.size + 1) 29 [.slice none 0 0, .slice none 0 0, .int .i64 0]) := Lib.hid (((OR.out.set_ 0 (.slice none 0 0)).set_ 1 (.slice none 0 0)).set_ 2 (.int .i64 0))
  replace K := (((K.setCell (p := ⟨(w.heap.size + 1), 0, none⟩) (by first | exact Nat.le_refl _ | (simp only []; omega) | simp) (.slice none 0 0)).setCell (p := ⟨(w.heap.size + 1), 1, none⟩) (by first | exact Nat.le_refl _ | (simp only []; omega) | simp) (.slice none 0 0)).setCell (p := ⟨(w.heap.size + 1), 2, none⟩) (by first | exact Nat.le_refl _ | (simp only []; omega) | simp) (.int .i64 0))
  generalize (((w3.setCell ⟨(w.heap.size + 1), 0, none⟩ (.slice none 0 0)).setCell ⟨(w.heap.size + 1), 1, none⟩ (.slice none 0 0)).setCell ⟨(w.heap.size + 1), 2, none⟩ (.int .i64 0)) = w4 at *
  obtain ⟨cX0, cX1, cX2, fX0, fX1, fX2⟩ := OX.out.three
  obtain ⟨cR0, cR1, cR2, fR0, fR1, fR2⟩ := OR.out.three
  refine bodyPost_ret (v := .tuple #[.agg #[.slice none 0 0, .slice none 0 0, .int .i64 0], .int .i64 5]) (by simp [results, Try.results25, go_sem, cR0, cR1, cR2]) rfl ?_
  exact ⟨_, by rw [HEX.out], by rw [HEX.out]; exact ixAt_nil _ _, K⟩

set_option maxRecDepth 100000 in
set_option maxHeartbeats 1000000 in
theorem rcre_main (V : List Nat) (x : Ix) (v : Value) (nm : ByteArray) (w : World) (hV : Old V w) (h : IxAt V w v x) (hok : IxOk x) (hfew : Few x) (hr : rightB x = true) (hnb : nameB nm = true) (hns : nm.size ≤ maxLen) (hf : findX x nm = none) (h6 : ¬ 6 ≤ x.boxes.length) (hgg : ¬ 4294967295 ≤ x.given) (hg1 : 1 ≤ x.given) (h1n : 1 ≤ x.boxes.length) :
    Calls Try.prog 25 #[v, .string nm] w (IxPost V (creR x nm) w) := by
  have HEX : Hid (creR x nm = (⟨insX x.boxes ⟨nm, x.given, 1, []⟩, x.subs, x.given + 1⟩, 0)) := by
    show _ = _
    unfold creR; rw [hr, hnb, hf]; simp [h6, hgg]
  have HV := Lib.hid h
  have HOV := Lib.hid hV
  have HOK := Lib.hid hok
  have HFEW := Lib.hid hfew
  have HR := Lib.hid hr
  have HNB := Lib.hid hnb
  have HNS := Lib.hid hns
  have HF := Lib.hid hf
  obtain ⟨A, c, A', c', rfl, hc1, hc2, hc3, hc4, hbx, hrow⟩ := (h.weak (U := []) (fun _ hk => by cases hk)).open_
  have HROW := Lib.hid hrow
  clear hbx hrow h hok hV hfew hr hnb hns hf
  unfold maxLen at hc2 hc4
  generalize hn : x.boxes.length = n at *
  generalize hm : x.subs.length = m at *
  generalize hg : x.given = gv at *
  have HN := Lib.hid hn
  have HM := Lib.hid hm
  have HG := Lib.hid hg
  clear hn hm hg
  go_enter Try.func25, Try.ntmps25
  go_wp2_with fail
  have OX := Lib.hid ((Own.newAt w w.heap.size 29 [.slice A n c, .slice A' m c', .int .i64 gv] (by simp)).alloc (.cells #[.slice none 0 0, .slice none 0 0, .int .i64 0] 29))
  have OR := Lib.hid (Own.newAt (w.alloc (.cells #[.slice A n c, .slice A' m c', .int .i64 gv] 29)) (w.heap.size + 1) 29 [.slice none 0 0, .slice none 0 0, .int .i64 0] (by simp))
  have K := (((Kept.refl w).alloc (.cells #[.slice A n c, .slice A' m c', .int .i64 gv] 29)).alloc (.cells #[.slice none 0 0, .slice none 0 0, .int .i64 0] 29))
  generalize ((w.alloc (.cells #[.slice A n c, .slice A' m c', .int .i64 gv] 29)).alloc (.cells #[.slice none 0 0, .slice none 0 0, .int .i64 0] 29)) = w1 at *
  obtain ⟨cX0, cX1, cX2, fX0, fX1, fX2⟩ := OX.out.three
  obtain ⟨cR0, cR1, cR2, fR0, fR1, fR2⟩ := OR.out.three
  refine (rright_any x _ _ (HV.out.go K (Ext.nil _ _)) HOK.out HFEW.out).mono ?_
  rintro e w2 ⟨rfl, hk⟩
  clear cX0 cX1 cX2 fX0 fX1 fX2 cR0 cR1 cR2 fR0 fR1 fR2
  replace OX := Lib.hid (OX.out.kept hk)
  replace OR := Lib.hid (OR.out.kept hk)
  replace K := K.trans hk
  rw [HR.out]
  clear hk
  obtain ⟨cX0, cX1, cX2, fX0, fX1, fX2⟩ := OX.out.three
  obtain ⟨cR0, cR1, cR2, fR0, fR1, fR2⟩ := OR.out.three
  go_wp2_with fail
  refine (rname_any nm _ HNS.out).mono ?_
  rintro e _ ⟨rfl, rfl⟩
  rw [HNB.out]
  go_wp2_with fail
  refine (rfind_any x _ nm _ (HV.out.go K (Ext.nil _ _))).mono ?_
  rintro e w3 ⟨rfl, hk⟩
  clear cX0 cX1 cX2 fX0 fX1 fX2 cR0 cR1 cR2 fR0 fR1 fR2
  replace OX := Lib.hid (OX.out.kept hk)
  replace OR := Lib.hid (OR.out.kept hk)
  replace K := K.trans hk
  rw [HF.out, show ofO none = -1 from rfl]
  clear hk
  obtain ⟨cX0, cX1, cX2, fX0, fX1, fX2⟩ := OX.out.three
  obtain ⟨cR0, cR1, cR2, fR0, fR1, fR2⟩ := OR.out.three
  obtain ⟨hgq, ⟨ps, hps, ⟨A5, c5, e5, _, _, hrow5⟩, hml5⟩, hst5⟩ := HV.out.parts
  simp only [Value.slice.injEq] at e5
  obtain ⟨e51, hpn, e52⟩ := e5
  subst e51 e52
  have HPS := Lib.hid hps
  have HPN := Lib.hid hpn.symm
  have HML := Lib.hid (show MlsAll V w ps from hml5)
  have HST := Lib.hid hst5
  have HR0 := Lib.hid (hrow5.go (Kept.refl _) (Ext.nil _ _))
  have HFP : Hid (∀ p ∈ ps, ∃ A n c, p.2 = .slice A n c) := fun p hp => by obtain ⟨A, c, e⟩ := (hml5 p hp).form; exact ⟨A, _, c, e⟩
  clear hps hpn hml5 hst5 hrow5 hgq
  have hn6 : ¬ (5 : Int) < (n : Int) := by omega
  have hgb : (gv == 4294967295) = false := beq_f (by omega)
  have gw : IntKind.i64.wrap (gv + 1) = gv + 1 := IntWalk.i64_in _ (by omega)
  have HLP : Hid ((ps ++ [((⟨nm, gv, 1, []⟩ : Bx), Value.slice none 0 0)]).length = n + 1) := by show _ = _; rw [List.length_append, HPN.out]; rfl
  have HPF : Hid (∀ u ∈ bxs ps, u.oneCell' = true) := bxs_one _ HFP.out
  have HST2 : Hid (sortTo (ps ++ [((⟨nm, gv, 1, []⟩ : Bx), Value.slice none 0 0)]) (n + 1) = insB ps ((⟨nm, gv, 1, []⟩ : Bx), Value.slice none 0 0)) := by
    show _ = _
    have := cre_sort (p := ((⟨nm, gv, 1, []⟩ : Bx), Value.slice none 0 0)) HR.out HPS.out HF.out
    rwa [HLP.out] at this
  have HR1 : Hid (Row [] w3 A (bxs ps)) := HR0.out.kept K
  clear HR0
  have zX3 := OX.out.lt
  have zR3 := OR.out.lt
  have zK3 := K.size
  go_upto_region 8 with fail
  clear cX0 cX1 cX2 fX0 fX1 fX2 cR0 cR1 cR2 fR0 fR1 fR2
  have CX0 : ∀ W', Kept w3 W' → W'.cell? ⟨w.heap.size, 0, none⟩ = some (.slice A n c) := fun W' hk => (OX.out.kept hk).cell? 0
  have CX1 : ∀ W', Kept w3 W' → W'.cell? ⟨w.heap.size, 1, none⟩ = some (.slice A' m c') := fun W' hk => (OX.out.kept hk).cell? 1
  have CX2 : ∀ W', Kept w3 W' → W'.cell? ⟨w.heap.size, 2, none⟩ = some (.int .i64 gv) := fun W' hk => (OX.out.kept hk).cell? 2
  have CR0 : ∀ W', Kept w3 W' → W'.cell? ⟨(w.heap.size + 1), 0, none⟩ = some (.slice none 0 0) := fun W' hk => (OR.out.kept hk).cell? 0
  have CR1 : ∀ W', Kept w3 W' → W'.cell? ⟨(w.heap.size + 1), 1, none⟩ = some (.slice none 0 0) := fun W' hk => (OR.out.kept hk).cell? 1
  have CR2 : ∀ W', Kept w3 W' → W'.cell? ⟨(w.heap.size + 1), 2, none⟩ = some (.int .i64 0) := fun W' hk => (OR.out.kept hk).cell? 2
  refine wp_region_Z (S := fun W' => Kept w3 W') (Z := [12]) (by kernel_rfl) ((Kept.refl _).drew) (fun hHeld => ?_)
  have kr := (Kept.refl w3).drew
  have Kr := K
  have zr := K.size
  have OXr := OX
  have ORr := OR
  have HR1r := HR1
  replace OX := Lib.hid (OXr.out.kept kr)
  replace OR := Lib.hid (ORr.out.kept kr)
  replace HR1 := Lib.hid (HR1r.out.go kr (Ext.refl _ _))
  replace K := Kr.trans kr
  generalize w3.drew = w4 at *
  refine wpAnyZ_take (i := 0) (oi := { dst := some 31, op := Op.move (Operand.tmp 6), type := 27, pos := "ref.go:193", after := #[], guard := none }) (v := ?_) rfl (by kernel_rfl) (fun _ _ _ h => h) (Or.inl ⟨by rfl, ?_⟩) (by assumption) ?_
  rotate_left
  · (intro wz hSw; (try dsimp only at hSw); go_simp; (try with_reducible rfl))
  (try simp only [Act.put, List.setIfInBounds_toArray, List.set_cons_zero, List.set_cons_succ])
  refine wpAnyZ_take (i := 1) (oi := { dst := some 32, op := Op.fieldAddr 29 (Operand.tmp 2) 0, type := 0, pos := "ref.go:193", after := #[], guard := none }) (v := ?_) rfl (by kernel_rfl) (fun _ _ _ h => h) (Or.inl ⟨by rfl, ?_⟩) (by assumption) ?_
  rotate_left
  · (intro wz hSw; (try dsimp only at hSw); go_simp; (try with_reducible rfl))
  (try simp only [Act.put, List.setIfInBounds_toArray, List.set_cons_zero, List.set_cons_succ])
  refine wpAnyZ_take (i := 2) (oi := { dst := some 33, op := Op.load 27 (Operand.tmp 32), type := 27, pos := "ref.go:193", after := #[{ on := 1, ground := Ground.data }], guard := none }) (v := ?_) rfl (by kernel_rfl) (fun _ _ _ h => h) (Or.inl ⟨by rfl, ?_⟩) (by assumption) ?_
  rotate_left
  · (intro wz hSw; (try dsimp only at hSw); go_simp; (try with_reducible rfl))
  (try simp only [Act.put, List.setIfInBounds_toArray, List.set_cons_zero, List.set_cons_succ])
  refine wpAnyZ_take (i := 4) (oi := { dst := some 35, op := Op.move (Operand.tmp 1), type := 9, pos := "ref.go:193", after := #[], guard := none }) (v := ?_) rfl (by kernel_rfl) (fun _ _ _ h => h) (Or.inl ⟨by rfl, ?_⟩) (by assumption) ?_
  rotate_left
  · (intro wz hSw; (try dsimp only at hSw); go_simp; (try with_reducible rfl))
  (try simp only [Act.put, List.setIfInBounds_toArray, List.set_cons_zero, List.set_cons_succ])
  refine wpAnyZ_take (i := 5) (oi := { dst := some 36, op := Op.fieldAddr 29 (Operand.tmp 2) 2, type := 0, pos := "ref.go:193", after := #[], guard := none }) (v := ?_) rfl (by kernel_rfl) (fun _ _ _ h => h) (Or.inl ⟨by rfl, ?_⟩) (by assumption) ?_
  rotate_left
  · (intro wz hSw; (try dsimp only at hSw); go_simp; (try with_reducible rfl))
  (try simp only [Act.put, List.setIfInBounds_toArray, List.set_cons_zero, List.set_cons_succ])
  refine wpAnyZ_take (i := 6) (oi := { dst := some 37, op := Op.load 3 (Operand.tmp 36), type := 3, pos := "ref.go:193", after := #[{ on := 5, ground := Ground.data }], guard := none }) (v := ?_) rfl (by kernel_rfl) (fun _ _ _ h => h) (Or.inl ⟨by rfl, ?_⟩) (by assumption) ?_
  rotate_left
  · (intro wz hSw; (try dsimp only at hSw); go_simp; (try with_reducible rfl))
  (try simp only [Act.put, List.setIfInBounds_toArray, List.set_cons_zero, List.set_cons_succ])
  refine wpAnyZ_take (i := 7) (oi := { dst := some 38, op := Op.build 43 #[(0, Operand.tmp 35), (1, Operand.tmp 37), (2, Operand.const (Value.int IntKind.i64 1))], type := 43, pos := "ref.go:193", after := #[{ on := 4, ground := Ground.data }, { on := 6, ground := Ground.data }], guard := none }) (v := ?_) rfl (by kernel_rfl) (fun _ _ _ h => h) (Or.inl ⟨by rfl, ?_⟩) (by assumption) ?_
  rotate_left
  · (intro wz hSw; (try dsimp only at hSw); go_simp; (try with_reducible rfl))
  (try simp only [Act.put, List.setIfInBounds_toArray, List.set_cons_zero, List.set_cons_succ])
  refine wpAnyZ_ready (rs := [3, 8]) (by kernel_rfl) (by simp) ?_
  refine AllReadyZ.cons (o := { dst := some 34, op := Op.call { callee := Callee.builtin Builtin.append, args := #[Operand.tmp 31, Operand.tmp 33], argTypes := #[27, 27] }, type := 27, pos := "ref.go:193", after := #[{ on := 0, ground := Ground.data }, { on := 2, ground := Ground.data }], guard := none }) rfl (fun KK hKK => ?_) ?_
  · skip
    refine Try.elRb.step_app rfl _ _ rfl w3.heap.size (.slice none 0 0) [] rfl (World.ownsRow_nil _ _ _ _) [] A c ps (by rw [HPN.out]; rfl) HR1.out HPF.out (by rw [HPN.out]; unfold maxLen; simp <;> omega) (by rw [HPN.out]; simp <;> omega) kr.size ?_
    intro v4 w5 hap hgr hat
    replace kr := kr.grown hgr (fun k hk => by cases hk)
    clear hHeld
    replace OX := Lib.hid (OXr.out.kept kr)
    replace OR := Lib.hid (ORr.out.kept kr)
    replace HR1 := Lib.hid (HR1r.out.go kr (Ext.refl _ _))
    replace K := Kr.trans kr
    simp only [List.nil_append] at hap
    rw [HPN.out] at hap
    obtain ⟨A4, c4, rfl, _, _, _⟩ := own_form (V := []) hap (by simp)
    have H4 := Lib.hid hap
    clear hap hgr hat
    refine hKK.out _ _ ?_ (fun hHeld => ?_)
    · exact kr
    clear hKK KK
    (try simp only [Act.put, List.setIfInBounds_toArray, List.set_cons_zero, List.set_cons_succ])
    refine wpAnyZ_ready (rs := [8]) (by kernel_rfl) (by simp) ?_
    refine AllReadyZ.cons (o := { dst := some 39, op := Op.buildSlice 27 1 #[(0, Operand.tmp 38)], type := 27, pos := "ref.go:193", after := #[{ on := 7, ground := Ground.data }], guard := none }) rfl (fun KK hKK => ?_) AllReadyZ.nil
    go_simp
    replace kr := kr.alloc (.cells #[.string nm, .int .i64 gv, .int .i64 1, .slice none 0 0] 43)
    clear hHeld
    have OS := Lib.hid (Own.new w5 43 [.string nm, .int .i64 gv, .int .i64 1, .slice none 0 0])
    replace H4 := Lib.hid (H4.out.alloc (.cells #[.string nm, .int .i64 gv, .int .i64 1, .slice none 0 0] 43))
    replace OX := Lib.hid (OXr.out.kept kr)
    replace OR := Lib.hid (ORr.out.kept kr)
    replace HR1 := Lib.hid (HR1r.out.go kr (Ext.refl _ _))
    replace K := Kr.trans kr
    generalize (w5.alloc (.cells #[.string nm, .int .i64 gv, .int .i64 1, .slice none 0 0] 43)) = w6 at *
    generalize w5.heap.size = bS at *
    refine hKK.out _ _ ?_ (fun hHeld => ?_)
    · exact kr
    clear hKK KK
    (try simp only [Act.put, List.setIfInBounds_toArray, List.set_cons_zero, List.set_cons_succ])
    refine wpAnyZ_ready (rs := [9]) (by kernel_rfl) (by simp) ?_
    refine AllReadyZ.cons (o := { dst := some 40, op := Op.call { callee := Callee.builtin Builtin.append, args := #[Operand.tmp 34, Operand.tmp 39], argTypes := #[27, 27] }, type := 27, pos := "ref.go:193", after := #[{ on := 3, ground := Ground.data }, { on := 8, ground := Ground.data }, { on := 3, ground := Ground.chain }], guard := none }) rfl (fun KK hKK => ?_) AllReadyZ.nil
    refine Try.elRb.step_app rfl _ _ rfl w3.heap.size (.slice A4 n c4) ps rfl (by rw [HPN.out]; exact H4.out) [] (some ⟨bS, 0, none⟩) 1 [((⟨nm, gv, 1, []⟩ : Bx), Value.slice none 0 0)] rfl (OS.out.row (by simp)) (bxs_one _ (fun p hp => by rw [List.mem_singleton.1 hp]; exact ⟨_, _, _, rfl⟩)) (by rw [HPN.out]; unfold maxLen; simp <;> omega) (by rw [HPN.out]; simp <;> omega) kr.size ?_
    intro v7 w7 hap hgr hat
    replace kr := kr.grown hgr (fun k hk => (ownBlock_of H4.out hk).1)
    clear hHeld
    replace OX := Lib.hid (OXr.out.kept kr)
    replace OR := Lib.hid (ORr.out.kept kr)
    replace HR1 := Lib.hid (HR1r.out.go kr (Ext.refl _ _))
    replace K := Kr.trans kr
    rw [HLP.out] at hap
    obtain ⟨A7, c7, rfl, _, _, _⟩ := own_form (V := []) hap (by simp)
    have H7 := Lib.hid hap
    clear hap hgr hat
    refine hKK.out _ _ ?_ (fun hHeld => ?_)
    · exact kr
    clear hKK KK
    (try simp only [Act.put, List.setIfInBounds_toArray, List.set_cons_zero, List.set_cons_succ])
    refine wpAnyZ_ready (rs := [10]) (by kernel_rfl) (by simp) ?_
    refine AllReadyZ.cons (o := { dst := some 41, op := Op.call { callee := Callee.value (Operand.func 56), args := #[Operand.tmp 40], argTypes := #[27] }, type := 27, pos := "ref.go:193", after := #[{ on := 9, ground := Ground.data }, { on := 9, ground := Ground.chain }], guard := none }) rfl (fun KK hKK => ?_) AllReadyZ.nil
    go_simp
    obtain ⟨Aq, cq, e, e1, e2, e3⟩ := own_form (V := []) H7.out (by simp)
    cases e
    have HI := sorted_any ((w.heap.size) :: (w.heap.size + 1) :: V) (ps ++ [((⟨nm, gv, 1, []⟩ : Bx), Value.slice none 0 0)]) A7 c7 w7 (Old.cons OX.out.lt (Old.cons OR.out.lt (HOV.out.go K))) (by rw [HLP.out]; exact e1) e2 (by rw [HLP.out]; omega) e3 (fun p hp => by
      rcases List.mem_append.1 hp with hp | hp
      · exact HFP.out p hp
      · rw [List.mem_singleton.1 hp]; exact ⟨_, _, _, rfl⟩)
    unfold SortPost at HI
    rw [HLP.out, HST2.out] at HI
    refine HI.mono ?_
    rintro e w8 ⟨A6, c6, rfl, hq1, hq2, hq3, hk⟩
    clear hHeld HI e1 e2 e3
    replace kr := kr.trans hk
    replace OX := Lib.hid (OXr.out.kept kr)
    replace OR := Lib.hid (ORr.out.kept kr)
    replace HR1 := Lib.hid (HR1r.out.go kr (Ext.refl _ _))
    replace K := Kr.trans kr
    have HS6 := Lib.hid hq3
    have HC6 := Lib.hid hq2
    clear hq3 hq2 hk H4 H7 OS
    go_wp2_with fail
    refine hKK.out _ _ ?_ (fun hHeld => ?_)
    · exact kr
    clear hKK KK
    (try simp only [Act.put, List.setIfInBounds_toArray, List.set_cons_zero, List.set_cons_succ])
    refine wpAnyZ_take (i := 11) (oi := { dst := some 42, op := Op.fieldAddr 29 (Operand.tmp 2) 0, type := 0, pos := "ref.go:193", after := #[{ on := 0, ground := Ground.phase }, { on := 1, ground := Ground.phase }, { on := 2, ground := Ground.phase }, { on := 3, ground := Ground.phase }, { on := 4, ground := Ground.phase }, { on := 5, ground := Ground.phase }, { on := 6, ground := Ground.phase }, { on := 7, ground := Ground.phase }, { on := 8, ground := Ground.phase }, { on := 9, ground := Ground.phase }, { on := 10, ground := Ground.phase }], guard := none }) (v := ?_) rfl (by kernel_rfl) (fun _ _ _ h => h) (Or.inl ⟨by rfl, ?_⟩) (by assumption) ?_
    rotate_left
    · (intro wz hSw; (try dsimp only at hSw); go_simp; (try with_reducible rfl))
    (try simp only [Act.put, List.setIfInBounds_toArray, List.set_cons_zero, List.set_cons_succ])
    refine wpAnyZ_ready (rs := [12]) (by kernel_rfl) (by simp) ?_
    refine AllReadyZ.late (o := { dst := none, op := Op.store 27 (Operand.tmp 42) (Operand.tmp 41), type := 0, pos := "ref.go:193", after := #[{ on := 11, ground := Ground.data }, { on := 10, ground := Ground.data }, { on := 10, ground := Ground.chain }, { on := 0, ground := Ground.phase }, { on := 1, ground := Ground.phase }, { on := 2, ground := Ground.phase }, { on := 3, ground := Ground.phase }, { on := 4, ground := Ground.phase }, { on := 5, ground := Ground.phase }, { on := 6, ground := Ground.phase }, { on := 7, ground := Ground.phase }, { on := 8, ground := Ground.phase }, { on := 9, ground := Ground.phase }, { on := 10, ground := Ground.phase }], guard := none }) rfl (by simp) (fun KK hKK => ?_) AllReadyZ.nil
    obtain ⟨cX0, cX1, cX2, fX0, fX1, fX2⟩ := OX.out.three
    go_simp
    clear cX0 cX1 cX2 fX0 fX1 fX2
    replace OX : Hid (Own (w8.setCell ⟨w.heap.size, 0, none⟩ (.slice A6 (n + 1) c6)) w.heap.size 29 [.slice A6 (n + 1) c6, .slice A' m c', .int .i64 gv]) := Lib.hid (OX.out.set_ 0 (.slice A6 (n + 1) c6))
    replace OR : Hid (Own (w8.setCell ⟨w.heap.size, 0, none⟩ (.slice A6 (n + 1) c6)) (w.heap.size + 1) 29 [.slice none 0 0, .slice none 0 0, .int .i64 0]) := Lib.hid (OR.out.far (p := ⟨w.heap.size, 0, none⟩) (by first | omega | (simp; omega) | simp) (.slice A6 (n + 1) c6))
    replace HS6 := Lib.hid (HS6.out.put (p := ⟨w.heap.size, 0, none⟩) (by simp) (.slice A6 (n + 1) c6))
    replace K := (K.setCell (p := ⟨w.heap.size, 0, none⟩) (by first | exact Nat.le_refl _ | (simp only []; omega) | simp) (.slice A6 (n + 1) c6))
    generalize (w8.setCell ⟨w.heap.size, 0, none⟩ (.slice A6 (n + 1) c6)) = w9 at *
    refine hKK.out _ _ ?_
    clear hKK KK
    (try simp only [Act.put, List.setIfInBounds_toArray, List.set_cons_zero, List.set_cons_succ])
    refine wpAnyZ_done (by kernel_rfl) ?_ _
    clear CX0 CX1 CX2 CR0 CR1 CR2 OXr ORr HR1r Kr zr hHeld kr
    obtain ⟨cX0, cX1, cX2, fX0, fX1, fX2⟩ := OX.out.three
    obtain ⟨cR0, cR1, cR2, fR0, fR1, fR2⟩ := OR.out.three
    go_wp2_with fail
    go_wp2
    clear cX0 cX1 cX2 fX0 fX1 fX2 cR0 cR1 cR2 fR0 fR1 fR2
    replace OX : Hid (Own (w9.setCell ⟨w.heap.size, 2, none⟩ (.int .i64 (gv + 1))) w.heap.size 29 [.slice A6 (n + 1) c6, .slice A' m c', .int .i64 (gv + 1)]) := Lib.hid (OX.out.set_ 2 (.int .i64 (gv + 1)))
    replace OR : Hid (Own (w9.setCell ⟨w.heap.size, 2, none⟩ (.int .i64 (gv + 1))) (w.heap.size + 1) 29 [.slice none 0 0, .slice none 0 0, .int .i64 0]) := Lib.hid (OR.out.far (p := ⟨w.heap.size, 2, none⟩) (by first | omega | (simp; omega) | simp) (.int .i64 (gv + 1)))
    replace HS6 := Lib.hid (HS6.out.put (p := ⟨w.heap.size, 2, none⟩) (by simp) (.int .i64 (gv + 1)))
    replace K := (K.setCell (p := ⟨w.heap.size, 2, none⟩) (by first | exact Nat.le_refl _ | (simp only []; omega) | simp) (.int .i64 (gv + 1)))
    generalize (w9.setCell ⟨w.heap.size, 2, none⟩ (.int .i64 (gv + 1))) = w10 at *
    replace OX : Hid (Own (((w10.setCell ⟨(w.heap.size + 1), 0, none⟩ (.slice A6 (n + 1) c6)).setCell ⟨(w.heap.size + 1), 1, none⟩ (.slice A' m c')).setCell ⟨(w.heap.size + 1), 2, none⟩ (.int .i64 (gv + 1))) w.heap.size 29 [.slice A6 (n + 1) c6, .slice A' m c', .int .i64 (gv + 1)]) := Lib.hid (((OX.out.far (p := ⟨(w.heap.size + 1), 0, none⟩) (by first | omega | (simp; omega) | simp) (.slice A6 (n + 1) c6)).far (p := ⟨(w.heap.size + 1), 1, none⟩) (by first | omega | (simp; omega) | simp) (.slice A' m c')).far (p := ⟨(w.heap.size + 1), 2, none⟩) (by first | omega | (simp; omega) | simp) (.int .i64 (gv + 1)))
    replace OR : Hid (Own (((w10.setCell ⟨(w.heap.size + 1), 0, none⟩ (.slice A6 (n + 1) c6)).setCell ⟨(w.heap.size + 1), 1, none⟩ (.slice A' m c')).setCell ⟨(w.heap.size + 1), 2, none⟩ (.int .i64 (gv + 1))) (w.heap.size + 1) 29 [.slice A6 (n + 1) c6, .slice A' m c', .int .i64 (gv + 1)]) := Lib.hid (((OR.out.set_ 0 (.slice A6 (n + 1) c6)).set_ 1 (.slice A' m c')).set_ 2 (.int .i64 (gv + 1)))
    replace HS6 := Lib.hid (((HS6.out.put (p := ⟨(w.heap.size + 1), 0, none⟩) (by simp) (.slice A6 (n + 1) c6)).put (p := ⟨(w.heap.size + 1), 1, none⟩) (by simp) (.slice A' m c')).put (p := ⟨(w.heap.size + 1), 2, none⟩) (by simp) (.int .i64 (gv + 1)))
    replace K := (((K.setCell (p := ⟨(w.heap.size + 1), 0, none⟩) (by first | exact Nat.le_refl _ | (simp only []; omega) | simp) (.slice A6 (n + 1) c6)).setCell (p := ⟨(w.heap.size + 1), 1, none⟩) (by first | exact Nat.le_refl _ | (simp only []; omega) | simp) (.slice A' m c')).setCell (p := ⟨(w.heap.size + 1), 2, none⟩) (by first | exact Nat.le_refl _ | (simp only []; omega) | simp) (.int .i64 (gv + 1)))
    generalize (((w10.setCell ⟨(w.heap.size + 1), 0, none⟩ (.slice A6 (n + 1) c6)).setCell ⟨(w.heap.size + 1), 1, none⟩ (.slice A' m c')).setCell ⟨(w.heap.size + 1), 2, none⟩ (.int .i64 (gv + 1))) = w11 at *
    obtain ⟨cX0, cX1, cX2, fX0, fX1, fX2⟩ := OX.out.three
    obtain ⟨cR0, cR1, cR2, fR0, fR1, fR2⟩ := OR.out.three
    refine bodyPost_ret (v := .tuple #[.agg #[.slice A6 (n + 1) c6, .slice A' m c', .int .i64 (gv + 1)], .int .i64 0]) (by simp [results, Try.results25, go_sem, cR0, cR1, cR2]) rfl ?_
    refine ⟨_, by rw [HEX.out], ?_, K⟩
    rw [HEX.out]
    refine ix_of_Row (qs := insB ps ((⟨nm, gv, 1, []⟩ : Bx), Value.slice none 0 0)) (by rw [insB_map, HPS.out]) (by rw [← HST2.out, ← HLP.out, sortTo_len]) hq1 HC6.out (HS6.out.go (Kept.refl _) (fun k hk => .inl (List.mem_cons_of_mem _ (List.mem_cons_of_mem _ hk)))) (fun p hp => ?_) (HST.out.go K (Ext.refl _ _)) rfl
    unfold insB at hp
    rcases List.mem_append.1 hp with hp | hp
    · exact (HML.out p (List.mem_of_mem_take hp)).go K (Ext.refl _ _)
    · rcases List.mem_cons.1 hp with rfl | hp
      · exact mlsAt_nil _ _
      · exact (HML.out p (List.mem_of_mem_drop hp)).go K (Ext.refl _ _)
  refine AllReadyZ.cons (o := { dst := some 39, op := Op.buildSlice 27 1 #[(0, Operand.tmp 38)], type := 27, pos := "ref.go:193", after := #[{ on := 7, ground := Ground.data }], guard := none }) rfl (fun KK hKK => ?_) AllReadyZ.nil
  go_simp
  replace kr := kr.alloc (.cells #[.string nm, .int .i64 gv, .int .i64 1, .slice none 0 0] 43)
  clear hHeld
  have OS := Lib.hid (Own.new w4 43 [.string nm, .int .i64 gv, .int .i64 1, .slice none 0 0])
  replace OX := Lib.hid (OXr.out.kept kr)
  replace OR := Lib.hid (ORr.out.kept kr)
  replace HR1 := Lib.hid (HR1r.out.go kr (Ext.refl _ _))
  replace K := Kr.trans kr
  generalize (w4.alloc (.cells #[.string nm, .int .i64 gv, .int .i64 1, .slice none 0 0] 43)) = w5 at *
  generalize w4.heap.size = bS at *
  refine hKK.out _ _ ?_ (fun hHeld => ?_)
  · exact kr
  clear hKK KK
  (try simp only [Act.put, List.setIfInBounds_toArray, List.set_cons_zero, List.set_cons_succ])
  refine wpAnyZ_ready (rs := [3]) (by kernel_rfl) (by simp) ?_
  refine AllReadyZ.cons (o := { dst := some 34, op := Op.call { callee := Callee.builtin Builtin.append, args := #[Operand.tmp 31, Operand.tmp 33], argTypes := #[27, 27] }, type := 27, pos := "ref.go:193", after := #[{ on := 0, ground := Ground.data }, { on := 2, ground := Ground.data }], guard := none }) rfl (fun KK hKK => ?_) AllReadyZ.nil
  refine Try.elRb.step_app rfl _ _ rfl w3.heap.size (.slice none 0 0) [] rfl (World.ownsRow_nil _ _ _ _) [] A c ps (by rw [HPN.out]; rfl) HR1.out HPF.out (by rw [HPN.out]; unfold maxLen; simp <;> omega) (by rw [HPN.out]; simp <;> omega) kr.size ?_
  intro v4 w6 hap hgr hat
  replace kr := kr.grown hgr (fun k hk => by cases hk)
  clear hHeld
  replace OX := Lib.hid (OXr.out.kept kr)
  replace OR := Lib.hid (ORr.out.kept kr)
  replace HR1 := Lib.hid (HR1r.out.go kr (Ext.refl _ _))
  replace K := Kr.trans kr
  simp only [List.nil_append] at hap
  rw [HPN.out] at hap
  obtain ⟨A4, c4, rfl, _, _, _⟩ := own_form (V := []) hap (by simp)
  have H4 := Lib.hid hap
  replace OS := Lib.hid (OS.out.grown hgr (by simp [Value.ownBlock]))
  clear hap hgr hat
  refine hKK.out _ _ ?_ (fun hHeld => ?_)
  · exact kr
  clear hKK KK
  (try simp only [Act.put, List.setIfInBounds_toArray, List.set_cons_zero, List.set_cons_succ])
  refine wpAnyZ_ready (rs := [9]) (by kernel_rfl) (by simp) ?_
  refine AllReadyZ.cons (o := { dst := some 40, op := Op.call { callee := Callee.builtin Builtin.append, args := #[Operand.tmp 34, Operand.tmp 39], argTypes := #[27, 27] }, type := 27, pos := "ref.go:193", after := #[{ on := 3, ground := Ground.data }, { on := 8, ground := Ground.data }, { on := 3, ground := Ground.chain }], guard := none }) rfl (fun KK hKK => ?_) AllReadyZ.nil
  refine Try.elRb.step_app rfl _ _ rfl w3.heap.size (.slice A4 n c4) ps rfl (by rw [HPN.out]; exact H4.out) [] (some ⟨bS, 0, none⟩) 1 [((⟨nm, gv, 1, []⟩ : Bx), Value.slice none 0 0)] rfl (OS.out.row (by simp)) (bxs_one _ (fun p hp => by rw [List.mem_singleton.1 hp]; exact ⟨_, _, _, rfl⟩)) (by rw [HPN.out]; unfold maxLen; simp <;> omega) (by rw [HPN.out]; simp <;> omega) kr.size ?_
  intro v7 w7 hap hgr hat
  replace kr := kr.grown hgr (fun k hk => (ownBlock_of H4.out hk).1)
  clear hHeld
  replace OX := Lib.hid (OXr.out.kept kr)
  replace OR := Lib.hid (ORr.out.kept kr)
  replace HR1 := Lib.hid (HR1r.out.go kr (Ext.refl _ _))
  replace K := Kr.trans kr
  rw [HLP.out] at hap
  obtain ⟨A7, c7, rfl, _, _, _⟩ := own_form (V := []) hap (by simp)
  have H7 := Lib.hid hap
  clear hap hgr hat
  refine hKK.out _ _ ?_ (fun hHeld => ?_)
  · exact kr
  clear hKK KK
  (try simp only [Act.put, List.setIfInBounds_toArray, List.set_cons_zero, List.set_cons_succ])
  refine wpAnyZ_ready (rs := [10]) (by kernel_rfl) (by simp) ?_
  refine AllReadyZ.cons (o := { dst := some 41, op := Op.call { callee := Callee.value (Operand.func 56), args := #[Operand.tmp 40], argTypes := #[27] }, type := 27, pos := "ref.go:193", after := #[{ on := 9, ground := Ground.data }, { on := 9, ground := Ground.chain }], guard := none }) rfl (fun KK hKK => ?_) AllReadyZ.nil
  go_simp
  obtain ⟨Aq, cq, e, e1, e2, e3⟩ := own_form (V := []) H7.out (by simp)
  cases e
  have HI := sorted_any ((w.heap.size) :: (w.heap.size + 1) :: V) (ps ++ [((⟨nm, gv, 1, []⟩ : Bx), Value.slice none 0 0)]) A7 c7 w7 (Old.cons OX.out.lt (Old.cons OR.out.lt (HOV.out.go K))) (by rw [HLP.out]; exact e1) e2 (by rw [HLP.out]; omega) e3 (fun p hp => by
    rcases List.mem_append.1 hp with hp | hp
    · exact HFP.out p hp
    · rw [List.mem_singleton.1 hp]; exact ⟨_, _, _, rfl⟩)
  unfold SortPost at HI
  rw [HLP.out, HST2.out] at HI
  refine HI.mono ?_
  rintro e w8 ⟨A6, c6, rfl, hq1, hq2, hq3, hk⟩
  clear hHeld HI e1 e2 e3
  replace kr := kr.trans hk
  replace OX := Lib.hid (OXr.out.kept kr)
  replace OR := Lib.hid (ORr.out.kept kr)
  replace HR1 := Lib.hid (HR1r.out.go kr (Ext.refl _ _))
  replace K := Kr.trans kr
  have HS6 := Lib.hid hq3
  have HC6 := Lib.hid hq2
  clear hq3 hq2 hk H4 H7 OS
  go_wp2_with fail
  refine hKK.out _ _ ?_ (fun hHeld => ?_)
  · exact kr
  clear hKK KK
  (try simp only [Act.put, List.setIfInBounds_toArray, List.set_cons_zero, List.set_cons_succ])
  refine wpAnyZ_take (i := 11) (oi := { dst := some 42, op := Op.fieldAddr 29 (Operand.tmp 2) 0, type := 0, pos := "ref.go:193", after := #[{ on := 0, ground := Ground.phase }, { on := 1, ground := Ground.phase }, { on := 2, ground := Ground.phase }, { on := 3, ground := Ground.phase }, { on := 4, ground := Ground.phase }, { on := 5, ground := Ground.phase }, { on := 6, ground := Ground.phase }, { on := 7, ground := Ground.phase }, { on := 8, ground := Ground.phase }, { on := 9, ground := Ground.phase }, { on := 10, ground := Ground.phase }], guard := none }) (v := ?_) rfl (by kernel_rfl) (fun _ _ _ h => h) (Or.inl ⟨by rfl, ?_⟩) (by assumption) ?_
  rotate_left
  · (intro wz hSw; (try dsimp only at hSw); go_simp; (try with_reducible rfl))
  (try simp only [Act.put, List.setIfInBounds_toArray, List.set_cons_zero, List.set_cons_succ])
  refine wpAnyZ_ready (rs := [12]) (by kernel_rfl) (by simp) ?_
  refine AllReadyZ.late (o := { dst := none, op := Op.store 27 (Operand.tmp 42) (Operand.tmp 41), type := 0, pos := "ref.go:193", after := #[{ on := 11, ground := Ground.data }, { on := 10, ground := Ground.data }, { on := 10, ground := Ground.chain }, { on := 0, ground := Ground.phase }, { on := 1, ground := Ground.phase }, { on := 2, ground := Ground.phase }, { on := 3, ground := Ground.phase }, { on := 4, ground := Ground.phase }, { on := 5, ground := Ground.phase }, { on := 6, ground := Ground.phase }, { on := 7, ground := Ground.phase }, { on := 8, ground := Ground.phase }, { on := 9, ground := Ground.phase }, { on := 10, ground := Ground.phase }], guard := none }) rfl (by simp) (fun KK hKK => ?_) AllReadyZ.nil
  obtain ⟨cX0, cX1, cX2, fX0, fX1, fX2⟩ := OX.out.three
  go_simp
  clear cX0 cX1 cX2 fX0 fX1 fX2
  replace OX : Hid (Own (w8.setCell ⟨w.heap.size, 0, none⟩ (.slice A6 (n + 1) c6)) w.heap.size 29 [.slice A6 (n + 1) c6, .slice A' m c', .int .i64 gv]) := Lib.hid (OX.out.set_ 0 (.slice A6 (n + 1) c6))
  replace OR : Hid (Own (w8.setCell ⟨w.heap.size, 0, none⟩ (.slice A6 (n + 1) c6)) (w.heap.size + 1) 29 [.slice none 0 0, .slice none 0 0, .int .i64 0]) := Lib.hid (OR.out.far (p := ⟨w.heap.size, 0, none⟩) (by first | omega | (simp; omega) | simp) (.slice A6 (n + 1) c6))
  replace HS6 := Lib.hid (HS6.out.put (p := ⟨w.heap.size, 0, none⟩) (by simp) (.slice A6 (n + 1) c6))
  replace K := (K.setCell (p := ⟨w.heap.size, 0, none⟩) (by first | exact Nat.le_refl _ | (simp only []; omega) | simp) (.slice A6 (n + 1) c6))
  generalize (w8.setCell ⟨w.heap.size, 0, none⟩ (.slice A6 (n + 1) c6)) = w9 at *
  refine hKK.out _ _ ?_
  clear hKK KK
  (try simp only [Act.put, List.setIfInBounds_toArray, List.set_cons_zero, List.set_cons_succ])
  refine wpAnyZ_done (by kernel_rfl) ?_ _
  clear CX0 CX1 CX2 CR0 CR1 CR2 OXr ORr HR1r Kr zr hHeld kr
  obtain ⟨cX0, cX1, cX2, fX0, fX1, fX2⟩ := OX.out.three
  obtain ⟨cR0, cR1, cR2, fR0, fR1, fR2⟩ := OR.out.three
  go_wp2_with fail
  go_wp2
  clear cX0 cX1 cX2 fX0 fX1 fX2 cR0 cR1 cR2 fR0 fR1 fR2
  replace OX : Hid (Own (w9.setCell ⟨w.heap.size, 2, none⟩ (.int .i64 (gv + 1))) w.heap.size 29 [.slice A6 (n + 1) c6, .slice A' m c', .int .i64 (gv + 1)]) := Lib.hid (OX.out.set_ 2 (.int .i64 (gv + 1)))
  replace OR : Hid (Own (w9.setCell ⟨w.heap.size, 2, none⟩ (.int .i64 (gv + 1))) (w.heap.size + 1) 29 [.slice none 0 0, .slice none 0 0, .int .i64 0]) := Lib.hid (OR.out.far (p := ⟨w.heap.size, 2, none⟩) (by first | omega | (simp; omega) | simp) (.int .i64 (gv + 1)))
  replace HS6 := Lib.hid (HS6.out.put (p := ⟨w.heap.size, 2, none⟩) (by simp) (.int .i64 (gv + 1)))
  replace K := (K.setCell (p := ⟨w.heap.size, 2, none⟩) (by first | exact Nat.le_refl _ | (simp only []; omega) | simp) (.int .i64 (gv + 1)))
  generalize (w9.setCell ⟨w.heap.size, 2, none⟩ (.int .i64 (gv + 1))) = w10 at *
  replace OX : Hid (Own (((w10.setCell ⟨(w.heap.size + 1), 0, none⟩ (.slice A6 (n + 1) c6)).setCell ⟨(w.heap.size + 1), 1, none⟩ (.slice A' m c')).setCell ⟨(w.heap.size + 1), 2, none⟩ (.int .i64 (gv + 1))) w.heap.size 29 [.slice A6 (n + 1) c6, .slice A' m c', .int .i64 (gv + 1)]) := Lib.hid (((OX.out.far (p := ⟨(w.heap.size + 1), 0, none⟩) (by first | omega | (simp; omega) | simp) (.slice A6 (n + 1) c6)).far (p := ⟨(w.heap.size + 1), 1, none⟩) (by first | omega | (simp; omega) | simp) (.slice A' m c')).far (p := ⟨(w.heap.size + 1), 2, none⟩) (by first | omega | (simp; omega) | simp) (.int .i64 (gv + 1)))
  replace OR : Hid (Own (((w10.setCell ⟨(w.heap.size + 1), 0, none⟩ (.slice A6 (n + 1) c6)).setCell ⟨(w.heap.size + 1), 1, none⟩ (.slice A' m c')).setCell ⟨(w.heap.size + 1), 2, none⟩ (.int .i64 (gv + 1))) (w.heap.size + 1) 29 [.slice A6 (n + 1) c6, .slice A' m c', .int .i64 (gv + 1)]) := Lib.hid (((OR.out.set_ 0 (.slice A6 (n + 1) c6)).set_ 1 (.slice A' m c')).set_ 2 (.int .i64 (gv + 1)))
  replace HS6 := Lib.hid (((HS6.out.put (p := ⟨(w.heap.size + 1), 0, none⟩) (by simp) (.slice A6 (n + 1) c6)).put (p := ⟨(w.heap.size + 1), 1, none⟩) (by simp) (.slice A' m c')).put (p := ⟨(w.heap.size + 1), 2, none⟩) (by simp) (.int .i64 (gv + 1)))
  replace K := (((K.setCell (p := ⟨(w.heap.size + 1), 0, none⟩) (by first | exact Nat.le_refl _ | (simp only []; omega) | simp) (.slice A6 (n + 1) c6)).setCell (p := ⟨(w.heap.size + 1), 1, none⟩) (by first | exact Nat.le_refl _ | (simp only []; omega) | simp) (.slice A' m c')).setCell (p := ⟨(w.heap.size + 1), 2, none⟩) (by first | exact Nat.le_refl _ | (simp only []; omega) | simp) (.int .i64 (gv + 1)))
  generalize (((w10.setCell ⟨(w.heap.size + 1), 0, none⟩ (.slice A6 (n + 1) c6)).setCell ⟨(w.heap.size + 1), 1, none⟩ (.slice A' m c')).setCell ⟨(w.heap.size + 1), 2, none⟩ (.int .i64 (gv + 1))) = w11 at *
  obtain ⟨cX0, cX1, cX2, fX0, fX1, fX2⟩ := OX.out.three
  obtain ⟨cR0, cR1, cR2, fR0, fR1, fR2⟩ := OR.out.three
  refine bodyPost_ret (v := .tuple #[.agg #[.slice A6 (n + 1) c6, .slice A' m c', .int .i64 (gv + 1)], .int .i64 0]) (by simp [results, Try.results25, go_sem, cR0, cR1, cR2]) rfl ?_
  refine ⟨_, by rw [HEX.out], ?_, K⟩
  rw [HEX.out]
  refine ix_of_Row (qs := insB ps ((⟨nm, gv, 1, []⟩ : Bx), Value.slice none 0 0)) (by rw [insB_map, HPS.out]) (by rw [← HST2.out, ← HLP.out, sortTo_len]) hq1 HC6.out (HS6.out.go (Kept.refl _) (fun k hk => .inl (List.mem_cons_of_mem _ (List.mem_cons_of_mem _ hk)))) (fun p hp => ?_) (HST.out.go K (Ext.refl _ _)) rfl
  unfold insB at hp
  rcases List.mem_append.1 hp with hp | hp
  · exact (HML.out p (List.mem_of_mem_take hp)).go K (Ext.refl _ _)
  · rcases List.mem_cons.1 hp with rfl | hp
    · exact mlsAt_nil _ _
    · exact (HML.out p (List.mem_of_mem_drop hp)).go K (Ext.refl _ _)

theorem rcre_any (V : List Nat) (x : Ix) (v : Value) (nm : ByteArray) (w : World) (hV : Old V w) (h : IxAt V w v x) (hok : IxOk x) (hfew : Few x) (hns : nm.size ≤ maxLen) :
    Calls Try.prog 25 #[v, .string nm] w (IxPost V (creR x nm) w) := by
  rcases Bool.eq_false_or_eq_true (rightB x) with hr | hr
  · rcases Bool.eq_false_or_eq_true (nameB nm) with hn | hn
    · cases hf : findX x nm with
      | some q => exact rcre_no3 V x v q nm w hV h hok hfew hr hn hns hf
      | none =>
        obtain ⟨h1, _, _, h4, _⟩ := right_len hr
        simp only [posB, Bool.and_eq_true, decide_eq_true_eq] at h4
        by_cases h6 : 6 ≤ x.boxes.length
        · exact rcre_no4 V x v nm w hV h hok hfew hr hn hns hf h6
        · by_cases hg : 4294967295 ≤ x.given
          · exact rcre_no5 V x v nm w hV h hok hfew hr hn hns hf h6 hg h4.2
          · exact rcre_main V x v nm w hV h hok hfew hr hn hns hf h6 hg h4.1 h1
    · exact rcre_no2 V x v nm w hV h hok hfew hr hn hns
  · exact rcre_no1 V x v nm w hV h hok hfew hr
end Go.Proofs.Ytjinnkbnllnllaa
