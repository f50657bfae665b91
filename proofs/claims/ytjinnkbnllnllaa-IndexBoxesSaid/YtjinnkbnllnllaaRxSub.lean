/- Walk: mailsackref15.Delete, mailsackref15.Subscribe. -/
import Derived.Test.YtjinnkbnllnllaaRxCreate
namespace Go.Proofs.Ytjinnkbnllnllaa
open Go.RowKit


set_option maxRecDepth 100000 in
set_option maxHeartbeats 1000000 in
theorem rdel_no1 (V : List Nat) (x : Ix) (v : Value) (nm : ByteArray) (w : World) (hV : Old V w) (h : IxAt V w v x) (hok : IxOk x) (hfew : Few x) (hr : rightB x = false) :
    Calls Try.prog 26 #[v, .string nm] w (IxPost V (delR x nm) w) := by
  have HEX : Hid (delR x nm = (ix0, 1)) := by
    show _ = _
    unfold delR; rw [hr]; rfl
  have HV := Lib.hid h
  have HOV := Lib.hid hV
  have HOK := Lib.hid hok
  have HFEW := Lib.hid hfew
  have HR := Lib.hid hr
  obtain ⟨A, c, A', c', rfl, hc1, hc2, hc3, hc4, hbx, hrow⟩ := (h.weak (U := []) (fun _ hk => by cases hk)).open_
  have HROW := Lib.hid hrow
  clear hbx hrow h hok hV hfew hr
  unfold maxLen at hc2 hc4
  generalize hn : x.boxes.length = n at *
  generalize hm : x.subs.length = m at *
  generalize hg : x.given = gv at *
  have HN := Lib.hid hn
  have HM := Lib.hid hm
  have HG := Lib.hid hg
  clear hn hm hg
  have hlit := inbox_lit
  go_enter Try.func26, Try.ntmps26
  go_wp2_with fail
  have OX := Lib.hid ((Own.newAt w w.heap.size 29 [.slice A n c, .slice A' m c', .int .i64 gv] (by simp)).alloc (.cells #[.slice none 0 0, .slice none 0 0, .int .i64 0] 29))
  have OR := Lib.hid (Own.newAt (w.alloc (.cells #[.slice A n c, .slice A' m c', .int .i64 gv] 29)) (w.heap.size + 1) 29 [.slice none 0 0, .slice none 0 0, .int .i64 0] (by simp))
  have K := (((Kept.refl w).alloc (.cells #[.slice A n c, .slice A' m c', .int .i64 gv] 29)).alloc (.cells #[.slice none 0 0, .slice none 0 0, .int .i64 0] 29))
  generalize ((w.alloc (.cells #[.slice A n c, .slice A' m c', .int .i64 gv] 29)).alloc (.cells #[.slice none 0 0, .slice none 0 0, .int .i64 0] 29)) = w1 at *
  obtain ⟨cX0, cX1, cX2, fX0, fX1, fX2⟩ := OX.out.three
  obtain ⟨cR0, cR1, cR2, fR0, fR1, fR2⟩ := OR.out.three
  refine (rright_any x _ _ (HV.out.go K (Ext.nil _ _)) HOK.out HFEW.out).mono ?_
  rintro e w2 ⟨rfl, hk⟩
  clear cX0 cX1 cX2 fX0 fX1 fX2 cR0 cR1 cR2 fR0 fR1 fR2
  replace OX := Lib.hid (OX.out.kept hk)
  replace OR := Lib.hid (OR.out.kept hk)
  replace K := K.trans hk
  rw [HR.out]
  clear hk
  obtain ⟨cX0, cX1, cX2, fX0, fX1, fX2⟩ := OX.out.three
  obtain ⟨cR0, cR1, cR2, fR0, fR1, fR2⟩ := OR.out.three
  go_wp2
  clear cX0 cX1 cX2 fX0 fX1 fX2 cR0 cR1 cR2 fR0 fR1 fR2
  replace OX : Hid (Own (((w2.setCell ⟨(w.heap.size + 1), 0, none⟩ (.slice none 0 0)).setCell ⟨(w.heap.size + 1), 1, none⟩ (.slice none 0 0)).setCell ⟨(w.heap.size + 1), 2, none⟩ (.int .i64 0)) w.heap.size 29 [.slice A n c, .slice A' m c', .int .i64 gv]) := Lib.hid (((OX.out.far (p := ⟨(w.heap.size + 1), 0, none⟩) (by first | omega | (simp; omega) | simp) (.slice none 0 0)).far (p := ⟨(w.heap.size + 1), 1, none⟩) (by first | omega | (simp; omega) | simp) (.slice none 0 0)).far (p := ⟨(w.heap.size + 1), 2, none⟩) (by first | omega | (simp; omega) | simp) (.int .i64 0))
  replace OR : Hid (Own (((w2.setCell ⟨(w.heap.size + 1), 0, none⟩ (.slice none 0 0)).setCell ⟨(w.heap.size + 1), 1, none⟩ (.slice none 0 0)).setCell ⟨(w.heap.size + 1), 2, none⟩ (.int .i64 0)) (w.heap.size + 1) 29 [.slice none 0 0, .slice none 0 0, .int .i64 0]) := Lib.hid (((OR.out.set_ 0 (.slice none 0 0)).set_ 1 (.slice none 0 0)).set_ 2 (.int .i64 0))
  replace K := (((K.setCell (p := ⟨(w.heap.size + 1), 0, none⟩) (by first | exact Nat.le_refl _ | (simp only []; omega) | simp) (.slice none 0 0)).setCell (p := ⟨(w.heap.size + 1), 1, none⟩) (by first | exact Nat.le_refl _ | (simp only []; omega) | simp) (.slice none 0 0)).setCell (p := ⟨(w.heap.size + 1), 2, none⟩) (by first | exact Nat.le_refl _ | (simp only []; omega) | simp) (.int .i64 0))
  generalize (((w2.setCell ⟨(w.heap.size + 1), 0, none⟩ (.slice none 0 0)).setCell ⟨(w.heap.size + 1), 1, none⟩ (.slice none 0 0)).setCell ⟨(w.heap.size + 1), 2, none⟩ (.int .i64 0)) = w3 at *
  obtain ⟨cX0, cX1, cX2, fX0, fX1, fX2⟩ := OX.out.three
  obtain ⟨cR0, cR1, cR2, fR0, fR1, fR2⟩ := OR.out.three
  refine bodyPost_ret (v := .tuple #[.agg #[.slice none 0 0, .slice none 0 0, .int .i64 0], .int .i64 1]) (by simp [results, Try.results26, go_sem, cR0, cR1, cR2]) rfl ?_
  exact ⟨_, by rw [HEX.out], by rw [HEX.out]; exact ixAt_nil _ _, K⟩

set_option maxRecDepth 100000 in
set_option maxHeartbeats 1000000 in
theorem rdel_no2 (V : List Nat) (x : Ix) (v : Value) (nm : ByteArray) (w : World) (hV : Old V w) (h : IxAt V w v x) (hok : IxOk x) (hfew : Few x) (hr : rightB x = true) (he : (nm.toList == inbox.toList) = true) :
    Calls Try.prog 26 #[v, .string nm] w (IxPost V (delR x nm) w) := by
  have HEX : Hid (delR x nm = (ix0, 1)) := by
    show _ = _
    unfold delR; rw [hr, show nmEq nm inbox = true from he]; rfl
  have HV := Lib.hid h
  have HOV := Lib.hid hV
  have HOK := Lib.hid hok
  have HFEW := Lib.hid hfew
  have HR := Lib.hid hr
  have HE := Lib.hid he
  obtain ⟨A, c, A', c', rfl, hc1, hc2, hc3, hc4, hbx, hrow⟩ := (h.weak (U := []) (fun _ hk => by cases hk)).open_
  have HROW := Lib.hid hrow
  clear hbx hrow h hok hV hfew hr he
  unfold maxLen at hc2 hc4
  generalize hn : x.boxes.length = n at *
  generalize hm : x.subs.length = m at *
  generalize hg : x.given = gv at *
  have HN := Lib.hid hn
  have HM := Lib.hid hm
  have HG := Lib.hid hg
  clear hn hm hg
  have hlit := inbox_lit
  have he' := HE.out
  go_enter Try.func26, Try.ntmps26
  go_wp2_with fail
  have OX := Lib.hid ((Own.newAt w w.heap.size 29 [.slice A n c, .slice A' m c', .int .i64 gv] (by simp)).alloc (.cells #[.slice none 0 0, .slice none 0 0, .int .i64 0] 29))
  have OR := Lib.hid (Own.newAt (w.alloc (.cells #[.slice A n c, .slice A' m c', .int .i64 gv] 29)) (w.heap.size + 1) 29 [.slice none 0 0, .slice none 0 0, .int .i64 0] (by simp))
  have K := (((Kept.refl w).alloc (.cells #[.slice A n c, .slice A' m c', .int .i64 gv] 29)).alloc (.cells #[.slice none 0 0, .slice none 0 0, .int .i64 0] 29))
  generalize ((w.alloc (.cells #[.slice A n c, .slice A' m c', .int .i64 gv] 29)).alloc (.cells #[.slice none 0 0, .slice none 0 0, .int .i64 0] 29)) = w1 at *
  obtain ⟨cX0, cX1, cX2, fX0, fX1, fX2⟩ := OX.out.three
  obtain ⟨cR0, cR1, cR2, fR0, fR1, fR2⟩ := OR.out.three
  refine (rright_any x _ _ (HV.out.go K (Ext.nil _ _)) HOK.out HFEW.out).mono ?_
  rintro e w2 ⟨rfl, hk⟩
  clear cX0 cX1 cX2 fX0 fX1 fX2 cR0 cR1 cR2 fR0 fR1 fR2
  replace OX := Lib.hid (OX.out.kept hk)
  replace OR := Lib.hid (OR.out.kept hk)
  replace K := K.trans hk
  rw [HR.out]
  clear hk
  obtain ⟨cX0, cX1, cX2, fX0, fX1, fX2⟩ := OX.out.three
  obtain ⟨cR0, cR1, cR2, fR0, fR1, fR2⟩ := OR.out.three
  go_wp2
  clear cX0 cX1 cX2 fX0 fX1 fX2 cR0 cR1 cR2 fR0 fR1 fR2
  replace OX : Hid (Own (((w2.setCell ⟨(w.heap.size + 1), 0, none⟩ (.slice none 0 0)).setCell ⟨(w.heap.size + 1), 1, none⟩ (.slice none 0 0)).setCell ⟨(w.heap.size + 1), 2, none⟩ (.int .i64 0)) w.heap.size 29 [.slice A n c, .slice A' m c', .int .i64 gv]) := Lib.hid (((OX.out.far (p := ⟨(w.heap.size + 1), 0, none⟩) (by first | omega | (simp; omega) | simp) (.slice none 0 0)).far (p := ⟨(w.heap.size + 1), 1, none⟩) (by first | omega | (simp; omega) | simp) (.slice none 0 0)).far (p := ⟨(w.heap.size + 1), 2, none⟩) (by first | omega | (simp; omega) | simp) (.int .i64 0))
  replace OR : Hid (Own (((w2.setCell ⟨(w.heap.size + 1), 0, none⟩ (.slice none 0 0)).setCell ⟨(w.heap.size + 1), 1, none⟩ (.slice none 0 0)).setCell ⟨(w.heap.size + 1), 2, none⟩ (.int .i64 0)) (w.heap.size + 1) 29 [.slice none 0 0, .slice none 0 0, .int .i64 0]) := Lib.hid (((OR.out.set_ 0 (.slice none 0 0)).set_ 1 (.slice none 0 0)).set_ 2 (.int .i64 0))
  replace K := (((K.setCell (p := ⟨(w.heap.size + 1), 0, none⟩) (by first | exact Nat.le_refl _ | (simp only []; omega) | simp) (.slice none 0 0)).setCell (p := ⟨(w.heap.size + 1), 1, none⟩) (by first | exact Nat.le_refl _ | (simp only []; omega) | simp) (.slice none 0 0)).setCell (p := ⟨(w.heap.size + 1), 2, none⟩) (by first | exact Nat.le_refl _ | (simp only []; omega) | simp) (.int .i64 0))
  generalize (((w2.setCell ⟨(w.heap.size + 1), 0, none⟩ (.slice none 0 0)).setCell ⟨(w.heap.size + 1), 1, none⟩ (.slice none 0 0)).setCell ⟨(w.heap.size + 1), 2, none⟩ (.int .i64 0)) = w3 at *
  obtain ⟨cX0, cX1, cX2, fX0, fX1, fX2⟩ := OX.out.three
  obtain ⟨cR0, cR1, cR2, fR0, fR1, fR2⟩ := OR.out.three
  refine bodyPost_ret (v := .tuple #[.agg #[.slice none 0 0, .slice none 0 0, .int .i64 0], .int .i64 1]) (by simp [results, Try.results26, go_sem, cR0, cR1, cR2]) rfl ?_
  exact ⟨_, by rw [HEX.out], by rw [HEX.out]; exact ixAt_nil _ _, K⟩

set_option maxRecDepth 100000 in
set_option maxHeartbeats 1000000 in
theorem rdel_no3 (V : List Nat) (x : Ix) (v : Value) (nm : ByteArray) (w : World) (hV : Old V w) (h : IxAt V w v x) (hok : IxOk x) (hfew : Few x) (hr : rightB x = true) (he : (nm.toList == inbox.toList) = false) (hf : findX x nm = none) :
    Calls Try.prog 26 #[v, .string nm] w (IxPost V (delR x nm) w) := by
  have HEX : Hid (delR x nm = (ix0, 6)) := by
    show _ = _
    unfold delR; rw [hr, show nmEq nm inbox = false from he, hf]; rfl
  have HV := Lib.hid h
  have HOV := Lib.hid hV
  have HOK := Lib.hid hok
  have HFEW := Lib.hid hfew
  have HR := Lib.hid hr
  have HE := Lib.hid he
  have HF := Lib.hid hf
  obtain ⟨A, c, A', c', rfl, hc1, hc2, hc3, hc4, hbx, hrow⟩ := (h.weak (U := []) (fun _ hk => by cases hk)).open_
  have HROW := Lib.hid hrow
  clear hbx hrow h hok hV hfew hr he hf
  unfold maxLen at hc2 hc4
  generalize hn : x.boxes.length = n at *
  generalize hm : x.subs.length = m at *
  generalize hg : x.given = gv at *
  have HN := Lib.hid hn
  have HM := Lib.hid hm
  have HG := Lib.hid hg
  clear hn hm hg
  have hlit := inbox_lit
  have he' := HE.out
  go_enter Try.func26, Try.ntmps26
  go_wp2_with fail
  have OX := Lib.hid ((Own.newAt w w.heap.size 29 [.slice A n c, .slice A' m c', .int .i64 gv] (by simp)).alloc (.cells #[.slice none 0 0, .slice none 0 0, .int .i64 0] 29))
  have OR := Lib.hid (Own.newAt (w.alloc (.cells #[.slice A n c, .slice A' m c', .int .i64 gv] 29)) (w.heap.size + 1) 29 [.slice none 0 0, .slice none 0 0, .int .i64 0] (by simp))
  have K := (((Kept.refl w).alloc (.cells #[.slice A n c, .slice A' m c', .int .i64 gv] 29)).alloc (.cells #[.slice none 0 0, .slice none 0 0, .int .i64 0] 29))
  generalize ((w.alloc (.cells #[.slice A n c, .slice A' m c', .int .i64 gv] 29)).alloc (.cells #[.slice none 0 0, .slice none 0 0, .int .i64 0] 29)) = w1 at *
  obtain ⟨cX0, cX1, cX2, fX0, fX1, fX2⟩ := OX.out.three
  obtain ⟨cR0, cR1, cR2, fR0, fR1, fR2⟩ := OR.out.three
  refine (rright_any x _ _ (HV.out.go K (Ext.nil _ _)) HOK.out HFEW.out).mono ?_
  rintro e w2 ⟨rfl, hk⟩
  clear cX0 cX1 cX2 fX0 fX1 fX2 cR0 cR1 cR2 fR0 fR1 fR2
  replace OX := Lib.hid (OX.out.kept hk)
  replace OR := Lib.hid (OR.out.kept hk)
  replace K := K.trans hk
  rw [HR.out]
  clear hk
  obtain ⟨cX0, cX1, cX2, fX0, fX1, fX2⟩ := OX.out.three
  obtain ⟨cR0, cR1, cR2, fR0, fR1, fR2⟩ := OR.out.three
  go_wp2_with fail
  refine (rfind_any x _ nm _ (HV.out.go K (Ext.nil _ _))).mono ?_
  rintro e w3 ⟨rfl, hk⟩
  clear cX0 cX1 cX2 fX0 fX1 fX2 cR0 cR1 cR2 fR0 fR1 fR2
  replace OX := Lib.hid (OX.out.kept hk)
  replace OR := Lib.hid (OR.out.kept hk)
  replace K := K.trans hk
  rw [HF.out, show ofO none = -1 from rfl]
  clear hk
  obtain ⟨cX0, cX1, cX2, fX0, fX1, fX2⟩ := OX.out.three
  obtain ⟨cR0, cR1, cR2, fR0, fR1, fR2⟩ := OR.out.three
  go_wp2
  clear cX0 cX1 cX2 fX0 fX1 fX2 cR0 cR1 cR2 fR0 fR1 fR2
  replace OX : Hid (Own (((w3.setCell ⟨(w.heap.size + 1), 0, none⟩ (.slice none 0 0)).setCell ⟨(w.heap.size + 1), 1, none⟩ (.slice none 0 0)).setCell ⟨(w.heap.size + 1), 2, none⟩ (.int .i64 0)) w.heap.size 29 [.slice A n c, .slice A' m c', .int .i64 gv]) := Lib.hid (((OX.out.far (p := ⟨(w.heap.size + 1), 0, none⟩) (by first | omega | (simp; omega) | simp) (.slice none 0 0)).far (p := ⟨(w.heap.size + 1), 1, none⟩) (by first | omega | (simp; omega) | simp) (.slice none 0 0)).far (p := ⟨(w.heap.size + 1), 2, none⟩) (by first | omega | (simp; omega) | simp) (.int .i64 0))
  replace OR : Hid (Own (((w3.setCell ⟨(w.heap.size + 1), 0, none⟩ (.slice none 0 0)).setCell ⟨(w.heap.size + 1), 1, none⟩ (.slice none 0 0)).setCell ⟨(w.heap.size + 1), 2, none⟩ (.int .i64 0)) (w.heap.size + 1) 29 [.slice none 0 0, .slice none 0 0, .int .i64 0]) := Lib.hid (((OR.out.set_ 0 (.slice none 0 0)).set_ 1 (.slice none 0 0)).set_ 2 (.int .i64 0))
  replace K := (((K.setCell (p := ⟨(w.heap.size + 1), 0, none⟩) (by first | exact Nat.le_refl _ | (simp only []; omega) | simp) (.slice none 0 0)).setCell (p := ⟨(w.heap.size + 1), 1, none⟩) (by first | exact Nat.le_refl _ | (simp only []; omega) | simp) (.slice none 0 0)).setCell (p := ⟨(w.heap.size + 1), 2, none⟩) (by first | exact Nat.le_refl _ | (simp only []; omega) | simp) (.int .i64 0))
  generalize (((w3.setCell ⟨(w.heap.size + 1), 0, none⟩ (.slice none 0 0)).setCell ⟨(w.heap.size + 1), 1, none⟩ (.slice none 0 0)).setCell ⟨(w.heap.size + 1), 2, none⟩ (.int .i64 0)) = w4 at *
  obtain ⟨cX0, cX1, cX2, fX0, fX1, fX2⟩ := OX.out.three
  obtain ⟨cR0, cR1, cR2, fR0, fR1, fR2⟩ := OR.out.three
  refine bodyPost_ret (v := .tuple #[.agg #[.slice none 0 0, .slice none 0 0, .int .i64 0], .int .i64 6]) (by simp [results, Try.results26, go_sem, cR0, cR1, cR2]) rfl ?_
  exact ⟨_, by rw [HEX.out], by rw [HEX.out]; exact ixAt_nil _ _, K⟩

set_option maxRecDepth 100000 in
set_option maxHeartbeats 2000000 in
theorem rdel_main (V : List Nat) (x : Ix) (v : Value) (q : Nat) (nm : ByteArray) (w : World) (hV : Old V w) (h : IxAt V w v x) (hok : IxOk x) (hfew : Few x) (hr : rightB x = true) (he : (nm.toList == inbox.toList) = false) (hf : findX x nm = some q) (hl : x.boxes.length ≤ 6) :
    Calls Try.prog 26 #[v, .string nm] w (IxPost V (delR x nm) w) := by
  have HEX : Hid (delR x nm = (⟨x.boxes.eraseIdx q, x.subs, x.given⟩, 0)) := by
    show _ = _
    unfold delR; rw [hr, show nmEq nm inbox = false from he, hf]; rfl
  have HV := Lib.hid h
  have HOV := Lib.hid hV
  have HOK := Lib.hid hok
  have HFEW := Lib.hid hfew
  have HR := Lib.hid hr
  have HE := Lib.hid he
  have HF := Lib.hid hf
  obtain ⟨A, c, A', c', rfl, hc1, hc2, hc3, hc4, hbx, hrow⟩ := (h.weak (U := []) (fun _ hk => by cases hk)).open_
  have HROW := Lib.hid hrow
  clear hbx hrow h hok hV hfew hr he hf
  unfold maxLen at hc2 hc4
  generalize hn : x.boxes.length = n at *
  generalize hm : x.subs.length = m at *
  generalize hg : x.given = gv at *
  have HN := Lib.hid hn
  have HM := Lib.hid hm
  have HG := Lib.hid hg
  clear hn hm hg
  have hlit := inbox_lit
  have he' := HE.out
  go_enter Try.func26, Try.ntmps26
  go_wp2_with fail
  have OX := Lib.hid ((Own.newAt w w.heap.size 29 [.slice A n c, .slice A' m c', .int .i64 gv] (by simp)).alloc (.cells #[.slice none 0 0, .slice none 0 0, .int .i64 0] 29))
  have OR := Lib.hid (Own.newAt (w.alloc (.cells #[.slice A n c, .slice A' m c', .int .i64 gv] 29)) (w.heap.size + 1) 29 [.slice none 0 0, .slice none 0 0, .int .i64 0] (by simp))
  have K := (((Kept.refl w).alloc (.cells #[.slice A n c, .slice A' m c', .int .i64 gv] 29)).alloc (.cells #[.slice none 0 0, .slice none 0 0, .int .i64 0] 29))
  generalize ((w.alloc (.cells #[.slice A n c, .slice A' m c', .int .i64 gv] 29)).alloc (.cells #[.slice none 0 0, .slice none 0 0, .int .i64 0] 29)) = w1 at *
  obtain ⟨cX0, cX1, cX2, fX0, fX1, fX2⟩ := OX.out.three
  obtain ⟨cR0, cR1, cR2, fR0, fR1, fR2⟩ := OR.out.three
  refine (rright_any x _ _ (HV.out.go K (Ext.nil _ _)) HOK.out HFEW.out).mono ?_
  rintro e w2 ⟨rfl, hk⟩
  clear cX0 cX1 cX2 fX0 fX1 fX2 cR0 cR1 cR2 fR0 fR1 fR2
  replace OX := Lib.hid (OX.out.kept hk)
  replace OR := Lib.hid (OR.out.kept hk)
  replace K := K.trans hk
  rw [HR.out]
  clear hk
  obtain ⟨cX0, cX1, cX2, fX0, fX1, fX2⟩ := OX.out.three
  obtain ⟨cR0, cR1, cR2, fR0, fR1, fR2⟩ := OR.out.three
  go_wp2_with fail
  refine (rfind_any x _ nm _ (HV.out.go K (Ext.nil _ _))).mono ?_
  rintro e w3 ⟨rfl, hk⟩
  clear cX0 cX1 cX2 fX0 fX1 fX2 cR0 cR1 cR2 fR0 fR1 fR2
  replace OX := Lib.hid (OX.out.kept hk)
  replace OR := Lib.hid (OR.out.kept hk)
  replace K := K.trans hk
  rw [HF.out, show ofO (some q) = (q : Int) from rfl]
  have q0 : (0 : Int) ≤ (q : Int) := by omega
  clear hk
  obtain ⟨cX0, cX1, cX2, fX0, fX1, fX2⟩ := OX.out.three
  obtain ⟨cR0, cR1, cR2, fR0, fR1, fR2⟩ := OR.out.three
  obtain ⟨hgq, ⟨ps, hps, ⟨A5, c5, e5, _, _, hrow5⟩, hml5⟩, hst5⟩ := HV.out.parts
  simp only [Value.slice.injEq] at e5
  obtain ⟨e51, hpn, e52⟩ := e5
  subst e51 e52
  have HPS := Lib.hid hps
  have HPN := Lib.hid hpn.symm
  have HML := Lib.hid (show MlsAll V w ps from hml5)
  have HST := Lib.hid hst5
  have HR0 := Lib.hid (hrow5.go (Kept.refl _) (Ext.nil _ _))
  have HFP : Hid (∀ p ∈ ps, ∃ A n c, p.2 = .slice A n c) := fun p hp => by obtain ⟨A, c, e⟩ := (hml5 p hp).form; exact ⟨A, _, c, e⟩
  clear hps hpn hml5 hst5 hrow5 hgq
  have HFN : Hid (ps.filter (fun p => !(nmEq p.1.name nm)) = ps.eraseIdx q) := filter_name HR.out HPS.out HF.out
  go_wp2_with fail
  go_loopw [6, 25] (fun lv iv wq => ∃ (k j : Nat) (B : Option Addr) (b2 : Nat), k ≤ n ∧ Hid (((ps.take k).filter (fun p => !(nmEq p.1.name nm))).length = j) ∧ j ≤ k ∧ iv = .int .i64 k ∧ lv = .slice B j b2 ∧ Own wq w.heap.size 29 [.slice A n c, .slice A' m c', .int .i64 gv] ∧ Own wq (w.heap.size + 1) 29 [.slice none 0 0, .slice none 0 0, .int .i64 0] ∧ wq.ownsRow (w.heap.size + 1 + 1) 43 4 (.slice B j b2) j (bxs ((ps.take k).filter (fun p => !(nmEq p.1.name nm)))) ∧ Kept w wq) (fun _ iv _ => n - (intOf iv).toNat)
  case atStart => exact ⟨0, 0, none, 0, Nat.zero_le _, rfl, Nat.le_refl _, rfl, rfl, OX.out, OR.out, World.ownsRow_nil _ _ _ _, K⟩
  case round =>
    clear cX0 cX1 cX2 fX0 fX1 fX2 cR0 cR1 cR2 fR0 fR1 fR2
    clear OX OR K
    obtain ⟨k, j, B, b2, hkm, HJ, hjk, rfl, rfl, ox, or, hown, K⟩ := hrel
    have OX := Lib.hid ox
    have OR := Lib.hid or
    have HL := Lib.hid hown
    clear ox or hown
    have zX := OX.out.lt
    have zR := OR.out.lt
    have zK := K.size
    have k0 : (0 : Int) ≤ (k : Int) := by omega
    obtain ⟨cX0, cX1, cX2, fX0, fX1, fX2⟩ := OX.out.three
    obtain ⟨cR0, cR1, cR2, fR0, fR1, fR2⟩ := OR.out.three
    by_cases hlt : k < n
    · obtain ⟨b, o, rfl, hb, _, hcs⟩ := HR0.out (by rw [bxs_length, HPN.out]; omega)
      have hk' : k < ps.length := by rw [HPN.out]; exact hlt
      obtain ⟨g1, g2, g3, g4⟩ := bxs_at hk'
      replace g1 := (K.cell (p := ⟨b, o + k * 4, none⟩) hb).trans (hcs _ _ g1)
      replace g2 := (K.cell (p := ⟨b, o + k * 4 + 1, none⟩) hb).trans (hcs _ _ g2)
      replace g3 := (K.cell (p := ⟨b, o + k * 4 + 2, none⟩) hb).trans (hcs _ _ g3)
      replace g4 := (K.cell (p := ⟨b, o + k * 4 + 3, none⟩) hb).trans (hcs _ _ g4)
      obtain ⟨MA, mn, mc, hmv⟩ := HFP.out _ (List.getElem_mem hk')
      rw [hmv] at g4
      have HTS : Hid (ps.take (k + 1) = ps.take k ++ [((⟨ps[k].1.name, ps[k].1.val, ps[k].1.next, ps[k].1.mails⟩ : Bx), Value.slice MA mn mc)]) := by show _ = _; rw [← take_snoc ps k hk', ← hmv]
      clear hcs hmv
      generalize ps[k].1.name = bn at *
      generalize ps[k].1.val = bl at *
      generalize ps[k].1.next = bt at *
      generalize ps[k].1.mails = bml at *
      have k1 : (k : Int) < (n : Int) := by omega
      have HB4 := Lib.hid (fun bb (hb : (Value.slice B j b2).ownBlock = some bb) => (ownBlock_of HL.out hb).1)
      by_cases hq : nmEq bn nm = true
      · have hq1 : (bn.toList == nm.toList) = true := hq
        have hq2 : (bn.toList != nm.toList) = false := by show (!(bn.toList == nm.toList)) = false; rw [hq1]; rfl
        have HN1 : Hid (((ps.take (k + 1)).filter (fun p => !(nmEq p.1.name nm))) = ((ps.take k).filter (fun p => !(nmEq p.1.name nm)))) := by show _ = _; rw [HTS.out, List.filter_append, List.filter_cons_of_neg (by simpa using hq)]; simp
        clear hq
        go_wp2
        go_roundw
        case rel => exact ⟨k + 1, j, B, b2, by omega, by rw [HN1.out]; exact HJ.out, by omega, by go_num, rfl, OX.out.alloc _, OR.out.alloc _, by rw [HN1.out]; exact HL.out.alloc _, K.alloc _⟩
        case measure => simp [intOf]; omega
      · have hq0 : nmEq bn nm = false := by simpa using hq
        have hq1 : (bn.toList == nm.toList) = false := hq0
        have hq2 : (bn.toList != nm.toList) = true := by show (!(bn.toList == nm.toList)) = true; rw [hq1]; rfl
        have HNEW : Hid (((ps.take k).filter (fun p => !(nmEq p.1.name nm))) ++ [((⟨bn, bl, bt, bml⟩ : Bx), Value.slice MA mn mc)] = ((ps.take (k + 1)).filter (fun p => !(nmEq p.1.name nm)))) := by show _ = _; rw [HTS.out, List.filter_append, List.filter_cons_of_pos (by simpa using hq)]; simp
        have HNL2 : Hid (((ps.take (k + 1)).filter (fun p => !(nmEq p.1.name nm))).length = j + 1) := by show _ = _; rw [← HNEW.out, List.length_append, HJ.out]; rfl
        clear hq hq0
        go_wp2_with (at_builtin; go_must (
          refine Try.elRb.wpList_app rfl (.tmp 33) (.tmp 35) rfl (w.heap.size + 1 + 1) (.slice B j b2) ((ps.take k).filter (fun p => !(nmEq p.1.name nm))) rfl (by rw [HJ.out]; exact (HL.out.alloc (.cells #[.string bn, .int .i64 bl, .int .i64 bt, .slice MA mn mc] 43)).alloc (.cells #[.string bn, .int .i64 bl, .int .i64 bt, .slice MA mn mc] 43)) [] (some ⟨wr.heap.size + 1, 0, none⟩) 1 [((⟨bn, bl, bt, bml⟩ : Bx), Value.slice MA mn mc)] rfl ((Own.newAt (wr.alloc (.cells #[.string bn, .int .i64 bl, .int .i64 bt, .slice MA mn mc] 43)) (wr.heap.size + 1) 43 [.string bn, .int .i64 bl, .int .i64 bt, .slice MA mn mc] (by simp)).row (by simp)) (bxs_one _ (fun p hp => by rw [List.mem_singleton.1 hp]; exact ⟨_, _, _, rfl⟩)) (by rw [HJ.out]; unfold maxLen; simp; omega) (by rw [HJ.out]; simp; omega) (by simp; omega) ?_
          intro v3 w3 hap hgr hat
          rw [HNEW.out, HNL2.out] at hap
          obtain ⟨B3, b3, rfl, _, _, _⟩ := own_form (V := []) hap (by simp)
          have HL3 := Lib.hid hap
          have OX3 := Lib.hid (((OX.out.alloc (.cells #[.string bn, .int .i64 bl, .int .i64 bt, .slice MA mn mc] 43)).alloc (.cells #[.string bn, .int .i64 bl, .int .i64 bt, .slice MA mn mc] 43)).appd hgr (fun bb hb => by have := HB4.out bb hb; omega))
          have OR3 := Lib.hid (((OR.out.alloc (.cells #[.string bn, .int .i64 bl, .int .i64 bt, .slice MA mn mc] 43)).alloc (.cells #[.string bn, .int .i64 bl, .int .i64 bt, .slice MA mn mc] 43)).appd hgr (fun bb hb => by have := HB4.out bb hb; omega))
          have K3 : Kept w w3 := ((K.alloc (.cells #[.string bn, .int .i64 bl, .int .i64 bt, .slice MA mn mc] 43)).alloc (.cells #[.string bn, .int .i64 bl, .int .i64 bt, .slice MA mn mc] 43)).grown hgr (fun bb hb => by have := HB4.out bb hb; omega)
          clear hap hgr hat))
        go_roundw
        case rel => exact ⟨k + 1, j + 1, B3, b3, by omega, HNL2.out, by omega, by go_num, rfl, OX3.out, OR3.out, HL3.out, K3⟩
        case measure => simp [intOf]; omega
    · obtain rfl : k = n := by omega
      have HTA : Hid (ps.take k = ps) := List.take_of_length_le (by rw [HPN.out]; exact Nat.le_refl _)
      rw [HTA.out, HFN.out] at HL HJ
      go_wp2
      clear cX0 cX1 cX2 fX0 fX1 fX2 cR0 cR1 cR2 fR0 fR1 fR2
      replace OX : Hid (Own (wr.setCell ⟨w.heap.size, 0, none⟩ (.slice B j b2)) w.heap.size 29 [.slice B j b2, .slice A' m c', .int .i64 gv]) := Lib.hid (OX.out.set_ 0 (.slice B j b2))
      replace OR : Hid (Own (wr.setCell ⟨w.heap.size, 0, none⟩ (.slice B j b2)) (w.heap.size + 1) 29 [.slice none 0 0, .slice none 0 0, .int .i64 0]) := Lib.hid (OR.out.far (p := ⟨w.heap.size, 0, none⟩) (by first | omega | (simp; omega) | simp) (.slice B j b2))
      replace HL := Lib.hid (ownsRow_setCell_other HL.out (a := ⟨w.heap.size, 0, none⟩) (fun e => by first | (have := ownBlock_eq e; (try dsimp only at this); omega) | (have := (HL.out.lt _ e).1; (try dsimp only at this); omega)) (.slice B j b2))
      replace K := (K.setCell (p := ⟨w.heap.size, 0, none⟩) (by first | exact Nat.le_refl _ | (simp only []; omega) | simp) (.slice B j b2))
      generalize (wr.setCell ⟨w.heap.size, 0, none⟩ (.slice B j b2)) = wz1 at *
      replace OX : Hid (Own (((wz1.setCell ⟨(w.heap.size + 1), 0, none⟩ (.slice B j b2)).setCell ⟨(w.heap.size + 1), 1, none⟩ (.slice A' m c')).setCell ⟨(w.heap.size + 1), 2, none⟩ (.int .i64 gv)) w.heap.size 29 [.slice B j b2, .slice A' m c', .int .i64 gv]) := Lib.hid (((OX.out.far (p := ⟨(w.heap.size + 1), 0, none⟩) (by first | omega | (simp; omega) | simp) (.slice B j b2)).far (p := ⟨(w.heap.size + 1), 1, none⟩) (by first | omega | (simp; omega) | simp) (.slice A' m c')).far (p := ⟨(w.heap.size + 1), 2, none⟩) (by first | omega | (simp; omega) | simp) (.int .i64 gv))
      replace OR : Hid (Own (((wz1.setCell ⟨(w.heap.size + 1), 0, none⟩ (.slice B j b2)).setCell ⟨(w.heap.size + 1), 1, none⟩ (.slice A' m c')).setCell ⟨(w.heap.size + 1), 2, none⟩ (.int .i64 gv)) (w.heap.size + 1) 29 [.slice B j b2, .slice A' m c', .int .i64 gv]) := Lib.hid (((OR.out.set_ 0 (.slice B j b2)).set_ 1 (.slice A' m c')).set_ 2 (.int .i64 gv))
      replace HL := Lib.hid (ownsRow_setCell_other (ownsRow_setCell_other (ownsRow_setCell_other HL.out (a := ⟨(w.heap.size + 1), 0, none⟩) (fun e => by first | (have := ownBlock_eq e; (try dsimp only at this); omega) | (have := (HL.out.lt _ e).1; (try dsimp only at this); omega)) (.slice B j b2)) (a := ⟨(w.heap.size + 1), 1, none⟩) (fun e => by first | (have := ownBlock_eq e; (try dsimp only at this); omega) | (have := (HL.out.lt _ e).1; (try dsimp only at this); omega)) (.slice A' m c')) (a := ⟨(w.heap.size + 1), 2, none⟩) (fun e => by first | (have := ownBlock_eq e; (try dsimp only at this); omega) | (have := (HL.out.lt _ e).1; (try dsimp only at this); omega)) (.int .i64 gv))
      replace K := (((K.setCell (p := ⟨(w.heap.size + 1), 0, none⟩) (by first | exact Nat.le_refl _ | (simp only []; omega) | simp) (.slice B j b2)).setCell (p := ⟨(w.heap.size + 1), 1, none⟩) (by first | exact Nat.le_refl _ | (simp only []; omega) | simp) (.slice A' m c')).setCell (p := ⟨(w.heap.size + 1), 2, none⟩) (by first | exact Nat.le_refl _ | (simp only []; omega) | simp) (.int .i64 gv))
      generalize (((wz1.setCell ⟨(w.heap.size + 1), 0, none⟩ (.slice B j b2)).setCell ⟨(w.heap.size + 1), 1, none⟩ (.slice A' m c')).setCell ⟨(w.heap.size + 1), 2, none⟩ (.int .i64 gv)) = wz2 at *
      obtain ⟨cX0, cX1, cX2, fX0, fX1, fX2⟩ := OX.out.three
      obtain ⟨cR0, cR1, cR2, fR0, fR1, fR2⟩ := OR.out.three
      refine bodyPost_ret (v := .tuple #[.agg #[.slice B j b2, .slice A' m c', .int .i64 gv], .int .i64 0]) (by simp [results, Try.results26, go_sem, cR0, cR1, cR2]) rfl ?_
      refine ⟨_, by rw [HEX.out], ?_, K⟩
      rw [HEX.out]
      obtain ⟨_, _, e, e1, e2, e3⟩ := own_form (V := V) HL.out (fun k hk => by have := HOV.out k hk; omega)
      cases e
      exact ix_of_Row (qs := ps.eraseIdx q) (by rw [map_erase, HPS.out]) HJ.out e1 e2 e3 (fun p hp => (HML.out p (List.mem_of_mem_eraseIdx hp)).go K (Ext.refl _ _)) (HST.out.go K (Ext.refl _ _)) rfl

theorem rdel_any (V : List Nat) (x : Ix) (v : Value) (nm : ByteArray) (w : World) (hV : Old V w) (h : IxAt V w v x) (hok : IxOk x) (hfew : Few x) :
    Calls Try.prog 26 #[v, .string nm] w (IxPost V (delR x nm) w) := by
  rcases Bool.eq_false_or_eq_true (rightB x) with hr | hr
  · rcases Bool.eq_false_or_eq_true (nm.toList == inbox.toList) with he | he
    · exact rdel_no2 V x v nm w hV h hok hfew hr he
    · cases hf : findX x nm with
      | none => exact rdel_no3 V x v nm w hV h hok hfew hr he hf
      | some q => exact rdel_main V x v q nm w hV h hok hfew hr he hf (right_len hr).2.1
  · exact rdel_no1 V x v nm w hV h hok hfew hr

/-- Two rows of the call's own lie in two blocks. -/
def Apart (u v : Value) : Prop := ∀ g, u.ownBlock = some g → v.ownBlock ≠ some g
theorem apart_app {w w' : World} {base : Nat} {e : TypeId} {size m : Nat} {u v v' : Value} {ys : List Value} (ha : Apart v u) (hu : w.ownsRow base e size u m ys) (hgr : w.grownBy w' v.ownBlock) (hat : v'.ownBlock = v.ownBlock ∨ v'.ownBlock = some w.heap.size) :
    w'.ownsRow base e size u m ys ∧ Apart v' u := by
  refine ⟨ownsRow_turn hu (Turn.of_grown hgr) (fun g hg h => ha g h hg), fun g hg hug => ?_⟩
  rcases hat with h | h
  · rw [h] at hg; exact ha g hg hug
  · rw [h] at hg
    have h1 := (ownBlock_of hu hug).2
    injection hg with hg
    omega
theorem Apart.symm {u v : Value} (h : Apart u v) : Apart v u := fun g h1 h2 => h g h2 h1
theorem strs_flat_one (l : List ByteArray) : ∀ u ∈ l.flatMap strc, u.oneCell' = true := fun u hu => by
  obtain ⟨s, _, h⟩ := List.mem_flatMap.1 hu
  exact strc_one s u h

set_option maxRecDepth 100000 in
set_option maxHeartbeats 1000000 in
theorem rsub_no1 (V : List Nat) (x : Ix) (v : Value) (nm : ByteArray) (yes : Bool) (w : World) (hV : Old V w) (h : IxAt V w v x) (hok : IxOk x) (hfew : Few x) (hr : rightB x = false) :
    Calls Try.prog 28 #[v, .string nm, .bool yes] w (IxPost V (subR x nm yes) w) := by
  have HEX : Hid (subR x nm yes = (ix0, 1)) := by
    show _ = _
    unfold subR; rw [hr]; rfl
  have HV := Lib.hid h
  have HOV := Lib.hid hV
  have HOK := Lib.hid hok
  have HFEW := Lib.hid hfew
  have HR := Lib.hid hr
  obtain ⟨A, c, A', c', rfl, hc1, hc2, hc3, hc4, hbx, hrow⟩ := (h.weak (U := []) (fun _ hk => by cases hk)).open_
  have HROW := Lib.hid hrow
  clear hbx hrow h hok hV hfew hr
  unfold maxLen at hc2 hc4
  generalize hn : x.boxes.length = n at *
  generalize hm : x.subs.length = m at *
  generalize hg : x.given = gv at *
  have HN := Lib.hid hn
  have HM := Lib.hid hm
  have HG := Lib.hid hg
  clear hn hm hg
  go_enter Try.func28, Try.ntmps28
  go_wp2_with fail
  have OX := Lib.hid ((Own.newAt w w.heap.size 29 [.slice A n c, .slice A' m c', .int .i64 gv] (by simp)).alloc (.cells #[.slice none 0 0, .slice none 0 0, .int .i64 0] 29))
  have OR := Lib.hid (Own.newAt (w.alloc (.cells #[.slice A n c, .slice A' m c', .int .i64 gv] 29)) (w.heap.size + 1) 29 [.slice none 0 0, .slice none 0 0, .int .i64 0] (by simp))
  have K := (((Kept.refl w).alloc (.cells #[.slice A n c, .slice A' m c', .int .i64 gv] 29)).alloc (.cells #[.slice none 0 0, .slice none 0 0, .int .i64 0] 29))
  generalize ((w.alloc (.cells #[.slice A n c, .slice A' m c', .int .i64 gv] 29)).alloc (.cells #[.slice none 0 0, .slice none 0 0, .int .i64 0] 29)) = w1 at *
  obtain ⟨cX0, cX1, cX2, fX0, fX1, fX2⟩ := OX.out.three
  obtain ⟨cR0, cR1, cR2, fR0, fR1, fR2⟩ := OR.out.three
  refine (rright_any x _ _ (HV.out.go K (Ext.nil _ _)) HOK.out HFEW.out).mono ?_
  rintro e w2 ⟨rfl, hk⟩
  clear cX0 cX1 cX2 fX0 fX1 fX2 cR0 cR1 cR2 fR0 fR1 fR2
  replace OX := Lib.hid (OX.out.kept hk)
  replace OR := Lib.hid (OR.out.kept hk)
  replace K := K.trans hk
  rw [HR.out]
  clear hk
  obtain ⟨cX0, cX1, cX2, fX0, fX1, fX2⟩ := OX.out.three
  obtain ⟨cR0, cR1, cR2, fR0, fR1, fR2⟩ := OR.out.three
  go_wp2
  clear cX0 cX1 cX2 fX0 fX1 fX2 cR0 cR1 cR2 fR0 fR1 fR2
  replace OX : Hid (Own (((w2.setCell ⟨(w.heap.size + 1), 0, none⟩ (.slice none 0 0)).setCell ⟨(w.heap.size + 1), 1, none⟩ (.slice none 0 0)).setCell ⟨(w.heap.size + 1), 2, none⟩ (.int .i64 0)) w.heap.size 29 [.slice A n c, .slice A' m c', .int .i64 gv]) := Lib.hid (((OX.out.far (p := ⟨(w.heap.size + 1), 0, none⟩) (by first | omega | (simp; omega) | simp) (.slice none 0 0)).far (p := ⟨(w.heap.size + 1), 1, none⟩) (by first | omega | (simp; omega) | simp) (.slice none 0 0)).far (p := ⟨(w.heap.size + 1), 2, none⟩) (by first | omega | (simp; omega) | simp) (.int .i64 0))
  replace OR : Hid (Own (((w2.setCell ⟨(w.heap.size + 1), 0, none⟩ (.slice none 0 0)).setCell ⟨(w.heap.size + 1), 1, none⟩ (.slice none 0 0)).setCell ⟨(w.heap.size + 1), 2, none⟩ (.int .i64 0)) (w.heap.size + 1) 29 [.slice none 0 0, .slice none 0 0, .int .i64 0]) := Lib.hid (((OR.out.set_ 0 (.slice none 0 0)).set_ 1 (.slice none 0 0)).set_ 2 (.int .i64 0))
  replace K := (((K.setCell (p := ⟨(w.heap.size + 1), 0, none⟩) (by first | exact Nat.le_refl _ | (simp only []; omega) | simp) (.slice none 0 0)).setCell (p := ⟨(w.heap.size + 1), 1, none⟩) (by first | exact Nat.le_refl _ | (simp only []; omega) | simp) (.slice none 0 0)).setCell (p := ⟨(w.heap.size + 1), 2, none⟩) (by first | exact Nat.le_refl _ | (simp only []; omega) | simp) (.int .i64 0))
  generalize (((w2.setCell ⟨(w.heap.size + 1), 0, none⟩ (.slice none 0 0)).setCell ⟨(w.heap.size + 1), 1, none⟩ (.slice none 0 0)).setCell ⟨(w.heap.size + 1), 2, none⟩ (.int .i64 0)) = w3 at *
  obtain ⟨cX0, cX1, cX2, fX0, fX1, fX2⟩ := OX.out.three
  obtain ⟨cR0, cR1, cR2, fR0, fR1, fR2⟩ := OR.out.three
  refine bodyPost_ret (v := .tuple #[.agg #[.slice none 0 0, .slice none 0 0, .int .i64 0], .int .i64 1]) (by simp [results, Try.results28, go_sem, cR0, cR1, cR2]) rfl ?_
  exact ⟨_, by rw [HEX.out], by rw [HEX.out]; exact ixAt_nil _ _, K⟩

set_option maxRecDepth 100000 in
set_option maxHeartbeats 1000000 in
theorem rsub_no2 (V : List Nat) (x : Ix) (v : Value) (nm : ByteArray) (yes : Bool) (w : World) (hV : Old V w) (h : IxAt V w v x) (hok : IxOk x) (hfew : Few x) (hr : rightB x = true) (hnb : nameB nm = false) (hns : nm.size ≤ maxLen) :
    Calls Try.prog 28 #[v, .string nm, .bool yes] w (IxPost V (subR x nm yes) w) := by
  have HEX : Hid (subR x nm yes = (ix0, 1)) := by
    show _ = _
    unfold subR; rw [hr, hnb]; rfl
  have HV := Lib.hid h
  have HOV := Lib.hid hV
  have HOK := Lib.hid hok
  have HFEW := Lib.hid hfew
  have HR := Lib.hid hr
  have HNB := Lib.hid hnb
  have HNS := Lib.hid hns
  obtain ⟨A, c, A', c', rfl, hc1, hc2, hc3, hc4, hbx, hrow⟩ := (h.weak (U := []) (fun _ hk => by cases hk)).open_
  have HROW := Lib.hid hrow
  clear hbx hrow h hok hV hfew hr hnb hns
  unfold maxLen at hc2 hc4
  generalize hn : x.boxes.length = n at *
  generalize hm : x.subs.length = m at *
  generalize hg : x.given = gv at *
  have HN := Lib.hid hn
  have HM := Lib.hid hm
  have HG := Lib.hid hg
  clear hn hm hg
  go_enter Try.func28, Try.ntmps28
  go_wp2_with fail
  have OX := Lib.hid ((Own.newAt w w.heap.size 29 [.slice A n c, .slice A' m c', .int .i64 gv] (by simp)).alloc (.cells #[.slice none 0 0, .slice none 0 0, .int .i64 0] 29))
  have OR := Lib.hid (Own.newAt (w.alloc (.cells #[.slice A n c, .slice A' m c', .int .i64 gv] 29)) (w.heap.size + 1) 29 [.slice none 0 0, .slice none 0 0, .int .i64 0] (by simp))
  have K := (((Kept.refl w).alloc (.cells #[.slice A n c, .slice A' m c', .int .i64 gv] 29)).alloc (.cells #[.slice none 0 0, .slice none 0 0, .int .i64 0] 29))
  generalize ((w.alloc (.cells #[.slice A n c, .slice A' m c', .int .i64 gv] 29)).alloc (.cells #[.slice none 0 0, .slice none 0 0, .int .i64 0] 29)) = w1 at *
  obtain ⟨cX0, cX1, cX2, fX0, fX1, fX2⟩ := OX.out.three
  obtain ⟨cR0, cR1, cR2, fR0, fR1, fR2⟩ := OR.out.three
  refine (rright_any x _ _ (HV.out.go K (Ext.nil _ _)) HOK.out HFEW.out).mono ?_
  rintro e w2 ⟨rfl, hk⟩
  clear cX0 cX1 cX2 fX0 fX1 fX2 cR0 cR1 cR2 fR0 fR1 fR2
  replace OX := Lib.hid (OX.out.kept hk)
  replace OR := Lib.hid (OR.out.kept hk)
  replace K := K.trans hk
  rw [HR.out]
  clear hk
  obtain ⟨cX0, cX1, cX2, fX0, fX1, fX2⟩ := OX.out.three
  obtain ⟨cR0, cR1, cR2, fR0, fR1, fR2⟩ := OR.out.three
  go_wp2_with fail
  refine (rname_any nm _ HNS.out).mono ?_
  rintro e _ ⟨rfl, rfl⟩
  rw [HNB.out]
  go_wp2
  clear cX0 cX1 cX2 fX0 fX1 fX2 cR0 cR1 cR2 fR0 fR1 fR2
  replace OX : Hid (Own (((w2.setCell ⟨(w.heap.size + 1), 0, none⟩ (.slice none 0 0)).setCell ⟨(w.heap.size + 1), 1, none⟩ (.slice none 0 0)).setCell ⟨(w.heap.size + 1), 2, none⟩ (.int .i64 0)) w.heap.size 29 [.slice A n c, .slice A' m c', .int .i64 gv]) := Lib.hid (((OX.out.far (p := ⟨(w.heap.size + 1), 0, none⟩) (by first | omega | (simp; omega) | simp) (.slice none 0 0)).far (p := ⟨(w.heap.size + 1), 1, none⟩) (by first | omega | (simp; omega) | simp) (.slice none 0 0)).far (p := ⟨(w.heap.size + 1), 2, none⟩) (by first | omega | (simp; omega) | simp) (.int .i64 0))
  replace OR : Hid (Own (((w2.setCell ⟨(w.heap.size + 1), 0, none⟩ (.slice none 0 0)).setCell ⟨(w.heap.size + 1), 1, none⟩ (.slice none 0 0)).setCell ⟨(w.heap.size + 1), 2, none⟩ (.int .i64 0)) (w.heap.size + 1) 29 [.slice none 0 0, .slice none 0 0, .int .i64 0]) := Lib.hid (((OR.out.set_ 0 (.slice none 0 0)).set_ 1 (.slice none 0 0)).set_ 2 (.int .i64 0))
  replace K := (((K.setCell (p := ⟨(w.heap.size + 1), 0, none⟩) (by first | exact Nat.le_refl _ | (simp only []; omega) | simp) (.slice none 0 0)).setCell (p := ⟨(w.heap.size + 1), 1, none⟩) (by first | exact Nat.le_refl _ | (simp only []; omega) | simp) (.slice none 0 0)).setCell (p := ⟨(w.heap.size + 1), 2, none⟩) (by first | exact Nat.le_refl _ | (simp only []; omega) | simp) (.int .i64 0))
  generalize (((w2.setCell ⟨(w.heap.size + 1), 0, none⟩ (.slice none 0 0)).setCell ⟨(w.heap.size + 1), 1, none⟩ (.slice none 0 0)).setCell ⟨(w.heap.size + 1), 2, none⟩ (.int .i64 0)) = w3 at *
  obtain ⟨cX0, cX1, cX2, fX0, fX1, fX2⟩ := OX.out.three
  obtain ⟨cR0, cR1, cR2, fR0, fR1, fR2⟩ := OR.out.three
  refine bodyPost_ret (v := .tuple #[.agg #[.slice none 0 0, .slice none 0 0, .int .i64 0], .int .i64 1]) (by simp [results, Try.results28, go_sem, cR0, cR1, cR2]) rfl ?_
  exact ⟨_, by rw [HEX.out], by rw [HEX.out]; exact ixAt_nil _ _, K⟩

set_option maxRecDepth 100000 in
set_option maxHeartbeats 4000000 in
theorem rsub_main (V : List Nat) (x : Ix) (v : Value) (nm : ByteArray) (yes : Bool) (w : World) (hV : Old V w) (h : IxAt V w v x) (hok : IxOk x) (hfew : Few x) (hr : rightB x = true) (hnb : nameB nm = true) (hns : nm.size ≤ maxLen) (hl : x.subs.length ≤ 6) :
    Calls Try.prog 28 #[v, .string nm, .bool yes] w (IxPost V (subR x nm yes) w) := by
  have HV := Lib.hid h
  have HOV := Lib.hid hV
  have HOK := Lib.hid hok
  have HFEW := Lib.hid hfew
  have HR := Lib.hid hr
  have HNB := Lib.hid hnb
  have HNS := Lib.hid hns
  obtain ⟨A, c, A', c', rfl, hc1, hc2, hc3, hc4, hbx, hrow⟩ := (h.weak (U := []) (fun _ hk => by cases hk)).open_
  have HROW := Lib.hid hrow
  clear hbx hrow h hok hV hfew hr hnb hns
  unfold maxLen at hc2 hc4
  generalize hn : x.boxes.length = n at *
  generalize hm : x.subs.length = m at *
  generalize hg : x.given = gv at *
  have HN := Lib.hid hn
  have HM := Lib.hid hm
  have HG := Lib.hid hg
  clear hn hm hg
  go_enter Try.func28, Try.ntmps28
  go_wp2_with fail
  have OX := Lib.hid ((Own.newAt w w.heap.size 29 [.slice A n c, .slice A' m c', .int .i64 gv] (by simp)).alloc (.cells #[.slice none 0 0, .slice none 0 0, .int .i64 0] 29))
  have OR := Lib.hid (Own.newAt (w.alloc (.cells #[.slice A n c, .slice A' m c', .int .i64 gv] 29)) (w.heap.size + 1) 29 [.slice none 0 0, .slice none 0 0, .int .i64 0] (by simp))
  have K := (((Kept.refl w).alloc (.cells #[.slice A n c, .slice A' m c', .int .i64 gv] 29)).alloc (.cells #[.slice none 0 0, .slice none 0 0, .int .i64 0] 29))
  generalize ((w.alloc (.cells #[.slice A n c, .slice A' m c', .int .i64 gv] 29)).alloc (.cells #[.slice none 0 0, .slice none 0 0, .int .i64 0] 29)) = w1 at *
  obtain ⟨cX0, cX1, cX2, fX0, fX1, fX2⟩ := OX.out.three
  obtain ⟨cR0, cR1, cR2, fR0, fR1, fR2⟩ := OR.out.three
  refine (rright_any x _ _ (HV.out.go K (Ext.nil _ _)) HOK.out HFEW.out).mono ?_
  rintro e w2 ⟨rfl, hk⟩
  clear cX0 cX1 cX2 fX0 fX1 fX2 cR0 cR1 cR2 fR0 fR1 fR2
  replace OX := Lib.hid (OX.out.kept hk)
  replace OR := Lib.hid (OR.out.kept hk)
  replace K := K.trans hk
  rw [HR.out]
  clear hk
  obtain ⟨cX0, cX1, cX2, fX0, fX1, fX2⟩ := OX.out.three
  obtain ⟨cR0, cR1, cR2, fR0, fR1, fR2⟩ := OR.out.three
  go_wp2_with fail
  refine (rname_any nm _ HNS.out).mono ?_
  rintro e _ ⟨rfl, rfl⟩
  rw [HNB.out]
  go_wp2_with fail
  go_loopw [8, 9, 24] (fun av bv iv wq => ∃ (k na : Nat) (A2 : Option Addr) (ca nb : Nat) (B2 : Option Addr) (cb : Nat), k ≤ m ∧ na ≤ k ∧ nb ≤ k ∧ Hid ((lowS (x.subs.take k) nm).length = na) ∧ Hid ((highS (x.subs.take k) nm).length = nb) ∧ iv = .int .i64 k ∧ av = .slice A2 na ca ∧ bv = .slice B2 nb cb ∧ Own wq w.heap.size 29 [.slice A n c, .slice A' m c', .int .i64 gv] ∧ Own wq (w.heap.size + 1) 29 [.slice none 0 0, .slice none 0 0, .int .i64 0] ∧ wq.ownsRow (w.heap.size + 1 + 1) 9 1 (.slice A2 na ca) na ((lowS (x.subs.take k) nm).flatMap strc) ∧ wq.ownsRow (w.heap.size + 1 + 1) 9 1 (.slice B2 nb cb) nb ((highS (x.subs.take k) nm).flatMap strc) ∧ Apart (.slice A2 na ca) (.slice B2 nb cb) ∧ Kept w wq) (fun _ _ iv _ => m - (intOf iv).toNat)
  case atStart => exact ⟨0, 0, none, 0, 0, none, 0, Nat.zero_le _, Nat.le_refl _, Nat.le_refl _, rfl, rfl, rfl, rfl, rfl, OX.out, OR.out, World.ownsRow_nil _ _ _ _, World.ownsRow_nil _ _ _ _, (fun g hg => by cases hg), K⟩
  case round =>
    clear cX0 cX1 cX2 fX0 fX1 fX2 cR0 cR1 cR2 fR0 fR1 fR2
    clear OX OR K
    obtain ⟨k, na, A2, ca, nb, B2, cb, hkm, hna, hnb2, HLA, HLB, rfl, rfl, rfl, ox, or, ha, hb2, hap0, K⟩ := hrel
    have OX := Lib.hid ox
    have OR := Lib.hid or
    have HA := Lib.hid ha
    have HB := Lib.hid hb2
    have HP := Lib.hid hap0
    clear ox or ha hb2 hap0
    have zX := OX.out.lt
    have zR := OR.out.lt
    have zK := K.size
    have k0 : (0 : Int) ≤ (k : Int) := by omega
    obtain ⟨cX0, cX1, cX2, fX0, fX1, fX2⟩ := OX.out.three
    obtain ⟨cR0, cR1, cR2, fR0, fR1, fR2⟩ := OR.out.three
    by_cases hlt : k < m
    · obtain ⟨b, o, rfl, hb, _, hcs⟩ := HROW.out.kept K (by rw [strs_length, HM.out]; omega)
      have hk' : k < x.subs.length := by rw [HM.out]; exact hlt
      have g1 : wr.cell? ⟨b, o + k, none⟩ = _ := hcs _ _ (strs_at hk')
      have HTS : Hid (x.subs.take (k + 1) = x.subs.take k ++ [x.subs[k]]) := (take_snoc x.subs k hk').symm
      clear hcs
      generalize x.subs[k] = s at *
      have k1 : (k : Int) < (m : Int) := by omega
      have HLS : Hid (lowS (x.subs.take (k + 1)) nm = lowS (x.subs.take k) nm ++ lowS [s] nm) := by show _ = _; unfold lowS; rw [HTS.out, List.filter_append]
      have HHS : Hid (highS (x.subs.take (k + 1)) nm = highS (x.subs.take k) nm ++ highS [s] nm) := by show _ = _; unfold highS; rw [HTS.out, List.filter_append]
      obtain ⟨lt, hlt1⟩ : ∃ p, Op.bytesLess s.toList nm.toList = p := ⟨_, rfl⟩
      obtain ⟨eq, heq1⟩ : ∃ p, (s.toList == nm.toList) = p := ⟨_, rfl⟩
      have HGT : Hid (gtB s nm = !(lt || eq)) := by show _ = _; unfold gtB; rw [hlt1, heq1]
      have HLT : Hid (lessB s nm = lt) := hlt1
      have HBA := Lib.hid (fun bb (hb : (Value.slice A2 na ca).ownBlock = some bb) => (ownBlock_of HA.out hb).1)
      have HBB := Lib.hid (fun bb (hb : (Value.slice B2 nb cb).ownBlock = some bb) => (ownBlock_of HB.out hb).1)
      cases lt with
      | true =>
        have HNEW : Hid ((lowS (x.subs.take k) nm) ++ [s] = lowS (x.subs.take (k + 1)) nm) := by show _ = _; rw [HLS.out]; simp [lowS, HLT.out]
        have HNH : Hid (highS (x.subs.take (k + 1)) nm = (highS (x.subs.take k) nm)) := by show _ = _; rw [HHS.out]; simp [highS, HGT.out]
        have HNL : Hid ((lowS (x.subs.take (k + 1)) nm).length = na + 1) := by show _ = _; rw [← HNEW.out, List.length_append, HLA.out]; rfl
        cases eq with
        | true =>
          go_wp2_with (at_builtin; go_must (
            refine Try.elS.wpList_app rfl (.tmp 31) (.tmp 33) rfl (w.heap.size + 1 + 1) (.slice A2 na ca) (lowS (x.subs.take k) nm) rfl (by rw [HLA.out]; exact HA.out.alloc (.cells #[.string s] 9)) [] (some ⟨wr.heap.size, 0, none⟩) 1 [s] rfl ((Own.newAt wr wr.heap.size 9 [.string s] rfl).row (by simp)) (strs_flat_one _) (by rw [HLA.out]; unfold maxLen; simp; omega) (by rw [HLA.out]; simp; omega) (by simp; omega) ?_
            intro v3 w3 hap hgr hat
            rw [HNEW.out, HNL.out] at hap
            obtain ⟨A3, c3, rfl, _, _, _⟩ := own_form (V := []) hap (by simp)
            have H3 := Lib.hid hap
            have OX3 := Lib.hid ((OX.out.alloc (.cells #[.string s] 9)).appd hgr (fun bb hb => by have := HBA.out bb hb; omega))
            have OR3 := Lib.hid ((OR.out.alloc (.cells #[.string s] 9)).appd hgr (fun bb hb => by have := HBA.out bb hb; omega))
            obtain ⟨HO3, HP3⟩ : Hid (w3.ownsRow (w.heap.size + 1 + 1) 9 1 (.slice B2 nb cb) nb ((highS (x.subs.take k) nm).flatMap strc)) ∧ Hid (Apart (.slice A3 (na + 1) c3) (.slice B2 nb cb)) := apart_app HP.out (HB.out.alloc (.cells #[.string s] 9)) hgr hat
            have K3 : Kept w w3 := (K.alloc (.cells #[.string s] 9)).grown hgr (fun bb hb => by have := HBA.out bb hb; omega)
            clear hap hgr hat))
          go_roundw
          case rel => exact ⟨k + 1, na + 1, A3, c3, nb, B2, cb, by omega, by omega, by omega, HNL.out, by rw [HNH.out]; exact HLB.out, by go_num, rfl, rfl, OX3.out, OR3.out, H3.out, by rw [HNH.out]; exact HO3.out, HP3.out, K3⟩
          case measure => simp [intOf]; omega
        | false =>
          go_wp2_with (at_builtin; go_must (
            refine Try.elS.wpList_app rfl (.tmp 31) (.tmp 33) rfl (w.heap.size + 1 + 1) (.slice A2 na ca) (lowS (x.subs.take k) nm) rfl (by rw [HLA.out]; exact HA.out.alloc (.cells #[.string s] 9)) [] (some ⟨wr.heap.size, 0, none⟩) 1 [s] rfl ((Own.newAt wr wr.heap.size 9 [.string s] rfl).row (by simp)) (strs_flat_one _) (by rw [HLA.out]; unfold maxLen; simp; omega) (by rw [HLA.out]; simp; omega) (by simp; omega) ?_
            intro v3 w3 hap hgr hat
            rw [HNEW.out, HNL.out] at hap
            obtain ⟨A3, c3, rfl, _, _, _⟩ := own_form (V := []) hap (by simp)
            have H3 := Lib.hid hap
            have OX3 := Lib.hid ((OX.out.alloc (.cells #[.string s] 9)).appd hgr (fun bb hb => by have := HBA.out bb hb; omega))
            have OR3 := Lib.hid ((OR.out.alloc (.cells #[.string s] 9)).appd hgr (fun bb hb => by have := HBA.out bb hb; omega))
            obtain ⟨HO3, HP3⟩ : Hid (w3.ownsRow (w.heap.size + 1 + 1) 9 1 (.slice B2 nb cb) nb ((highS (x.subs.take k) nm).flatMap strc)) ∧ Hid (Apart (.slice A3 (na + 1) c3) (.slice B2 nb cb)) := apart_app HP.out (HB.out.alloc (.cells #[.string s] 9)) hgr hat
            have K3 : Kept w w3 := (K.alloc (.cells #[.string s] 9)).grown hgr (fun bb hb => by have := HBA.out bb hb; omega)
            clear hap hgr hat))
          go_roundw
          case rel => exact ⟨k + 1, na + 1, A3, c3, nb, B2, cb, by omega, by omega, by omega, HNL.out, by rw [HNH.out]; exact HLB.out, by go_num, rfl, rfl, OX3.out, OR3.out, H3.out, by rw [HNH.out]; exact HO3.out, HP3.out, K3⟩
          case measure => simp [intOf]; omega
      | false =>
        have HNLo : Hid (lowS (x.subs.take (k + 1)) nm = (lowS (x.subs.take k) nm)) := by show _ = _; rw [HLS.out]; simp [lowS, HLT.out]
        cases eq with
        | true =>
          have HNH : Hid (highS (x.subs.take (k + 1)) nm = (highS (x.subs.take k) nm)) := by show _ = _; rw [HHS.out]; simp [highS, HGT.out]
          go_wp2
          go_roundw
          case rel => exact ⟨k + 1, na, A2, ca, nb, B2, cb, by omega, by omega, by omega, by rw [HNLo.out]; exact HLA.out, by rw [HNH.out]; exact HLB.out, by go_num, rfl, rfl, OX.out, OR.out, by rw [HNLo.out]; exact HA.out, by rw [HNH.out]; exact HB.out, HP.out, K⟩
          case measure => simp [intOf]; omega
        | false =>
          have HNEW : Hid ((highS (x.subs.take k) nm) ++ [s] = highS (x.subs.take (k + 1)) nm) := by show _ = _; rw [HHS.out]; simp [highS, HGT.out]
          have HNL : Hid ((highS (x.subs.take (k + 1)) nm).length = nb + 1) := by show _ = _; rw [← HNEW.out, List.length_append, HLB.out]; rfl
          go_wp2_with (at_builtin; go_must (
            refine Try.elS.wpList_app rfl (.tmp 38) (.tmp 40) rfl (w.heap.size + 1 + 1) (.slice B2 nb cb) (highS (x.subs.take k) nm) rfl (by rw [HLB.out]; exact HB.out.alloc (.cells #[.string s] 9)) [] (some ⟨wr.heap.size, 0, none⟩) 1 [s] rfl ((Own.newAt wr wr.heap.size 9 [.string s] rfl).row (by simp)) (strs_flat_one _) (by rw [HLB.out]; unfold maxLen; simp; omega) (by rw [HLB.out]; simp; omega) (by simp; omega) ?_
            intro v3 w3 hap hgr hat
            rw [HNEW.out, HNL.out] at hap
            obtain ⟨A3, c3, rfl, _, _, _⟩ := own_form (V := []) hap (by simp)
            have H3 := Lib.hid hap
            have OX3 := Lib.hid ((OX.out.alloc (.cells #[.string s] 9)).appd hgr (fun bb hb => by have := HBB.out bb hb; omega))
            have OR3 := Lib.hid ((OR.out.alloc (.cells #[.string s] 9)).appd hgr (fun bb hb => by have := HBB.out bb hb; omega))
            obtain ⟨HO3, HP3⟩ : Hid (w3.ownsRow (w.heap.size + 1 + 1) 9 1 (.slice A2 na ca) na ((lowS (x.subs.take k) nm).flatMap strc)) ∧ Hid (Apart (.slice A3 (nb + 1) c3) (.slice A2 na ca)) := apart_app HP.out.symm (HA.out.alloc (.cells #[.string s] 9)) hgr hat
            have K3 : Kept w w3 := (K.alloc (.cells #[.string s] 9)).grown hgr (fun bb hb => by have := HBB.out bb hb; omega)
            clear hap hgr hat))
          go_roundw
          case rel => exact ⟨k + 1, na, A2, ca, nb + 1, A3, c3, by omega, by omega, by omega, by rw [HNLo.out]; exact HLA.out, HNL.out, by go_num, rfl, rfl, OX3.out, OR3.out, by rw [HNLo.out]; exact HO3.out, H3.out, HP3.out.symm, K3⟩
          case measure => simp [intOf]; omega
    · obtain rfl : k = m := by omega
      have HTA : Hid (x.subs.take k = x.subs) := List.take_of_length_le (by rw [HM.out]; exact Nat.le_refl _)
      rw [HTA.out] at HLA HLB HA HB
      have HEQ := Lib.hid (rsub_eq (x := x) (nm := nm) (yes := yes) HR.out HNB.out)
      have HBA := Lib.hid (fun bb (hb : (Value.slice A2 na ca).ownBlock = some bb) => (ownBlock_of HA.out hb).1)
      cases yes with
      | false =>
        have HRL : Hid (rsubL x.subs nm false = lowS x.subs nm ++ highS x.subs nm) := by show _ = _; simp [rsubL]
        have HSUM : Hid ((rsubL x.subs nm false).length = na + nb) := by show _ = _; rw [HRL.out, List.length_append, HLA.out, HLB.out]
        by_cases h6 : 6 < na + nb
        · have h6' : (6 : Int) < ((na : Nat) : Int) + (nb : Int) := by omega
          have HEX : Hid (subR x nm false = (ix0, 5)) := by show _ = _; rw [HEQ.out, HSUM.out, if_pos h6]
          go_wp2
          clear cX0 cX1 cX2 fX0 fX1 fX2 cR0 cR1 cR2 fR0 fR1 fR2
          replace OX : Hid (Own (((wr.setCell ⟨(w.heap.size + 1), 0, none⟩ (.slice none 0 0)).setCell ⟨(w.heap.size + 1), 1, none⟩ (.slice none 0 0)).setCell ⟨(w.heap.size + 1), 2, none⟩ (.int .i64 0)) w.heap.size 29 [.slice A n c, .slice A' k c', .int .i64 gv]) := Lib.hid (((OX.out.far (p := ⟨(w.heap.size + 1), 0, none⟩) (by first | omega | (simp; omega) | simp) (.slice none 0 0)).far (p := ⟨(w.heap.size + 1), 1, none⟩) (by first | omega | (simp; omega) | simp) (.slice none 0 0)).far (p := ⟨(w.heap.size + 1), 2, none⟩) (by first | omega | (simp; omega) | simp) (.int .i64 0))
          replace OR : Hid (Own (((wr.setCell ⟨(w.heap.size + 1), 0, none⟩ (.slice none 0 0)).setCell ⟨(w.heap.size + 1), 1, none⟩ (.slice none 0 0)).setCell ⟨(w.heap.size + 1), 2, none⟩ (.int .i64 0)) (w.heap.size + 1) 29 [.slice none 0 0, .slice none 0 0, .int .i64 0]) := Lib.hid (((OR.out.set_ 0 (.slice none 0 0)).set_ 1 (.slice none 0 0)).set_ 2 (.int .i64 0))
          replace K := (((K.setCell (p := ⟨(w.heap.size + 1), 0, none⟩) (by first | exact Nat.le_refl _ | (simp only []; omega) | simp) (.slice none 0 0)).setCell (p := ⟨(w.heap.size + 1), 1, none⟩) (by first | exact Nat.le_refl _ | (simp only []; omega) | simp) (.slice none 0 0)).setCell (p := ⟨(w.heap.size + 1), 2, none⟩) (by first | exact Nat.le_refl _ | (simp only []; omega) | simp) (.int .i64 0))
          generalize (((wr.setCell ⟨(w.heap.size + 1), 0, none⟩ (.slice none 0 0)).setCell ⟨(w.heap.size + 1), 1, none⟩ (.slice none 0 0)).setCell ⟨(w.heap.size + 1), 2, none⟩ (.int .i64 0)) = wz1 at *
          obtain ⟨cX0, cX1, cX2, fX0, fX1, fX2⟩ := OX.out.three
          obtain ⟨cR0, cR1, cR2, fR0, fR1, fR2⟩ := OR.out.three
          refine bodyPost_ret (v := .tuple #[.agg #[.slice none 0 0, .slice none 0 0, .int .i64 0], .int .i64 5]) (by simp [results, Try.results28, go_sem, cR0, cR1, cR2]) rfl ?_
          exact ⟨_, by rw [HEX.out], by rw [HEX.out]; exact ixAt_nil _ _, K⟩
        · have h6' : ¬ (6 : Int) < ((na : Nat) : Int) + (nb : Int) := by omega
          have HEX : Hid (subR x nm false = (subIx x (rsubL x.subs nm false), 0)) := by show _ = _; rw [HEQ.out, HSUM.out, if_neg h6]
          obtain ⟨_, _, e, e1, e2, e3⟩ := own_form (V := []) HB.out (by simp)
          cases e
          have HRB := Lib.hid e3
          clear e1 e2 e3
          go_wp2_with (at_builtin; go_must (
            refine Try.elS.wpList_app rfl (.tmp 55) (.tmp 56) rfl (w.heap.size + 1 + 1) (.slice A2 (na) ca) (lowS x.subs nm) rfl (by rw [HLA.out]; exact HA.out) [] B2 cb (highS x.subs nm) (by rw [HLB.out]; rfl) HRB.out (strs_flat_one _) (by rw [HLA.out, HLB.out]; unfold maxLen; omega) (by rw [HLA.out, HLB.out]; omega) (by omega) ?_
            intro v9 w9 hap hgr hat
            rw [← HRL.out, HSUM.out] at hap
            obtain ⟨A9, c9, rfl, _, _, _⟩ := own_form (V := []) hap (by simp)
            have H9 := Lib.hid hap
            have OX9 := Lib.hid (OX.out.appd hgr (fun bb hb => by have := HBA.out bb hb; omega))
            have OR9 := Lib.hid (OR.out.appd hgr (fun bb hb => by have := HBA.out bb hb; omega))
            have K9 : Kept w w9 := K.grown hgr (fun bb hb => by have := HBA.out bb hb; omega)
            clear cX0 cX1 cX2 fX0 fX1 fX2 cR0 cR1 cR2 fR0 fR1 fR2
            obtain ⟨cX0, cX1, cX2, fX0, fX1, fX2⟩ := OX9.out.three
            obtain ⟨cR0, cR1, cR2, fR0, fR1, fR2⟩ := OR9.out.three
            clear hap hgr hat OX OR))
          have OX := OX9
          have OR := OR9
          clear K
          have K := K9
          clear OX9 OR9 K9 HA HB
          clear cX0 cX1 cX2 fX0 fX1 fX2 cR0 cR1 cR2 fR0 fR1 fR2
          replace OX : Hid (Own (w9.setCell ⟨w.heap.size, 1, none⟩ (.slice A9 (na + nb) c9)) w.heap.size 29 [.slice A n c, .slice A9 (na + nb) c9, .int .i64 gv]) := Lib.hid (OX.out.set_ 1 (.slice A9 (na + nb) c9))
          replace OR : Hid (Own (w9.setCell ⟨w.heap.size, 1, none⟩ (.slice A9 (na + nb) c9)) (w.heap.size + 1) 29 [.slice none 0 0, .slice none 0 0, .int .i64 0]) := Lib.hid (OR.out.far (p := ⟨w.heap.size, 1, none⟩) (by first | omega | (simp; omega) | simp) (.slice A9 (na + nb) c9))
          replace H9 := Lib.hid (ownsRow_setCell_other H9.out (a := ⟨w.heap.size, 1, none⟩) (fun e => by first | (have := ownBlock_eq e; (try dsimp only at this); omega) | (have := (H9.out.lt _ e).1; (try dsimp only at this); omega)) (.slice A9 (na + nb) c9))
          replace K := (K.setCell (p := ⟨w.heap.size, 1, none⟩) (by first | exact Nat.le_refl _ | (simp only []; omega) | simp) (.slice A9 (na + nb) c9))
          generalize (w9.setCell ⟨w.heap.size, 1, none⟩ (.slice A9 (na + nb) c9)) = we1 at *
          replace OX : Hid (Own (((we1.setCell ⟨(w.heap.size + 1), 0, none⟩ (.slice A n c)).setCell ⟨(w.heap.size + 1), 1, none⟩ (.slice A9 (na + nb) c9)).setCell ⟨(w.heap.size + 1), 2, none⟩ (.int .i64 gv)) w.heap.size 29 [.slice A n c, .slice A9 (na + nb) c9, .int .i64 gv]) := Lib.hid (((OX.out.far (p := ⟨(w.heap.size + 1), 0, none⟩) (by first | omega | (simp; omega) | simp) (.slice A n c)).far (p := ⟨(w.heap.size + 1), 1, none⟩) (by first | omega | (simp; omega) | simp) (.slice A9 (na + nb) c9)).far (p := ⟨(w.heap.size + 1), 2, none⟩) (by first | omega | (simp; omega) | simp) (.int .i64 gv))
          replace OR : Hid (Own (((we1.setCell ⟨(w.heap.size + 1), 0, none⟩ (.slice A n c)).setCell ⟨(w.heap.size + 1), 1, none⟩ (.slice A9 (na + nb) c9)).setCell ⟨(w.heap.size + 1), 2, none⟩ (.int .i64 gv)) (w.heap.size + 1) 29 [.slice A n c, .slice A9 (na + nb) c9, .int .i64 gv]) := Lib.hid (((OR.out.set_ 0 (.slice A n c)).set_ 1 (.slice A9 (na + nb) c9)).set_ 2 (.int .i64 gv))
          replace H9 := Lib.hid (ownsRow_setCell_other (ownsRow_setCell_other (ownsRow_setCell_other H9.out (a := ⟨(w.heap.size + 1), 0, none⟩) (fun e => by first | (have := ownBlock_eq e; (try dsimp only at this); omega) | (have := (H9.out.lt _ e).1; (try dsimp only at this); omega)) (.slice A n c)) (a := ⟨(w.heap.size + 1), 1, none⟩) (fun e => by first | (have := ownBlock_eq e; (try dsimp only at this); omega) | (have := (H9.out.lt _ e).1; (try dsimp only at this); omega)) (.slice A9 (na + nb) c9)) (a := ⟨(w.heap.size + 1), 2, none⟩) (fun e => by first | (have := ownBlock_eq e; (try dsimp only at this); omega) | (have := (H9.out.lt _ e).1; (try dsimp only at this); omega)) (.int .i64 gv))
          replace K := (((K.setCell (p := ⟨(w.heap.size + 1), 0, none⟩) (by first | exact Nat.le_refl _ | (simp only []; omega) | simp) (.slice A n c)).setCell (p := ⟨(w.heap.size + 1), 1, none⟩) (by first | exact Nat.le_refl _ | (simp only []; omega) | simp) (.slice A9 (na + nb) c9)).setCell (p := ⟨(w.heap.size + 1), 2, none⟩) (by first | exact Nat.le_refl _ | (simp only []; omega) | simp) (.int .i64 gv))
          generalize (((we1.setCell ⟨(w.heap.size + 1), 0, none⟩ (.slice A n c)).setCell ⟨(w.heap.size + 1), 1, none⟩ (.slice A9 (na + nb) c9)).setCell ⟨(w.heap.size + 1), 2, none⟩ (.int .i64 gv)) = we2 at *
          obtain ⟨cX0, cX1, cX2, fX0, fX1, fX2⟩ := OX.out.three
          obtain ⟨cR0, cR1, cR2, fR0, fR1, fR2⟩ := OR.out.three
          refine bodyPost_ret (v := .tuple #[.agg #[.slice A n c, .slice A9 (na + nb) c9, .int .i64 gv], .int .i64 0]) (by simp [results, Try.results28, go_sem, cR0, cR1, cR2]) rfl ?_
          refine ⟨_, by rw [HEX.out], ?_, K⟩
          rw [HEX.out]
          obtain ⟨_, _, e, e1, e2, e3⟩ := own_form (V := V) H9.out (fun k hk => by have := HOV.out k hk; omega)
          cases e
          obtain ⟨h1, h2, h3⟩ := HV.out.parts
          exact ⟨_, _, by rw [h1]; rfl, h2.go K (Ext.refl _ _), ⟨_, _, by rw [show (subIx x (rsubL x.subs nm false)).subs = rsubL x.subs nm false from rfl, HSUM.out], by rw [show (subIx x (rsubL x.subs nm false)).subs = rsubL x.subs nm false from rfl, HSUM.out]; exact e1, e2, by rw [strs_flat] at e3; exact e3⟩⟩
      | true =>
        have HRL : Hid (rsubL x.subs nm true = (lowS x.subs nm ++ [nm]) ++ highS x.subs nm) := by show _ = _; simp [rsubL]
        have HNL : Hid ((lowS x.subs nm ++ [nm]).length = na + 1) := by show _ = _; rw [List.length_append, HLA.out]; rfl
        go_upto_region 14 with (at_builtin; go_must (
          refine Try.elS.wpList_app rfl (.tmp 44) (.tmp 46) rfl (w.heap.size + 1 + 1) (.slice A2 na ca) (lowS x.subs nm) rfl (by rw [HLA.out]; exact HA.out.alloc (.cells #[.string nm] 9)) [] (some ⟨wr.heap.size, 0, none⟩) 1 [nm] rfl ((Own.newAt wr wr.heap.size 9 [.string nm] rfl).row (by simp)) (strs_flat_one _) (by rw [HLA.out]; unfold maxLen; simp; omega) (by rw [HLA.out]; simp; omega) (by simp; omega) ?_
          intro v3 w3 hap hgr hat
          rw [HNL.out] at hap
          obtain ⟨A3, c3, rfl, _, _, _⟩ := own_form (V := []) hap (by simp)
          have H3 := Lib.hid hap
          have OX3 := Lib.hid ((OX.out.alloc (.cells #[.string nm] 9)).appd hgr (fun bb hb => by have := HBA.out bb hb; omega))
          have OR3 := Lib.hid ((OR.out.alloc (.cells #[.string nm] 9)).appd hgr (fun bb hb => by have := HBA.out bb hb; omega))
          obtain ⟨HO3, HP3⟩ : Hid (w3.ownsRow (w.heap.size + 1 + 1) 9 1 (.slice B2 nb cb) nb ((highS x.subs nm).flatMap strc)) ∧ Hid (Apart (.slice A3 (na + 1) c3) (.slice B2 nb cb)) := apart_app HP.out (HB.out.alloc (.cells #[.string nm] 9)) hgr hat
          have K3 : Kept w w3 := (K.alloc (.cells #[.string nm] 9)).grown hgr (fun bb hb => by have := HBA.out bb hb; omega)
          clear cX0 cX1 cX2 fX0 fX1 fX2 cR0 cR1 cR2 fR0 fR1 fR2
          clear hap hgr hat OX OR
          obtain ⟨cX0, cX1, cX2, fX0, fX1, fX2⟩ := OX3.out.three
          obtain ⟨cR0, cR1, cR2, fR0, fR1, fR2⟩ := OR3.out.three))
        clear HA HB HP HBA HLA K zX zR zK
        have OX := OX3
        have OR := OR3
        have HA := H3
        have HB := HO3
        have HP := HP3
        have HLA := HNL
        have K := K3
        clear OX3 OR3 H3 HO3 HP3 K3 HNL
        have zX := OX.out.lt
        have zR := OR.out.lt
        have zK := K.size
        have HBA := Lib.hid (fun bb (hb : (Value.slice A3 (na + 1) c3).ownBlock = some bb) => (ownBlock_of HA.out hb).1)
        have HSUM : Hid ((rsubL x.subs nm true).length = na + 1 + nb) := by show _ = _; rw [HRL.out, List.length_append, HLA.out, HLB.out]
        by_cases h6 : 6 < na + 1 + nb
        · have h6' : (6 : Int) < ((na : Nat) : Int) + 1 + (nb : Int) := by omega
          have HEX : Hid (subR x nm true = (ix0, 5)) := by show _ = _; rw [HEQ.out, HSUM.out, if_pos h6]
          go_wp2
          clear cX0 cX1 cX2 fX0 fX1 fX2 cR0 cR1 cR2 fR0 fR1 fR2
          replace OX : Hid (Own (((w3.setCell ⟨(w.heap.size + 1), 0, none⟩ (.slice none 0 0)).setCell ⟨(w.heap.size + 1), 1, none⟩ (.slice none 0 0)).setCell ⟨(w.heap.size + 1), 2, none⟩ (.int .i64 0)) w.heap.size 29 [.slice A n c, .slice A' k c', .int .i64 gv]) := Lib.hid (((OX.out.far (p := ⟨(w.heap.size + 1), 0, none⟩) (by first | omega | (simp; omega) | simp) (.slice none 0 0)).far (p := ⟨(w.heap.size + 1), 1, none⟩) (by first | omega | (simp; omega) | simp) (.slice none 0 0)).far (p := ⟨(w.heap.size + 1), 2, none⟩) (by first | omega | (simp; omega) | simp) (.int .i64 0))
          replace OR : Hid (Own (((w3.setCell ⟨(w.heap.size + 1), 0, none⟩ (.slice none 0 0)).setCell ⟨(w.heap.size + 1), 1, none⟩ (.slice none 0 0)).setCell ⟨(w.heap.size + 1), 2, none⟩ (.int .i64 0)) (w.heap.size + 1) 29 [.slice none 0 0, .slice none 0 0, .int .i64 0]) := Lib.hid (((OR.out.set_ 0 (.slice none 0 0)).set_ 1 (.slice none 0 0)).set_ 2 (.int .i64 0))
          replace K := (((K.setCell (p := ⟨(w.heap.size + 1), 0, none⟩) (by first | exact Nat.le_refl _ | (simp only []; omega) | simp) (.slice none 0 0)).setCell (p := ⟨(w.heap.size + 1), 1, none⟩) (by first | exact Nat.le_refl _ | (simp only []; omega) | simp) (.slice none 0 0)).setCell (p := ⟨(w.heap.size + 1), 2, none⟩) (by first | exact Nat.le_refl _ | (simp only []; omega) | simp) (.int .i64 0))
          generalize (((w3.setCell ⟨(w.heap.size + 1), 0, none⟩ (.slice none 0 0)).setCell ⟨(w.heap.size + 1), 1, none⟩ (.slice none 0 0)).setCell ⟨(w.heap.size + 1), 2, none⟩ (.int .i64 0)) = wz1 at *
          obtain ⟨cX0, cX1, cX2, fX0, fX1, fX2⟩ := OX.out.three
          obtain ⟨cR0, cR1, cR2, fR0, fR1, fR2⟩ := OR.out.three
          refine bodyPost_ret (v := .tuple #[.agg #[.slice none 0 0, .slice none 0 0, .int .i64 0], .int .i64 5]) (by simp [results, Try.results28, go_sem, cR0, cR1, cR2]) rfl ?_
          exact ⟨_, by rw [HEX.out], by rw [HEX.out]; exact ixAt_nil _ _, K⟩
        · have h6' : ¬ (6 : Int) < ((na : Nat) : Int) + 1 + (nb : Int) := by omega
          have HEX : Hid (subR x nm true = (subIx x (rsubL x.subs nm true), 0)) := by show _ = _; rw [HEQ.out, HSUM.out, if_neg h6]
          obtain ⟨_, _, e, e1, e2, e3⟩ := own_form (V := []) HB.out (by simp)
          cases e
          have HRB := Lib.hid e3
          clear e1 e2 e3
          go_wp2_with (at_builtin; go_must (
            refine Try.elS.wpList_app rfl (.tmp 55) (.tmp 56) rfl (w.heap.size + 1 + 1) (.slice A3 (na + 1) c3) (lowS x.subs nm ++ [nm]) rfl (by rw [HLA.out]; exact HA.out) [] B2 cb (highS x.subs nm) (by rw [HLB.out]; rfl) HRB.out (strs_flat_one _) (by rw [HLA.out, HLB.out]; unfold maxLen; omega) (by rw [HLA.out, HLB.out]; omega) (by omega) ?_
            intro v9 w9 hap hgr hat
            rw [← HRL.out, HSUM.out] at hap
            obtain ⟨A9, c9, rfl, _, _, _⟩ := own_form (V := []) hap (by simp)
            have H9 := Lib.hid hap
            have OX9 := Lib.hid (OX.out.appd hgr (fun bb hb => by have := HBA.out bb hb; omega))
            have OR9 := Lib.hid (OR.out.appd hgr (fun bb hb => by have := HBA.out bb hb; omega))
            have K9 : Kept w w9 := K.grown hgr (fun bb hb => by have := HBA.out bb hb; omega)
            clear cX0 cX1 cX2 fX0 fX1 fX2 cR0 cR1 cR2 fR0 fR1 fR2
            obtain ⟨cX0, cX1, cX2, fX0, fX1, fX2⟩ := OX9.out.three
            obtain ⟨cR0, cR1, cR2, fR0, fR1, fR2⟩ := OR9.out.three
            clear hap hgr hat OX OR))
          have OX := OX9
          have OR := OR9
          clear K
          have K := K9
          clear OX9 OR9 K9 HA HB
          clear cX0 cX1 cX2 fX0 fX1 fX2 cR0 cR1 cR2 fR0 fR1 fR2
          replace OX : Hid (Own (w9.setCell ⟨w.heap.size, 1, none⟩ (.slice A9 (na + 1 + nb) c9)) w.heap.size 29 [.slice A n c, .slice A9 (na + 1 + nb) c9, .int .i64 gv]) := Lib.hid (OX.out.set_ 1 (.slice A9 (na + 1 + nb) c9))
          replace OR : Hid (Own (w9.setCell ⟨w.heap.size, 1, none⟩ (.slice A9 (na + 1 + nb) c9)) (w.heap.size + 1) 29 [.slice none 0 0, .slice none 0 0, .int .i64 0]) := Lib.hid (OR.out.far (p := ⟨w.heap.size, 1, none⟩) (by first | omega | (simp; omega) | simp) (.slice A9 (na + 1 + nb) c9))
          replace H9 := Lib.hid (ownsRow_setCell_other H9.out (a := ⟨w.heap.size, 1, none⟩) (fun e => by first | (have := ownBlock_eq e; (try dsimp only at this); omega) | (have := (H9.out.lt _ e).1; (try dsimp only at this); omega)) (.slice A9 (na + 1 + nb) c9))
          replace K := (K.setCell (p := ⟨w.heap.size, 1, none⟩) (by first | exact Nat.le_refl _ | (simp only []; omega) | simp) (.slice A9 (na + 1 + nb) c9))
          generalize (w9.setCell ⟨w.heap.size, 1, none⟩ (.slice A9 (na + 1 + nb) c9)) = we1 at *
          replace OX : Hid (Own (((we1.setCell ⟨(w.heap.size + 1), 0, none⟩ (.slice A n c)).setCell ⟨(w.heap.size + 1), 1, none⟩ (.slice A9 (na + 1 + nb) c9)).setCell ⟨(w.heap.size + 1), 2, none⟩ (.int .i64 gv)) w.heap.size 29 [.slice A n c, .slice A9 (na + 1 + nb) c9, .int .i64 gv]) := Lib.hid (((OX.out.far (p := ⟨(w.heap.size + 1), 0, none⟩) (by first | omega | (simp; omega) | simp) (.slice A n c)).far (p := ⟨(w.heap.size + 1), 1, none⟩) (by first | omega | (simp; omega) | simp) (.slice A9 (na + 1 + nb) c9)).far (p := ⟨(w.heap.size + 1), 2, none⟩) (by first | omega | (simp; omega) | simp) (.int .i64 gv))
          replace OR : Hid (Own (((we1.setCell ⟨(w.heap.size + 1), 0, none⟩ (.slice A n c)).setCell ⟨(w.heap.size + 1), 1, none⟩ (.slice A9 (na + 1 + nb) c9)).setCell ⟨(w.heap.size + 1), 2, none⟩ (.int .i64 gv)) (w.heap.size + 1) 29 [.slice A n c, .slice A9 (na + 1 + nb) c9, .int .i64 gv]) := Lib.hid (((OR.out.set_ 0 (.slice A n c)).set_ 1 (.slice A9 (na + 1 + nb) c9)).set_ 2 (.int .i64 gv))
          replace H9 := Lib.hid (ownsRow_setCell_other (ownsRow_setCell_other (ownsRow_setCell_other H9.out (a := ⟨(w.heap.size + 1), 0, none⟩) (fun e => by first | (have := ownBlock_eq e; (try dsimp only at this); omega) | (have := (H9.out.lt _ e).1; (try dsimp only at this); omega)) (.slice A n c)) (a := ⟨(w.heap.size + 1), 1, none⟩) (fun e => by first | (have := ownBlock_eq e; (try dsimp only at this); omega) | (have := (H9.out.lt _ e).1; (try dsimp only at this); omega)) (.slice A9 (na + 1 + nb) c9)) (a := ⟨(w.heap.size + 1), 2, none⟩) (fun e => by first | (have := ownBlock_eq e; (try dsimp only at this); omega) | (have := (H9.out.lt _ e).1; (try dsimp only at this); omega)) (.int .i64 gv))
          replace K := (((K.setCell (p := ⟨(w.heap.size + 1), 0, none⟩) (by first | exact Nat.le_refl _ | (simp only []; omega) | simp) (.slice A n c)).setCell (p := ⟨(w.heap.size + 1), 1, none⟩) (by first | exact Nat.le_refl _ | (simp only []; omega) | simp) (.slice A9 (na + 1 + nb) c9)).setCell (p := ⟨(w.heap.size + 1), 2, none⟩) (by first | exact Nat.le_refl _ | (simp only []; omega) | simp) (.int .i64 gv))
          generalize (((we1.setCell ⟨(w.heap.size + 1), 0, none⟩ (.slice A n c)).setCell ⟨(w.heap.size + 1), 1, none⟩ (.slice A9 (na + 1 + nb) c9)).setCell ⟨(w.heap.size + 1), 2, none⟩ (.int .i64 gv)) = we2 at *
          obtain ⟨cX0, cX1, cX2, fX0, fX1, fX2⟩ := OX.out.three
          obtain ⟨cR0, cR1, cR2, fR0, fR1, fR2⟩ := OR.out.three
          refine bodyPost_ret (v := .tuple #[.agg #[.slice A n c, .slice A9 (na + 1 + nb) c9, .int .i64 gv], .int .i64 0]) (by simp [results, Try.results28, go_sem, cR0, cR1, cR2]) rfl ?_
          refine ⟨_, by rw [HEX.out], ?_, K⟩
          rw [HEX.out]
          obtain ⟨_, _, e, e1, e2, e3⟩ := own_form (V := V) H9.out (fun k hk => by have := HOV.out k hk; omega)
          cases e
          obtain ⟨h1, h2, h3⟩ := HV.out.parts
          exact ⟨_, _, by rw [h1]; rfl, h2.go K (Ext.refl _ _), ⟨_, _, by rw [show (subIx x (rsubL x.subs nm true)).subs = rsubL x.subs nm true from rfl, HSUM.out], by rw [show (subIx x (rsubL x.subs nm true)).subs = rsubL x.subs nm true from rfl, HSUM.out]; exact e1, e2, by rw [strs_flat] at e3; exact e3⟩⟩

theorem rsub_any (V : List Nat) (x : Ix) (v : Value) (nm : ByteArray) (yes : Bool) (w : World) (hV : Old V w) (h : IxAt V w v x) (hok : IxOk x) (hfew : Few x) (hns : nm.size ≤ maxLen) :
    Calls Try.prog 28 #[v, .string nm, .bool yes] w (IxPost V (subR x nm yes) w) := by
  rcases Bool.eq_false_or_eq_true (rightB x) with hr | hr
  · rcases Bool.eq_false_or_eq_true (nameB nm) with hn | hn
    · exact rsub_main V x v nm yes w hV h hok hfew hr hn hns (right_list hr).subs.1
    · exact rsub_no2 V x v nm yes w hV h hok hfew hr hn hns
  · exact rsub_no1 V x v nm yes w hV h hok hfew hr
end Go.Proofs.Ytjinnkbnllnllaa
