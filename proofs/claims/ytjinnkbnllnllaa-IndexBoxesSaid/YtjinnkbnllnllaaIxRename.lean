/- Walk: index.Rename. -/
import Derived.Test.YtjinnkbnllnllaaIxMove
namespace Go.Proofs.Ytjinnkbnllnllaa
open Go.RowKit

theorem mov_cre {x : Ix} {nm : ByteArray} (hr : rightB x = true) (hnb : nameB nm = true) (hf : findX x nm = none) : (creR x nm = (ix0, 5) ∧ movR x nm = (ix0, 5)) ∨ (creR x nm = (⟨insX x.boxes ⟨nm, x.given, 1, []⟩, x.subs, x.given + 1⟩, 0) ∧ movR x nm = (movIx x nm, 0) ∧ 1 ≤ x.given ∧ ¬ 4294967295 ≤ x.given) := by
  obtain ⟨_, _, _, h4, _⟩ := right_len hr
  simp only [posB, Bool.and_eq_true, decide_eq_true_eq] at h4
  unfold creR movR
  rw [hr, hnb, hf]
  by_cases h : (decide (6 ≤ x.boxes.length) || decide (4294967295 ≤ x.given)) = true
  · left
    exact ⟨by simp only [Bool.and_true, if_true]; rw [if_pos h], by rw [if_pos h]⟩
  · right
    refine ⟨by simp only [Bool.and_true, if_true]; rw [if_neg h], by rw [if_neg h], h4.1, ?_⟩
    rw [Bool.or_eq_true, decide_eq_true_eq, decide_eq_true_eq] at h
    omega
theorem mov_any (V : List Nat) (x : Ix) (v : Value) (nm : ByteArray) (w : World) (hV : Old V w) (h : IxAt V w v x) (hok : IxOk x) (hr : rightB x = true) (hnb : nameB nm = true) (hns : nm.size ≤ maxLen) (hf : findX x nm = none) :
    Calls Try.prog 54 #[v, .string nm] w (IxPost V (movR x nm) w) := by
  obtain ⟨h1, h2, _⟩ := right_len hr
  rcases mov_cre hr hnb hf with ⟨a, b⟩ | ⟨a, b, c, d⟩
  · exact mov_no V x v nm w hV h hok hr hnb hns hf h1 h2 a b
  · exact mov_main V x v nm w hV h hok hr hnb hns hf h1 h2 a b c d
def reName (b : Bx) (nm : ByteArray) : Bx := ⟨nm, b.val, b.next, b.mails⟩
/-- The index with a mailbox under another name. -/
def renR (x : Ix) (fr tn : ByteArray) : Ix × Int :=
  if rightB x && nameB tn then
    match findX x fr with
    | none => (ix0, 6)
    | some a => match findX x tn with
      | some _ => (ix0, 8)
      | none => if nmEq fr inbox then movR x tn else (⟨insX (x.boxes.eraseIdx a) (reName (bxAt x a) tn), x.subs, x.given⟩, 0)
  else (ix0, 1)

set_option maxRecDepth 100000 in
set_option maxHeartbeats 1000000 in
theorem ren_no1 (V : List Nat) (x : Ix) (v : Value) (fr tn : ByteArray) (w : World) (hV : Old V w) (h : IxAt V w v x) (hok : IxOk x) (hr : rightB x = false) :
    Calls Try.prog 24 #[v, .string fr, .string tn] w (IxPost V (renR x fr tn) w) := by
  have HEX : Hid (renR x fr tn = (ix0, 1)) := by
    show _ = _
    unfold renR; rw [hr]; rfl
  have HV := Lib.hid h
  have HOV := Lib.hid hV
  have HOK := Lib.hid hok
  have HR := Lib.hid hr
  obtain ⟨A, c, A', c', rfl, hc1, hc2, hc3, hc4, hbx, hrow⟩ := (h.weak (U := []) (fun _ hk => by cases hk)).open_
  have HROW := Lib.hid hrow
  clear hbx hrow h hok hV hr
  unfold maxLen at hc2 hc4
  generalize hn : x.boxes.length = n at *
  generalize hm : x.subs.length = m at *
  generalize hg : x.given = gv at *
  have HN := Lib.hid hn
  have HM := Lib.hid hm
  have HG := Lib.hid hg
  clear hn hm hg
  have hlit := inbox_lit
  go_enter Try.func24, Try.ntmps24
  go_wp2_with fail
  have OX := Lib.hid ((Own.newAt w w.heap.size 25 [.slice A n c, .slice A' m c', .int .i64 gv] (by simp)).alloc (.cells #[.slice none 0 0, .slice none 0 0, .int .i64 0] 25))
  have OR := Lib.hid (Own.newAt (w.alloc (.cells #[.slice A n c, .slice A' m c', .int .i64 gv] 25)) (w.heap.size + 1) 25 [.slice none 0 0, .slice none 0 0, .int .i64 0] (by simp))
  have K := (((Kept.refl w).alloc (.cells #[.slice A n c, .slice A' m c', .int .i64 gv] 25)).alloc (.cells #[.slice none 0 0, .slice none 0 0, .int .i64 0] 25))
  generalize ((w.alloc (.cells #[.slice A n c, .slice A' m c', .int .i64 gv] 25)).alloc (.cells #[.slice none 0 0, .slice none 0 0, .int .i64 0] 25)) = w1 at *
  obtain ⟨cX0, cX1, cX2, fX0, fX1, fX2⟩ := OX.out.three
  obtain ⟨cR0, cR1, cR2, fR0, fR1, fR2⟩ := OR.out.three
  refine (right_any x _ _ (HV.out.go K (Ext.nil _ _)) HOK.out).mono ?_
  rintro e w2 ⟨rfl, hk⟩
  clear cX0 cX1 cX2 fX0 fX1 fX2 cR0 cR1 cR2 fR0 fR1 fR2
  replace OX := Lib.hid (OX.out.kept hk)
  replace OR := Lib.hid (OR.out.kept hk)
  replace K := K.trans hk
  rw [HR.out]
  clear hk
  obtain ⟨cX0, cX1, cX2, fX0, fX1, fX2⟩ := OX.out.three
  obtain ⟨cR0, cR1, cR2, fR0, fR1, fR2⟩ := OR.out.three
  go_wp2
  clear cX0 cX1 cX2 fX0 fX1 fX2 cR0 cR1 cR2 fR0 fR1 fR2
  replace OX : Hid (Own (((w2.setCell ⟨(w.heap.size + 1), 0, none⟩ (.slice none 0 0)).setCell ⟨(w.heap.size + 1), 1, none⟩ (.slice none 0 0)).setCell ⟨(w.heap.size + 1), 2, none⟩ (.int .i64 0)) w.heap.size 25 [.slice A n c, .slice A' m c', .int .i64 gv]) := Lib.hid (((OX.out.far (p := ⟨(w.heap.size + 1), 0, none⟩) (by first | omega | (simp; omega) | simp) (.slice none 0 0)).far (p := ⟨(w.heap.size + 1), 1, none⟩) (by first | omega | (simp; omega) | simp) (.slice none 0 0)).far (p := ⟨(w.heap.size + 1), 2, none⟩) (by first | omega | (simp; omega) | simp) (.int .i64 0))
  replace OR : Hid (Own (((w2.setCell ⟨(w.heap.size + 1), 0, none⟩ (.slice none 0 0)).setCell ⟨(w.heap.size + 1), 1, none⟩ (.slice none 0 0)).setCell ⟨(w.heap.size + 1), 2, none⟩ (.int .i64 0)) (w.heap.size + 1) 25 [.slice none 0 0, .slice none 0 0, .int .i64 0]) := Lib.hid (((OR.out.set_ 0 (.slice none 0 0)).set_ 1 (.slice none 0 0)).set_ 2 (.int .i64 0))
  replace K := (((K.setCell (p := ⟨(w.heap.size + 1), 0, none⟩) (by first | exact Nat.le_refl _ | (simp only []; omega) | simp) (.slice none 0 0)).setCell (p := ⟨(w.heap.size + 1), 1, none⟩) (by first | exact Nat.le_refl _ | (simp only []; omega) | simp) (.slice none 0 0)).setCell (p := ⟨(w.heap.size + 1), 2, none⟩) (by first | exact Nat.le_refl _ | (simp only []; omega) | simp) (.int .i64 0))
  generalize (((w2.setCell ⟨(w.heap.size + 1), 0, none⟩ (.slice none 0 0)).setCell ⟨(w.heap.size + 1), 1, none⟩ (.slice none 0 0)).setCell ⟨(w.heap.size + 1), 2, none⟩ (.int .i64 0)) = w3 at *
  obtain ⟨cX0, cX1, cX2, fX0, fX1, fX2⟩ := OX.out.three
  obtain ⟨cR0, cR1, cR2, fR0, fR1, fR2⟩ := OR.out.three
  refine bodyPost_ret (v := .tuple #[.agg #[.slice none 0 0, .slice none 0 0, .int .i64 0], .int .i64 1]) (by simp [results, Try.results24, go_sem, cR0, cR1, cR2]) rfl ?_
  exact ⟨_, by rw [HEX.out], by rw [HEX.out]; exact ixAt_nil _ _, K⟩

set_option maxRecDepth 100000 in
set_option maxHeartbeats 1000000 in
theorem ren_no2 (V : List Nat) (x : Ix) (v : Value) (fr tn : ByteArray) (w : World) (hV : Old V w) (h : IxAt V w v x) (hok : IxOk x) (hr : rightB x = true) (hnb : nameB tn = false) (hns : tn.size ≤ maxLen) :
    Calls Try.prog 24 #[v, .string fr, .string tn] w (IxPost V (renR x fr tn) w) := by
  have HEX : Hid (renR x fr tn = (ix0, 1)) := by
    show _ = _
    unfold renR; rw [hr, hnb]; rfl
  have HV := Lib.hid h
  have HOV := Lib.hid hV
  have HOK := Lib.hid hok
  have HR := Lib.hid hr
  have HNB := Lib.hid hnb
  have HNS := Lib.hid hns
  obtain ⟨A, c, A', c', rfl, hc1, hc2, hc3, hc4, hbx, hrow⟩ := (h.weak (U := []) (fun _ hk => by cases hk)).open_
  have HROW := Lib.hid hrow
  clear hbx hrow h hok hV hr hnb hns
  unfold maxLen at hc2 hc4
  generalize hn : x.boxes.length = n at *
  generalize hm : x.subs.length = m at *
  generalize hg : x.given = gv at *
  have HN := Lib.hid hn
  have HM := Lib.hid hm
  have HG := Lib.hid hg
  clear hn hm hg
  have hlit := inbox_lit
  go_enter Try.func24, Try.ntmps24
  go_wp2_with fail
  have OX := Lib.hid ((Own.newAt w w.heap.size 25 [.slice A n c, .slice A' m c', .int .i64 gv] (by simp)).alloc (.cells #[.slice none 0 0, .slice none 0 0, .int .i64 0] 25))
  have OR := Lib.hid (Own.newAt (w.alloc (.cells #[.slice A n c, .slice A' m c', .int .i64 gv] 25)) (w.heap.size + 1) 25 [.slice none 0 0, .slice none 0 0, .int .i64 0] (by simp))
  have K := (((Kept.refl w).alloc (.cells #[.slice A n c, .slice A' m c', .int .i64 gv] 25)).alloc (.cells #[.slice none 0 0, .slice none 0 0, .int .i64 0] 25))
  generalize ((w.alloc (.cells #[.slice A n c, .slice A' m c', .int .i64 gv] 25)).alloc (.cells #[.slice none 0 0, .slice none 0 0, .int .i64 0] 25)) = w1 at *
  obtain ⟨cX0, cX1, cX2, fX0, fX1, fX2⟩ := OX.out.three
  obtain ⟨cR0, cR1, cR2, fR0, fR1, fR2⟩ := OR.out.three
  refine (right_any x _ _ (HV.out.go K (Ext.nil _ _)) HOK.out).mono ?_
  rintro e w2 ⟨rfl, hk⟩
  clear cX0 cX1 cX2 fX0 fX1 fX2 cR0 cR1 cR2 fR0 fR1 fR2
  replace OX := Lib.hid (OX.out.kept hk)
  replace OR := Lib.hid (OR.out.kept hk)
  replace K := K.trans hk
  rw [HR.out]
  clear hk
  obtain ⟨cX0, cX1, cX2, fX0, fX1, fX2⟩ := OX.out.three
  obtain ⟨cR0, cR1, cR2, fR0, fR1, fR2⟩ := OR.out.three
  go_wp2_with fail
  refine (name_any tn _ HNS.out).mono ?_
  rintro e _ ⟨rfl, rfl⟩
  rw [HNB.out]
  go_wp2
  clear cX0 cX1 cX2 fX0 fX1 fX2 cR0 cR1 cR2 fR0 fR1 fR2
  replace OX : Hid (Own (((w2.setCell ⟨(w.heap.size + 1), 0, none⟩ (.slice none 0 0)).setCell ⟨(w.heap.size + 1), 1, none⟩ (.slice none 0 0)).setCell ⟨(w.heap.size + 1), 2, none⟩ (.int .i64 0)) w.heap.size 25 [.slice A n c, .slice A' m c', .int .i64 gv]) := Lib.hid (((OX.out.far (p := ⟨(w.heap.size + 1), 0, none⟩) (by first | omega | (simp; omega) | simp) (.slice none 0 0)).far (p := ⟨(w.heap.size + 1), 1, none⟩) (by first | omega | (simp; omega) | simp) (.slice none 0 0)).far (p := ⟨(w.heap.size + 1), 2, none⟩) (by first | omega | (simp; omega) | simp) (.int .i64 0))
  replace OR : Hid (Own (((w2.setCell ⟨(w.heap.size + 1), 0, none⟩ (.slice none 0 0)).setCell ⟨(w.heap.size + 1), 1, none⟩ (.slice none 0 0)).setCell ⟨(w.heap.size + 1), 2, none⟩ (.int .i64 0)) (w.heap.size + 1) 25 [.slice none 0 0, .slice none 0 0, .int .i64 0]) := Lib.hid (((OR.out.set_ 0 (.slice none 0 0)).set_ 1 (.slice none 0 0)).set_ 2 (.int .i64 0))
  replace K := (((K.setCell (p := ⟨(w.heap.size + 1), 0, none⟩) (by first | exact Nat.le_refl _ | (simp only []; omega) | simp) (.slice none 0 0)).setCell (p := ⟨(w.heap.size + 1), 1, none⟩) (by first | exact Nat.le_refl _ | (simp only []; omega) | simp) (.slice none 0 0)).setCell (p := ⟨(w.heap.size + 1), 2, none⟩) (by first | exact Nat.le_refl _ | (simp only []; omega) | simp) (.int .i64 0))
  generalize (((w2.setCell ⟨(w.heap.size + 1), 0, none⟩ (.slice none 0 0)).setCell ⟨(w.heap.size + 1), 1, none⟩ (.slice none 0 0)).setCell ⟨(w.heap.size + 1), 2, none⟩ (.int .i64 0)) = w3 at *
  obtain ⟨cX0, cX1, cX2, fX0, fX1, fX2⟩ := OX.out.three
  obtain ⟨cR0, cR1, cR2, fR0, fR1, fR2⟩ := OR.out.three
  refine bodyPost_ret (v := .tuple #[.agg #[.slice none 0 0, .slice none 0 0, .int .i64 0], .int .i64 1]) (by simp [results, Try.results24, go_sem, cR0, cR1, cR2]) rfl ?_
  exact ⟨_, by rw [HEX.out], by rw [HEX.out]; exact ixAt_nil _ _, K⟩

set_option maxRecDepth 100000 in
set_option maxHeartbeats 1000000 in
theorem ren_no3 (V : List Nat) (x : Ix) (v : Value) (fr tn : ByteArray) (w : World) (hV : Old V w) (h : IxAt V w v x) (hok : IxOk x) (hr : rightB x = true) (hnb : nameB tn = true) (hns : tn.size ≤ maxLen) (hf : findX x fr = none) :
    Calls Try.prog 24 #[v, .string fr, .string tn] w (IxPost V (renR x fr tn) w) := by
  have HEX : Hid (renR x fr tn = (ix0, 6)) := by
    show _ = _
    unfold renR; rw [hr, hnb, hf]; rfl
  have HV := Lib.hid h
  have HOV := Lib.hid hV
  have HOK := Lib.hid hok
  have HR := Lib.hid hr
  have HNB := Lib.hid hnb
  have HNS := Lib.hid hns
  have HF := Lib.hid hf
  obtain ⟨A, c, A', c', rfl, hc1, hc2, hc3, hc4, hbx, hrow⟩ := (h.weak (U := []) (fun _ hk => by cases hk)).open_
  have HROW := Lib.hid hrow
  clear hbx hrow h hok hV hr hnb hns hf
  unfold maxLen at hc2 hc4
  generalize hn : x.boxes.length = n at *
  generalize hm : x.subs.length = m at *
  generalize hg : x.given = gv at *
  have HN := Lib.hid hn
  have HM := Lib.hid hm
  have HG := Lib.hid hg
  clear hn hm hg
  have hlit := inbox_lit
  go_enter Try.func24, Try.ntmps24
  go_wp2_with fail
  have OX := Lib.hid ((Own.newAt w w.heap.size 25 [.slice A n c, .slice A' m c', .int .i64 gv] (by simp)).alloc (.cells #[.slice none 0 0, .slice none 0 0, .int .i64 0] 25))
  have OR := Lib.hid (Own.newAt (w.alloc (.cells #[.slice A n c, .slice A' m c', .int .i64 gv] 25)) (w.heap.size + 1) 25 [.slice none 0 0, .slice none 0 0, .int .i64 0] (by simp))
  have K := (((Kept.refl w).alloc (.cells #[.slice A n c, .slice A' m c', .int .i64 gv] 25)).alloc (.cells #[.slice none 0 0, .slice none 0 0, .int .i64 0] 25))
  generalize ((w.alloc (.cells #[.slice A n c, .slice A' m c', .int .i64 gv] 25)).alloc (.cells #[.slice none 0 0, .slice none 0 0, .int .i64 0] 25)) = w1 at *
  obtain ⟨cX0, cX1, cX2, fX0, fX1, fX2⟩ := OX.out.three
  obtain ⟨cR0, cR1, cR2, fR0, fR1, fR2⟩ := OR.out.three
  refine (right_any x _ _ (HV.out.go K (Ext.nil _ _)) HOK.out).mono ?_
  rintro e w2 ⟨rfl, hk⟩
  clear cX0 cX1 cX2 fX0 fX1 fX2 cR0 cR1 cR2 fR0 fR1 fR2
  replace OX := Lib.hid (OX.out.kept hk)
  replace OR := Lib.hid (OR.out.kept hk)
  replace K := K.trans hk
  rw [HR.out]
  clear hk
  obtain ⟨cX0, cX1, cX2, fX0, fX1, fX2⟩ := OX.out.three
  obtain ⟨cR0, cR1, cR2, fR0, fR1, fR2⟩ := OR.out.three
  go_wp2_with fail
  refine (name_any tn _ HNS.out).mono ?_
  rintro e _ ⟨rfl, rfl⟩
  rw [HNB.out]
  go_wp2_with fail
  refine (find_any x _ fr _ (HV.out.go K (Ext.nil _ _))).mono ?_
  rintro e w3 ⟨rfl, hk⟩
  clear cX0 cX1 cX2 fX0 fX1 fX2 cR0 cR1 cR2 fR0 fR1 fR2
  replace OX := Lib.hid (OX.out.kept hk)
  replace OR := Lib.hid (OR.out.kept hk)
  replace K := K.trans hk
  rw [HF.out, show ofO none = -1 from rfl]
  clear hk
  obtain ⟨cX0, cX1, cX2, fX0, fX1, fX2⟩ := OX.out.three
  obtain ⟨cR0, cR1, cR2, fR0, fR1, fR2⟩ := OR.out.three
  go_wp2
  clear cX0 cX1 cX2 fX0 fX1 fX2 cR0 cR1 cR2 fR0 fR1 fR2
  replace OX : Hid (Own (((w3.setCell ⟨(w.heap.size + 1), 0, none⟩ (.slice none 0 0)).setCell ⟨(w.heap.size + 1), 1, none⟩ (.slice none 0 0)).setCell ⟨(w.heap.size + 1), 2, none⟩ (.int .i64 0)) w.heap.size 25 [.slice A n c, .slice A' m c', .int .i64 gv]) := Lib.hid (((OX.out.far (p := ⟨(w.heap.size + 1), 0, none⟩) (by first | omega | (simp; omega) | simp) (.slice none 0 0)).far (p := ⟨(w.heap.size + 1), 1, none⟩) (by first | omega | (simp; omega) | simp) (.slice none 0 0)).far (p := ⟨(w.heap.size + 1), 2, none⟩) (by first | omega | (simp; omega) | simp) (.int .i64 0))
  replace OR : Hid (Own (((w3.setCell ⟨(w.heap.size + 1), 0, none⟩ (.slice none 0 0)).setCell ⟨(w.heap.size + 1), 1, none⟩ (.slice none 0 0)).setCell ⟨(w.heap.size + 1), 2, none⟩ (.int .i64 0)) (w.heap.size + 1) 25 [.slice none 0 0, .slice none 0 0, .int .i64 0]) := Lib.hid (((OR.out.set_ 0 (.slice none 0 0)).set_ 1 (.slice none 0 0)).set_ 2 (.int .i64 0))
  replace K := (((K.setCell (p := ⟨(w.heap.size + 1), 0, none⟩) (by first | exact Nat.le_refl _ | (simp only []; omega) | simp) (.slice none 0 0)).setCell (p := ⟨(w.heap.size + 1), 1, none⟩) (by first | exact Nat.le_refl _ | (simp only []; omega) | simp) (.slice none 0 0)).setCell (p := ⟨(w.heap.size + 1), 2, none⟩) (by first | exact Nat.le_refl _ | (simp only []; omega) | simp) (.int .i64 0))
  generalize (((w3.setCell ⟨(w.heap.size + 1), 0, none⟩ (.slice none 0 0)).setCell ⟨(w.heap.size + 1), 1, none⟩ (.slice none 0 0)).setCell ⟨(w.heap.size + 1), 2, none⟩ (.int .i64 0)) = w4 at *
  obtain ⟨cX0, cX1, cX2, fX0, fX1, fX2⟩ := OX.out.three
  obtain ⟨cR0, cR1, cR2, fR0, fR1, fR2⟩ := OR.out.three
  refine bodyPost_ret (v := .tuple #[.agg #[.slice none 0 0, .slice none 0 0, .int .i64 0], .int .i64 6]) (by simp [results, Try.results24, go_sem, cR0, cR1, cR2]) rfl ?_
  exact ⟨_, by rw [HEX.out], by rw [HEX.out]; exact ixAt_nil _ _, K⟩

set_option maxRecDepth 100000 in
set_option maxHeartbeats 1000000 in
theorem ren_no4 (V : List Nat) (x : Ix) (v : Value) (a q : Nat) (fr tn : ByteArray) (w : World) (hV : Old V w) (h : IxAt V w v x) (hok : IxOk x) (hr : rightB x = true) (hnb : nameB tn = true) (hns : tn.size ≤ maxLen) (hf : findX x fr = some a) (hf2 : findX x tn = some q) :
    Calls Try.prog 24 #[v, .string fr, .string tn] w (IxPost V (renR x fr tn) w) := by
  have HEX : Hid (renR x fr tn = (ix0, 8)) := by
    show _ = _
    unfold renR; rw [hr, hnb, hf, hf2]; rfl
  have HV := Lib.hid h
  have HOV := Lib.hid hV
  have HOK := Lib.hid hok
  have HR := Lib.hid hr
  have HNB := Lib.hid hnb
  have HNS := Lib.hid hns
  have HF := Lib.hid hf
  have HF2 := Lib.hid hf2
  obtain ⟨A, c, A', c', rfl, hc1, hc2, hc3, hc4, hbx, hrow⟩ := (h.weak (U := []) (fun _ hk => by cases hk)).open_
  have HROW := Lib.hid hrow
  clear hbx hrow h hok hV hr hnb hns hf hf2
  unfold maxLen at hc2 hc4
  generalize hn : x.boxes.length = n at *
  generalize hm : x.subs.length = m at *
  generalize hg : x.given = gv at *
  have HN := Lib.hid hn
  have HM := Lib.hid hm
  have HG := Lib.hid hg
  clear hn hm hg
  have hlit := inbox_lit
  go_enter Try.func24, Try.ntmps24
  go_wp2_with fail
  have OX := Lib.hid ((Own.newAt w w.heap.size 25 [.slice A n c, .slice A' m c', .int .i64 gv] (by simp)).alloc (.cells #[.slice none 0 0, .slice none 0 0, .int .i64 0] 25))
  have OR := Lib.hid (Own.newAt (w.alloc (.cells #[.slice A n c, .slice A' m c', .int .i64 gv] 25)) (w.heap.size + 1) 25 [.slice none 0 0, .slice none 0 0, .int .i64 0] (by simp))
  have K := (((Kept.refl w).alloc (.cells #[.slice A n c, .slice A' m c', .int .i64 gv] 25)).alloc (.cells #[.slice none 0 0, .slice none 0 0, .int .i64 0] 25))
  generalize ((w.alloc (.cells #[.slice A n c, .slice A' m c', .int .i64 gv] 25)).alloc (.cells #[.slice none 0 0, .slice none 0 0, .int .i64 0] 25)) = w1 at *
  obtain ⟨cX0, cX1, cX2, fX0, fX1, fX2⟩ := OX.out.three
  obtain ⟨cR0, cR1, cR2, fR0, fR1, fR2⟩ := OR.out.three
  refine (right_any x _ _ (HV.out.go K (Ext.nil _ _)) HOK.out).mono ?_
  rintro e w2 ⟨rfl, hk⟩
  clear cX0 cX1 cX2 fX0 fX1 fX2 cR0 cR1 cR2 fR0 fR1 fR2
  replace OX := Lib.hid (OX.out.kept hk)
  replace OR := Lib.hid (OR.out.kept hk)
  replace K := K.trans hk
  rw [HR.out]
  clear hk
  obtain ⟨cX0, cX1, cX2, fX0, fX1, fX2⟩ := OX.out.three
  obtain ⟨cR0, cR1, cR2, fR0, fR1, fR2⟩ := OR.out.three
  go_wp2_with fail
  refine (name_any tn _ HNS.out).mono ?_
  rintro e _ ⟨rfl, rfl⟩
  rw [HNB.out]
  go_wp2_with fail
  refine (find_any x _ fr _ (HV.out.go K (Ext.nil _ _))).mono ?_
  rintro e w3 ⟨rfl, hk⟩
  clear cX0 cX1 cX2 fX0 fX1 fX2 cR0 cR1 cR2 fR0 fR1 fR2
  replace OX := Lib.hid (OX.out.kept hk)
  replace OR := Lib.hid (OR.out.kept hk)
  replace K := K.trans hk
  rw [HF.out, show ofO (some a) = (a : Int) from rfl]
  have a0 : (0 : Int) ≤ (a : Int) := by omega
  clear hk
  obtain ⟨cX0, cX1, cX2, fX0, fX1, fX2⟩ := OX.out.three
  obtain ⟨cR0, cR1, cR2, fR0, fR1, fR2⟩ := OR.out.three
  go_wp2_with fail
  refine (find_any x _ tn _ (HV.out.go K (Ext.nil _ _))).mono ?_
  rintro e w4 ⟨rfl, hk⟩
  clear cX0 cX1 cX2 fX0 fX1 fX2 cR0 cR1 cR2 fR0 fR1 fR2
  replace OX := Lib.hid (OX.out.kept hk)
  replace OR := Lib.hid (OR.out.kept hk)
  replace K := K.trans hk
  rw [HF2.out, show ofO (some q) = (q : Int) from rfl]
  have q0 : (0 : Int) ≤ (q : Int) := by omega
  clear hk
  obtain ⟨cX0, cX1, cX2, fX0, fX1, fX2⟩ := OX.out.three
  obtain ⟨cR0, cR1, cR2, fR0, fR1, fR2⟩ := OR.out.three
  go_wp2
  clear cX0 cX1 cX2 fX0 fX1 fX2 cR0 cR1 cR2 fR0 fR1 fR2
  replace OX : Hid (Own (((w4.setCell ⟨(w.heap.size + 1), 0, none⟩ (.slice none 0 0)).setCell ⟨(w.heap.size + 1), 1, none⟩ (.slice none 0 0)).setCell ⟨(w.heap.size + 1), 2, none⟩ (.int .i64 0)) w.heap.size 25 [.slice A n c, .slice A' m c', .int .i64 gv]) := Lib.hid (((OX.out.far (p := ⟨(w.heap.size + 1), 0, none⟩) (by first | omega | (simp; omega) | simp) (.slice none 0 0)).far (p := ⟨(w.heap.size + 1), 1, none⟩) (by first | omega | (simp; omega) | simp) (.slice none 0 0)).far (p := ⟨(w.heap.size + 1), 2, none⟩) (by first | omega | (simp; omega) | simp) (.int .i64 0))
  replace OR : Hid (Own (((w4.setCell ⟨(w.heap.size + 1), 0, none⟩ (.slice none 0 0)).setCell ⟨(w.heap.size + 1), 1, none⟩ (.slice none 0 0)).setCell ⟨(w.heap.size + 1), 2, none⟩ (.int .i64 0)) (w.heap.size + 1) 25 [.slice none 0 0, .slice none 0 0, .int .i64 0]) := Lib.hid (((OR.out.set_ 0 (.slice none 0 0)).set_ 1 (.slice none 0 0)).set_ 2 (.int .i64 0))
  replace K := (((K.setCell (p := ⟨(w.heap.size + 1), 0, none⟩) (by first | exact Nat.le_refl _ | (simp only []; omega) | simp) (.slice none 0 0)).setCell (p := ⟨(w.heap.size + 1), 1, none⟩) (by first | exact Nat.le_refl _ | (simp only []; omega) | simp) (.slice none 0 0)).setCell (p := ⟨(w.heap.size + 1), 2, none⟩) (by first | exact Nat.le_refl _ | (simp only []; omega) | simp) (.int .i64 0))
  generalize (((w4.setCell ⟨(w.heap.size + 1), 0, none⟩ (.slice none 0 0)).setCell ⟨(w.heap.size + 1), 1, none⟩ (.slice none 0 0)).setCell ⟨(w.heap.size + 1), 2, none⟩ (.int .i64 0)) = w5 at *
  obtain ⟨cX0, cX1, cX2, fX0, fX1, fX2⟩ := OX.out.three
  obtain ⟨cR0, cR1, cR2, fR0, fR1, fR2⟩ := OR.out.three
  refine bodyPost_ret (v := .tuple #[.agg #[.slice none 0 0, .slice none 0 0, .int .i64 0], .int .i64 8]) (by simp [results, Try.results24, go_sem, cR0, cR1, cR2]) rfl ?_
  exact ⟨_, by rw [HEX.out], by rw [HEX.out]; exact ixAt_nil _ _, K⟩

set_option maxRecDepth 100000 in
set_option maxHeartbeats 1000000 in
theorem ren_mov (V : List Nat) (x : Ix) (v : Value) (a : Nat) (fr tn : ByteArray) (w : World) (hV : Old V w) (h : IxAt V w v x) (hok : IxOk x) (hr : rightB x = true) (hnb : nameB tn = true) (hns : tn.size ≤ maxLen) (hf : findX x fr = some a) (hf2 : findX x tn = none) (he : (fr.toList == inbox.toList) = true) :
    Calls Try.prog 24 #[v, .string fr, .string tn] w (IxPost V (renR x fr tn) w) := by
  have HEX : Hid (renR x fr tn = movR x tn) := by
    show _ = _
    unfold renR; rw [hr, hnb, hf, hf2, show nmEq fr inbox = true from he]; rfl
  have HV := Lib.hid h
  have HOV := Lib.hid hV
  have HOK := Lib.hid hok
  have HR := Lib.hid hr
  have HNB := Lib.hid hnb
  have HNS := Lib.hid hns
  have HF := Lib.hid hf
  have HF2 := Lib.hid hf2
  have HE := Lib.hid he
  obtain ⟨A, c, A', c', rfl, hc1, hc2, hc3, hc4, hbx, hrow⟩ := (h.weak (U := []) (fun _ hk => by cases hk)).open_
  have HROW := Lib.hid hrow
  clear hbx hrow h hok hV hr hnb hns hf hf2 he
  unfold maxLen at hc2 hc4
  generalize hn : x.boxes.length = n at *
  generalize hm : x.subs.length = m at *
  generalize hg : x.given = gv at *
  have HN := Lib.hid hn
  have HM := Lib.hid hm
  have HG := Lib.hid hg
  clear hn hm hg
  have hlit := inbox_lit
  go_enter Try.func24, Try.ntmps24
  go_wp2_with fail
  have OX := Lib.hid ((Own.newAt w w.heap.size 25 [.slice A n c, .slice A' m c', .int .i64 gv] (by simp)).alloc (.cells #[.slice none 0 0, .slice none 0 0, .int .i64 0] 25))
  have OR := Lib.hid (Own.newAt (w.alloc (.cells #[.slice A n c, .slice A' m c', .int .i64 gv] 25)) (w.heap.size + 1) 25 [.slice none 0 0, .slice none 0 0, .int .i64 0] (by simp))
  have K := (((Kept.refl w).alloc (.cells #[.slice A n c, .slice A' m c', .int .i64 gv] 25)).alloc (.cells #[.slice none 0 0, .slice none 0 0, .int .i64 0] 25))
  generalize ((w.alloc (.cells #[.slice A n c, .slice A' m c', .int .i64 gv] 25)).alloc (.cells #[.slice none 0 0, .slice none 0 0, .int .i64 0] 25)) = w1 at *
  obtain ⟨cX0, cX1, cX2, fX0, fX1, fX2⟩ := OX.out.three
  obtain ⟨cR0, cR1, cR2, fR0, fR1, fR2⟩ := OR.out.three
  refine (right_any x _ _ (HV.out.go K (Ext.nil _ _)) HOK.out).mono ?_
  rintro e w2 ⟨rfl, hk⟩
  clear cX0 cX1 cX2 fX0 fX1 fX2 cR0 cR1 cR2 fR0 fR1 fR2
  replace OX := Lib.hid (OX.out.kept hk)
  replace OR := Lib.hid (OR.out.kept hk)
  replace K := K.trans hk
  rw [HR.out]
  clear hk
  obtain ⟨cX0, cX1, cX2, fX0, fX1, fX2⟩ := OX.out.three
  obtain ⟨cR0, cR1, cR2, fR0, fR1, fR2⟩ := OR.out.three
  go_wp2_with fail
  refine (name_any tn _ HNS.out).mono ?_
  rintro e _ ⟨rfl, rfl⟩
  rw [HNB.out]
  go_wp2_with fail
  refine (find_any x _ fr _ (HV.out.go K (Ext.nil _ _))).mono ?_
  rintro e w3 ⟨rfl, hk⟩
  clear cX0 cX1 cX2 fX0 fX1 fX2 cR0 cR1 cR2 fR0 fR1 fR2
  replace OX := Lib.hid (OX.out.kept hk)
  replace OR := Lib.hid (OR.out.kept hk)
  replace K := K.trans hk
  rw [HF.out, show ofO (some a) = (a : Int) from rfl]
  have a0 : (0 : Int) ≤ (a : Int) := by omega
  clear hk
  obtain ⟨cX0, cX1, cX2, fX0, fX1, fX2⟩ := OX.out.three
  obtain ⟨cR0, cR1, cR2, fR0, fR1, fR2⟩ := OR.out.three
  go_wp2_with fail
  refine (find_any x _ tn _ (HV.out.go K (Ext.nil _ _))).mono ?_
  rintro e w4 ⟨rfl, hk⟩
  clear cX0 cX1 cX2 fX0 fX1 fX2 cR0 cR1 cR2 fR0 fR1 fR2
  replace OX := Lib.hid (OX.out.kept hk)
  replace OR := Lib.hid (OR.out.kept hk)
  replace K := K.trans hk
  rw [HF2.out, show ofO none = -1 from rfl]
  clear hk
  obtain ⟨cX0, cX1, cX2, fX0, fX1, fX2⟩ := OX.out.three
  obtain ⟨cR0, cR1, cR2, fR0, fR1, fR2⟩ := OR.out.three
  have he' := HE.out
  go_wp2_with fail
  refine (mov_any ((w.heap.size + 1) :: V) x _ tn _ (Old.cons OR.out.lt (HOV.out.go K)) (HV.out.go K (Ext.cons (by omega) (Ext.refl _ _))) HOK.out HR.out HNB.out HNS.out HF2.out).mono ?_
  rintro e w5 ⟨v2, rfl, hx2, hk⟩
  clear cX0 cX1 cX2 fX0 fX1 fX2 cR0 cR1 cR2 fR0 fR1 fR2
  replace OX := Lib.hid (OX.out.kept hk)
  replace OR := Lib.hid (OR.out.kept hk)
  replace K := K.trans hk
  have HX2 := Lib.hid hx2
  obtain ⟨A2, c2, A3, c3, rfl⟩ := hx2.form
  clear hx2
  clear hk
  generalize (movR x tn).1.boxes.length = n2 at *
  generalize (movR x tn).1.subs.length = n3 at *
  generalize (movR x tn).1.given = gv2 at *
  generalize hr5 : (movR x tn).2 = e2 at *
  have HE2 := Lib.hid hr5
  clear hr5
  obtain ⟨cX0, cX1, cX2, fX0, fX1, fX2⟩ := OX.out.three
  obtain ⟨cR0, cR1, cR2, fR0, fR1, fR2⟩ := OR.out.three
  go_wp2
  clear cX0 cX1 cX2 fX0 fX1 fX2 cR0 cR1 cR2 fR0 fR1 fR2
  replace OX : Hid (Own (((w5.setCell ⟨(w.heap.size + 1), 0, none⟩ (.slice A2 n2 c2)).setCell ⟨(w.heap.size + 1), 1, none⟩ (.slice A3 n3 c3)).setCell ⟨(w.heap.size + 1), 2, none⟩ (.int .i64 gv2)) w.heap.size 25 [.slice A n c, .slice A' m c', .int .i64 gv]) := Lib.hid (((OX.out.far (p := ⟨(w.heap.size + 1), 0, none⟩) (by first | omega | (simp; omega) | simp) (.slice A2 n2 c2)).far (p := ⟨(w.heap.size + 1), 1, none⟩) (by first | omega | (simp; omega) | simp) (.slice A3 n3 c3)).far (p := ⟨(w.heap.size + 1), 2, none⟩) (by first | omega | (simp; omega) | simp) (.int .i64 gv2))
  replace OR : Hid (Own (((w5.setCell ⟨(w.heap.size + 1), 0, none⟩ (.slice A2 n2 c2)).setCell ⟨(w.heap.size + 1), 1, none⟩ (.slice A3 n3 c3)).setCell ⟨(w.heap.size + 1), 2, none⟩ (.int .i64 gv2)) (w.heap.size + 1) 25 [.slice A2 n2 c2, .slice A3 n3 c3, .int .i64 gv2]) := Lib.hid (((OR.out.set_ 0 (.slice A2 n2 c2)).set_ 1 (.slice A3 n3 c3)).set_ 2 (.int .i64 gv2))
  replace HX2 := Lib.hid (((HX2.out.put (p := ⟨(w.heap.size + 1), 0, none⟩) (by simp) (.slice A2 n2 c2)).put (p := ⟨(w.heap.size + 1), 1, none⟩) (by simp) (.slice A3 n3 c3)).put (p := ⟨(w.heap.size + 1), 2, none⟩) (by simp) (.int .i64 gv2))
  replace K := (((K.setCell (p := ⟨(w.heap.size + 1), 0, none⟩) (by first | exact Nat.le_refl _ | (simp only []; omega) | simp) (.slice A2 n2 c2)).setCell (p := ⟨(w.heap.size + 1), 1, none⟩) (by first | exact Nat.le_refl _ | (simp only []; omega) | simp) (.slice A3 n3 c3)).setCell (p := ⟨(w.heap.size + 1), 2, none⟩) (by first | exact Nat.le_refl _ | (simp only []; omega) | simp) (.int .i64 gv2))
  generalize (((w5.setCell ⟨(w.heap.size + 1), 0, none⟩ (.slice A2 n2 c2)).setCell ⟨(w.heap.size + 1), 1, none⟩ (.slice A3 n3 c3)).setCell ⟨(w.heap.size + 1), 2, none⟩ (.int .i64 gv2)) = w6 at *
  obtain ⟨cX0, cX1, cX2, fX0, fX1, fX2⟩ := OX.out.three
  obtain ⟨cR0, cR1, cR2, fR0, fR1, fR2⟩ := OR.out.three
  refine bodyPost_ret (v := .tuple #[.agg #[.slice A2 n2 c2, .slice A3 n3 c3, .int .i64 gv2], .int .i64 e2]) (by simp [results, Try.results24, go_sem, cR0, cR1, cR2]) rfl ?_
  refine ⟨_, by rw [HEX.out, HE2.out], ?_, K⟩
  rw [HEX.out]
  exact HX2.out.go (Kept.refl _) (fun k hk => .inl (List.mem_cons_of_mem _ hk))

set_option maxRecDepth 100000 in
set_option maxHeartbeats 1000000 in
theorem ren_main (V : List Nat) (x : Ix) (v : Value) (a : Nat) (fr tn : ByteArray) (w : World) (hV : Old V w) (h : IxAt V w v x) (hok : IxOk x) (hr : rightB x = true) (hnb : nameB tn = true) (hns : tn.size ≤ maxLen) (hf : findX x fr = some a) (hf2 : findX x tn = none) (he : (fr.toList == inbox.toList) = false) (ha : a < x.boxes.length) (hl : x.boxes.length ≤ 6) (h2n : 2 ≤ x.boxes.length) :
    Calls Try.prog 24 #[v, .string fr, .string tn] w (IxPost V (renR x fr tn) w) := by
  have HEX : Hid (renR x fr tn = (⟨insX (x.boxes.eraseIdx a) (reName (bxAt x a) tn), x.subs, x.given⟩, 0)) := by
    show _ = _
    unfold renR; rw [hr, hnb, hf, hf2, show nmEq fr inbox = false from he]; rfl
  have HV := Lib.hid h
  have HOV := Lib.hid hV
  have HOK := Lib.hid hok
  have HR := Lib.hid hr
  have HNB := Lib.hid hnb
  have HNS := Lib.hid hns
  have HF := Lib.hid hf
  have HF2 := Lib.hid hf2
  have HE := Lib.hid he
  obtain ⟨A, c, A', c', rfl, hc1, hc2, hc3, hc4, hbx, hrow⟩ := (h.weak (U := []) (fun _ hk => by cases hk)).open_
  obtain ⟨b, o, mv, rfl, hb, _, hbc⟩ := hbx (by omega)
  have HBC := Lib.hid hbc
  clear hbc
  have HROW := Lib.hid hrow
  clear hbx hrow h hok hV hr hnb hns hf hf2 he
  unfold maxLen at hc2 hc4
  generalize hn : x.boxes.length = n at *
  generalize hm : x.subs.length = m at *
  generalize hg : x.given = gv at *
  have HN := Lib.hid hn
  have HM := Lib.hid hm
  have HG := Lib.hid hg
  clear hn hm hg
  have hlit := inbox_lit
  go_enter Try.func24, Try.ntmps24
  go_wp2_with fail
  have OX := Lib.hid ((Own.newAt w w.heap.size 25 [.slice (some ⟨b, o, none⟩) n c, .slice A' m c', .int .i64 gv] (by simp)).alloc (.cells #[.slice none 0 0, .slice none 0 0, .int .i64 0] 25))
  have OR := Lib.hid (Own.newAt (w.alloc (.cells #[.slice (some ⟨b, o, none⟩) n c, .slice A' m c', .int .i64 gv] 25)) (w.heap.size + 1) 25 [.slice none 0 0, .slice none 0 0, .int .i64 0] (by simp))
  have K := (((Kept.refl w).alloc (.cells #[.slice (some ⟨b, o, none⟩) n c, .slice A' m c', .int .i64 gv] 25)).alloc (.cells #[.slice none 0 0, .slice none 0 0, .int .i64 0] 25))
  generalize ((w.alloc (.cells #[.slice (some ⟨b, o, none⟩) n c, .slice A' m c', .int .i64 gv] 25)).alloc (.cells #[.slice none 0 0, .slice none 0 0, .int .i64 0] 25)) = w1 at *
  obtain ⟨cX0, cX1, cX2, fX0, fX1, fX2⟩ := OX.out.three
  obtain ⟨cR0, cR1, cR2, fR0, fR1, fR2⟩ := OR.out.three
  refine (right_any x _ _ (HV.out.go K (Ext.nil _ _)) HOK.out).mono ?_
  rintro e w2 ⟨rfl, hk⟩
  clear cX0 cX1 cX2 fX0 fX1 fX2 cR0 cR1 cR2 fR0 fR1 fR2
  replace OX := Lib.hid (OX.out.kept hk)
  replace OR := Lib.hid (OR.out.kept hk)
  replace K := K.trans hk
  rw [HR.out]
  clear hk
  obtain ⟨cX0, cX1, cX2, fX0, fX1, fX2⟩ := OX.out.three
  obtain ⟨cR0, cR1, cR2, fR0, fR1, fR2⟩ := OR.out.three
  go_wp2_with fail
  refine (name_any tn _ HNS.out).mono ?_
  rintro e _ ⟨rfl, rfl⟩
  rw [HNB.out]
  go_wp2_with fail
  refine (find_any x _ fr _ (HV.out.go K (Ext.nil _ _))).mono ?_
  rintro e w3 ⟨rfl, hk⟩
  clear cX0 cX1 cX2 fX0 fX1 fX2 cR0 cR1 cR2 fR0 fR1 fR2
  replace OX := Lib.hid (OX.out.kept hk)
  replace OR := Lib.hid (OR.out.kept hk)
  replace K := K.trans hk
  rw [HF.out, show ofO (some a) = (a : Int) from rfl]
  have a0 : (0 : Int) ≤ (a : Int) := by omega
  clear hk
  obtain ⟨cX0, cX1, cX2, fX0, fX1, fX2⟩ := OX.out.three
  obtain ⟨cR0, cR1, cR2, fR0, fR1, fR2⟩ := OR.out.three
  go_wp2_with fail
  refine (find_any x _ tn _ (HV.out.go K (Ext.nil _ _))).mono ?_
  rintro e w4 ⟨rfl, hk⟩
  clear cX0 cX1 cX2 fX0 fX1 fX2 cR0 cR1 cR2 fR0 fR1 fR2
  replace OX := Lib.hid (OX.out.kept hk)
  replace OR := Lib.hid (OR.out.kept hk)
  replace K := K.trans hk
  rw [HF2.out, show ofO none = -1 from rfl]
  clear hk
  obtain ⟨cX0, cX1, cX2, fX0, fX1, fX2⟩ := OX.out.three
  obtain ⟨cR0, cR1, cR2, fR0, fR1, fR2⟩ := OR.out.three
  have he' := HE.out
  obtain ⟨hgq, ⟨ps, hps, ⟨A5, c5, e5, _, _, hrow5⟩, hml5⟩, hst5⟩ := HV.out.parts
  simp only [Value.slice.injEq] at e5
  obtain ⟨e51, hpn, rfl⟩ := e5
  subst e51
  have HPS := Lib.hid hps
  have HPN := Lib.hid hpn.symm
  have HML := Lib.hid (show MlsAll V w ps from hml5)
  have HST := Lib.hid hst5
  have HR0 := Lib.hid (hrow5.go (Kept.refl _) (Ext.nil _ _))
  have HFP : Hid (∀ p ∈ ps, ∃ A n c, p.2 = .slice A n c) := fun p hp => by obtain ⟨A, c, e⟩ := (hml5 p hp).form; exact ⟨A, _, c, e⟩
  clear hps hpn hml5 hst5 hrow5 hgq
  obtain ⟨g1, g2, g3, g4, gm⟩ := HBC.out.go hb K (Ext.refl _ _) a (by rw [HN.out]; exact ha)
  have HAT : Hid (x.boxes[a]'(by rw [HN.out]; exact ha) = bxAt x a) := (bxAt_lt _).symm
  rw [HAT.out] at g1 g2 g3 gm
  obtain ⟨MA, mcc, hmv⟩ := gm.form
  have hpa : a < ps.length := by rw [HPN.out]; exact ha
  have HPA : Hid (ps[a]'hpa = (bxAt x a, .slice MA (bxAt x a).mails.length mcc)) := by
    show _ = _
    have q5 := (HBC.out a (by rw [HN.out]; exact ha)).2.2.2.1
    obtain ⟨b9, o9, e9, _, _, hc9⟩ := HR0.out (by rw [bxs_length, HPN.out]; omega)
    cases e9
    have q6 := hc9 _ _ (bxs_at hpa).2.2.2
    have q7 : (some (mv a) : Option Value) = some (ps[a]'hpa).2 := q5.symm.trans q6
    injection q7 with q7
    rw [hmv] at q7
    have q8 : (ps[a]'hpa).1 = bxAt x a := getElem_xAt HPS.out hpa
    exact Prod.ext q8 q7.symm
  rw [hmv] at g4
  clear gm hmv
  have zb : b < w4.heap.size := Nat.lt_of_lt_of_le hb K.size
  have a1 : (a : Int) < (n : Int) := by omega
  have HME : Hid (∀ l : List Ml, l = (bxAt x a).mails → l.length = (bxAt x a).mails.length) := fun l h => by rw [h]
  generalize (bxAt x a).mails.length = mn at *
  generalize hbv : (bxAt x a).val = bv at *
  generalize hbt : (bxAt x a).next = bt at *
  have HBV := Lib.hid hbv
  have HBT := Lib.hid hbt
  clear hbv hbt HME
  have zX4 := OX.out.lt
  have zR4 := OR.out.lt
  have zK4 := K.size
  go_upto_region 12 with fail
  clear cX0 cX1 cX2 fX0 fX1 fX2 cR0 cR1 cR2 fR0 fR1 fR2
  replace OX := Lib.hid (OX.out.alloc (.cells #[.string tn, .int .i64 bv, .int .i64 bt, .slice MA mn mcc] 40))
  replace OR := Lib.hid (OR.out.alloc (.cells #[.string tn, .int .i64 bv, .int .i64 bt, .slice MA mn mcc] 40))
  have OY := Lib.hid (Own.new w4 40 [.string tn, .int .i64 bv, .int .i64 bt, .slice MA mn mcc])
  replace K := K.alloc (.cells #[.string tn, .int .i64 bv, .int .i64 bt, .slice MA mn mcc] 40)
  generalize (w4.alloc (.cells #[.string tn, .int .i64 bv, .int .i64 bt, .slice MA mn mcc] 40)) = w5 at *
  clear g1 g2 g3 g4
  have zX5 := OX.out.lt
  have zR5 := OR.out.lt
  have zY5 := OY.out.lt
  have zK5 := K.size
  have zw := K.size
  have CX0 : ∀ W', Kept w5 W' → W'.cell? ⟨w.heap.size, 0, none⟩ = some (.slice (some ⟨b, o, none⟩) n c) := fun W' hk => (OX.out.kept hk).cell? 0
  have CX1 : ∀ W', Kept w5 W' → W'.cell? ⟨w.heap.size, 1, none⟩ = some (.slice A' m c') := fun W' hk => (OX.out.kept hk).cell? 1
  have CX2 : ∀ W', Kept w5 W' → W'.cell? ⟨w.heap.size, 2, none⟩ = some (.int .i64 gv) := fun W' hk => (OX.out.kept hk).cell? 2
  have CR0 : ∀ W', Kept w5 W' → W'.cell? ⟨(w.heap.size + 1), 0, none⟩ = some (.slice none 0 0) := fun W' hk => (OR.out.kept hk).cell? 0
  have CR1 : ∀ W', Kept w5 W' → W'.cell? ⟨(w.heap.size + 1), 1, none⟩ = some (.slice none 0 0) := fun W' hk => (OR.out.kept hk).cell? 1
  have CR2 : ∀ W', Kept w5 W' → W'.cell? ⟨(w.heap.size + 1), 2, none⟩ = some (.int .i64 0) := fun W' hk => (OR.out.kept hk).cell? 2
  have CY0 : ∀ W', Kept w5 W' → W'.cell? ⟨w4.heap.size, 0, none⟩ = some (.string tn) := fun W' hk => (OY.out.kept hk).cell? 0
  have CY1 : ∀ W', Kept w5 W' → W'.cell? ⟨w4.heap.size, 1, none⟩ = some (.int .i64 bv) := fun W' hk => (OY.out.kept hk).cell? 1
  have CY2 : ∀ W', Kept w5 W' → W'.cell? ⟨w4.heap.size, 2, none⟩ = some (.int .i64 bt) := fun W' hk => (OY.out.kept hk).cell? 2
  have CY3 : ∀ W', Kept w5 W' → W'.cell? ⟨w4.heap.size, 3, none⟩ = some (.slice MA mn mcc) := fun W' hk => (OY.out.kept hk).cell? 3
  refine wp_region_Z (S := fun W' => Kept w5 W') (Z := [7]) (by kernel_rfl) ((Kept.refl _).drew) (fun hHeld => ?_)
  have kr := (Kept.refl w5).drew
  have Kr := K
  have zr := K.size
  have OXr := OX
  have ORr := OR
  have OYr := OY
  replace OX := Lib.hid (OXr.out.kept kr)
  replace OR := Lib.hid (ORr.out.kept kr)
  replace OY := Lib.hid (OYr.out.kept kr)
  replace K := Kr.trans kr
  generalize w5.drew = w6 at *
  refine wpAnyZ_take (i := 0) (oi := { dst := some 44, op := Op.fieldAddr 25 (Operand.tmp 3) 0, type := 0, pos := "changes.go:77", after := #[], guard := none }) (v := ?_) rfl (by kernel_rfl) (fun _ _ _ h => h) (Or.inl ⟨by rfl, ?_⟩) (by assumption) ?_
  rotate_left
  · (intro wz hSw; (try dsimp only at hSw); go_simp; (try with_reducible rfl))
  (try simp only [Act.put, List.setIfInBounds_toArray, List.set_cons_zero, List.set_cons_succ])
  refine wpAnyZ_take (i := 1) (oi := { dst := some 45, op := Op.load 22 (Operand.tmp 44), type := 22, pos := "changes.go:77", after := #[{ on := 0, ground := Ground.data }], guard := none }) (v := ?_) rfl (by kernel_rfl) (fun _ _ _ h => h) (Or.inl ⟨by rfl, ?_⟩) (by assumption) ?_
  rotate_left
  · (intro wz hSw; (try dsimp only at hSw); go_simp; (try with_reducible rfl))
  (try simp only [Act.put, List.setIfInBounds_toArray, List.set_cons_zero, List.set_cons_succ])
  refine wpAnyZ_take (i := 2) (oi := { dst := some 46, op := Op.move (Operand.tmp 8), type := 3, pos := "changes.go:77", after := #[], guard := none }) (v := ?_) rfl (by kernel_rfl) (fun _ _ _ h => h) (Or.inl ⟨by rfl, ?_⟩) (by assumption) ?_
  rotate_left
  · (intro wz hSw; (try dsimp only at hSw); go_simp; (try with_reducible rfl))
  (try simp only [Act.put, List.setIfInBounds_toArray, List.set_cons_zero, List.set_cons_succ])
  refine wpAnyZ_take (i := 4) (oi := { dst := some 48, op := Op.load 40 (Operand.tmp 9), type := 40, pos := "changes.go:77", after := #[], guard := none }) (v := ?_) rfl (by kernel_rfl) (fun _ _ _ h => h) (Or.inl ⟨by rfl, ?_⟩) (by assumption) ?_
  rotate_left
  · (intro wz hSw; (try dsimp only at hSw); go_simp; (try with_reducible rfl))
  (try simp only [Act.put, List.setIfInBounds_toArray, List.set_cons_zero, List.set_cons_succ])
  refine wpAnyZ_ready (rs := [3]) (by kernel_rfl) (by simp) ?_
  refine AllReadyZ.cons (o := { dst := some 47, op := Op.call { callee := Callee.value (Operand.func 53), args := #[Operand.tmp 45, Operand.tmp 46], argTypes := #[22, 3] }, type := 22, pos := "changes.go:77", after := #[{ on := 1, ground := Ground.data }, { on := 2, ground := Ground.data }], guard := none }) rfl (fun KK hKK => ?_) AllReadyZ.nil
  go_simp
  have HI := without_any ps (some ⟨b, o, none⟩) n c a w6 HPN.out (HR0.out.kept K) HFP.out ha (by omega)
  refine HI.mono ?_
  rintro e w7 ⟨B5, c5', rfl, ho, hk⟩
  clear hHeld HI
  replace kr := kr.trans hk
  replace OX := Lib.hid (OXr.out.kept kr)
  replace OR := Lib.hid (ORr.out.kept kr)
  replace OY := Lib.hid (OYr.out.kept kr)
  replace K := Kr.trans kr
  have HLQ : Hid ((ps.eraseIdx a).length = n - 1) := by show _ = _; rw [List.length_eraseIdx, HPN.out, if_pos ha]
  rw [HLQ.out] at ho ⊢
  have H5 := Lib.hid ho
  clear ho hk
  go_wp2_with fail
  refine hKK.out _ _ ?_ (fun hHeld => ?_)
  · exact kr
  clear hKK KK
  (try simp only [Act.put, List.setIfInBounds_toArray, List.set_cons_zero, List.set_cons_succ])
  refine wpAnyZ_ready (rs := [5]) (by kernel_rfl) (by simp) ?_
  refine AllReadyZ.cons (o := { dst := some 49, op := Op.call { callee := Callee.value (Operand.func 52), args := #[Operand.tmp 47, Operand.tmp 48], argTypes := #[22, 40] }, type := 22, pos := "changes.go:77", after := #[{ on := 3, ground := Ground.data }, { on := 4, ground := Ground.data }, { on := 3, ground := Ground.chain }], guard := none }) rfl (fun KK hKK => ?_) AllReadyZ.nil
  go_simp
  obtain ⟨A5', c5'', e, _, _, hr5⟩ := own_form (V := []) H5.out (by simp)
  cases e
  have HI := insert_any (ps.eraseIdx a) B5 (n - 1) c5' ⟨tn, bv, bt, (bxAt x a).mails⟩ MA mn mcc w7 HLQ.out hr5 (fun p hp => HFP.out p (List.mem_of_mem_eraseIdx hp)) (by omega) (by omega)
  refine HI.mono ?_
  rintro e w8 ⟨B6, c6, rfl, ho, hk⟩
  clear hHeld HI hr5
  have zz := kr.size
  replace kr := kr.trans hk
  replace OX := Lib.hid (OXr.out.kept kr)
  replace OR := Lib.hid (ORr.out.kept kr)
  replace OY := Lib.hid (OYr.out.kept kr)
  replace K := Kr.trans kr
  have HLI : Hid ((insB (ps.eraseIdx a) (⟨tn, bv, bt, (bxAt x a).mails⟩, .slice MA mn mcc)).length = n) := by show _ = _; unfold insB; rw [List.length_append, List.length_cons, List.length_take, List.length_drop, HLQ.out]; have := insPos_le (l := (ps.eraseIdx a).map (·.1)) (nm := tn) (by rw [List.length_map, HLQ.out]; omega); rw [List.length_map, HLQ.out] at this; simp only; omega
  rw [HLI.out] at ho ⊢
  have H6 := Lib.hid (World.ownsRow.mono ho zz)
  clear ho hk H5
  go_wp2_with fail
  refine hKK.out _ _ ?_ (fun hHeld => ?_)
  · exact kr
  clear hKK KK
  (try simp only [Act.put, List.setIfInBounds_toArray, List.set_cons_zero, List.set_cons_succ])
  refine wpAnyZ_take (i := 6) (oi := { dst := some 50, op := Op.fieldAddr 25 (Operand.tmp 3) 0, type := 0, pos := "changes.go:77", after := #[{ on := 0, ground := Ground.phase }, { on := 1, ground := Ground.phase }, { on := 2, ground := Ground.phase }, { on := 3, ground := Ground.phase }, { on := 4, ground := Ground.phase }, { on := 5, ground := Ground.phase }], guard := none }) (v := ?_) rfl (by kernel_rfl) (fun _ _ _ h => h) (Or.inl ⟨by rfl, ?_⟩) (by assumption) ?_
  rotate_left
  · (intro wz hSw; (try dsimp only at hSw); go_simp; (try with_reducible rfl))
  (try simp only [Act.put, List.setIfInBounds_toArray, List.set_cons_zero, List.set_cons_succ])
  refine wpAnyZ_ready (rs := [7]) (by kernel_rfl) (by simp) ?_
  refine AllReadyZ.late (o := { dst := none, op := Op.store 22 (Operand.tmp 50) (Operand.tmp 49), type := 0, pos := "changes.go:77", after := #[{ on := 6, ground := Ground.data }, { on := 5, ground := Ground.data }, { on := 5, ground := Ground.chain }, { on := 0, ground := Ground.phase }, { on := 1, ground := Ground.phase }, { on := 2, ground := Ground.phase }, { on := 3, ground := Ground.phase }, { on := 4, ground := Ground.phase }, { on := 5, ground := Ground.phase }], guard := none }) rfl (by simp) (fun KK hKK => ?_) AllReadyZ.nil
  obtain ⟨cX0, cX1, cX2, fX0, fX1, fX2⟩ := OX.out.three
  go_simp
  clear cX0 cX1 cX2 fX0 fX1 fX2
  replace OX : Hid (Own (w8.setCell ⟨w.heap.size, 0, none⟩ (.slice B6 n c6)) w.heap.size 25 [.slice B6 n c6, .slice A' m c', .int .i64 gv]) := Lib.hid (OX.out.set_ 0 (.slice B6 n c6))
  replace OR : Hid (Own (w8.setCell ⟨w.heap.size, 0, none⟩ (.slice B6 n c6)) (w.heap.size + 1) 25 [.slice none 0 0, .slice none 0 0, .int .i64 0]) := Lib.hid (OR.out.far (p := ⟨w.heap.size, 0, none⟩) (by first | omega | (simp; omega) | simp) (.slice B6 n c6))
  replace OY : Hid (Own (w8.setCell ⟨w.heap.size, 0, none⟩ (.slice B6 n c6)) w4.heap.size 40 [.string tn, .int .i64 bv, .int .i64 bt, .slice MA mn mcc]) := Lib.hid (OY.out.far (p := ⟨w.heap.size, 0, none⟩) (by first | omega | (simp; omega) | simp) (.slice B6 n c6))
  replace H6 := Lib.hid (ownsRow_setCell_other H6.out (a := ⟨w.heap.size, 0, none⟩) (fun e => by first | (have := ownBlock_eq e; (try dsimp only at this); omega) | (have := (H6.out.lt _ e).1; (try dsimp only at this); omega)) (.slice B6 n c6))
  replace K := (K.setCell (p := ⟨w.heap.size, 0, none⟩) (by first | exact Nat.le_refl _ | (simp only []; omega) | simp) (.slice B6 n c6))
  generalize (w8.setCell ⟨w.heap.size, 0, none⟩ (.slice B6 n c6)) = w9 at *
  refine hKK.out _ _ ?_
  clear hKK KK
  (try simp only [Act.put, List.setIfInBounds_toArray, List.set_cons_zero, List.set_cons_succ])
  refine wpAnyZ_done (by kernel_rfl) ?_ _
  clear CX0 CX1 CX2 CR0 CR1 CR2 CY0 CY1 CY2 CY3 OXr ORr OYr Kr zr hHeld kr
  obtain ⟨cX0, cX1, cX2, fX0, fX1, fX2⟩ := OX.out.three
  obtain ⟨cR0, cR1, cR2, fR0, fR1, fR2⟩ := OR.out.three
  have cY0 := OY.out.cell? 0
  have fY0 := OY.out.frozen 0
  have cY1 := OY.out.cell? 1
  have fY1 := OY.out.frozen 1
  have cY2 := OY.out.cell? 2
  have fY2 := OY.out.frozen 2
  have cY3 := OY.out.cell? 3
  have fY3 := OY.out.frozen 3
  simp only [List.getElem?_cons_zero, List.getElem?_cons_succ] at cY0 cY1 cY2 cY3
  go_wp2
  clear cX0 cX1 cX2 fX0 fX1 fX2 cR0 cR1 cR2 fR0 fR1 fR2 cY0 cY1 cY2 cY3 fY0 fY1 fY2 fY3
  replace OX : Hid (Own (((w9.setCell ⟨(w.heap.size + 1), 0, none⟩ (.slice B6 n c6)).setCell ⟨(w.heap.size + 1), 1, none⟩ (.slice A' m c')).setCell ⟨(w.heap.size + 1), 2, none⟩ (.int .i64 gv)) w.heap.size 25 [.slice B6 n c6, .slice A' m c', .int .i64 gv]) := Lib.hid (((OX.out.far (p := ⟨(w.heap.size + 1), 0, none⟩) (by first | omega | (simp; omega) | simp) (.slice B6 n c6)).far (p := ⟨(w.heap.size + 1), 1, none⟩) (by first | omega | (simp; omega) | simp) (.slice A' m c')).far (p := ⟨(w.heap.size + 1), 2, none⟩) (by first | omega | (simp; omega) | simp) (.int .i64 gv))
  replace OR : Hid (Own (((w9.setCell ⟨(w.heap.size + 1), 0, none⟩ (.slice B6 n c6)).setCell ⟨(w.heap.size + 1), 1, none⟩ (.slice A' m c')).setCell ⟨(w.heap.size + 1), 2, none⟩ (.int .i64 gv)) (w.heap.size + 1) 25 [.slice B6 n c6, .slice A' m c', .int .i64 gv]) := Lib.hid (((OR.out.set_ 0 (.slice B6 n c6)).set_ 1 (.slice A' m c')).set_ 2 (.int .i64 gv))
  replace OY : Hid (Own (((w9.setCell ⟨(w.heap.size + 1), 0, none⟩ (.slice B6 n c6)).setCell ⟨(w.heap.size + 1), 1, none⟩ (.slice A' m c')).setCell ⟨(w.heap.size + 1), 2, none⟩ (.int .i64 gv)) w4.heap.size 40 [.string tn, .int .i64 bv, .int .i64 bt, .slice MA mn mcc]) := Lib.hid (((OY.out.far (p := ⟨(w.heap.size + 1), 0, none⟩) (by first | omega | (simp; omega) | simp) (.slice B6 n c6)).far (p := ⟨(w.heap.size + 1), 1, none⟩) (by first | omega | (simp; omega) | simp) (.slice A' m c')).far (p := ⟨(w.heap.size + 1), 2, none⟩) (by first | omega | (simp; omega) | simp) (.int .i64 gv))
  replace H6 := Lib.hid (ownsRow_setCell_other (ownsRow_setCell_other (ownsRow_setCell_other H6.out (a := ⟨(w.heap.size + 1), 0, none⟩) (fun e => by first | (have := ownBlock_eq e; (try dsimp only at this); omega) | (have := (H6.out.lt _ e).1; (try dsimp only at this); omega)) (.slice B6 n c6)) (a := ⟨(w.heap.size + 1), 1, none⟩) (fun e => by first | (have := ownBlock_eq e; (try dsimp only at this); omega) | (have := (H6.out.lt _ e).1; (try dsimp only at this); omega)) (.slice A' m c')) (a := ⟨(w.heap.size + 1), 2, none⟩) (fun e => by first | (have := ownBlock_eq e; (try dsimp only at this); omega) | (have := (H6.out.lt _ e).1; (try dsimp only at this); omega)) (.int .i64 gv))
  replace K := (((K.setCell (p := ⟨(w.heap.size + 1), 0, none⟩) (by first | exact Nat.le_refl _ | (simp only []; omega) | simp) (.slice B6 n c6)).setCell (p := ⟨(w.heap.size + 1), 1, none⟩) (by first | exact Nat.le_refl _ | (simp only []; omega) | simp) (.slice A' m c')).setCell (p := ⟨(w.heap.size + 1), 2, none⟩) (by first | exact Nat.le_refl _ | (simp only []; omega) | simp) (.int .i64 gv))
  generalize (((w9.setCell ⟨(w.heap.size + 1), 0, none⟩ (.slice B6 n c6)).setCell ⟨(w.heap.size + 1), 1, none⟩ (.slice A' m c')).setCell ⟨(w.heap.size + 1), 2, none⟩ (.int .i64 gv)) = w10 at *
  obtain ⟨cX0, cX1, cX2, fX0, fX1, fX2⟩ := OX.out.three
  obtain ⟨cR0, cR1, cR2, fR0, fR1, fR2⟩ := OR.out.three
  have cY0 := OY.out.cell? 0
  have fY0 := OY.out.frozen 0
  have cY1 := OY.out.cell? 1
  have fY1 := OY.out.frozen 1
  have cY2 := OY.out.cell? 2
  have fY2 := OY.out.frozen 2
  have cY3 := OY.out.cell? 3
  have fY3 := OY.out.frozen 3
  simp only [List.getElem?_cons_zero, List.getElem?_cons_succ] at cY0 cY1 cY2 cY3
  refine bodyPost_ret (v := .tuple #[.agg #[.slice B6 n c6, .slice A' m c', .int .i64 gv], .int .i64 0]) (by simp [results, Try.results24, go_sem, cR0, cR1, cR2]) rfl ?_
  refine ⟨_, by rw [HEX.out], ?_, K⟩
  rw [HEX.out]
  refine ix_of_row (qs := insB (ps.eraseIdx a) (⟨tn, bv, bt, (bxAt x a).mails⟩, .slice MA mn mcc)) (by rw [insB_map, map_erase, HPS.out]; unfold reName; rw [HBV.out, HBT.out]) H6.out HLI.out.symm (fun k hk => by have := HOV.out k hk; omega) (fun p hp => ?_) (HST.out.go K (Ext.refl _ _)) rfl
  unfold insB at hp
  have HMP := HML.out (ps[a]'hpa) (List.getElem_mem hpa)
  rw [HPA.out] at HMP
  rcases List.mem_append.1 hp with hp | hp
  · exact (HML.out p (List.mem_of_mem_eraseIdx (List.mem_of_mem_take hp))).go K (Ext.refl _ _)
  · rcases List.mem_cons.1 hp with rfl | hp
    · exact HMP.go K (Ext.refl _ _)
    · exact (HML.out p (List.mem_of_mem_eraseIdx (List.mem_of_mem_drop hp))).go K (Ext.refl _ _)

theorem ren_any (V : List Nat) (x : Ix) (v : Value) (fr tn : ByteArray) (w : World) (hV : Old V w) (h : IxAt V w v x) (hok : IxOk x) (hns : tn.size ≤ maxLen) :
    Calls Try.prog 24 #[v, .string fr, .string tn] w (IxPost V (renR x fr tn) w) := by
  rcases Bool.eq_false_or_eq_true (rightB x) with hr | hr
  · rcases Bool.eq_false_or_eq_true (nameB tn) with hn | hn
    · cases hf : findX x fr with
      | none => exact ren_no3 V x v fr tn w hV h hok hr hn hns hf
      | some a =>
        cases hf2 : findX x tn with
        | some q => exact ren_no4 V x v a q fr tn w hV h hok hr hn hns hf hf2
        | none =>
          rcases Bool.eq_false_or_eq_true (fr.toList == inbox.toList) with he | he
          · exact ren_mov V x v a fr tn w hV h hok hr hn hns hf hf2 he
          · obtain ⟨h1, h2, _, _, _, _, _, h8⟩ := right_len hr
            obtain ⟨ha, hp, _⟩ := findTo_inv hf
            have ha0 : a ≠ 0 := fun e => by
              subst e
              have e1 : (bxAt x 0).name.toList = fr.toList := by simpa [findP, nmEq] using hp
              have e2 : (bxAt x 0).name.toList = inbox.toList := by simpa [nmEq] using h8
              rw [← e1, e2] at he
              simp at he
            exact ren_main V x v a fr tn w hV h hok hr hn hns hf hf2 he ha h2 (by omega)
    · exact ren_no2 V x v fr tn w hV h hok hr hn hns
  · exact ren_no1 V x v fr tn w hV h hok hr
end Go.Proofs.Ytjinnkbnllnllaa
