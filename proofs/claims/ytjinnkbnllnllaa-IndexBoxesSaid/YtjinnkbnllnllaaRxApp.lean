/- Walk: mailsackref15.Append. -/
import Derived.Test.YtjinnkbnllnllaaRxTurnIx
import Derived.Test.YtjinnkbnllnllaaRxRightA
import Derived.Test.YtjinnkbnllnllaaRxFind
namespace Go.Proofs.Ytjinnkbnllnllaa
open Go.RowKit

theorem mls_of_own {V : List Nat} {w : World} {base n : Nat} {A : Option Addr} {c : Nat} {l : List Ml} (h : w.ownsRow base 73 4 (.slice A n c) n (mls l)) (hn : n = l.length) (hV : ∀ k ∈ V, k < base) : MlsAt V w (.slice A n c) l := by
  obtain ⟨A', c', e, h1, h2, h3⟩ := own_form (V := V) h hV
  cases e
  subst hn
  exact ⟨_, _, rfl, h1, h2, h3⟩
/-- The messages of each mailbox are few. -/
def Few (x : Ix) : Prop := ∀ k, k < x.boxes.length → (bxAt x k).mails.length ≤ 50
theorem rm_new (ob sz fl : Int) : rmB ⟨1, fl, ob, sz⟩ = mailB ob sz fl := by rw [rmB_eq]; rfl

set_option maxRecDepth 100000 in
set_option maxHeartbeats 1000000 in
theorem rapp_no1 (V : List Nat) (x : Ix) (v : Value) (nm : ByteArray) (ob sz fl : Int) (w : World) (hV : Old V w) (h : IxAt V w v x) (hok : IxOk x) (hfew : Few x) (hr : rightB x = false) :
    Calls Try.prog 17 #[v, .string nm, .int .i64 ob, .int .i64 sz, .int .i64 fl] w (IxPost3 V (appR x nm ob sz fl) w) := by
  have HEX : Hid (appR x nm ob sz fl = (ix0, 0, 1)) := by
    show _ = _
    unfold appR; rw [hr]; rfl
  have HV := Lib.hid h
  have HOV := Lib.hid hV
  have HOK := Lib.hid hok
  have HFEW := Lib.hid hfew
  have HR := Lib.hid hr
  obtain ⟨A, c, A', c', rfl, hc1, hc2, hc3, hc4, hbx, hrow⟩ := (h.weak (U := []) (fun _ hk => by cases hk)).open_
  have HROW := Lib.hid hrow
  clear hbx hrow h hok hV hfew hr
  unfold maxLen at hc2 hc4
  generalize hn : x.boxes.length = n at *
  generalize hm : x.subs.length = m at *
  generalize hg : x.given = gv at *
  have HN := Lib.hid hn
  have HM := Lib.hid hm
  have HG := Lib.hid hg
  clear hn hm hg
  go_enter Try.func17, Try.ntmps17
  go_wp2_with fail
  have OX := Lib.hid ((Own.newAt w w.heap.size 29 [.slice A n c, .slice A' m c', .int .i64 gv] (by simp)).alloc (.cells #[.slice none 0 0, .slice none 0 0, .int .i64 0] 29))
  have OR := Lib.hid (Own.newAt (w.alloc (.cells #[.slice A n c, .slice A' m c', .int .i64 gv] 29)) (w.heap.size + 1) 29 [.slice none 0 0, .slice none 0 0, .int .i64 0] (by simp))
  have K := (((Kept.refl w).alloc (.cells #[.slice A n c, .slice A' m c', .int .i64 gv] 29)).alloc (.cells #[.slice none 0 0, .slice none 0 0, .int .i64 0] 29))
  generalize ((w.alloc (.cells #[.slice A n c, .slice A' m c', .int .i64 gv] 29)).alloc (.cells #[.slice none 0 0, .slice none 0 0, .int .i64 0] 29)) = w1 at *
  obtain ⟨cX0, cX1, cX2, fX0, fX1, fX2⟩ := OX.out.three
  obtain ⟨cR0, cR1, cR2, fR0, fR1, fR2⟩ := OR.out.three
  refine (rright_any x _ _ (HV.out.go K (Ext.nil _ _)) HOK.out HFEW.out).mono ?_
  rintro e w2 ⟨rfl, hk⟩
  clear cX0 cX1 cX2 fX0 fX1 fX2 cR0 cR1 cR2 fR0 fR1 fR2
  replace OX := Lib.hid (OX.out.kept hk)
  replace OR := Lib.hid (OR.out.kept hk)
  replace K := K.trans hk
  rw [HR.out]
  clear hk
  obtain ⟨cX0, cX1, cX2, fX0, fX1, fX2⟩ := OX.out.three
  obtain ⟨cR0, cR1, cR2, fR0, fR1, fR2⟩ := OR.out.three
  go_wp2
  clear cX0 cX1 cX2 fX0 fX1 fX2 cR0 cR1 cR2 fR0 fR1 fR2
  replace OX : Hid (Own (((w2.setCell ⟨(w.heap.size + 1), 0, none⟩ (.slice none 0 0)).setCell ⟨(w.heap.size + 1), 1, none⟩ (.slice none 0 0)).setCell ⟨(w.heap.size + 1), 2, none⟩ (.int .i64 0)) w.heap.size 29 [.slice A n c, .slice A' m c', .int .i64 gv]) := Lib.hid (((OX.out.far (p := ⟨(w.heap.size + 1), 0, none⟩) (by first | omega | (simp; omega) | simp) (.slice none 0 0)).far (p := ⟨(w.heap.size + 1), 1, none⟩) (by first | omega | (simp; omega) | simp) (.slice none 0 0)).far (p := ⟨(w.heap.size + 1), 2, none⟩) (by first | omega | (simp; omega) | simp) (.int .i64 0))
  replace OR : Hid (Own (((w2.setCell ⟨(w.heap.size + 1), 0, none⟩ (.slice none 0 0)).setCell ⟨(w.heap.size + 1), 1, none⟩ (.slice none 0 0)).setCell ⟨(w.heap.size + 1), 2, none⟩ (.int .i64 0)) (w.heap.size + 1) 29 [.slice none 0 0, .slice none 0 0, .int .i64 0]) := Lib.hid (((OR.out.set_ 0 (.slice none 0 0)).set_ 1 (.slice none 0 0)).set_ 2 (.int .i64 0))
  replace K := (((K.setCell (p := ⟨(w.heap.size + 1), 0, none⟩) (by first | exact Nat.le_refl _ | (simp only []; omega) | simp) (.slice none 0 0)).setCell (p := ⟨(w.heap.size + 1), 1, none⟩) (by first | exact Nat.le_refl _ | (simp only []; omega) | simp) (.slice none 0 0)).setCell (p := ⟨(w.heap.size + 1), 2, none⟩) (by first | exact Nat.le_refl _ | (simp only []; omega) | simp) (.int .i64 0))
  generalize (((w2.setCell ⟨(w.heap.size + 1), 0, none⟩ (.slice none 0 0)).setCell ⟨(w.heap.size + 1), 1, none⟩ (.slice none 0 0)).setCell ⟨(w.heap.size + 1), 2, none⟩ (.int .i64 0)) = w3 at *
  obtain ⟨cX0, cX1, cX2, fX0, fX1, fX2⟩ := OX.out.three
  obtain ⟨cR0, cR1, cR2, fR0, fR1, fR2⟩ := OR.out.three
  refine bodyPost_ret (v := .tuple #[.agg #[.slice none 0 0, .slice none 0 0, .int .i64 0], .int .i64 0, .int .i64 1]) (by simp [results, Try.results17, go_sem, cR0, cR1, cR2]) rfl ?_
  exact ⟨_, by rw [HEX.out], by rw [HEX.out]; exact ixAt_nil _ _, K⟩

set_option maxRecDepth 100000 in
set_option maxHeartbeats 1000000 in
theorem rapp_no2 (V : List Nat) (x : Ix) (v : Value) (nm : ByteArray) (ob sz fl : Int) (w : World) (hV : Old V w) (h : IxAt V w v x) (hok : IxOk x) (hfew : Few x) (hr : rightB x = true) (hm1 : rmB ⟨1, fl, ob, sz⟩ = false) :
    Calls Try.prog 17 #[v, .string nm, .int .i64 ob, .int .i64 sz, .int .i64 fl] w (IxPost3 V (appR x nm ob sz fl) w) := by
  have HEX : Hid (appR x nm ob sz fl = (ix0, 0, 1)) := by
    show _ = _
    unfold appR; rw [hr, ← rm_new, hm1]; rfl
  have HV := Lib.hid h
  have HOV := Lib.hid hV
  have HOK := Lib.hid hok
  have HFEW := Lib.hid hfew
  have HR := Lib.hid hr
  have HM1 := Lib.hid hm1
  obtain ⟨A, c, A', c', rfl, hc1, hc2, hc3, hc4, hbx, hrow⟩ := (h.weak (U := []) (fun _ hk => by cases hk)).open_
  have HROW := Lib.hid hrow
  clear hbx hrow h hok hV hfew hr hm1
  unfold maxLen at hc2 hc4
  generalize hn : x.boxes.length = n at *
  generalize hm : x.subs.length = m at *
  generalize hg : x.given = gv at *
  have HN := Lib.hid hn
  have HM := Lib.hid hm
  have HG := Lib.hid hg
  clear hn hm hg
  go_enter Try.func17, Try.ntmps17
  go_wp2_with fail
  have OX := Lib.hid ((Own.newAt w w.heap.size 29 [.slice A n c, .slice A' m c', .int .i64 gv] (by simp)).alloc (.cells #[.slice none 0 0, .slice none 0 0, .int .i64 0] 29))
  have OR := Lib.hid (Own.newAt (w.alloc (.cells #[.slice A n c, .slice A' m c', .int .i64 gv] 29)) (w.heap.size + 1) 29 [.slice none 0 0, .slice none 0 0, .int .i64 0] (by simp))
  have K := (((Kept.refl w).alloc (.cells #[.slice A n c, .slice A' m c', .int .i64 gv] 29)).alloc (.cells #[.slice none 0 0, .slice none 0 0, .int .i64 0] 29))
  generalize ((w.alloc (.cells #[.slice A n c, .slice A' m c', .int .i64 gv] 29)).alloc (.cells #[.slice none 0 0, .slice none 0 0, .int .i64 0] 29)) = w1 at *
  obtain ⟨cX0, cX1, cX2, fX0, fX1, fX2⟩ := OX.out.three
  obtain ⟨cR0, cR1, cR2, fR0, fR1, fR2⟩ := OR.out.three
  refine (rright_any x _ _ (HV.out.go K (Ext.nil _ _)) HOK.out HFEW.out).mono ?_
  rintro e w2 ⟨rfl, hk⟩
  clear cX0 cX1 cX2 fX0 fX1 fX2 cR0 cR1 cR2 fR0 fR1 fR2
  replace OX := Lib.hid (OX.out.kept hk)
  replace OR := Lib.hid (OR.out.kept hk)
  replace K := K.trans hk
  rw [HR.out]
  clear hk
  obtain ⟨cX0, cX1, cX2, fX0, fX1, fX2⟩ := OX.out.three
  obtain ⟨cR0, cR1, cR2, fR0, fR1, fR2⟩ := OR.out.three
  go_wp2_with fail
  refine (rmail_any ⟨1, fl, ob, sz⟩ _).mono ?_
  rintro e w3 ⟨rfl, hk⟩
  clear cX0 cX1 cX2 fX0 fX1 fX2 cR0 cR1 cR2 fR0 fR1 fR2
  replace OX := Lib.hid (OX.out.kept hk)
  replace OR := Lib.hid (OR.out.kept hk)
  replace K := K.trans hk
  rw [HM1.out]
  clear hk
  obtain ⟨cX0, cX1, cX2, fX0, fX1, fX2⟩ := OX.out.three
  obtain ⟨cR0, cR1, cR2, fR0, fR1, fR2⟩ := OR.out.three
  go_wp2
  clear cX0 cX1 cX2 fX0 fX1 fX2 cR0 cR1 cR2 fR0 fR1 fR2
  replace OX : Hid (Own (((w3.setCell ⟨(w.heap.size + 1), 0, none⟩ (.slice none 0 0)).setCell ⟨(w.heap.size + 1), 1, none⟩ (.slice none 0 0)).setCell ⟨(w.heap.size + 1), 2, none⟩ (.int .i64 0)) w.heap.size 29 [.slice A n c, .slice A' m c', .int .i64 gv]) := Lib.hid (((OX.out.far (p := ⟨(w.heap.size + 1), 0, none⟩) (by first | omega | (simp; omega) | simp) (.slice none 0 0)).far (p := ⟨(w.heap.size + 1), 1, none⟩) (by first | omega | (simp; omega) | simp) (.slice none 0 0)).far (p := ⟨(w.heap.size + 1), 2, none⟩) (by first | omega | (simp; omega) | simp) (.int .i64 0))
  replace OR : Hid (Own (((w3.setCell ⟨(w.heap.size + 1), 0, none⟩ (.slice none 0 0)).setCell ⟨(w.heap.size + 1), 1, none⟩ (.slice none 0 0)).setCell ⟨(w.heap.size + 1), 2, none⟩ (.int .i64 0)) (w.heap.size + 1) 29 [.slice none 0 0, .slice none 0 0, .int .i64 0]) := Lib.hid (((OR.out.set_ 0 (.slice none 0 0)).set_ 1 (.slice none 0 0)).set_ 2 (.int .i64 0))
  replace K := (((K.setCell (p := ⟨(w.heap.size + 1), 0, none⟩) (by first | exact Nat.le_refl _ | (simp only []; omega) | simp) (.slice none 0 0)).setCell (p := ⟨(w.heap.size + 1), 1, none⟩) (by first | exact Nat.le_refl _ | (simp only []; omega) | simp) (.slice none 0 0)).setCell (p := ⟨(w.heap.size + 1), 2, none⟩) (by first | exact Nat.le_refl _ | (simp only []; omega) | simp) (.int .i64 0))
  generalize (((w3.setCell ⟨(w.heap.size + 1), 0, none⟩ (.slice none 0 0)).setCell ⟨(w.heap.size + 1), 1, none⟩ (.slice none 0 0)).setCell ⟨(w.heap.size + 1), 2, none⟩ (.int .i64 0)) = w4 at *
  obtain ⟨cX0, cX1, cX2, fX0, fX1, fX2⟩ := OX.out.three
  obtain ⟨cR0, cR1, cR2, fR0, fR1, fR2⟩ := OR.out.three
  refine bodyPost_ret (v := .tuple #[.agg #[.slice none 0 0, .slice none 0 0, .int .i64 0], .int .i64 0, .int .i64 1]) (by simp [results, Try.results17, go_sem, cR0, cR1, cR2]) rfl ?_
  exact ⟨_, by rw [HEX.out], by rw [HEX.out]; exact ixAt_nil _ _, K⟩

set_option maxRecDepth 100000 in
set_option maxHeartbeats 1000000 in
theorem rapp_no3 (V : List Nat) (x : Ix) (v : Value) (nm : ByteArray) (ob sz fl : Int) (w : World) (hV : Old V w) (h : IxAt V w v x) (hok : IxOk x) (hfew : Few x) (hr : rightB x = true) (hm1 : rmB ⟨1, fl, ob, sz⟩ = true) (hf : findX x nm = none) :
    Calls Try.prog 17 #[v, .string nm, .int .i64 ob, .int .i64 sz, .int .i64 fl] w (IxPost3 V (appR x nm ob sz fl) w) := by
  have HEX : Hid (appR x nm ob sz fl = (ix0, 0, 6)) := by
    show _ = _
    unfold appR; rw [hr, ← rm_new, hm1, hf]; rfl
  have HV := Lib.hid h
  have HOV := Lib.hid hV
  have HOK := Lib.hid hok
  have HFEW := Lib.hid hfew
  have HR := Lib.hid hr
  have HM1 := Lib.hid hm1
  have HF := Lib.hid hf
  obtain ⟨A, c, A', c', rfl, hc1, hc2, hc3, hc4, hbx, hrow⟩ := (h.weak (U := []) (fun _ hk => by cases hk)).open_
  have HROW := Lib.hid hrow
  clear hbx hrow h hok hV hfew hr hm1 hf
  unfold maxLen at hc2 hc4
  generalize hn : x.boxes.length = n at *
  generalize hm : x.subs.length = m at *
  generalize hg : x.given = gv at *
  have HN := Lib.hid hn
  have HM := Lib.hid hm
  have HG := Lib.hid hg
  clear hn hm hg
  go_enter Try.func17, Try.ntmps17
  go_wp2_with fail
  have OX := Lib.hid ((Own.newAt w w.heap.size 29 [.slice A n c, .slice A' m c', .int .i64 gv] (by simp)).alloc (.cells #[.slice none 0 0, .slice none 0 0, .int .i64 0] 29))
  have OR := Lib.hid (Own.newAt (w.alloc (.cells #[.slice A n c, .slice A' m c', .int .i64 gv] 29)) (w.heap.size + 1) 29 [.slice none 0 0, .slice none 0 0, .int .i64 0] (by simp))
  have K := (((Kept.refl w).alloc (.cells #[.slice A n c, .slice A' m c', .int .i64 gv] 29)).alloc (.cells #[.slice none 0 0, .slice none 0 0, .int .i64 0] 29))
  generalize ((w.alloc (.cells #[.slice A n c, .slice A' m c', .int .i64 gv] 29)).alloc (.cells #[.slice none 0 0, .slice none 0 0, .int .i64 0] 29)) = w1 at *
  obtain ⟨cX0, cX1, cX2, fX0, fX1, fX2⟩ := OX.out.three
  obtain ⟨cR0, cR1, cR2, fR0, fR1, fR2⟩ := OR.out.three
  refine (rright_any x _ _ (HV.out.go K (Ext.nil _ _)) HOK.out HFEW.out).mono ?_
  rintro e w2 ⟨rfl, hk⟩
  clear cX0 cX1 cX2 fX0 fX1 fX2 cR0 cR1 cR2 fR0 fR1 fR2
  replace OX := Lib.hid (OX.out.kept hk)
  replace OR := Lib.hid (OR.out.kept hk)
  replace K := K.trans hk
  rw [HR.out]
  clear hk
  obtain ⟨cX0, cX1, cX2, fX0, fX1, fX2⟩ := OX.out.three
  obtain ⟨cR0, cR1, cR2, fR0, fR1, fR2⟩ := OR.out.three
  go_wp2_with fail
  refine (rmail_any ⟨1, fl, ob, sz⟩ _).mono ?_
  rintro e w3 ⟨rfl, hk⟩
  clear cX0 cX1 cX2 fX0 fX1 fX2 cR0 cR1 cR2 fR0 fR1 fR2
  replace OX := Lib.hid (OX.out.kept hk)
  replace OR := Lib.hid (OR.out.kept hk)
  replace K := K.trans hk
  rw [HM1.out]
  clear hk
  obtain ⟨cX0, cX1, cX2, fX0, fX1, fX2⟩ := OX.out.three
  obtain ⟨cR0, cR1, cR2, fR0, fR1, fR2⟩ := OR.out.three
  go_wp2_with fail
  refine (rfind_any x _ nm _ (HV.out.go K (Ext.nil _ _))).mono ?_
  rintro e w4 ⟨rfl, hk⟩
  clear cX0 cX1 cX2 fX0 fX1 fX2 cR0 cR1 cR2 fR0 fR1 fR2
  replace OX := Lib.hid (OX.out.kept hk)
  replace OR := Lib.hid (OR.out.kept hk)
  replace K := K.trans hk
  rw [HF.out, show ofO none = -1 from rfl]
  clear hk
  obtain ⟨cX0, cX1, cX2, fX0, fX1, fX2⟩ := OX.out.three
  obtain ⟨cR0, cR1, cR2, fR0, fR1, fR2⟩ := OR.out.three
  go_wp2
  clear cX0 cX1 cX2 fX0 fX1 fX2 cR0 cR1 cR2 fR0 fR1 fR2
  replace OX : Hid (Own (((w4.setCell ⟨(w.heap.size + 1), 0, none⟩ (.slice none 0 0)).setCell ⟨(w.heap.size + 1), 1, none⟩ (.slice none 0 0)).setCell ⟨(w.heap.size + 1), 2, none⟩ (.int .i64 0)) w.heap.size 29 [.slice A n c, .slice A' m c', .int .i64 gv]) := Lib.hid (((OX.out.far (p := ⟨(w.heap.size + 1), 0, none⟩) (by first | omega | (simp; omega) | simp) (.slice none 0 0)).far (p := ⟨(w.heap.size + 1), 1, none⟩) (by first | omega | (simp; omega) | simp) (.slice none 0 0)).far (p := ⟨(w.heap.size + 1), 2, none⟩) (by first | omega | (simp; omega) | simp) (.int .i64 0))
  replace OR : Hid (Own (((w4.setCell ⟨(w.heap.size + 1), 0, none⟩ (.slice none 0 0)).setCell ⟨(w.heap.size + 1), 1, none⟩ (.slice none 0 0)).setCell ⟨(w.heap.size + 1), 2, none⟩ (.int .i64 0)) (w.heap.size + 1) 29 [.slice none 0 0, .slice none 0 0, .int .i64 0]) := Lib.hid (((OR.out.set_ 0 (.slice none 0 0)).set_ 1 (.slice none 0 0)).set_ 2 (.int .i64 0))
  replace K := (((K.setCell (p := ⟨(w.heap.size + 1), 0, none⟩) (by first | exact Nat.le_refl _ | (simp only []; omega) | simp) (.slice none 0 0)).setCell (p := ⟨(w.heap.size + 1), 1, none⟩) (by first | exact Nat.le_refl _ | (simp only []; omega) | simp) (.slice none 0 0)).setCell (p := ⟨(w.heap.size + 1), 2, none⟩) (by first | exact Nat.le_refl _ | (simp only []; omega) | simp) (.int .i64 0))
  generalize (((w4.setCell ⟨(w.heap.size + 1), 0, none⟩ (.slice none 0 0)).setCell ⟨(w.heap.size + 1), 1, none⟩ (.slice none 0 0)).setCell ⟨(w.heap.size + 1), 2, none⟩ (.int .i64 0)) = w5 at *
  obtain ⟨cX0, cX1, cX2, fX0, fX1, fX2⟩ := OX.out.three
  obtain ⟨cR0, cR1, cR2, fR0, fR1, fR2⟩ := OR.out.three
  refine bodyPost_ret (v := .tuple #[.agg #[.slice none 0 0, .slice none 0 0, .int .i64 0], .int .i64 0, .int .i64 6]) (by simp [results, Try.results17, go_sem, cR0, cR1, cR2]) rfl ?_
  exact ⟨_, by rw [HEX.out], by rw [HEX.out]; exact ixAt_nil _ _, K⟩

set_option maxRecDepth 100000 in
set_option maxHeartbeats 4000000 in
theorem rapp_main (V : List Nat) (x : Ix) (v : Value) (a : Nat) (nm : ByteArray) (ob sz fl : Int) (w : World) (hV : Old V w) (h : IxAt V w v x) (hok : IxOk x) (hfew : Few x) (hr : rightB x = true) (hm1 : rmB ⟨1, fl, ob, sz⟩ = true) (hf : findX x nm = some a) (ha : a < x.boxes.length) (hl : x.boxes.length ≤ 6) (hst : ∀ j, j < x.boxes.length → stepB x j = true) :
    Calls Try.prog 17 #[v, .string nm, .int .i64 ob, .int .i64 sz, .int .i64 fl] w (IxPost3 V (appR x nm ob sz fl) w) := by
  have HV := Lib.hid h
  have HOV := Lib.hid hV
  have HOK := Lib.hid hok
  have HFEW := Lib.hid hfew
  have HR := Lib.hid hr
  have HM1 := Lib.hid hm1
  have HF := Lib.hid hf
  have HST := Lib.hid hst
  obtain ⟨A, c, A', c', rfl, hc1, hc2, hc3, hc4, hbx, hrow⟩ := (h.weak (U := []) (fun _ hk => by cases hk)).open_
  obtain ⟨b, o, mv, rfl, hb, _, hbc⟩ := hbx (by omega)
  have HBC := Lib.hid hbc
  clear hbc
  have HROW := Lib.hid hrow
  clear hbx hrow h hok hV hfew hr hm1 hf hst
  unfold maxLen at hc2 hc4
  generalize hn : x.boxes.length = n at *
  generalize hm : x.subs.length = m at *
  generalize hg : x.given = gv at *
  have HN := Lib.hid hn
  have HM := Lib.hid hm
  have HG := Lib.hid hg
  clear hn hm hg
  go_enter Try.func17, Try.ntmps17
  go_wp2_with fail
  have OX := Lib.hid ((Own.newAt w w.heap.size 29 [.slice (some ⟨b, o, none⟩) n c, .slice A' m c', .int .i64 gv] (by simp)).alloc (.cells #[.slice none 0 0, .slice none 0 0, .int .i64 0] 29))
  have OR := Lib.hid (Own.newAt (w.alloc (.cells #[.slice (some ⟨b, o, none⟩) n c, .slice A' m c', .int .i64 gv] 29)) (w.heap.size + 1) 29 [.slice none 0 0, .slice none 0 0, .int .i64 0] (by simp))
  have K := (((Kept.refl w).alloc (.cells #[.slice (some ⟨b, o, none⟩) n c, .slice A' m c', .int .i64 gv] 29)).alloc (.cells #[.slice none 0 0, .slice none 0 0, .int .i64 0] 29))
  generalize ((w.alloc (.cells #[.slice (some ⟨b, o, none⟩) n c, .slice A' m c', .int .i64 gv] 29)).alloc (.cells #[.slice none 0 0, .slice none 0 0, .int .i64 0] 29)) = w1 at *
  obtain ⟨cX0, cX1, cX2, fX0, fX1, fX2⟩ := OX.out.three
  obtain ⟨cR0, cR1, cR2, fR0, fR1, fR2⟩ := OR.out.three
  refine (rright_any x _ _ (HV.out.go K (Ext.nil _ _)) HOK.out HFEW.out).mono ?_
  rintro e w2 ⟨rfl, hk⟩
  clear cX0 cX1 cX2 fX0 fX1 fX2 cR0 cR1 cR2 fR0 fR1 fR2
  replace OX := Lib.hid (OX.out.kept hk)
  replace OR := Lib.hid (OR.out.kept hk)
  replace K := K.trans hk
  rw [HR.out]
  clear hk
  obtain ⟨cX0, cX1, cX2, fX0, fX1, fX2⟩ := OX.out.three
  obtain ⟨cR0, cR1, cR2, fR0, fR1, fR2⟩ := OR.out.three
  go_wp2_with fail
  refine (rmail_any ⟨1, fl, ob, sz⟩ _).mono ?_
  rintro e w3 ⟨rfl, hk⟩
  clear cX0 cX1 cX2 fX0 fX1 fX2 cR0 cR1 cR2 fR0 fR1 fR2
  replace OX := Lib.hid (OX.out.kept hk)
  replace OR := Lib.hid (OR.out.kept hk)
  replace K := K.trans hk
  rw [HM1.out]
  clear hk
  obtain ⟨cX0, cX1, cX2, fX0, fX1, fX2⟩ := OX.out.three
  obtain ⟨cR0, cR1, cR2, fR0, fR1, fR2⟩ := OR.out.three
  go_wp2_with fail
  refine (rfind_any x _ nm _ (HV.out.go K (Ext.nil _ _))).mono ?_
  rintro e w4 ⟨rfl, hk⟩
  clear cX0 cX1 cX2 fX0 fX1 fX2 cR0 cR1 cR2 fR0 fR1 fR2
  replace OX := Lib.hid (OX.out.kept hk)
  replace OR := Lib.hid (OR.out.kept hk)
  replace K := K.trans hk
  rw [HF.out, show ofO (some a) = (a : Int) from rfl]
  clear hk
  obtain ⟨cX0, cX1, cX2, fX0, fX1, fX2⟩ := OX.out.three
  obtain ⟨cR0, cR1, cR2, fR0, fR1, fR2⟩ := OR.out.three
  have a0 : (0 : Int) ≤ (a : Int) := by omega
  have a1 : (a : Int) < (n : Int) := by omega
  go_wp2_with fail
  go_loopw [14, 41] (fun tv iv wq => ∃ k : Nat, k ≤ n ∧ iv = .int .i64 k ∧ tv = .int .i64 (totTo x k : Nat) ∧ Own wq w.heap.size 29 [.slice (some ⟨b, o, none⟩) n c, .slice A' m c', .int .i64 gv] ∧ Own wq (w.heap.size + 1) 29 [.slice none 0 0, .slice none 0 0, .int .i64 0] ∧ Kept w wq) (fun _ iv _ => n - (intOf iv).toNat)
  case atStart => exact ⟨0, Nat.zero_le _, rfl, rfl, OX.out, OR.out, K⟩
  case round =>
    clear cX0 cX1 cX2 fX0 fX1 fX2 cR0 cR1 cR2 fR0 fR1 fR2
    clear OX OR K
    obtain ⟨k, hk, rfl, rfl, ox, or, K⟩ := hrel
    have OX := Lib.hid ox
    have OR := Lib.hid or
    clear ox or
    have ht30 := totTo_le k (fun j hj => HST.out j (by omega))
    generalize htt : totTo x k = tk at *
    have HTT := Lib.hid htt
    clear htt
    by_cases hlt : k < n
    · obtain ⟨g1, g2, g3, g4, gm⟩ := HBC.out.go hb K (Ext.refl _ _) k (by rw [HN.out]; exact hlt)
      obtain ⟨MA, mc, hmv⟩ := gm.form
      rw [hmv] at g4
      have HT1 : Hid (totTo x (k + 1) = tk + (x.boxes[k]'(by rw [HN.out]; exact hlt)).mails.length) := by show _ = _; rw [totTo, HTT.out, bxAt_lt]
      have hm30 : (x.boxes[k]'(by rw [HN.out]; exact hlt)).mails.length ≤ 30 := by
        have := box_mails (HST.out k (by omega))
        rwa [bxAt_lt (by rw [HN.out]; exact hlt)] at this
      have hmc : (x.boxes[k]'(by rw [HN.out]; exact hlt)).mails.length ≤ mc ∧ mc ≤ maxLen := by
        rw [hmv] at gm
        obtain ⟨_, _, e, e1, e2, _⟩ := gm
        cases e; exact ⟨e1, e2⟩
      clear gm hmv
      generalize (x.boxes[k]'(by rw [HN.out]; exact hlt)) = B at *
      have k0 : (0 : Int) ≤ (k : Int) := by omega
      have k1 : (k : Int) < (n : Int) := by omega
      go_wp2
      go_roundw
      case rel => exact ⟨k + 1, by omega, by go_num, by rw [HT1.out]; go_num, OX.out.alloc _, OR.out.alloc _, K.alloc _⟩
      case measure => simp [intOf]; omega
    · obtain rfl : k = n := by omega
      obtain ⟨cX0, cX1, cX2, fX0, fX1, fX2⟩ := OX.out.three
      obtain ⟨cR0, cR1, cR2, fR0, fR1, fR2⟩ := OR.out.three
      by_cases ht : 30 ≤ tk
      · have ht' : (29 : Int) < (tk : Int) := by omega
        have HEX : Hid (appR x nm ob sz fl = (ix0, 0, 9)) := by
          show _ = _
          unfold appR
          rw [HR.out, ← rm_new, HM1.out, HF.out]
          simp only [Bool.and_true, if_true]
          rw [if_pos (by rw [HN.out, HTT.out]; exact ht)]
        go_wp2
        clear cX0 cX1 cX2 fX0 fX1 fX2 cR0 cR1 cR2 fR0 fR1 fR2
        replace OX : Hid (Own (((wr.setCell ⟨(w.heap.size + 1), 0, none⟩ (.slice none 0 0)).setCell ⟨(w.heap.size + 1), 1, none⟩ (.slice none 0 0)).setCell ⟨(w.heap.size + 1), 2, none⟩ (.int .i64 0)) w.heap.size 29 [.slice (some ⟨b, o, none⟩) k c, .slice A' m c', .int .i64 gv]) := Lib.hid (((OX.out.far (p := ⟨(w.heap.size + 1), 0, none⟩) (by first | omega | (simp; omega) | simp) (.slice none 0 0)).far (p := ⟨(w.heap.size + 1), 1, none⟩) (by first | omega | (simp; omega) | simp) (.slice none 0 0)).far (p := ⟨(w.heap.size + 1), 2, none⟩) (by first | omega | (simp; omega) | simp) (.int .i64 0))
        replace OR : Hid (Own (((wr.setCell ⟨(w.heap.size + 1), 0, none⟩ (.slice none 0 0)).setCell ⟨(w.heap.size + 1), 1, none⟩ (.slice none 0 0)).setCell ⟨(w.heap.size + 1), 2, none⟩ (.int .i64 0)) (w.heap.size + 1) 29 [.slice none 0 0, .slice none 0 0, .int .i64 0]) := Lib.hid (((OR.out.set_ 0 (.slice none 0 0)).set_ 1 (.slice none 0 0)).set_ 2 (.int .i64 0))
        replace K := (((K.setCell (p := ⟨(w.heap.size + 1), 0, none⟩) (by first | exact Nat.le_refl _ | (simp only []; omega) | simp) (.slice none 0 0)).setCell (p := ⟨(w.heap.size + 1), 1, none⟩) (by first | exact Nat.le_refl _ | (simp only []; omega) | simp) (.slice none 0 0)).setCell (p := ⟨(w.heap.size + 1), 2, none⟩) (by first | exact Nat.le_refl _ | (simp only []; omega) | simp) (.int .i64 0))
        generalize (((wr.setCell ⟨(w.heap.size + 1), 0, none⟩ (.slice none 0 0)).setCell ⟨(w.heap.size + 1), 1, none⟩ (.slice none 0 0)).setCell ⟨(w.heap.size + 1), 2, none⟩ (.int .i64 0)) = wz1 at *
        obtain ⟨cX0, cX1, cX2, fX0, fX1, fX2⟩ := OX.out.three
        obtain ⟨cR0, cR1, cR2, fR0, fR1, fR2⟩ := OR.out.three
        refine bodyPost_ret (v := .tuple #[.agg #[.slice none 0 0, .slice none 0 0, .int .i64 0], .int .i64 0, .int .i64 9]) (by simp [results, Try.results17, go_sem, cR0, cR1, cR2]) rfl ?_
        exact ⟨_, by rw [HEX.out], by rw [HEX.out]; exact ixAt_nil _ _, K⟩
      have ht' : ¬ (29 : Int) < (tk : Int) := by omega
      obtain ⟨g1, g2, g3, g4, gm⟩ := HBC.out.go hb K (Ext.refl _ _) a (by rw [HN.out]; exact ha)
      have HAT : Hid (x.boxes[a]'(by rw [HN.out]; exact ha) = bxAt x a) := (bxAt_lt _).symm
      rw [HAT.out] at g1 g2 g3 gm
      obtain ⟨MA, mc, hmv⟩ := gm.form
      rw [hmv] at g4 gm
      have HGM := Lib.hid gm
      clear gm hmv
      have HNX := Lib.hid (boxB_parts (right_box HR.out (by rw [HN.out]; exact ha)))
      have hnx1 : 1 ≤ (bxAt x a).next := HNX.out.2.2.2.1
      have hnx2 : (bxAt x a).next ≤ 4294967295 := HNX.out.2.2.2.2.1
      have hm30 : (bxAt x a).mails.length ≤ 30 := HNX.out.2.2.2.2.2.1
      have HAE : Hid (∀ m, appIx x a m = setBx x a ⟨(bxAt x a).name, (bxAt x a).val, (bxAt x a).next + 1, (bxAt x a).mails ++ [m]⟩) := fun m => rfl
      have HEX0 : Hid (appR x nm ob sz fl = if 4294967295 ≤ (bxAt x a).next then (ix0, 0, 5) else (appIx x a ⟨(bxAt x a).next, fl, ob, sz⟩, (bxAt x a).next, 0)) := by
        show _ = _
        unfold appR
        rw [HR.out, ← rm_new, HM1.out, HF.out]
        simp only [Bool.and_true, if_true]
        rw [if_neg (by rw [HN.out, HTT.out]; exact ht)]
      have HNM : Hid ((bxAt x a).name = (bxAt x a).name) := rfl
      generalize hbn : (bxAt x a).name = bn at *
      have HBN := Lib.hid hbn
      clear hbn
      generalize (bxAt x a).val = bv at *
      generalize (bxAt x a).next = nx at *
      generalize (bxAt x a).mails = ml at *
      generalize hmn : ml.length = mn at *
      have HMN := Lib.hid hmn
      clear hmn HNX HAT
      have zX0 := OX.out.lt
      have zR0 := OR.out.lt
      have zK0 := K.size
      by_cases hx5 : nx = 4294967295
      · subst hx5
        have HEX : Hid (appR x nm ob sz fl = (ix0, 0, 5)) := by show _ = _; rw [HEX0.out, if_pos (by omega)]
        go_wp2
        clear cX0 cX1 cX2 fX0 fX1 fX2 cR0 cR1 cR2 fR0 fR1 fR2
        replace OX : Hid (Own (((wr.setCell ⟨(w.heap.size + 1), 0, none⟩ (.slice none 0 0)).setCell ⟨(w.heap.size + 1), 1, none⟩ (.slice none 0 0)).setCell ⟨(w.heap.size + 1), 2, none⟩ (.int .i64 0)) w.heap.size 29 [.slice (some ⟨b, o, none⟩) k c, .slice A' m c', .int .i64 gv]) := Lib.hid (((OX.out.far (p := ⟨(w.heap.size + 1), 0, none⟩) (by first | omega | (simp; omega) | simp) (.slice none 0 0)).far (p := ⟨(w.heap.size + 1), 1, none⟩) (by first | omega | (simp; omega) | simp) (.slice none 0 0)).far (p := ⟨(w.heap.size + 1), 2, none⟩) (by first | omega | (simp; omega) | simp) (.int .i64 0))
        replace OR : Hid (Own (((wr.setCell ⟨(w.heap.size + 1), 0, none⟩ (.slice none 0 0)).setCell ⟨(w.heap.size + 1), 1, none⟩ (.slice none 0 0)).setCell ⟨(w.heap.size + 1), 2, none⟩ (.int .i64 0)) (w.heap.size + 1) 29 [.slice none 0 0, .slice none 0 0, .int .i64 0]) := Lib.hid (((OR.out.set_ 0 (.slice none 0 0)).set_ 1 (.slice none 0 0)).set_ 2 (.int .i64 0))
        replace K := (((K.setCell (p := ⟨(w.heap.size + 1), 0, none⟩) (by first | exact Nat.le_refl _ | (simp only []; omega) | simp) (.slice none 0 0)).setCell (p := ⟨(w.heap.size + 1), 1, none⟩) (by first | exact Nat.le_refl _ | (simp only []; omega) | simp) (.slice none 0 0)).setCell (p := ⟨(w.heap.size + 1), 2, none⟩) (by first | exact Nat.le_refl _ | (simp only []; omega) | simp) (.int .i64 0))
        generalize (((wr.setCell ⟨(w.heap.size + 1), 0, none⟩ (.slice none 0 0)).setCell ⟨(w.heap.size + 1), 1, none⟩ (.slice none 0 0)).setCell ⟨(w.heap.size + 1), 2, none⟩ (.int .i64 0)) = wz1 at *
        replace OX := Lib.hid (OX.out.alloc (.cells #[.string bn, .int .i64 bv, .int .i64 4294967295, .slice MA mn mc] 43))
        replace OR := Lib.hid (OR.out.alloc (.cells #[.string bn, .int .i64 bv, .int .i64 4294967295, .slice MA mn mc] 43))
        have OY := Lib.hid (Own.new wz1 43 [.string bn, .int .i64 bv, .int .i64 4294967295, .slice MA mn mc])
        replace K := K.alloc (.cells #[.string bn, .int .i64 bv, .int .i64 4294967295, .slice MA mn mc] 43)
        generalize (wz1.alloc (.cells #[.string bn, .int .i64 bv, .int .i64 4294967295, .slice MA mn mc] 43)) = wz2 at *
        obtain ⟨cR0, cR1, cR2, fR0, fR1, fR2⟩ := OR.out.three
        refine bodyPost_ret (v := .tuple #[.agg #[.slice none 0 0, .slice none 0 0, .int .i64 0], .int .i64 0, .int .i64 5]) (by simp [results, Try.results17, go_sem, cR0, cR1, cR2]) rfl ?_
        exact ⟨_, by rw [HEX.out], by rw [HEX.out]; exact ixAt_nil _ _, K⟩
      have hxb : (nx == 4294967295) = false := beq_f hx5
      have HEX : Hid (appR x nm ob sz fl = (appIx x a ⟨nx, fl, ob, sz⟩, nx, 0)) := by show _ = _; rw [HEX0.out, if_neg (by omega)]
      have HL1 : Hid ((ml ++ [(⟨nx, fl, ob, sz⟩ : Ml)]).length = mn + 1) := by show _ = _; rw [List.length_append, HMN.out]; rfl
      have nxw : IntKind.i64.wrap (nx + 1) = nx + 1 := IntWalk.i64_in _ (by omega)
      have KA : Hid (Kept wr (wr.alloc (.cells #[.string bn, .int .i64 bv, .int .i64 nx, .slice MA mn mc] 43))) := (Kept.refl wr).alloc _
      go_upto_region 15 with fail
      clear cX0 cX1 cX2 fX0 fX1 fX2 cR0 cR1 cR2 fR0 fR1 fR2
      replace OX := Lib.hid (OX.out.alloc (.cells #[.string bn, .int .i64 bv, .int .i64 nx, .slice MA mn mc] 43))
      replace OR := Lib.hid (OR.out.alloc (.cells #[.string bn, .int .i64 bv, .int .i64 nx, .slice MA mn mc] 43))
      have OY := Lib.hid (Own.new wr 43 [.string bn, .int .i64 bv, .int .i64 nx, .slice MA mn mc])
      replace K := K.alloc (.cells #[.string bn, .int .i64 bv, .int .i64 nx, .slice MA mn mc] 43)
      generalize (wr.alloc (.cells #[.string bn, .int .i64 bv, .int .i64 nx, .slice MA mn mc] 43)) = wz1 at *
      generalize wr.heap.size = gY at *
      have zX1 := OX.out.lt
      have zR1 := OR.out.lt
      have zY1 := OY.out.lt
      have zK1 := K.size
      obtain ⟨cX0, cX1, cX2, fX0, fX1, fX2⟩ := OX.out.three
      obtain ⟨cR0, cR1, cR2, fR0, fR1, fR2⟩ := OR.out.three
      have cY0 := OY.out.cell? 0
      have fY0 := OY.out.frozen 0
      have cY1 := OY.out.cell? 1
      have fY1 := OY.out.frozen 1
      have cY2 := OY.out.cell? 2
      have fY2 := OY.out.frozen 2
      have cY3 := OY.out.cell? 3
      have fY3 := OY.out.frozen 3
      simp only [List.getElem?_cons_zero, List.getElem?_cons_succ] at cY0 cY1 cY2 cY3
      clear g1 g2 g3 g4
      go_wp2_with (at_builtin; first
        | (refine Try.elRm.wpList_app rfl (.tmp 65) (.tmp 67) rfl wz1.heap.size (.slice none 0 0) [] rfl (World.ownsRow_nil _ _ _ _) [] MA mc ml (by rw [HMN.out]; rfl) (by obtain ⟨_, _, e, _, _, e3⟩ := HGM.out.go KA.out (Ext.refl _ _); cases e; exact e3) (mls_one _) (by rw [HMN.out]; unfold maxLen; simp; omega) (by rw [HMN.out]; simp; omega) (Nat.le_refl _) ?_
           intro v1 wa hap hgr hat
           simp only [List.nil_append] at hap
           rw [HMN.out] at hap
           obtain ⟨A1, c1, rfl, _, _, _⟩ := own_form (V := []) hap (by simp)
           have kg := (Kept.refl wz1).grown hgr (fun k hk => by cases hk)
           clear cX0 cX1 cX2 fX0 fX1 fX2 cR0 cR1 cR2 fR0 fR1 fR2 cY0 cY1 cY2 cY3 fY0 fY1 fY2 fY3
           replace OX := Lib.hid (OX.out.kept kg)
           replace OR := Lib.hid (OR.out.kept kg)
           replace OY := Lib.hid (OY.out.kept kg)
           replace K := K.trans kg
           have H1 := Lib.hid hap
           have zg := kg.size
           clear hap hgr hat kg
           obtain ⟨cX0, cX1, cX2, fX0, fX1, fX2⟩ := OX.out.three
           obtain ⟨cR0, cR1, cR2, fR0, fR1, fR2⟩ := OR.out.three
           have cY0 := OY.out.cell? 0
           have fY0 := OY.out.frozen 0
           have cY1 := OY.out.cell? 1
           have fY1 := OY.out.frozen 1
           have cY2 := OY.out.cell? 2
           have fY2 := OY.out.frozen 2
           have cY3 := OY.out.cell? 3
           have fY3 := OY.out.frozen 3
           simp only [List.getElem?_cons_zero, List.getElem?_cons_succ] at cY0 cY1 cY2 cY3)
        | (refine Try.elRm.wpList_app rfl (.tmp 68) (.tmp 74) rfl wz1.heap.size (.slice A1 mn c1) ml rfl (by rw [HMN.out]; exact H1.out.alloc _) [] (some ⟨wa.heap.size, 0, none⟩) 1 [⟨nx, fl, ob, sz⟩] rfl ((Own.new wa _ [.int .i64 nx, .int .i64 fl, .int .i64 ob, .int .i64 sz]).row (by simp)) (mls_one _) (by rw [HMN.out]; unfold maxLen; simp; omega) (by rw [HMN.out]; simp; omega) (by simp; omega) ?_
           intro v2 wb hap hgr hat
           rw [HL1.out] at hap
           obtain ⟨A2, c2, rfl, _, _, _⟩ := own_form (V := []) hap (by simp)
           clear cX0 cX1 cX2 fX0 fX1 fX2 cR0 cR1 cR2 fR0 fR1 fR2 cY0 cY1 cY2 cY3 fY0 fY1 fY2 fY3
           replace OX := Lib.hid ((OX.out.alloc (.cells #[.int .i64 nx, .int .i64 fl, .int .i64 ob, .int .i64 sz] 73)).appd hgr (fun bb hb => by have := (ownBlock_of H1.out hb).1; omega))
           replace OR := Lib.hid ((OR.out.alloc (.cells #[.int .i64 nx, .int .i64 fl, .int .i64 ob, .int .i64 sz] 73)).appd hgr (fun bb hb => by have := (ownBlock_of H1.out hb).1; omega))
           replace OY := Lib.hid ((OY.out.alloc (.cells #[.int .i64 nx, .int .i64 fl, .int .i64 ob, .int .i64 sz] 73)).appd hgr (fun bb hb => by have := (ownBlock_of H1.out hb).1; omega))
           replace K := (K.alloc (.cells #[.int .i64 nx, .int .i64 fl, .int .i64 ob, .int .i64 sz] 73)).grown hgr (fun bb hb => by have := (ownBlock_of H1.out hb).1; omega)
           have H2 := Lib.hid hap
           clear hap hgr hat H1
           obtain ⟨cX0, cX1, cX2, fX0, fX1, fX2⟩ := OX.out.three
           obtain ⟨cR0, cR1, cR2, fR0, fR1, fR2⟩ := OR.out.three
           have cY0 := OY.out.cell? 0
           have fY0 := OY.out.frozen 0
           have cY1 := OY.out.cell? 1
           have fY1 := OY.out.frozen 1
           have cY2 := OY.out.cell? 2
           have fY2 := OY.out.frozen 2
           have cY3 := OY.out.cell? 3
           have fY3 := OY.out.frozen 3
           simp only [List.getElem?_cons_zero, List.getElem?_cons_succ] at cY0 cY1 cY2 cY3))
      clear cX0 cX1 cX2 fX0 fX1 fX2 cR0 cR1 cR2 fR0 fR1 fR2 cY0 cY1 cY2 cY3 fY0 fY1 fY2 fY3
      replace OX : Hid (Own ((wb.setCell ⟨gY, 3, none⟩ (.slice A2 (mn + 1) c2)).setCell ⟨gY, 2, none⟩ (.int .i64 (nx + 1))) w.heap.size 29 [.slice (some ⟨b, o, none⟩) k c, .slice A' m c', .int .i64 gv]) := Lib.hid ((OX.out.far (p := ⟨gY, 3, none⟩) (by first | omega | (simp; omega) | simp) (.slice A2 (mn + 1) c2)).far (p := ⟨gY, 2, none⟩) (by first | omega | (simp; omega) | simp) (.int .i64 (nx + 1)))
      replace OR : Hid (Own ((wb.setCell ⟨gY, 3, none⟩ (.slice A2 (mn + 1) c2)).setCell ⟨gY, 2, none⟩ (.int .i64 (nx + 1))) (w.heap.size + 1) 29 [.slice none 0 0, .slice none 0 0, .int .i64 0]) := Lib.hid ((OR.out.far (p := ⟨gY, 3, none⟩) (by first | omega | (simp; omega) | simp) (.slice A2 (mn + 1) c2)).far (p := ⟨gY, 2, none⟩) (by first | omega | (simp; omega) | simp) (.int .i64 (nx + 1)))
      replace OY : Hid (Own ((wb.setCell ⟨gY, 3, none⟩ (.slice A2 (mn + 1) c2)).setCell ⟨gY, 2, none⟩ (.int .i64 (nx + 1))) gY 43 [.string bn, .int .i64 bv, .int .i64 (nx + 1), .slice A2 (mn + 1) c2]) := Lib.hid ((OY.out.set_ 3 (.slice A2 (mn + 1) c2)).set_ 2 (.int .i64 (nx + 1)))
      replace H2 := Lib.hid (ownsRow_setCell_other (ownsRow_setCell_other H2.out (a := ⟨gY, 3, none⟩) (fun e => by first | (have := ownBlock_eq e; (try dsimp only at this); omega) | (have := (H2.out.lt _ e).1; (try dsimp only at this); omega)) (.slice A2 (mn + 1) c2)) (a := ⟨gY, 2, none⟩) (fun e => by first | (have := ownBlock_eq e; (try dsimp only at this); omega) | (have := (H2.out.lt _ e).1; (try dsimp only at this); omega)) (.int .i64 (nx + 1)))
      replace K := ((K.setCell (p := ⟨gY, 3, none⟩) (by first | exact Nat.le_refl _ | (simp only []; omega) | simp) (.slice A2 (mn + 1) c2)).setCell (p := ⟨gY, 2, none⟩) (by first | exact Nat.le_refl _ | (simp only []; omega) | simp) (.int .i64 (nx + 1)))
      generalize ((wb.setCell ⟨gY, 3, none⟩ (.slice A2 (mn + 1) c2)).setCell ⟨gY, 2, none⟩ (.int .i64 (nx + 1))) = wz2 at *
      have HTU := turn_right ((w.heap.size + 1) :: V) x (some ⟨b, o, none⟩) k c A' m c' gv a ⟨bn, bv, nx + 1, ml ++ [⟨nx, fl, ob, sz⟩]⟩ A2 (mn + 1) c2 wz2 (Old.cons OR.out.lt (HOV.out.go K)) (HV.out.go K (Ext.cons (by omega) (Ext.refl _ _))) HR.out (by rw [HN.out]; exact ha) HBN.out.symm (mls_of_own H2.out HL1.out.symm (fun j hj => by
        rcases List.mem_cons.1 hj with rfl | hj
        · omega
        · have := HOV.out j hj; omega))
      have HTU := Lib.hid HTU
      clear H2
      refine (HTU.out).mono ?_
      rintro e wz3 ⟨v5, rfl, hx5', hk⟩
      replace OX := Lib.hid (OX.out.kept hk)
      replace OR := Lib.hid (OR.out.kept hk)
      replace OY := Lib.hid (OY.out.kept hk)
      replace K := K.trans hk
      have HX5 := Lib.hid hx5'
      obtain ⟨A5, c5, A6, c6, rfl⟩ := hx5'.form
      clear hx5' HTU
      clear hk
      rw [← HAE.out] at HX5
      rw [← HAE.out]
      generalize (appIx x a ⟨nx, fl, ob, sz⟩).boxes.length = n5 at *
      generalize (appIx x a ⟨nx, fl, ob, sz⟩).subs.length = n6 at *
      generalize (appIx x a ⟨nx, fl, ob, sz⟩).given = gv5 at *
      obtain ⟨cX0, cX1, cX2, fX0, fX1, fX2⟩ := OX.out.three
      obtain ⟨cR0, cR1, cR2, fR0, fR1, fR2⟩ := OR.out.three
      have cY0 := OY.out.cell? 0
      have fY0 := OY.out.frozen 0
      have cY1 := OY.out.cell? 1
      have fY1 := OY.out.frozen 1
      have cY2 := OY.out.cell? 2
      have fY2 := OY.out.frozen 2
      have cY3 := OY.out.cell? 3
      have fY3 := OY.out.frozen 3
      simp only [List.getElem?_cons_zero, List.getElem?_cons_succ] at cY0 cY1 cY2 cY3
      go_wp2
      clear cX0 cX1 cX2 fX0 fX1 fX2 cR0 cR1 cR2 fR0 fR1 fR2 cY0 cY1 cY2 cY3 fY0 fY1 fY2 fY3
      replace OX : Hid (Own (((wz3.setCell ⟨(w.heap.size + 1), 0, none⟩ (.slice A5 n5 c5)).setCell ⟨(w.heap.size + 1), 1, none⟩ (.slice A6 n6 c6)).setCell ⟨(w.heap.size + 1), 2, none⟩ (.int .i64 gv5)) w.heap.size 29 [.slice (some ⟨b, o, none⟩) k c, .slice A' m c', .int .i64 gv]) := Lib.hid (((OX.out.far (p := ⟨(w.heap.size + 1), 0, none⟩) (by first | omega | (simp; omega) | simp) (.slice A5 n5 c5)).far (p := ⟨(w.heap.size + 1), 1, none⟩) (by first | omega | (simp; omega) | simp) (.slice A6 n6 c6)).far (p := ⟨(w.heap.size + 1), 2, none⟩) (by first | omega | (simp; omega) | simp) (.int .i64 gv5))
      replace OR : Hid (Own (((wz3.setCell ⟨(w.heap.size + 1), 0, none⟩ (.slice A5 n5 c5)).setCell ⟨(w.heap.size + 1), 1, none⟩ (.slice A6 n6 c6)).setCell ⟨(w.heap.size + 1), 2, none⟩ (.int .i64 gv5)) (w.heap.size + 1) 29 [.slice A5 n5 c5, .slice A6 n6 c6, .int .i64 gv5]) := Lib.hid (((OR.out.set_ 0 (.slice A5 n5 c5)).set_ 1 (.slice A6 n6 c6)).set_ 2 (.int .i64 gv5))
      replace OY : Hid (Own (((wz3.setCell ⟨(w.heap.size + 1), 0, none⟩ (.slice A5 n5 c5)).setCell ⟨(w.heap.size + 1), 1, none⟩ (.slice A6 n6 c6)).setCell ⟨(w.heap.size + 1), 2, none⟩ (.int .i64 gv5)) gY 43 [.string bn, .int .i64 bv, .int .i64 (nx + 1), .slice A2 (mn + 1) c2]) := Lib.hid (((OY.out.far (p := ⟨(w.heap.size + 1), 0, none⟩) (by first | omega | (simp; omega) | simp) (.slice A5 n5 c5)).far (p := ⟨(w.heap.size + 1), 1, none⟩) (by first | omega | (simp; omega) | simp) (.slice A6 n6 c6)).far (p := ⟨(w.heap.size + 1), 2, none⟩) (by first | omega | (simp; omega) | simp) (.int .i64 gv5))
      replace HX5 := Lib.hid (((HX5.out.put (p := ⟨(w.heap.size + 1), 0, none⟩) (by simp) (.slice A5 n5 c5)).put (p := ⟨(w.heap.size + 1), 1, none⟩) (by simp) (.slice A6 n6 c6)).put (p := ⟨(w.heap.size + 1), 2, none⟩) (by simp) (.int .i64 gv5))
      replace K := (((K.setCell (p := ⟨(w.heap.size + 1), 0, none⟩) (by first | exact Nat.le_refl _ | (simp only []; omega) | simp) (.slice A5 n5 c5)).setCell (p := ⟨(w.heap.size + 1), 1, none⟩) (by first | exact Nat.le_refl _ | (simp only []; omega) | simp) (.slice A6 n6 c6)).setCell (p := ⟨(w.heap.size + 1), 2, none⟩) (by first | exact Nat.le_refl _ | (simp only []; omega) | simp) (.int .i64 gv5))
      generalize (((wz3.setCell ⟨(w.heap.size + 1), 0, none⟩ (.slice A5 n5 c5)).setCell ⟨(w.heap.size + 1), 1, none⟩ (.slice A6 n6 c6)).setCell ⟨(w.heap.size + 1), 2, none⟩ (.int .i64 gv5)) = wz4 at *
      obtain ⟨cX0, cX1, cX2, fX0, fX1, fX2⟩ := OX.out.three
      obtain ⟨cR0, cR1, cR2, fR0, fR1, fR2⟩ := OR.out.three
      have cY0 := OY.out.cell? 0
      have fY0 := OY.out.frozen 0
      have cY1 := OY.out.cell? 1
      have fY1 := OY.out.frozen 1
      have cY2 := OY.out.cell? 2
      have fY2 := OY.out.frozen 2
      have cY3 := OY.out.cell? 3
      have fY3 := OY.out.frozen 3
      simp only [List.getElem?_cons_zero, List.getElem?_cons_succ] at cY0 cY1 cY2 cY3
      refine bodyPost_ret (v := .tuple #[.agg #[.slice A5 n5 c5, .slice A6 n6 c6, .int .i64 gv5], .int .i64 nx, .int .i64 0]) (by simp [results, Try.results17, go_sem, cR0, cR1, cR2]) rfl ?_
      refine ⟨_, by rw [HEX.out], ?_, K⟩
      rw [HEX.out]
      exact HX5.out.go (Kept.refl _) (fun k hk => .inl (List.mem_cons_of_mem _ hk))

theorem rapp_any (V : List Nat) (x : Ix) (v : Value) (nm : ByteArray) (ob sz fl : Int) (w : World) (hV : Old V w) (h : IxAt V w v x) (hok : IxOk x) (hfew : Few x) :
    Calls Try.prog 17 #[v, .string nm, .int .i64 ob, .int .i64 sz, .int .i64 fl] w (IxPost3 V (appR x nm ob sz fl) w) := by
  rcases Bool.eq_false_or_eq_true (rightB x) with hr | hr
  · rcases Bool.eq_false_or_eq_true (rmB ⟨1, fl, ob, sz⟩) with hm | hm
    · cases hf : findX x nm with
      | none => exact rapp_no3 V x v nm ob sz fl w hV h hok hfew hr hm hf
      | some a =>
        obtain ⟨h1, h2, _, _, h5, _⟩ := right_len hr
        exact rapp_main V x v a nm ob sz fl w hV h hok hfew hr hm hf (findTo_inv hf).1 h2 (allTo_iff.1 h5)
    · exact rapp_no2 V x v nm ob sz fl w hV h hok hfew hr hm
  · exact rapp_no1 V x v nm ob sz fl w hV h hok hfew hr
end Go.Proofs.Ytjinnkbnllnllaa
