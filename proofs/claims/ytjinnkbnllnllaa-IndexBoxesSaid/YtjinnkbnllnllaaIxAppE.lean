/- Walk: index.Append, the ways that refuse; Append whole. -/
import Derived.Test.YtjinnkbnllnllaaIxAppS
namespace Go.Proofs.Ytjinnkbnllnllaa
open Go.RowKit

theorem box_next {x : Ix} {j : Nat} (h : stepB x j = true) : 1 ≤ (bxAt x j).next := by
  simp only [stepB, boxB, posB, Bool.and_eq_true, decide_eq_true_eq] at h
  omega
set_option maxRecDepth 100000 in
set_option maxHeartbeats 1000000 in
theorem app_e1 {V : List Nat} (x : Ix) (v : Value) (nm : ByteArray) (ob sz fl : Int) (w : World) (h : IxAt [] w v x) (hok : IxOk x) (hob : I64 ob) (hr : rightB x = false) :
    Calls Try.prog 11 #[v, .string nm, .int .i64 ob, .int .i64 sz, .int .i64 fl] w (AppPost V x nm ob sz fl w) := by
  have HEX : Hid (appR x nm ob sz fl = (ix0, 0, 1)) := by show _ = _; unfold appR; rw [hr]; rfl
  have H := Lib.hid h
  have HOK := Lib.hid hok
  have HR := Lib.hid hr
  obtain ⟨ho1, ho2⟩ := hob
  obtain ⟨A, c, A', c', rfl⟩ := h.form
  clear h hok hr
  go_enter Try.func11, Try.ntmps11
  go_wp2_with fail
  refine (right_any x _ _ (H.out.go (((Kept.refl w).alloc _).alloc _) (Ext.refl _ _)) HOK.out).mono ?_
  rintro e w1 ⟨rfl, hk1⟩
  rw [HR.out]
  have OX := Lib.hid (((Own.new w 25 [.slice A x.boxes.length c, .slice A' x.subs.length c', .int .i64 x.given]).alloc (.cells #[.slice none 0 0, .slice none 0 0, .int .i64 0] 25)).kept hk1)
  have OR := Lib.hid ((Own.new1 w (.cells #[.slice A x.boxes.length c, .slice A' x.subs.length c', .int .i64 x.given] 25) 25 [.slice none 0 0, .slice none 0 0, .int .i64 0]).kept hk1)
  have hkw1 := (((Kept.refl w).alloc (.cells #[.slice A x.boxes.length c, .slice A' x.subs.length c', .int .i64 x.given] 25)).alloc (.cells #[.slice none 0 0, .slice none 0 0, .int .i64 0] 25)).trans hk1
  clear hk1
  obtain ⟨p1, p2, p3, p4, p5, p6⟩ := OR.out.three
  go_wp2
  have r0 := OR.out.put3' (.slice none 0 0) (.slice none 0 0) (.int .i64 0)
  obtain ⟨s1, s2, s3, _, _, _⟩ := r0.three
  refine bodyPost_ret (v := .tuple #[.agg #[.slice none 0 0, .slice none 0 0, .int .i64 0], .int .i64 0, .int .i64 1]) (by simp [results, Try.results11, go_sem, s1, s2, s3]) rfl ?_
  exact ⟨_, by rw [HEX.out], by rw [HEX.out]; exact ixAt_nil _ _, ((hkw1.setCell (p := ⟨w.heap.size + 1, 0, none⟩) (by simp) _).setCell (p := ⟨w.heap.size + 1, 1, none⟩) (by simp) _).setCell (p := ⟨w.heap.size + 1, 2, none⟩) (by simp) _⟩
set_option maxRecDepth 100000 in
set_option maxHeartbeats 1000000 in
theorem app_e2 {V : List Nat} (x : Ix) (v : Value) (nm : ByteArray) (ob sz fl : Int) (w : World) (h : IxAt [] w v x) (hok : IxOk x) (hob : I64 ob) (hr : rightB x = true) (hm : mailB ob sz fl = false) :
    Calls Try.prog 11 #[v, .string nm, .int .i64 ob, .int .i64 sz, .int .i64 fl] w (AppPost V x nm ob sz fl w) := by
  have HEX : Hid (appR x nm ob sz fl = (ix0, 0, 1)) := by show _ = _; unfold appR; rw [hr, hm]; rfl
  have H := Lib.hid h
  have HOK := Lib.hid hok
  have HR := Lib.hid hr
  obtain ⟨ho1, ho2⟩ := hob
  obtain ⟨A, c, A', c', rfl⟩ := h.form
  clear h hok hr
  have HMB := Lib.hid hm
  clear hm
  go_enter Try.func11, Try.ntmps11
  go_wp2_with fail
  refine (right_any x _ _ (H.out.go (((Kept.refl w).alloc _).alloc _) (Ext.refl _ _)) HOK.out).mono ?_
  rintro e w1 ⟨rfl, hk1⟩
  rw [HR.out]
  have OX := Lib.hid (((Own.new w 25 [.slice A x.boxes.length c, .slice A' x.subs.length c', .int .i64 x.given]).alloc (.cells #[.slice none 0 0, .slice none 0 0, .int .i64 0] 25)).kept hk1)
  have OR := Lib.hid ((Own.new1 w (.cells #[.slice A x.boxes.length c, .slice A' x.subs.length c', .int .i64 x.given] 25) 25 [.slice none 0 0, .slice none 0 0, .int .i64 0]).kept hk1)
  have hkw1 := (((Kept.refl w).alloc (.cells #[.slice A x.boxes.length c, .slice A' x.subs.length c', .int .i64 x.given] 25)).alloc (.cells #[.slice none 0 0, .slice none 0 0, .int .i64 0] 25)).trans hk1
  clear hk1
  obtain ⟨q1, q2, q3, _, _, _⟩ := OX.out.three
  go_wp2_with fail
  refine (mail_any ob sz fl _ ho2 ho1).mono ?_
  rw [HMB.out]
  rintro e w1' ⟨rfl, rfl⟩
  obtain ⟨p1, p2, p3, p4, p5, p6⟩ := OR.out.three
  go_wp2
  have r0 := OR.out.put3' (.slice none 0 0) (.slice none 0 0) (.int .i64 0)
  obtain ⟨s1, s2, s3, _, _, _⟩ := r0.three
  refine bodyPost_ret (v := .tuple #[.agg #[.slice none 0 0, .slice none 0 0, .int .i64 0], .int .i64 0, .int .i64 1]) (by simp [results, Try.results11, go_sem, s1, s2, s3]) rfl ?_
  exact ⟨_, by rw [HEX.out], by rw [HEX.out]; exact ixAt_nil _ _, ((hkw1.setCell (p := ⟨w.heap.size + 1, 0, none⟩) (by simp) _).setCell (p := ⟨w.heap.size + 1, 1, none⟩) (by simp) _).setCell (p := ⟨w.heap.size + 1, 2, none⟩) (by simp) _⟩
set_option maxRecDepth 100000 in
set_option maxHeartbeats 1000000 in
theorem app_e3 {V : List Nat} (x : Ix) (v : Value) (nm : ByteArray) (ob sz fl : Int) (w : World) (h : IxAt [] w v x) (hok : IxOk x) (hob : I64 ob) (hr : rightB x = true) (hm : mailB ob sz fl = true) (hf : findX x nm = none) :
    Calls Try.prog 11 #[v, .string nm, .int .i64 ob, .int .i64 sz, .int .i64 fl] w (AppPost V x nm ob sz fl w) := by
  have HEX : Hid (appR x nm ob sz fl = (ix0, 0, 6)) := by show _ = _; unfold appR; rw [hr, hm, hf]; rfl
  have H := Lib.hid h
  have HOK := Lib.hid hok
  have HR := Lib.hid hr
  obtain ⟨ho1, ho2⟩ := hob
  obtain ⟨A, c, A', c', rfl⟩ := h.form
  clear h hok hr
  have HMB := Lib.hid hm
  have HF := Lib.hid hf
  clear hm hf
  go_enter Try.func11, Try.ntmps11
  go_wp2_with fail
  refine (right_any x _ _ (H.out.go (((Kept.refl w).alloc _).alloc _) (Ext.refl _ _)) HOK.out).mono ?_
  rintro e w1 ⟨rfl, hk1⟩
  rw [HR.out]
  have OX := Lib.hid (((Own.new w 25 [.slice A x.boxes.length c, .slice A' x.subs.length c', .int .i64 x.given]).alloc (.cells #[.slice none 0 0, .slice none 0 0, .int .i64 0] 25)).kept hk1)
  have OR := Lib.hid ((Own.new1 w (.cells #[.slice A x.boxes.length c, .slice A' x.subs.length c', .int .i64 x.given] 25) 25 [.slice none 0 0, .slice none 0 0, .int .i64 0]).kept hk1)
  have hkw1 := (((Kept.refl w).alloc (.cells #[.slice A x.boxes.length c, .slice A' x.subs.length c', .int .i64 x.given] 25)).alloc (.cells #[.slice none 0 0, .slice none 0 0, .int .i64 0] 25)).trans hk1
  clear hk1
  obtain ⟨q1, q2, q3, _, _, _⟩ := OX.out.three
  go_wp2_with fail
  refine (mail_any ob sz fl _ ho2 ho1).mono ?_
  rw [HMB.out]
  rintro e w1' ⟨rfl, rfl⟩
  go_wp2_with fail
  refine (find_any x _ nm _ (H.out.go hkw1 (Ext.refl _ _))).mono ?_
  rw [HF.out]
  rintro e w2 ⟨rfl, hk2⟩
  have OX2 := Lib.hid (OX.out.kept hk2)
  have OR2 := Lib.hid (OR.out.kept hk2)
  have hkw2 := hkw1.trans hk2
  clear hk2 OX OR q1 q2 q3 hkw1
  simp only [ofO]
  obtain ⟨p1, p2, p3, p4, p5, p6⟩ := OR2.out.three
  go_wp2
  have r0 := OR2.out.put3' (.slice none 0 0) (.slice none 0 0) (.int .i64 0)
  obtain ⟨s1, s2, s3, _, _, _⟩ := r0.three
  refine bodyPost_ret (v := .tuple #[.agg #[.slice none 0 0, .slice none 0 0, .int .i64 0], .int .i64 0, .int .i64 6]) (by simp [results, Try.results11, go_sem, s1, s2, s3]) rfl ?_
  exact ⟨_, by rw [HEX.out], by rw [HEX.out]; exact ixAt_nil _ _, ((hkw2.setCell (p := ⟨w.heap.size + 1, 0, none⟩) (by simp) _).setCell (p := ⟨w.heap.size + 1, 1, none⟩) (by simp) _).setCell (p := ⟨w.heap.size + 1, 2, none⟩) (by simp) _⟩
set_option maxRecDepth 100000 in
set_option maxHeartbeats 1000000 in
theorem app_e4 {V : List Nat} (x : Ix) (v : Value) (nm : ByteArray) (ob sz fl : Int) (w : World) (h : IxAt [] w v x) (hok : IxOk x) (hob : I64 ob) (hr : rightB x = true) (hm : mailB ob sz fl = true) (a : Nat) (hf : findX x nm = some a) (ha : a < x.boxes.length) (hl : x.boxes.length ≤ 6) (hst : ∀ j, j < x.boxes.length → stepB x j = true)
    (hbig : 30 ≤ totTo x x.boxes.length ∨ (totTo x x.boxes.length < 30 ∧ 4294967295 ≤ (bxAt x a).next)) :
    Calls Try.prog 11 #[v, .string nm, .int .i64 ob, .int .i64 sz, .int .i64 fl] w (AppPost V x nm ob sz fl w) := by
  have HR := Lib.hid hr
  have HEX : Hid (appR x nm ob sz fl = (ix0, 0, if 30 ≤ totTo x x.boxes.length then 9 else 5)) := by
    show _ = _
    unfold appR
    rw [hr, hm, hf]
    rcases hbig with h1 | ⟨h1, h2⟩
    · simp [h1]
    · simp [show ¬ 30 ≤ totTo x x.boxes.length by omega, h2]
  have H := Lib.hid h
  have HOK := Lib.hid hok
  obtain ⟨ho1, ho2⟩ := hob
  have HMB := Lib.hid hm
  have HF := Lib.hid hf
  have HST := Lib.hid hst
  obtain ⟨A, c, A', c', rfl, hc1, hc2, hc3, hc4, hbx, hrow⟩ := h.open_
  obtain ⟨b, o, mv, rfl, hb, _, hbc⟩ := hbx (by omega)
  have HBC := Lib.hid hbc
  clear hbx hrow h hok hr hbc hm hf hst
  unfold maxLen at hc2 hc4
  generalize hn : x.boxes.length = n at *
  generalize hm : x.subs.length = m at *
  have HN := Lib.hid hn
  have HM := Lib.hid hm
  clear hn hm
  go_enter Try.func11, Try.ntmps11
  go_wp2_with fail
  refine (right_any x _ _ (H.out.go (((Kept.refl w).alloc _).alloc _) (Ext.refl _ _)) HOK.out).mono ?_
  rintro e w1 ⟨rfl, hk1⟩
  rw [HR.out]
  have OX := Lib.hid (((Own.new w 25 [.slice (some ⟨b, o, none⟩) n c, .slice A' m c', .int .i64 x.given]).alloc (.cells #[.slice none 0 0, .slice none 0 0, .int .i64 0] 25)).kept hk1)
  have OR := Lib.hid ((Own.new1 w (.cells #[.slice (some ⟨b, o, none⟩) n c, .slice A' m c', .int .i64 x.given] 25) 25 [.slice none 0 0, .slice none 0 0, .int .i64 0]).kept hk1)
  have hkw1 := (((Kept.refl w).alloc (.cells #[.slice (some ⟨b, o, none⟩) n c, .slice A' m c', .int .i64 x.given] 25)).alloc (.cells #[.slice none 0 0, .slice none 0 0, .int .i64 0] 25)).trans hk1
  clear hk1
  obtain ⟨q1, q2, q3, _, _, _⟩ := OX.out.three
  go_wp2_with fail
  refine (mail_any ob sz fl _ ho2 ho1).mono ?_
  rw [HMB.out]
  rintro e w1' ⟨rfl, rfl⟩
  go_wp2_with fail
  refine (find_any x _ nm _ (H.out.go hkw1 (Ext.refl _ _))).mono ?_
  rw [HF.out]
  rintro e w2 ⟨rfl, hk2⟩
  have OX2 := Lib.hid (OX.out.kept hk2)
  have OR2 := Lib.hid (OR.out.kept hk2)
  have hkw2 := hkw1.trans hk2
  clear hk2 OX OR q1 q2 q3 hkw1
  simp only [ofO]
  obtain ⟨q1, q2, q3, _, _, _⟩ := OX2.out.three
  have a0 : (0 : Int) ≤ (a : Int) := by omega
  have a1 : (a : Int) < (n : Int) := by omega
  go_wp2_with fail
  go_loopw [14, 39] (fun tv iv wr => ∃ k t : Nat, k ≤ n ∧ iv = .int .i64 k ∧ tv = .int .i64 t ∧ Hid (t = totTo x k) ∧ Own wr w.heap.size 25 [.slice (some ⟨b, o, none⟩) n c, .slice A' m c', .int .i64 x.given] ∧ Own wr (w.heap.size + 1) 25 [.slice none 0 0, .slice none 0 0, .int .i64 0] ∧ Kept w wr) (fun _ iv _ => n - (intOf iv).toNat)
  case atStart => exact ⟨0, 0, Nat.zero_le _, rfl, rfl, rfl, OX2.out, OR2.out, hkw2⟩
  case round =>
    obtain ⟨k, t, hk, rfl, rfl, HT, hox, hor, hkw⟩ := hrel
    have HOX := Lib.hid hox
    have HOR := Lib.hid hor
    clear q1 q2 q3
    obtain ⟨q1, q2, q3, _, _, _⟩ := hox.three
    have ht30 := totTo_le k (fun j hj => HST.out j (by omega))
    rw [← HT.out] at ht30
    by_cases hlt : k < n
    · have hk' : k < x.boxes.length := by rw [HN.out]; exact hlt
      obtain ⟨g1, g2, g3, g4, gm⟩ := HBC.out.go hb hkw (Ext.refl _ _) k hk'
      obtain ⟨MA, mc, hmv⟩ := gm.form
      have HAT := Lib.hid (bxAt_lt hk')
      have h30 := box_mails (HST.out k (by omega))
      rw [HAT.out] at h30
      rw [hmv] at g4
      have HBIG := Lib.hid hbig
      clear hox hor gm hmv hbig
      generalize x.boxes[k] = B at *
      go_wp2
      go_roundw
      case rel => exact ⟨k + 1, t + B.mails.length, by omega, by go_num, by go_num, by show _ = _; rw [totTo, HT.out, HAT.out], HOX.out.alloc _, HOR.out.alloc _, hkw.alloc _⟩
      case measure => simp [intOf]; omega
    · obtain rfl : k = n := by omega
      have ha' : a < x.boxes.length := by rw [HN.out]; exact ha
      obtain ⟨e1, e2, e3, e4, em⟩ := HBC.out.go hb hkw (Ext.refl _ _) a ha'
      have HAT := Lib.hid (bxAt_lt ha')
      rw [← HAT.out] at e3
      rw [← HT.out] at hbig HEX
      clear hox hor em e1 e2 e4
      generalize (bxAt x a).next = nx at *
      rcases hbig with hb1 | ⟨hb1, hb2⟩
      · rw [if_pos hb1] at HEX
        obtain ⟨p1, p2, p3, p4, p5, p6⟩ := HOR.out.three
        go_wp2
        have r0 := HOR.out.put3' (.slice none 0 0) (.slice none 0 0) (.int .i64 0)
        obtain ⟨s1, s2, s3, _, _, _⟩ := r0.three
        refine bodyPost_ret (v := .tuple #[.agg #[.slice none 0 0, .slice none 0 0, .int .i64 0], .int .i64 0, .int .i64 9]) (by simp [results, Try.results11, go_sem, s1, s2, s3]) rfl ?_
        exact ⟨_, by rw [HEX.out], by rw [HEX.out]; exact ixAt_nil _ _, ((hkw.setCell (p := ⟨w.heap.size + 1, 0, none⟩) (by simp) _).setCell (p := ⟨w.heap.size + 1, 1, none⟩) (by simp) _).setCell (p := ⟨w.heap.size + 1, 2, none⟩) (by simp) _⟩
      · rw [if_neg (show ¬ 30 ≤ t by omega)] at HEX
        obtain ⟨p1, p2, p3, p4, p5, p6⟩ := HOR.out.three
        go_wp2
        have r0 := HOR.out.put3' (.slice none 0 0) (.slice none 0 0) (.int .i64 0)
        obtain ⟨s1, s2, s3, _, _, _⟩ := r0.three
        refine bodyPost_ret (v := .tuple #[.agg #[.slice none 0 0, .slice none 0 0, .int .i64 0], .int .i64 0, .int .i64 5]) (by simp [results, Try.results11, go_sem, s1, s2, s3]) rfl ?_
        exact ⟨_, by rw [HEX.out], by rw [HEX.out]; exact ixAt_nil _ _, ((hkw.setCell (p := ⟨w.heap.size + 1, 0, none⟩) (by simp) _).setCell (p := ⟨w.heap.size + 1, 1, none⟩) (by simp) _).setCell (p := ⟨w.heap.size + 1, 2, none⟩) (by simp) _⟩

theorem appV_any (V : List Nat) (x : Ix) (v : Value) (nm : ByteArray) (ob sz fl : Int) (w : World) (hV : Old V w) (h : IxAt V w v x) (hok : IxOk x) (hob : I64 ob) :
    Calls Try.prog 11 #[v, .string nm, .int .i64 ob, .int .i64 sz, .int .i64 fl] w (AppPost V x nm ob sz fl w) := by
  have h0 := h.weak (U := []) (fun _ hk => by cases hk)
  rcases Bool.eq_false_or_eq_true (rightB x) with hr | hr
  · rcases Bool.eq_false_or_eq_true (mailB ob sz fl) with hm | hm
    · obtain ⟨h1, h2, _, _, h5, _⟩ := right_len hr
      have hst := allTo_iff.1 h5
      cases hf : findX x nm with
      | none => exact app_e3 x v nm ob sz fl w h0 hok hob hr hm hf
      | some a =>
        have ha := (findTo_inv hf).1
        by_cases h30 : 30 ≤ totTo x x.boxes.length
        · exact app_e4 x v nm ob sz fl w h0 hok hob hr hm a hf ha h2 hst (.inl h30)
        · by_cases hn : 4294967295 ≤ (bxAt x a).next
          · exact app_e4 x v nm ob sz fl w h0 hok hob hr hm a hf ha h2 hst (.inr ⟨by omega, hn⟩)
          · exact app_main V x v nm ob sz fl a w hV h hok hob hr hm hf ha h2 (by omega) (by omega) (box_next (hst a ha)) hst
    · exact app_e2 x v nm ob sz fl w h0 hok hob hr hm
  · exact app_e1 x v nm ob sz fl w h0 hok hob hr
theorem app_any (x : Ix) (v : Value) (nm : ByteArray) (ob sz fl : Int) (w : World) (h : IxAt [] w v x) (hok : IxOk x) (hob : I64 ob) :
    Calls Try.prog 11 #[v, .string nm, .int .i64 ob, .int .i64 sz, .int .i64 fl] w (AppPost [] x nm ob sz fl w) := appV_any [] x v nm ob sz fl w (fun _ hk => by cases hk) h hok hob
end Go.Proofs.Ytjinnkbnllnllaa
