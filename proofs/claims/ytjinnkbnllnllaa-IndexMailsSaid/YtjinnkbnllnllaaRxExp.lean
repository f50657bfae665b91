/- Walk: mailsackref15.Expunge. -/
import Derived.Test.YtjinnkbnllnllaaRxFlag
namespace Go.Proofs.Ytjinnkbnllnllaa
open Go.RowKit

set_option maxRecDepth 100000 in
set_option maxHeartbeats 1000000 in
theorem rexp_no1 (V : List Nat) (x : Ix) (v : Value) (nm : ByteArray) (uid : Int) (w : World) (hV : Old V w) (h : IxAt V w v x) (hok : IxOk x) (hfew : Few x) (hr : rightB x = false) :
    Calls Try.prog 19 #[v, .string nm, .int .i64 uid] w (IxPost V (expR x nm uid) w) := by
  have HEX : Hid (expR x nm uid = (ix0, 1)) := by
    show _ = _
    unfold expR; rw [hr]; rfl
  have HV := Lib.hid h
  have HOV := Lib.hid hV
  have HOK := Lib.hid hok
  have HFEW := Lib.hid hfew
  have HR := Lib.hid hr
  obtain ⟨A, c, A', c', rfl, hc1, hc2, hc3, hc4, hbx, hrow⟩ := (h.weak (U := []) (fun _ hk => by cases hk)).open_
  have HROW := Lib.hid hrow
  clear hbx hrow h hok hV hfew hr
  unfold maxLen at hc2 hc4
  generalize hn : x.boxes.length = n at *
  generalize hm : x.subs.length = m at *
  generalize hg : x.given = gv at *
  have HN := Lib.hid hn
  have HM := Lib.hid hm
  have HG := Lib.hid hg
  clear hn hm hg
  go_enter Try.func19, Try.ntmps19
  go_wp2_with fail
  have OX := Lib.hid ((Own.newAt w w.heap.size 29 [.slice A n c, .slice A' m c', .int .i64 gv] (by simp)).alloc (.cells #[.slice none 0 0, .slice none 0 0, .int .i64 0] 29))
  have OR := Lib.hid (Own.newAt (w.alloc (.cells #[.slice A n c, .slice A' m c', .int .i64 gv] 29)) (w.heap.size + 1) 29 [.slice none 0 0, .slice none 0 0, .int .i64 0] (by simp))
  have K := (((Kept.refl w).alloc (.cells #[.slice A n c, .slice A' m c', .int .i64 gv] 29)).alloc (.cells #[.slice none 0 0, .slice none 0 0, .int .i64 0] 29))
  generalize ((w.alloc (.cells #[.slice A n c, .slice A' m c', .int .i64 gv] 29)).alloc (.cells #[.slice none 0 0, .slice none 0 0, .int .i64 0] 29)) = w1 at *
  obtain ⟨cX0, cX1, cX2, fX0, fX1, fX2⟩ := OX.out.three
  obtain ⟨cR0, cR1, cR2, fR0, fR1, fR2⟩ := OR.out.three
  refine (rright_any x _ _ (HV.out.go K (Ext.nil _ _)) HOK.out HFEW.out).mono ?_
  rintro e w2 ⟨rfl, hk⟩
  clear cX0 cX1 cX2 fX0 fX1 fX2 cR0 cR1 cR2 fR0 fR1 fR2
  replace OX := Lib.hid (OX.out.kept hk)
  replace OR := Lib.hid (OR.out.kept hk)
  replace K := K.trans hk
  rw [HR.out]
  clear hk
  obtain ⟨cX0, cX1, cX2, fX0, fX1, fX2⟩ := OX.out.three
  obtain ⟨cR0, cR1, cR2, fR0, fR1, fR2⟩ := OR.out.three
  go_wp2
  clear cX0 cX1 cX2 fX0 fX1 fX2 cR0 cR1 cR2 fR0 fR1 fR2
  replace OX : Hid (Own (((w2.setCell ⟨(w.heap.size + 1), 0, none⟩ (.slice none 0 0)).setCell ⟨(w.heap.size + 1), 1, none⟩ (.slice none 0 0)).setCell ⟨(w.heap.size + 1), 2, none⟩ (.int .i64 0)) w.heap.size 29 [.slice A n c, .slice A' m c', .int .i64 gv]) := Lib.hid (((OX.out.far (p := ⟨(w.heap.size + 1), 0, none⟩) (by first | omega | (simp; omega) | simp) (.slice none 0 0)).far (p := ⟨(w.heap.size + 1), 1, none⟩) (by first | omega | (simp; omega) | simp) (.slice none 0 0)).far (p := ⟨(w.heap.size + 1), 2, none⟩) (by first | omega | (simp; omega) | simp) (.int .i64 0))
  replace OR : Hid (Own (((w2.setCell ⟨(w.heap.size + 1), 0, none⟩ (.slice none 0 0)).setCell ⟨(w.heap.size + 1), 1, none⟩ (.slice none 0 0)).setCell ⟨(w.heap.size + 1), 2, none⟩ (.int .i64 0)) (w.heap.size + 1) 29 [.slice none 0 0, .slice none 0 0, .int .i64 0]) := Lib.hid (((OR.out.set_ 0 (.slice none 0 0)).set_ 1 (.slice none 0 0)).set_ 2 (.int .i64 0))
  replace K := (((K.setCell (p := ⟨(w.heap.size + 1), 0, none⟩) (by first | exact Nat.le_refl _ | (simp only []; omega) | simp) (.slice none 0 0)).setCell (p := ⟨(w.heap.size + 1), 1, none⟩) (by first | exact Nat.le_refl _ | (simp only []; omega) | simp) (.slice none 0 0)).setCell (p := ⟨(w.heap.size + 1), 2, none⟩) (by first | exact Nat.le_refl _ | (simp only []; omega) | simp) (.int .i64 0))
  generalize (((w2.setCell ⟨(w.heap.size + 1), 0, none⟩ (.slice none 0 0)).setCell ⟨(w.heap.size + 1), 1, none⟩ (.slice none 0 0)).setCell ⟨(w.heap.size + 1), 2, none⟩ (.int .i64 0)) = w3 at *
  obtain ⟨cX0, cX1, cX2, fX0, fX1, fX2⟩ := OX.out.three
  obtain ⟨cR0, cR1, cR2, fR0, fR1, fR2⟩ := OR.out.three
  refine bodyPost_ret (v := .tuple #[.agg #[.slice none 0 0, .slice none 0 0, .int .i64 0], .int .i64 1]) (by simp [results, Try.results19, go_sem, cR0, cR1, cR2]) rfl ?_
  exact ⟨_, by rw [HEX.out], by rw [HEX.out]; exact ixAt_nil _ _, K⟩

set_option maxRecDepth 100000 in
set_option maxHeartbeats 1000000 in
theorem rexp_no3 (V : List Nat) (x : Ix) (v : Value) (nm : ByteArray) (uid : Int) (w : World) (hV : Old V w) (h : IxAt V w v x) (hok : IxOk x) (hfew : Few x) (hr : rightB x = true) (hge : getR x nm uid = (⟨0, 0, 0, 0⟩, false)) (hp : (placeR x nm uid).2.2 = false) :
    Calls Try.prog 19 #[v, .string nm, .int .i64 uid] w (IxPost V (expR x nm uid) w) := by
  have HEX : Hid (expR x nm uid = (ix0, 6)) := by
    show _ = _
    unfold expR
    rcases hq : placeR x nm uid with ⟨p1, p2, p3⟩
    rw [hq] at hp
    have hp' : p3 = false := hp
    subst hp'
    rw [hr]
    rfl
  have HV := Lib.hid h
  have HOV := Lib.hid hV
  have HOK := Lib.hid hok
  have HFEW := Lib.hid hfew
  have HR := Lib.hid hr
  have HGE := Lib.hid hge
  have HP := Lib.hid hp
  obtain ⟨A, c, A', c', rfl, hc1, hc2, hc3, hc4, hbx, hrow⟩ := (h.weak (U := []) (fun _ hk => by cases hk)).open_
  have HROW := Lib.hid hrow
  clear hbx hrow h hok hV hfew hr hge hp
  unfold maxLen at hc2 hc4
  generalize hn : x.boxes.length = n at *
  generalize hm : x.subs.length = m at *
  generalize hg : x.given = gv at *
  have HN := Lib.hid hn
  have HM := Lib.hid hm
  have HG := Lib.hid hg
  clear hn hm hg
  go_enter Try.func19, Try.ntmps19
  go_wp2_with fail
  have OX := Lib.hid ((Own.newAt w w.heap.size 29 [.slice A n c, .slice A' m c', .int .i64 gv] (by simp)).alloc (.cells #[.slice none 0 0, .slice none 0 0, .int .i64 0] 29))
  have OR := Lib.hid (Own.newAt (w.alloc (.cells #[.slice A n c, .slice A' m c', .int .i64 gv] 29)) (w.heap.size + 1) 29 [.slice none 0 0, .slice none 0 0, .int .i64 0] (by simp))
  have K := (((Kept.refl w).alloc (.cells #[.slice A n c, .slice A' m c', .int .i64 gv] 29)).alloc (.cells #[.slice none 0 0, .slice none 0 0, .int .i64 0] 29))
  generalize ((w.alloc (.cells #[.slice A n c, .slice A' m c', .int .i64 gv] 29)).alloc (.cells #[.slice none 0 0, .slice none 0 0, .int .i64 0] 29)) = w1 at *
  obtain ⟨cX0, cX1, cX2, fX0, fX1, fX2⟩ := OX.out.three
  obtain ⟨cR0, cR1, cR2, fR0, fR1, fR2⟩ := OR.out.three
  refine (rright_any x _ _ (HV.out.go K (Ext.nil _ _)) HOK.out HFEW.out).mono ?_
  rintro e w2 ⟨rfl, hk⟩
  clear cX0 cX1 cX2 fX0 fX1 fX2 cR0 cR1 cR2 fR0 fR1 fR2
  replace OX := Lib.hid (OX.out.kept hk)
  replace OR := Lib.hid (OR.out.kept hk)
  replace K := K.trans hk
  rw [HR.out]
  clear hk
  obtain ⟨cX0, cX1, cX2, fX0, fX1, fX2⟩ := OX.out.three
  obtain ⟨cR0, cR1, cR2, fR0, fR1, fR2⟩ := OR.out.three
  go_wp2_with fail
  refine (rget_any x _ nm uid _ (HV.out.go K (Ext.nil _ _)) HOK.out).mono ?_
  rintro e w3 ⟨rfl, hk⟩
  clear cX0 cX1 cX2 fX0 fX1 fX2 cR0 cR1 cR2 fR0 fR1 fR2
  replace OX := Lib.hid (OX.out.kept hk)
  replace OR := Lib.hid (OR.out.kept hk)
  replace K := K.trans hk
  rw [HGE.out]
  dsimp only
  clear hk
  obtain ⟨cX0, cX1, cX2, fX0, fX1, fX2⟩ := OX.out.three
  obtain ⟨cR0, cR1, cR2, fR0, fR1, fR2⟩ := OR.out.three
  have zX3 := OX.out.lt
  have zR3 := OR.out.lt
  have zK3 := K.size
  go_wp2
  clear cX0 cX1 cX2 fX0 fX1 fX2 cR0 cR1 cR2 fR0 fR1 fR2
  replace OX : Hid (Own (((w3.setCell ⟨(w.heap.size + 1), 0, none⟩ (.slice none 0 0)).setCell ⟨(w.heap.size + 1), 1, none⟩ (.slice none 0 0)).setCell ⟨(w.heap.size + 1), 2, none⟩ (.int .i64 0)) w.heap.size 29 [.slice A n c, .slice A' m c', .int .i64 gv]) := Lib.hid (((OX.out.far (p := ⟨(w.heap.size + 1), 0, none⟩) (by first | omega | (simp; omega) | simp) (.slice none 0 0)).far (p := ⟨(w.heap.size + 1), 1, none⟩) (by first | omega | (simp; omega) | simp) (.slice none 0 0)).far (p := ⟨(w.heap.size + 1), 2, none⟩) (by first | omega | (simp; omega) | simp) (.int .i64 0))
  replace OR : Hid (Own (((w3.setCell ⟨(w.heap.size + 1), 0, none⟩ (.slice none 0 0)).setCell ⟨(w.heap.size + 1), 1, none⟩ (.slice none 0 0)).setCell ⟨(w.heap.size + 1), 2, none⟩ (.int .i64 0)) (w.heap.size + 1) 29 [.slice none 0 0, .slice none 0 0, .int .i64 0]) := Lib.hid (((OR.out.set_ 0 (.slice none 0 0)).set_ 1 (.slice none 0 0)).set_ 2 (.int .i64 0))
  replace K := (((K.setCell (p := ⟨(w.heap.size + 1), 0, none⟩) (by first | exact Nat.le_refl _ | (simp only []; omega) | simp) (.slice none 0 0)).setCell (p := ⟨(w.heap.size + 1), 1, none⟩) (by first | exact Nat.le_refl _ | (simp only []; omega) | simp) (.slice none 0 0)).setCell (p := ⟨(w.heap.size + 1), 2, none⟩) (by first | exact Nat.le_refl _ | (simp only []; omega) | simp) (.int .i64 0))
  generalize (((w3.setCell ⟨(w.heap.size + 1), 0, none⟩ (.slice none 0 0)).setCell ⟨(w.heap.size + 1), 1, none⟩ (.slice none 0 0)).setCell ⟨(w.heap.size + 1), 2, none⟩ (.int .i64 0)) = w4 at *
  replace OX := Lib.hid (OX.out.alloc (.cells #[.int .i64 0, .int .i64 0, .int .i64 0, .int .i64 0] 73))
  replace OR := Lib.hid (OR.out.alloc (.cells #[.int .i64 0, .int .i64 0, .int .i64 0, .int .i64 0] 73))
  have OG := Lib.hid (Own.new w4 73 [.int .i64 0, .int .i64 0, .int .i64 0, .int .i64 0])
  replace K := K.alloc (.cells #[.int .i64 0, .int .i64 0, .int .i64 0, .int .i64 0] 73)
  generalize (w4.alloc (.cells #[.int .i64 0, .int .i64 0, .int .i64 0, .int .i64 0] 73)) = w5 at *
  obtain ⟨cR0, cR1, cR2, fR0, fR1, fR2⟩ := OR.out.three
  refine bodyPost_ret (v := .tuple #[.agg #[.slice none 0 0, .slice none 0 0, .int .i64 0], .int .i64 6]) (by simp [results, Try.results19, go_sem, cR0, cR1, cR2]) rfl ?_
  exact ⟨_, by rw [HEX.out], by rw [HEX.out]; exact ixAt_nil _ _, K⟩

set_option maxRecDepth 100000 in
set_option maxHeartbeats 4000000 in
theorem rexp_main (V : List Nat) (x : Ix) (v : Value) (a q : Nat) (mm : Ml) (nm : ByteArray) (uid : Int) (w : World) (hV : Old V w) (h : IxAt V w v x) (hok : IxOk x) (hfew : Few x) (hr : rightB x = true) (hge : getR x nm uid = (mm, true)) (hf : findX x nm = some a) (hfm : findM (bxAt x a).mails uid = some q) (huq : Uniq (bxAt x a).mails) (hp : placeR x nm uid = ((a : Int), (q : Int), true)) (ha : a < x.boxes.length) (hl : x.boxes.length ≤ 6) :
    Calls Try.prog 19 #[v, .string nm, .int .i64 uid] w (IxPost V (expR x nm uid) w) := by
  have HEX : Hid (expR x nm uid = (withIx x a ((bxAt x a).mails.eraseIdx q), 0)) := by
    show _ = _
    unfold expR; rw [hr, hp]; rfl
  have HV := Lib.hid h
  have HOV := Lib.hid hV
  have HOK := Lib.hid hok
  have HFEW := Lib.hid hfew
  have HR := Lib.hid hr
  have HGE := Lib.hid hge
  have HF := Lib.hid hf
  have HFM := Lib.hid hfm
  have HUQ := Lib.hid huq
  have HP := Lib.hid hp
  obtain ⟨A, c, A', c', rfl, hc1, hc2, hc3, hc4, hbx, hrow⟩ := (h.weak (U := []) (fun _ hk => by cases hk)).open_
  obtain ⟨b, o, mv, rfl, hb, _, hbc⟩ := hbx (by omega)
  have HBC := Lib.hid hbc
  clear hbc
  have HROW := Lib.hid hrow
  clear hbx hrow h hok hV hfew hr hge hf hfm huq hp
  unfold maxLen at hc2 hc4
  generalize hn : x.boxes.length = n at *
  generalize hm : x.subs.length = m at *
  generalize hg : x.given = gv at *
  have HN := Lib.hid hn
  have HM := Lib.hid hm
  have HG := Lib.hid hg
  clear hn hm hg
  go_enter Try.func19, Try.ntmps19
  go_wp2_with fail
  have OX := Lib.hid ((Own.newAt w w.heap.size 29 [.slice (some ⟨b, o, none⟩) n c, .slice A' m c', .int .i64 gv] (by simp)).alloc (.cells #[.slice none 0 0, .slice none 0 0, .int .i64 0] 29))
  have OR := Lib.hid (Own.newAt (w.alloc (.cells #[.slice (some ⟨b, o, none⟩) n c, .slice A' m c', .int .i64 gv] 29)) (w.heap.size + 1) 29 [.slice none 0 0, .slice none 0 0, .int .i64 0] (by simp))
  have K := (((Kept.refl w).alloc (.cells #[.slice (some ⟨b, o, none⟩) n c, .slice A' m c', .int .i64 gv] 29)).alloc (.cells #[.slice none 0 0, .slice none 0 0, .int .i64 0] 29))
  generalize ((w.alloc (.cells #[.slice (some ⟨b, o, none⟩) n c, .slice A' m c', .int .i64 gv] 29)).alloc (.cells #[.slice none 0 0, .slice none 0 0, .int .i64 0] 29)) = w1 at *
  obtain ⟨cX0, cX1, cX2, fX0, fX1, fX2⟩ := OX.out.three
  obtain ⟨cR0, cR1, cR2, fR0, fR1, fR2⟩ := OR.out.three
  refine (rright_any x _ _ (HV.out.go K (Ext.nil _ _)) HOK.out HFEW.out).mono ?_
  rintro e w2 ⟨rfl, hk⟩
  clear cX0 cX1 cX2 fX0 fX1 fX2 cR0 cR1 cR2 fR0 fR1 fR2
  replace OX := Lib.hid (OX.out.kept hk)
  replace OR := Lib.hid (OR.out.kept hk)
  replace K := K.trans hk
  rw [HR.out]
  clear hk
  obtain ⟨cX0, cX1, cX2, fX0, fX1, fX2⟩ := OX.out.three
  obtain ⟨cR0, cR1, cR2, fR0, fR1, fR2⟩ := OR.out.three
  go_wp2_with fail
  have zX2 := OX.out.lt
  have zR2 := OR.out.lt
  have zK2 := K.size
  refine (rget_any x _ nm uid _ (HV.out.go K (Ext.nil _ _)) HOK.out).mono ?_
  rintro e w3 ⟨rfl, hk⟩
  clear cX0 cX1 cX2 fX0 fX1 fX2 cR0 cR1 cR2 fR0 fR1 fR2
  replace OX := Lib.hid (OX.out.kept hk)
  replace OR := Lib.hid (OR.out.kept hk)
  replace K := K.trans hk
  rw [HGE.out]
  dsimp only
  clear hk
  obtain ⟨cX0, cX1, cX2, fX0, fX1, fX2⟩ := OX.out.three
  obtain ⟨cR0, cR1, cR2, fR0, fR1, fR2⟩ := OR.out.three
  have zX3 := OX.out.lt
  have zR3 := OR.out.lt
  have zK3 := K.size
  go_wp2_with fail
  clear cX0 cX1 cX2 fX0 fX1 fX2 cR0 cR1 cR2 fR0 fR1 fR2
  replace OX := Lib.hid (OX.out.alloc (.cells #[.int .i64 mm.uid, .int .i64 mm.flags, .int .i64 mm.obj, .int .i64 mm.size] 73))
  replace OR := Lib.hid (OR.out.alloc (.cells #[.int .i64 mm.uid, .int .i64 mm.flags, .int .i64 mm.obj, .int .i64 mm.size] 73))
  have OG := Lib.hid (Own.new w3 73 [.int .i64 mm.uid, .int .i64 mm.flags, .int .i64 mm.obj, .int .i64 mm.size])
  replace K := K.alloc (.cells #[.int .i64 mm.uid, .int .i64 mm.flags, .int .i64 mm.obj, .int .i64 mm.size] 73)
  generalize (w3.alloc (.cells #[.int .i64 mm.uid, .int .i64 mm.flags, .int .i64 mm.obj, .int .i64 mm.size] 73)) = w4 at *
  refine (rfind_any x _ nm _ (HV.out.go K (Ext.nil _ _))).mono ?_
  rintro e w5 ⟨rfl, hk⟩
  replace OX := Lib.hid (OX.out.kept hk)
  replace OR := Lib.hid (OR.out.kept hk)
  replace OG := Lib.hid (OG.out.kept hk)
  replace K := K.trans hk
  rw [HF.out, show ofO (some a) = (a : Int) from rfl]
  clear hk
  obtain ⟨cX0, cX1, cX2, fX0, fX1, fX2⟩ := OX.out.three
  obtain ⟨cR0, cR1, cR2, fR0, fR1, fR2⟩ := OR.out.three
  have cG0 := OG.out.cell? 0
  have fG0 := OG.out.frozen 0
  have cG1 := OG.out.cell? 1
  have fG1 := OG.out.frozen 1
  have cG2 := OG.out.cell? 2
  have fG2 := OG.out.frozen 2
  have cG3 := OG.out.cell? 3
  have fG3 := OG.out.frozen 3
  simp only [List.getElem?_cons_zero, List.getElem?_cons_succ] at cG0 cG1 cG2 cG3
  have a0 : (0 : Int) ≤ (a : Int) := by omega
  have a1 : (a : Int) < (n : Int) := by omega
  obtain ⟨g1, g2, g3, g4, gm⟩ := HBC.out.go hb K (Ext.refl _ _) a (by rw [HN.out]; exact ha)
  have HAT : Hid (x.boxes[a]'(by rw [HN.out]; exact ha) = bxAt x a) := (bxAt_lt _).symm
  rw [HAT.out] at g1 g2 g3 gm
  obtain ⟨MA, mcc, hmv⟩ := gm.form
  have gm0 := (HBC.out a (by rw [HN.out]; exact ha)).2.2.2.2
  rw [hmv] at g4 gm0
  rw [HAT.out] at gm0
  have HGM := Lib.hid gm0
  clear gm gm0 hmv
  have HNX := Lib.hid (boxB_parts (right_box HR.out (by rw [HN.out]; exact ha)))
  have hm30 : (bxAt x a).mails.length ≤ 30 := HNX.out.2.2.2.2.2.1
  have hmc : mcc ≤ maxLen := by
    obtain ⟨_, _, e, e1, e2, _⟩ := HGM.out
    cases e; exact e2
  unfold maxLen at hmc
  have HAE : Hid (∀ l, withIx x a l = setBx x a ⟨(bxAt x a).name, (bxAt x a).val, (bxAt x a).next, l⟩) := fun l => rfl
  generalize hbn : (bxAt x a).name = bn at *
  have HBN := Lib.hid hbn
  clear hbn
  generalize (bxAt x a).val = bv at *
  generalize (bxAt x a).next = nx at *
  generalize (bxAt x a).mails = ml at *
  generalize hmn : ml.length = mn at *
  have HMN := Lib.hid hmn
  clear hmn HNX HAT
  have zX5 := OX.out.lt
  have zR5 := OR.out.lt
  have zG5 := OG.out.lt
  have zK5 := K.size
  go_upto_region 8 with fail
  clear cX0 cX1 cX2 fX0 fX1 fX2 cR0 cR1 cR2 fR0 fR1 fR2 cG0 cG1 cG2 cG3 fG0 fG1 fG2 fG3
  replace OX := Lib.hid (OX.out.alloc (.cells #[.string bn, .int .i64 bv, .int .i64 nx, .slice MA mn mcc] 43))
  replace OR := Lib.hid (OR.out.alloc (.cells #[.string bn, .int .i64 bv, .int .i64 nx, .slice MA mn mcc] 43))
  replace OG := Lib.hid (OG.out.alloc (.cells #[.string bn, .int .i64 bv, .int .i64 nx, .slice MA mn mcc] 43))
  have OY := Lib.hid (Own.new w5 43 [.string bn, .int .i64 bv, .int .i64 nx, .slice MA mn mcc])
  replace K := K.alloc (.cells #[.string bn, .int .i64 bv, .int .i64 nx, .slice MA mn mcc] 43)
  generalize (w5.alloc (.cells #[.string bn, .int .i64 bv, .int .i64 nx, .slice MA mn mcc] 43)) = w6 at *
  generalize w5.heap.size = gY at *
  clear g1 g2 g3 g4
  obtain ⟨cX0, cX1, cX2, fX0, fX1, fX2⟩ := OX.out.three
  obtain ⟨cR0, cR1, cR2, fR0, fR1, fR2⟩ := OR.out.three
  have cY0 := OY.out.cell? 0
  have fY0 := OY.out.frozen 0
  have cY1 := OY.out.cell? 1
  have fY1 := OY.out.frozen 1
  have cY2 := OY.out.cell? 2
  have fY2 := OY.out.frozen 2
  have cY3 := OY.out.cell? 3
  have fY3 := OY.out.frozen 3
  simp only [List.getElem?_cons_zero, List.getElem?_cons_succ] at cY0 cY1 cY2 cY3
  go_wp2_with fail
  go_loopw [12, 40] (fun lv iv wq => ∃ (k : Nat) (j : Nat) (B : Option Addr) (b2 : Nat), k ≤ mn ∧ Hid (((ml.take k).filter (fun m => m.uid != uid)).length = j) ∧ j ≤ k ∧ iv = .int .i64 k ∧ lv = .slice B j b2 ∧ Own wq w.heap.size 29 [.slice (some ⟨b, o, none⟩) n c, .slice A' m c', .int .i64 gv] ∧ Own wq (w.heap.size + 1) 29 [.slice none 0 0, .slice none 0 0, .int .i64 0] ∧ Own wq gY 43 [.string bn, .int .i64 bv, .int .i64 nx, .slice MA mn mcc] ∧ wq.ownsRow (gY + 1) 73 4 (.slice B j b2) j (mls ((ml.take k).filter (fun m => m.uid != uid))) ∧ Kept w wq) (fun _ iv _ => mn - (intOf iv).toNat)
  case atStart => exact ⟨0, 0, none, 0, Nat.zero_le _, rfl, Nat.le_refl _, rfl, rfl, OX.out, OR.out, OY.out, World.ownsRow_nil _ _ _ _, K⟩
  case round =>
    clear cX0 cX1 cX2 fX0 fX1 fX2 cR0 cR1 cR2 fR0 fR1 fR2 cY0 cY1 cY2 cY3 fY0 fY1 fY2 fY3
    clear OX OR OY K
    obtain ⟨k, j, B, b2, hkm, HJ, hjk, rfl, rfl, ox, or, oy, hown, K⟩ := hrel
    have OX := Lib.hid ox
    have OR := Lib.hid or
    have OY := Lib.hid oy
    have HL := Lib.hid hown
    clear ox or oy hown
    have zX := OX.out.lt
    have zY := OY.out.lt
    have zR := OR.out.lt
    have zK := K.size
    have k0 : (0 : Int) ≤ (k : Int) := by omega
    obtain ⟨cX0, cX1, cX2, fX0, fX1, fX2⟩ := OX.out.three
    obtain ⟨cR0, cR1, cR2, fR0, fR1, fR2⟩ := OR.out.three
    have cY0 := OY.out.cell? 0
    have fY0 := OY.out.frozen 0
    have cY1 := OY.out.cell? 1
    have fY1 := OY.out.frozen 1
    have cY2 := OY.out.cell? 2
    have fY2 := OY.out.frozen 2
    have cY3 := OY.out.cell? 3
    have fY3 := OY.out.frozen 3
    simp only [List.getElem?_cons_zero, List.getElem?_cons_succ] at cY0 cY1 cY2 cY3
    by_cases hlt : k < mn
    · obtain ⟨mb, mo, e, hmb, _, g5, g6, g7, g8⟩ := (HGM.out.go K (Ext.refl _ _)).cells (k := k) (by rw [HMN.out]; exact hlt)
      subst e
      have HTS : Hid (ml.take (k + 1) = ml.take k ++ [mlAt ml k]) := by show _ = _; rw [mlAt_lt (by rw [HMN.out]; exact hlt), take_snoc ml k (by rw [HMN.out]; exact hlt)]
      have HTL : Hid ((ml.take k).length = k) := by show _ = _; rw [List.length_take, HMN.out]; omega
      have k1 : (k : Int) < (mn : Int) := by omega
      have HB4 := Lib.hid (fun bb (hb : (Value.slice B j b2).ownBlock = some bb) => (ownBlock_of HL.out hb).1)
      generalize hmm : mlAt ml k = m1 at *
      clear hmm
      by_cases hu : m1.uid = uid
      · have hub : (m1.uid != uid) = false := bne_f hu
        have HN1 : Hid (((ml.take (k + 1)).filter (fun m => m.uid != uid)) = ((ml.take k).filter (fun m => m.uid != uid))) := by show _ = _; rw [HTS.out, List.filter_append, List.filter_cons_of_neg (by simpa using hu)]; simp
        go_wp2
        go_roundw
        case rel => exact ⟨k + 1, j, B, b2, by omega, by rw [HN1.out]; exact HJ.out, by omega, by go_num, rfl, OX.out.alloc _, OR.out.alloc _, OY.out.alloc _, by rw [HN1.out]; exact HL.out.alloc _, K.alloc _⟩
        case measure => simp [intOf]; omega
      · have hub : (m1.uid != uid) = true := bne_t hu
        have HNEW : Hid (((ml.take k).filter (fun m => m.uid != uid)) ++ [⟨m1.uid, m1.flags, m1.obj, m1.size⟩] = ((ml.take (k + 1)).filter (fun m => m.uid != uid))) := by show _ = _; rw [HTS.out, List.filter_append, List.filter_cons_of_pos (by simpa using hu)]; simp
        have HNL2 : Hid (((ml.take (k + 1)).filter (fun m => m.uid != uid)).length = j + 1) := by show _ = _; rw [← HNEW.out, List.length_append, HJ.out]; rfl
        have HNL := HNL2
        go_wp2_with (at_builtin; go_must (
          refine Try.elRm.wpList_app rfl (.tmp 48) (.tmp 50) rfl (gY + 1) (.slice B j b2) ((ml.take k).filter (fun m => m.uid != uid)) rfl (by rw [HJ.out]; exact (HL.out.alloc (.cells #[.int .i64 m1.uid, .int .i64 m1.flags, .int .i64 m1.obj, .int .i64 m1.size] 73)).alloc (.cells #[.int .i64 m1.uid, .int .i64 m1.flags, .int .i64 m1.obj, .int .i64 m1.size] 73)) [] (some ⟨wr.heap.size + 1, 0, none⟩) 1 [⟨m1.uid, m1.flags, m1.obj, m1.size⟩] rfl ((Own.newAt (wr.alloc (.cells #[.int .i64 m1.uid, .int .i64 m1.flags, .int .i64 m1.obj, .int .i64 m1.size] 73)) (wr.heap.size + 1) 73 [.int .i64 m1.uid, .int .i64 m1.flags, .int .i64 m1.obj, .int .i64 m1.size] (by simp)).row (by simp)) (mls_one _) (by rw [HJ.out]; unfold maxLen; simp; omega) (by rw [HJ.out]; simp; omega) (by simp; omega) ?_
          intro v3 w3 hap hgr hat
          rw [HNEW.out, HNL.out] at hap
          obtain ⟨B3, b3, rfl, _, _, _⟩ := own_form (V := []) hap (by simp)
          have HL3 := Lib.hid hap
          have OX3 := Lib.hid (((OX.out.alloc (.cells #[.int .i64 m1.uid, .int .i64 m1.flags, .int .i64 m1.obj, .int .i64 m1.size] 73)).alloc (.cells #[.int .i64 m1.uid, .int .i64 m1.flags, .int .i64 m1.obj, .int .i64 m1.size] 73)).appd hgr (fun bb hb => by have := HB4.out bb hb; omega))
          have OR3 := Lib.hid (((OR.out.alloc (.cells #[.int .i64 m1.uid, .int .i64 m1.flags, .int .i64 m1.obj, .int .i64 m1.size] 73)).alloc (.cells #[.int .i64 m1.uid, .int .i64 m1.flags, .int .i64 m1.obj, .int .i64 m1.size] 73)).appd hgr (fun bb hb => by have := HB4.out bb hb; omega))
          have OY3 := Lib.hid (((OY.out.alloc (.cells #[.int .i64 m1.uid, .int .i64 m1.flags, .int .i64 m1.obj, .int .i64 m1.size] 73)).alloc (.cells #[.int .i64 m1.uid, .int .i64 m1.flags, .int .i64 m1.obj, .int .i64 m1.size] 73)).appd hgr (fun bb hb => by have := HB4.out bb hb; omega))
          have K3 : Kept w w3 := ((K.alloc (.cells #[.int .i64 m1.uid, .int .i64 m1.flags, .int .i64 m1.obj, .int .i64 m1.size] 73)).alloc (.cells #[.int .i64 m1.uid, .int .i64 m1.flags, .int .i64 m1.obj, .int .i64 m1.size] 73)).grown hgr (fun bb hb => by have := HB4.out bb hb; omega)
          clear hap hgr hat))
        go_roundw
        case rel => exact ⟨k + 1, j + 1, B3, b3, by omega, HNL2.out, by omega, by go_num, rfl, OX3.out, OR3.out, OY3.out, HL3.out, K3⟩
        case measure => simp [intOf]; omega
    · obtain rfl : k = mn := by omega
      have HTA : Hid (ml.take k = ml) := List.take_of_length_le (by rw [HMN.out]; exact Nat.le_refl _)
      rw [HTA.out] at HL HJ
      have HFA : Hid ((ml.filter (fun m => m.uid != uid)) = ml.eraseIdx q) := exp_all HUQ.out HFM.out
      rw [HFA.out] at HL HJ
      go_wp2_with fail
      clear cX0 cX1 cX2 fX0 fX1 fX2 cR0 cR1 cR2 fR0 fR1 fR2 cY0 cY1 cY2 cY3 fY0 fY1 fY2 fY3
      replace OX : Hid (Own (wr.setCell ⟨gY, 3, none⟩ (.slice B j b2)) w.heap.size 29 [.slice (some ⟨b, o, none⟩) n c, .slice A' m c', .int .i64 gv]) := Lib.hid (OX.out.far (p := ⟨gY, 3, none⟩) (by first | omega | (simp; omega) | simp) (.slice B j b2))
      replace OR : Hid (Own (wr.setCell ⟨gY, 3, none⟩ (.slice B j b2)) (w.heap.size + 1) 29 [.slice none 0 0, .slice none 0 0, .int .i64 0]) := Lib.hid (OR.out.far (p := ⟨gY, 3, none⟩) (by first | omega | (simp; omega) | simp) (.slice B j b2))
      replace OY : Hid (Own (wr.setCell ⟨gY, 3, none⟩ (.slice B j b2)) gY 43 [.string bn, .int .i64 bv, .int .i64 nx, .slice B j b2]) := Lib.hid (OY.out.set_ 3 (.slice B j b2))
      replace HL := Lib.hid (ownsRow_setCell_other HL.out (a := ⟨gY, 3, none⟩) (fun e => by first | (have := ownBlock_eq e; (try dsimp only at this); omega) | (have := (HL.out.lt _ e).1; (try dsimp only at this); omega)) (.slice B j b2))
      replace K := (K.setCell (p := ⟨gY, 3, none⟩) (by first | exact Nat.le_refl _ | (simp only []; omega) | simp) (.slice B j b2))
      generalize (wr.setCell ⟨gY, 3, none⟩ (.slice B j b2)) = wz1 at *
      have HTU := turn_right ((w.heap.size + 1) :: V) x (some ⟨b, o, none⟩) n c A' m c' gv a ⟨bn, bv, nx, ml.eraseIdx q⟩ B j b2 wz1 (Old.cons OR.out.lt (HOV.out.go K)) (HV.out.go K (Ext.cons (by omega) (Ext.refl _ _))) HR.out (by rw [HN.out]; exact ha) HBN.out.symm (mls_of_own HL.out HJ.out.symm (fun j hj => by
        rcases List.mem_cons.1 hj with rfl | hj
        · omega
        · have := HOV.out j hj; omega))
      have HTU := Lib.hid HTU
      clear HL
      refine (HTU.out).mono ?_
      rintro e wz2 ⟨v5, rfl, hx5', hk⟩
      replace OX := Lib.hid (OX.out.kept hk)
      replace OR := Lib.hid (OR.out.kept hk)
      replace OY := Lib.hid (OY.out.kept hk)
      replace K := K.trans hk
      have HX5 := Lib.hid hx5'
      obtain ⟨A5, c5, A6, c6, rfl⟩ := hx5'.form
      clear hx5' HTU
      clear hk
      rw [← HAE.out] at HX5
      rw [← HAE.out]
      generalize (withIx x a (ml.eraseIdx q)).boxes.length = n5 at *
      generalize (withIx x a (ml.eraseIdx q)).subs.length = n6 at *
      generalize (withIx x a (ml.eraseIdx q)).given = gv5 at *
      obtain ⟨cX0, cX1, cX2, fX0, fX1, fX2⟩ := OX.out.three
      obtain ⟨cR0, cR1, cR2, fR0, fR1, fR2⟩ := OR.out.three
      have cY0 := OY.out.cell? 0
      have fY0 := OY.out.frozen 0
      have cY1 := OY.out.cell? 1
      have fY1 := OY.out.frozen 1
      have cY2 := OY.out.cell? 2
      have fY2 := OY.out.frozen 2
      have cY3 := OY.out.cell? 3
      have fY3 := OY.out.frozen 3
      simp only [List.getElem?_cons_zero, List.getElem?_cons_succ] at cY0 cY1 cY2 cY3
      go_wp2
      clear cX0 cX1 cX2 fX0 fX1 fX2 cR0 cR1 cR2 fR0 fR1 fR2 cY0 cY1 cY2 cY3 fY0 fY1 fY2 fY3
      replace OX : Hid (Own (((wz2.setCell ⟨(w.heap.size + 1), 0, none⟩ (.slice A5 n5 c5)).setCell ⟨(w.heap.size + 1), 1, none⟩ (.slice A6 n6 c6)).setCell ⟨(w.heap.size + 1), 2, none⟩ (.int .i64 gv5)) w.heap.size 29 [.slice (some ⟨b, o, none⟩) n c, .slice A' m c', .int .i64 gv]) := Lib.hid (((OX.out.far (p := ⟨(w.heap.size + 1), 0, none⟩) (by first | omega | (simp; omega) | simp) (.slice A5 n5 c5)).far (p := ⟨(w.heap.size + 1), 1, none⟩) (by first | omega | (simp; omega) | simp) (.slice A6 n6 c6)).far (p := ⟨(w.heap.size + 1), 2, none⟩) (by first | omega | (simp; omega) | simp) (.int .i64 gv5))
      replace OR : Hid (Own (((wz2.setCell ⟨(w.heap.size + 1), 0, none⟩ (.slice A5 n5 c5)).setCell ⟨(w.heap.size + 1), 1, none⟩ (.slice A6 n6 c6)).setCell ⟨(w.heap.size + 1), 2, none⟩ (.int .i64 gv5)) (w.heap.size + 1) 29 [.slice A5 n5 c5, .slice A6 n6 c6, .int .i64 gv5]) := Lib.hid (((OR.out.set_ 0 (.slice A5 n5 c5)).set_ 1 (.slice A6 n6 c6)).set_ 2 (.int .i64 gv5))
      replace OY : Hid (Own (((wz2.setCell ⟨(w.heap.size + 1), 0, none⟩ (.slice A5 n5 c5)).setCell ⟨(w.heap.size + 1), 1, none⟩ (.slice A6 n6 c6)).setCell ⟨(w.heap.size + 1), 2, none⟩ (.int .i64 gv5)) gY 43 [.string bn, .int .i64 bv, .int .i64 nx, .slice B j b2]) := Lib.hid (((OY.out.far (p := ⟨(w.heap.size + 1), 0, none⟩) (by first | omega | (simp; omega) | simp) (.slice A5 n5 c5)).far (p := ⟨(w.heap.size + 1), 1, none⟩) (by first | omega | (simp; omega) | simp) (.slice A6 n6 c6)).far (p := ⟨(w.heap.size + 1), 2, none⟩) (by first | omega | (simp; omega) | simp) (.int .i64 gv5))
      replace HX5 := Lib.hid (((HX5.out.put (p := ⟨(w.heap.size + 1), 0, none⟩) (by simp) (.slice A5 n5 c5)).put (p := ⟨(w.heap.size + 1), 1, none⟩) (by simp) (.slice A6 n6 c6)).put (p := ⟨(w.heap.size + 1), 2, none⟩) (by simp) (.int .i64 gv5))
      replace K := (((K.setCell (p := ⟨(w.heap.size + 1), 0, none⟩) (by first | exact Nat.le_refl _ | (simp only []; omega) | simp) (.slice A5 n5 c5)).setCell (p := ⟨(w.heap.size + 1), 1, none⟩) (by first | exact Nat.le_refl _ | (simp only []; omega) | simp) (.slice A6 n6 c6)).setCell (p := ⟨(w.heap.size + 1), 2, none⟩) (by first | exact Nat.le_refl _ | (simp only []; omega) | simp) (.int .i64 gv5))
      generalize (((wz2.setCell ⟨(w.heap.size + 1), 0, none⟩ (.slice A5 n5 c5)).setCell ⟨(w.heap.size + 1), 1, none⟩ (.slice A6 n6 c6)).setCell ⟨(w.heap.size + 1), 2, none⟩ (.int .i64 gv5)) = wz3 at *
      obtain ⟨cX0, cX1, cX2, fX0, fX1, fX2⟩ := OX.out.three
      obtain ⟨cR0, cR1, cR2, fR0, fR1, fR2⟩ := OR.out.three
      have cY0 := OY.out.cell? 0
      have fY0 := OY.out.frozen 0
      have cY1 := OY.out.cell? 1
      have fY1 := OY.out.frozen 1
      have cY2 := OY.out.cell? 2
      have fY2 := OY.out.frozen 2
      have cY3 := OY.out.cell? 3
      have fY3 := OY.out.frozen 3
      simp only [List.getElem?_cons_zero, List.getElem?_cons_succ] at cY0 cY1 cY2 cY3
      refine bodyPost_ret (v := .tuple #[.agg #[.slice A5 n5 c5, .slice A6 n6 c6, .int .i64 gv5], .int .i64 0]) (by simp [results, Try.results19, go_sem, cR0, cR1, cR2]) rfl ?_
      refine ⟨_, by rw [HEX.out], ?_, K⟩
      rw [HEX.out]
      exact HX5.out.go (Kept.refl _) (fun k hk => .inl (List.mem_cons_of_mem _ hk))

theorem rexp_any (V : List Nat) (x : Ix) (v : Value) (nm : ByteArray) (uid : Int) (w : World) (hV : Old V w) (h : IxAt V w v x) (hok : IxOk x) (hfew : Few x) :
    Calls Try.prog 19 #[v, .string nm, .int .i64 uid] w (IxPost V (expR x nm uid) w) := by
  rcases Bool.eq_false_or_eq_true (rightB x) with hr | hr
  · rcases Bool.eq_false_or_eq_true (placeR x nm uid).2.2 with hp | hp
    · obtain ⟨a, q, hp1, ha, hk, hf, hfm⟩ := place_found hp
      obtain ⟨h1, h2, _⟩ := right_len hr
      exact rexp_main V x v a q _ nm uid w hV h hok hfew hr (get_found hf hfm) hf hfm (right_uniq hr ha) hp1 ha h2
    · exact rexp_no3 V x v nm uid w hV h hok hfew hr (get_none hp) hp
  · exact rexp_no1 V x v nm uid w hV h hok hfew hr
end Go.Proofs.Ytjinnkbnllnllaa
