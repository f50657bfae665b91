/- Walk: mailsackref15.Copy. -/
import Derived.Test.YtjinnkbnllnllaaRxExp
namespace Go.Proofs.Ytjinnkbnllnllaa
open Go.RowKit

theorem cop_app {x : Ix} {nm tn : ByteArray} {uid : Int} {a k : Nat} (hr : rightB x = true) (hp : placeR x nm uid = ((a : Int), (k : Int), true)) (ha : a < x.boxes.length) (hk : k < (bxAt x a).mails.length) :
    copR x nm uid tn = appR x tn (mlAt (bxAt x a).mails k).obj (mlAt (bxAt x a).mails k).size (mlAt (bxAt x a).mails k).flags := by
  have hm := ((mailsB_iff _ _).1 (boxB_parts (right_box hr ha)).2.2.2.2.2.2 k hk).1
  unfold copR
  rw [hr, hp]
  simp only [if_true, Int.toNat_natCast]
  cases hf : findX x tn with
  | none => unfold appR; rw [hr, hm, hf]; rfl
  | some q => rfl

set_option maxRecDepth 100000 in
set_option maxHeartbeats 1000000 in
theorem rcop_no1 (V : List Nat) (x : Ix) (v : Value) (nm : ByteArray) (uid : Int) (tn : ByteArray) (w : World) (hV : Old V w) (h : IxAt V w v x) (hok : IxOk x) (hfew : Few x) (hr : rightB x = false) :
    Calls Try.prog 20 #[v, .string nm, .int .i64 uid, .string tn] w (IxPost3 V (copR x nm uid tn) w) := by
  have HEX : Hid (copR x nm uid tn = (ix0, 0, 1)) := by
    show _ = _
    unfold copR; rw [hr]; rfl
  have HV := Lib.hid h
  have HOV := Lib.hid hV
  have HOK := Lib.hid hok
  have HFEW := Lib.hid hfew
  have HR := Lib.hid hr
  obtain ⟨A, c, A', c', rfl, hc1, hc2, hc3, hc4, hbx, hrow⟩ := (h.weak (U := []) (fun _ hk => by cases hk)).open_
  have HROW := Lib.hid hrow
  clear hbx hrow h hok hV hfew hr
  unfold maxLen at hc2 hc4
  generalize hn : x.boxes.length = n at *
  generalize hm : x.subs.length = m at *
  generalize hg : x.given = gv at *
  have HN := Lib.hid hn
  have HM := Lib.hid hm
  have HG := Lib.hid hg
  clear hn hm hg
  go_enter Try.func20, Try.ntmps20
  go_wp2_with fail
  have OX := Lib.hid ((Own.newAt w w.heap.size 29 [.slice A n c, .slice A' m c', .int .i64 gv] (by simp)).alloc (.cells #[.slice none 0 0, .slice none 0 0, .int .i64 0] 29))
  have OR := Lib.hid (Own.newAt (w.alloc (.cells #[.slice A n c, .slice A' m c', .int .i64 gv] 29)) (w.heap.size + 1) 29 [.slice none 0 0, .slice none 0 0, .int .i64 0] (by simp))
  have K := (((Kept.refl w).alloc (.cells #[.slice A n c, .slice A' m c', .int .i64 gv] 29)).alloc (.cells #[.slice none 0 0, .slice none 0 0, .int .i64 0] 29))
  generalize ((w.alloc (.cells #[.slice A n c, .slice A' m c', .int .i64 gv] 29)).alloc (.cells #[.slice none 0 0, .slice none 0 0, .int .i64 0] 29)) = w1 at *
  obtain ⟨cX0, cX1, cX2, fX0, fX1, fX2⟩ := OX.out.three
  obtain ⟨cR0, cR1, cR2, fR0, fR1, fR2⟩ := OR.out.three
  refine (rright_any x _ _ (HV.out.go K (Ext.nil _ _)) HOK.out HFEW.out).mono ?_
  rintro e w2 ⟨rfl, hk⟩
  clear cX0 cX1 cX2 fX0 fX1 fX2 cR0 cR1 cR2 fR0 fR1 fR2
  replace OX := Lib.hid (OX.out.kept hk)
  replace OR := Lib.hid (OR.out.kept hk)
  replace K := K.trans hk
  rw [HR.out]
  clear hk
  obtain ⟨cX0, cX1, cX2, fX0, fX1, fX2⟩ := OX.out.three
  obtain ⟨cR0, cR1, cR2, fR0, fR1, fR2⟩ := OR.out.three
  go_wp2
  clear cX0 cX1 cX2 fX0 fX1 fX2 cR0 cR1 cR2 fR0 fR1 fR2
  replace OX : Hid (Own (((w2.setCell ⟨(w.heap.size + 1), 0, none⟩ (.slice none 0 0)).setCell ⟨(w.heap.size + 1), 1, none⟩ (.slice none 0 0)).setCell ⟨(w.heap.size + 1), 2, none⟩ (.int .i64 0)) w.heap.size 29 [.slice A n c, .slice A' m c', .int .i64 gv]) := Lib.hid (((OX.out.far (p := ⟨(w.heap.size + 1), 0, none⟩) (by first | omega | (simp; omega) | simp) (.slice none 0 0)).far (p := ⟨(w.heap.size + 1), 1, none⟩) (by first | omega | (simp; omega) | simp) (.slice none 0 0)).far (p := ⟨(w.heap.size + 1), 2, none⟩) (by first | omega | (simp; omega) | simp) (.int .i64 0))
  replace OR : Hid (Own (((w2.setCell ⟨(w.heap.size + 1), 0, none⟩ (.slice none 0 0)).setCell ⟨(w.heap.size + 1), 1, none⟩ (.slice none 0 0)).setCell ⟨(w.heap.size + 1), 2, none⟩ (.int .i64 0)) (w.heap.size + 1) 29 [.slice none 0 0, .slice none 0 0, .int .i64 0]) := Lib.hid (((OR.out.set_ 0 (.slice none 0 0)).set_ 1 (.slice none 0 0)).set_ 2 (.int .i64 0))
  replace K := (((K.setCell (p := ⟨(w.heap.size + 1), 0, none⟩) (by first | exact Nat.le_refl _ | (simp only []; omega) | simp) (.slice none 0 0)).setCell (p := ⟨(w.heap.size + 1), 1, none⟩) (by first | exact Nat.le_refl _ | (simp only []; omega) | simp) (.slice none 0 0)).setCell (p := ⟨(w.heap.size + 1), 2, none⟩) (by first | exact Nat.le_refl _ | (simp only []; omega) | simp) (.int .i64 0))
  generalize (((w2.setCell ⟨(w.heap.size + 1), 0, none⟩ (.slice none 0 0)).setCell ⟨(w.heap.size + 1), 1, none⟩ (.slice none 0 0)).setCell ⟨(w.heap.size + 1), 2, none⟩ (.int .i64 0)) = w3 at *
  obtain ⟨cX0, cX1, cX2, fX0, fX1, fX2⟩ := OX.out.three
  obtain ⟨cR0, cR1, cR2, fR0, fR1, fR2⟩ := OR.out.three
  refine bodyPost_ret (v := .tuple #[.agg #[.slice none 0 0, .slice none 0 0, .int .i64 0], .int .i64 0, .int .i64 1]) (by simp [results, Try.results20, go_sem, cR0, cR1, cR2]) rfl ?_
  exact ⟨_, by rw [HEX.out], by rw [HEX.out]; exact ixAt_nil _ _, K⟩

set_option maxRecDepth 100000 in
set_option maxHeartbeats 1000000 in
theorem rcop_no2 (V : List Nat) (x : Ix) (v : Value) (nm : ByteArray) (uid : Int) (tn : ByteArray) (w : World) (hV : Old V w) (h : IxAt V w v x) (hok : IxOk x) (hfew : Few x) (hr : rightB x = true) (hge : getR x nm uid = (⟨0, 0, 0, 0⟩, false)) (hp : (placeR x nm uid).2.2 = false) :
    Calls Try.prog 20 #[v, .string nm, .int .i64 uid, .string tn] w (IxPost3 V (copR x nm uid tn) w) := by
  have HEX : Hid (copR x nm uid tn = (ix0, 0, 6)) := by
    show _ = _
    unfold copR
    rcases hq : placeR x nm uid with ⟨p1, p2, p3⟩
    rw [hq] at hp
    have hp' : p3 = false := hp
    subst hp'
    rw [hr]
    rfl
  have HV := Lib.hid h
  have HOV := Lib.hid hV
  have HOK := Lib.hid hok
  have HFEW := Lib.hid hfew
  have HR := Lib.hid hr
  have HGE := Lib.hid hge
  have HP := Lib.hid hp
  obtain ⟨A, c, A', c', rfl, hc1, hc2, hc3, hc4, hbx, hrow⟩ := (h.weak (U := []) (fun _ hk => by cases hk)).open_
  have HROW := Lib.hid hrow
  clear hbx hrow h hok hV hfew hr hge hp
  unfold maxLen at hc2 hc4
  generalize hn : x.boxes.length = n at *
  generalize hm : x.subs.length = m at *
  generalize hg : x.given = gv at *
  have HN := Lib.hid hn
  have HM := Lib.hid hm
  have HG := Lib.hid hg
  clear hn hm hg
  go_enter Try.func20, Try.ntmps20
  go_wp2_with fail
  have OX := Lib.hid ((Own.newAt w w.heap.size 29 [.slice A n c, .slice A' m c', .int .i64 gv] (by simp)).alloc (.cells #[.slice none 0 0, .slice none 0 0, .int .i64 0] 29))
  have OR := Lib.hid (Own.newAt (w.alloc (.cells #[.slice A n c, .slice A' m c', .int .i64 gv] 29)) (w.heap.size + 1) 29 [.slice none 0 0, .slice none 0 0, .int .i64 0] (by simp))
  have K := (((Kept.refl w).alloc (.cells #[.slice A n c, .slice A' m c', .int .i64 gv] 29)).alloc (.cells #[.slice none 0 0, .slice none 0 0, .int .i64 0] 29))
  generalize ((w.alloc (.cells #[.slice A n c, .slice A' m c', .int .i64 gv] 29)).alloc (.cells #[.slice none 0 0, .slice none 0 0, .int .i64 0] 29)) = w1 at *
  obtain ⟨cX0, cX1, cX2, fX0, fX1, fX2⟩ := OX.out.three
  obtain ⟨cR0, cR1, cR2, fR0, fR1, fR2⟩ := OR.out.three
  refine (rright_any x _ _ (HV.out.go K (Ext.nil _ _)) HOK.out HFEW.out).mono ?_
  rintro e w2 ⟨rfl, hk⟩
  clear cX0 cX1 cX2 fX0 fX1 fX2 cR0 cR1 cR2 fR0 fR1 fR2
  replace OX := Lib.hid (OX.out.kept hk)
  replace OR := Lib.hid (OR.out.kept hk)
  replace K := K.trans hk
  rw [HR.out]
  clear hk
  obtain ⟨cX0, cX1, cX2, fX0, fX1, fX2⟩ := OX.out.three
  obtain ⟨cR0, cR1, cR2, fR0, fR1, fR2⟩ := OR.out.three
  go_wp2_with fail
  refine (rget_any x _ nm uid _ (HV.out.go K (Ext.nil _ _)) HOK.out).mono ?_
  rintro e w3 ⟨rfl, hk⟩
  clear cX0 cX1 cX2 fX0 fX1 fX2 cR0 cR1 cR2 fR0 fR1 fR2
  replace OX := Lib.hid (OX.out.kept hk)
  replace OR := Lib.hid (OR.out.kept hk)
  replace K := K.trans hk
  rw [HGE.out]
  dsimp only
  clear hk
  obtain ⟨cX0, cX1, cX2, fX0, fX1, fX2⟩ := OX.out.three
  obtain ⟨cR0, cR1, cR2, fR0, fR1, fR2⟩ := OR.out.three
  have zX3 := OX.out.lt
  have zR3 := OR.out.lt
  have zK3 := K.size
  go_wp2
  clear cX0 cX1 cX2 fX0 fX1 fX2 cR0 cR1 cR2 fR0 fR1 fR2
  replace OX : Hid (Own (((w3.setCell ⟨(w.heap.size + 1), 0, none⟩ (.slice none 0 0)).setCell ⟨(w.heap.size + 1), 1, none⟩ (.slice none 0 0)).setCell ⟨(w.heap.size + 1), 2, none⟩ (.int .i64 0)) w.heap.size 29 [.slice A n c, .slice A' m c', .int .i64 gv]) := Lib.hid (((OX.out.far (p := ⟨(w.heap.size + 1), 0, none⟩) (by first | omega | (simp; omega) | simp) (.slice none 0 0)).far (p := ⟨(w.heap.size + 1), 1, none⟩) (by first | omega | (simp; omega) | simp) (.slice none 0 0)).far (p := ⟨(w.heap.size + 1), 2, none⟩) (by first | omega | (simp; omega) | simp) (.int .i64 0))
  replace OR : Hid (Own (((w3.setCell ⟨(w.heap.size + 1), 0, none⟩ (.slice none 0 0)).setCell ⟨(w.heap.size + 1), 1, none⟩ (.slice none 0 0)).setCell ⟨(w.heap.size + 1), 2, none⟩ (.int .i64 0)) (w.heap.size + 1) 29 [.slice none 0 0, .slice none 0 0, .int .i64 0]) := Lib.hid (((OR.out.set_ 0 (.slice none 0 0)).set_ 1 (.slice none 0 0)).set_ 2 (.int .i64 0))
  replace K := (((K.setCell (p := ⟨(w.heap.size + 1), 0, none⟩) (by first | exact Nat.le_refl _ | (simp only []; omega) | simp) (.slice none 0 0)).setCell (p := ⟨(w.heap.size + 1), 1, none⟩) (by first | exact Nat.le_refl _ | (simp only []; omega) | simp) (.slice none 0 0)).setCell (p := ⟨(w.heap.size + 1), 2, none⟩) (by first | exact Nat.le_refl _ | (simp only []; omega) | simp) (.int .i64 0))
  generalize (((w3.setCell ⟨(w.heap.size + 1), 0, none⟩ (.slice none 0 0)).setCell ⟨(w.heap.size + 1), 1, none⟩ (.slice none 0 0)).setCell ⟨(w.heap.size + 1), 2, none⟩ (.int .i64 0)) = w4 at *
  replace OX := Lib.hid (OX.out.alloc (.cells #[.int .i64 0, .int .i64 0, .int .i64 0, .int .i64 0] 73))
  replace OR := Lib.hid (OR.out.alloc (.cells #[.int .i64 0, .int .i64 0, .int .i64 0, .int .i64 0] 73))
  have OG := Lib.hid (Own.new w4 73 [.int .i64 0, .int .i64 0, .int .i64 0, .int .i64 0])
  replace K := K.alloc (.cells #[.int .i64 0, .int .i64 0, .int .i64 0, .int .i64 0] 73)
  generalize (w4.alloc (.cells #[.int .i64 0, .int .i64 0, .int .i64 0, .int .i64 0] 73)) = w5 at *
  obtain ⟨cR0, cR1, cR2, fR0, fR1, fR2⟩ := OR.out.three
  refine bodyPost_ret (v := .tuple #[.agg #[.slice none 0 0, .slice none 0 0, .int .i64 0], .int .i64 0, .int .i64 6]) (by simp [results, Try.results20, go_sem, cR0, cR1, cR2]) rfl ?_
  exact ⟨_, by rw [HEX.out], by rw [HEX.out]; exact ixAt_nil _ _, K⟩

set_option maxRecDepth 100000 in
set_option maxHeartbeats 1000000 in
theorem rcop_main (V : List Nat) (x : Ix) (v : Value) (ml : Ml) (nm : ByteArray) (uid : Int) (tn : ByteArray) (w : World) (hV : Old V w) (h : IxAt V w v x) (hok : IxOk x) (hfew : Few x) (hr : rightB x = true) (hge : getR x nm uid = (ml, true)) (hc : copR x nm uid tn = appR x tn ml.obj ml.size ml.flags) :
    Calls Try.prog 20 #[v, .string nm, .int .i64 uid, .string tn] w (IxPost3 V (copR x nm uid tn) w) := by
  have HEX : Hid (copR x nm uid tn = appR x tn ml.obj ml.size ml.flags) := by
    show _ = _
    exact hc
  have HV := Lib.hid h
  have HOV := Lib.hid hV
  have HOK := Lib.hid hok
  have HFEW := Lib.hid hfew
  have HR := Lib.hid hr
  have HGE := Lib.hid hge
  obtain ⟨A, c, A', c', rfl, hc1, hc2, hc3, hc4, hbx, hrow⟩ := (h.weak (U := []) (fun _ hk => by cases hk)).open_
  have HROW := Lib.hid hrow
  clear hbx hrow h hok hV hfew hr hge hc
  unfold maxLen at hc2 hc4
  generalize hn : x.boxes.length = n at *
  generalize hm : x.subs.length = m at *
  generalize hg : x.given = gv at *
  have HN := Lib.hid hn
  have HM := Lib.hid hm
  have HG := Lib.hid hg
  clear hn hm hg
  go_enter Try.func20, Try.ntmps20
  go_wp2_with fail
  have OX := Lib.hid ((Own.newAt w w.heap.size 29 [.slice A n c, .slice A' m c', .int .i64 gv] (by simp)).alloc (.cells #[.slice none 0 0, .slice none 0 0, .int .i64 0] 29))
  have OR := Lib.hid (Own.newAt (w.alloc (.cells #[.slice A n c, .slice A' m c', .int .i64 gv] 29)) (w.heap.size + 1) 29 [.slice none 0 0, .slice none 0 0, .int .i64 0] (by simp))
  have K := (((Kept.refl w).alloc (.cells #[.slice A n c, .slice A' m c', .int .i64 gv] 29)).alloc (.cells #[.slice none 0 0, .slice none 0 0, .int .i64 0] 29))
  generalize ((w.alloc (.cells #[.slice A n c, .slice A' m c', .int .i64 gv] 29)).alloc (.cells #[.slice none 0 0, .slice none 0 0, .int .i64 0] 29)) = w1 at *
  obtain ⟨cX0, cX1, cX2, fX0, fX1, fX2⟩ := OX.out.three
  obtain ⟨cR0, cR1, cR2, fR0, fR1, fR2⟩ := OR.out.three
  refine (rright_any x _ _ (HV.out.go K (Ext.nil _ _)) HOK.out HFEW.out).mono ?_
  rintro e w2 ⟨rfl, hk⟩
  clear cX0 cX1 cX2 fX0 fX1 fX2 cR0 cR1 cR2 fR0 fR1 fR2
  replace OX := Lib.hid (OX.out.kept hk)
  replace OR := Lib.hid (OR.out.kept hk)
  replace K := K.trans hk
  rw [HR.out]
  clear hk
  obtain ⟨cX0, cX1, cX2, fX0, fX1, fX2⟩ := OX.out.three
  obtain ⟨cR0, cR1, cR2, fR0, fR1, fR2⟩ := OR.out.three
  go_wp2_with fail
  refine (rget_any x _ nm uid _ (HV.out.go K (Ext.nil _ _)) HOK.out).mono ?_
  rintro e w3 ⟨rfl, hk⟩
  clear cX0 cX1 cX2 fX0 fX1 fX2 cR0 cR1 cR2 fR0 fR1 fR2
  replace OX := Lib.hid (OX.out.kept hk)
  replace OR := Lib.hid (OR.out.kept hk)
  replace K := K.trans hk
  rw [HGE.out]
  dsimp only
  clear hk
  obtain ⟨cX0, cX1, cX2, fX0, fX1, fX2⟩ := OX.out.three
  obtain ⟨cR0, cR1, cR2, fR0, fR1, fR2⟩ := OR.out.three
  have zX3 := OX.out.lt
  have zR3 := OR.out.lt
  have zK3 := K.size
  go_wp2_with fail
  clear cX0 cX1 cX2 fX0 fX1 fX2 cR0 cR1 cR2 fR0 fR1 fR2
  replace OX := Lib.hid (OX.out.alloc (.cells #[.int .i64 ml.uid, .int .i64 ml.flags, .int .i64 ml.obj, .int .i64 ml.size] 73))
  replace OR := Lib.hid (OR.out.alloc (.cells #[.int .i64 ml.uid, .int .i64 ml.flags, .int .i64 ml.obj, .int .i64 ml.size] 73))
  have OG := Lib.hid (Own.new w3 73 [.int .i64 ml.uid, .int .i64 ml.flags, .int .i64 ml.obj, .int .i64 ml.size])
  replace K := K.alloc (.cells #[.int .i64 ml.uid, .int .i64 ml.flags, .int .i64 ml.obj, .int .i64 ml.size] 73)
  generalize (w3.alloc (.cells #[.int .i64 ml.uid, .int .i64 ml.flags, .int .i64 ml.obj, .int .i64 ml.size] 73)) = w4 at *
  refine (rapp_any ((w.heap.size + 1) :: V) x _ tn ml.obj ml.size ml.flags _ (Old.cons OR.out.lt (HOV.out.go K)) (HV.out.go K (Ext.cons (by omega) (Ext.refl _ _))) HOK.out HFEW.out).mono ?_
  rintro e w5 ⟨v2, rfl, hx2, hk⟩
  replace OX := Lib.hid (OX.out.kept hk)
  replace OR := Lib.hid (OR.out.kept hk)
  replace OG := Lib.hid (OG.out.kept hk)
  replace K := K.trans hk
  have HX2 := Lib.hid hx2
  obtain ⟨A2, c2, A3, c3, rfl⟩ := hx2.form
  clear hx2
  clear hk
  generalize hr1 : (appR x tn ml.obj ml.size ml.flags).1.boxes.length = n2 at *
  generalize hr2 : (appR x tn ml.obj ml.size ml.flags).1.subs.length = n3 at *
  generalize hr3 : (appR x tn ml.obj ml.size ml.flags).1.given = gv2 at *
  generalize hr4 : (appR x tn ml.obj ml.size ml.flags).2.1 = u2 at *
  generalize hr5 : (appR x tn ml.obj ml.size ml.flags).2.2 = e2 at *
  have HU := Lib.hid hr4
  have HE := Lib.hid hr5
  clear hr1 hr2 hr3 hr4 hr5
  obtain ⟨cX0, cX1, cX2, fX0, fX1, fX2⟩ := OX.out.three
  obtain ⟨cR0, cR1, cR2, fR0, fR1, fR2⟩ := OR.out.three
  have cG0 := OG.out.cell? 0
  have fG0 := OG.out.frozen 0
  have cG1 := OG.out.cell? 1
  have fG1 := OG.out.frozen 1
  have cG2 := OG.out.cell? 2
  have fG2 := OG.out.frozen 2
  have cG3 := OG.out.cell? 3
  have fG3 := OG.out.frozen 3
  simp only [List.getElem?_cons_zero, List.getElem?_cons_succ] at cG0 cG1 cG2 cG3
  go_wp2
  clear cX0 cX1 cX2 fX0 fX1 fX2 cR0 cR1 cR2 fR0 fR1 fR2 cG0 cG1 cG2 cG3 fG0 fG1 fG2 fG3
  replace OX : Hid (Own (((w5.setCell ⟨(w.heap.size + 1), 0, none⟩ (.slice A2 n2 c2)).setCell ⟨(w.heap.size + 1), 1, none⟩ (.slice A3 n3 c3)).setCell ⟨(w.heap.size + 1), 2, none⟩ (.int .i64 gv2)) w.heap.size 29 [.slice A n c, .slice A' m c', .int .i64 gv]) := Lib.hid (((OX.out.far (p := ⟨(w.heap.size + 1), 0, none⟩) (by first | omega | (simp; omega) | simp) (.slice A2 n2 c2)).far (p := ⟨(w.heap.size + 1), 1, none⟩) (by first | omega | (simp; omega) | simp) (.slice A3 n3 c3)).far (p := ⟨(w.heap.size + 1), 2, none⟩) (by first | omega | (simp; omega) | simp) (.int .i64 gv2))
  replace OR : Hid (Own (((w5.setCell ⟨(w.heap.size + 1), 0, none⟩ (.slice A2 n2 c2)).setCell ⟨(w.heap.size + 1), 1, none⟩ (.slice A3 n3 c3)).setCell ⟨(w.heap.size + 1), 2, none⟩ (.int .i64 gv2)) (w.heap.size + 1) 29 [.slice A2 n2 c2, .slice A3 n3 c3, .int .i64 gv2]) := Lib.hid (((OR.out.set_ 0 (.slice A2 n2 c2)).set_ 1 (.slice A3 n3 c3)).set_ 2 (.int .i64 gv2))
  replace OG : Hid (Own (((w5.setCell ⟨(w.heap.size + 1), 0, none⟩ (.slice A2 n2 c2)).setCell ⟨(w.heap.size + 1), 1, none⟩ (.slice A3 n3 c3)).setCell ⟨(w.heap.size + 1), 2, none⟩ (.int .i64 gv2)) w3.heap.size 73 [.int .i64 ml.uid, .int .i64 ml.flags, .int .i64 ml.obj, .int .i64 ml.size]) := Lib.hid (((OG.out.far (p := ⟨(w.heap.size + 1), 0, none⟩) (by first | omega | (simp; omega) | simp) (.slice A2 n2 c2)).far (p := ⟨(w.heap.size + 1), 1, none⟩) (by first | omega | (simp; omega) | simp) (.slice A3 n3 c3)).far (p := ⟨(w.heap.size + 1), 2, none⟩) (by first | omega | (simp; omega) | simp) (.int .i64 gv2))
  replace HX2 := Lib.hid (((HX2.out.put (p := ⟨(w.heap.size + 1), 0, none⟩) (by simp) (.slice A2 n2 c2)).put (p := ⟨(w.heap.size + 1), 1, none⟩) (by simp) (.slice A3 n3 c3)).put (p := ⟨(w.heap.size + 1), 2, none⟩) (by simp) (.int .i64 gv2))
  replace K := (((K.setCell (p := ⟨(w.heap.size + 1), 0, none⟩) (by first | exact Nat.le_refl _ | (simp only []; omega) | simp) (.slice A2 n2 c2)).setCell (p := ⟨(w.heap.size + 1), 1, none⟩) (by first | exact Nat.le_refl _ | (simp only []; omega) | simp) (.slice A3 n3 c3)).setCell (p := ⟨(w.heap.size + 1), 2, none⟩) (by first | exact Nat.le_refl _ | (simp only []; omega) | simp) (.int .i64 gv2))
  generalize (((w5.setCell ⟨(w.heap.size + 1), 0, none⟩ (.slice A2 n2 c2)).setCell ⟨(w.heap.size + 1), 1, none⟩ (.slice A3 n3 c3)).setCell ⟨(w.heap.size + 1), 2, none⟩ (.int .i64 gv2)) = w6 at *
  obtain ⟨cX0, cX1, cX2, fX0, fX1, fX2⟩ := OX.out.three
  obtain ⟨cR0, cR1, cR2, fR0, fR1, fR2⟩ := OR.out.three
  have cG0 := OG.out.cell? 0
  have fG0 := OG.out.frozen 0
  have cG1 := OG.out.cell? 1
  have fG1 := OG.out.frozen 1
  have cG2 := OG.out.cell? 2
  have fG2 := OG.out.frozen 2
  have cG3 := OG.out.cell? 3
  have fG3 := OG.out.frozen 3
  simp only [List.getElem?_cons_zero, List.getElem?_cons_succ] at cG0 cG1 cG2 cG3
  refine bodyPost_ret (v := .tuple #[.agg #[.slice A2 n2 c2, .slice A3 n3 c3, .int .i64 gv2], .int .i64 u2, .int .i64 e2]) (by simp [results, Try.results20, go_sem, cR0, cR1, cR2]) rfl ?_
  refine ⟨_, by rw [HEX.out, HU.out, HE.out], ?_, K⟩
  rw [HEX.out]
  exact HX2.out.go (Kept.refl _) (fun k hk => .inl (List.mem_cons_of_mem _ hk))

theorem rcop_any (V : List Nat) (x : Ix) (v : Value) (nm : ByteArray) (uid : Int) (tn : ByteArray) (w : World) (hV : Old V w) (h : IxAt V w v x) (hok : IxOk x) (hfew : Few x) :
    Calls Try.prog 20 #[v, .string nm, .int .i64 uid, .string tn] w (IxPost3 V (copR x nm uid tn) w) := by
  rcases Bool.eq_false_or_eq_true (rightB x) with hr | hr
  · rcases Bool.eq_false_or_eq_true (placeR x nm uid).2.2 with hp | hp
    · obtain ⟨a, k, hp1, ha, hk, hf, hfm⟩ := place_found hp
      exact rcop_main V x v _ nm uid tn w hV h hok hfew hr (get_found hf hfm) (cop_app hr hp1 ha hk)
    · exact rcop_no2 V x v nm uid tn w hV h hok hfew hr (get_none hp) hp
  · exact rcop_no1 V x v nm uid tn w hV h hok hfew hr
end Go.Proofs.Ytjinnkbnllnllaa
