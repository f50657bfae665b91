/- Walk: mailsackref15.Flag. -/
import Derived.Test.YtjinnkbnllnllaaRxApp
namespace Go.Proofs.Ytjinnkbnllnllaa
open Go.RowKit

def flagOne (uid fl : Int) (m : Ml) : Ml := if m.uid == uid then flagMl m fl else m
def flagAll (l : List Ml) (uid fl : Int) : List Ml := l.map (flagOne uid fl)
def expAll (l : List Ml) (uid : Int) : List Ml := l.filter (fun m => m.uid != uid)
/-- Each UID stands once. -/
def Uniq (l : List Ml) : Prop := ∀ i j, i < j → j < l.length → (mlAt l i).uid ≠ (mlAt l j).uid
theorem right_uniq {x : Ix} {a : Nat} (hr : rightB x = true) (ha : a < x.boxes.length) : Uniq (bxAt x a).mails := by
  have h := (mailsB_iff _ _).1 (boxB_parts (right_box hr ha)).2.2.2.2.2.2
  have hlt : ∀ j i, i < j → j < (bxAt x a).mails.length → (mlAt (bxAt x a).mails i).uid < (mlAt (bxAt x a).mails j).uid := by
    intro j
    induction j with
    | zero => intro i hi; omega
    | succ j ih =>
      intro i hi hj
      have h1 := (h (j + 1) hj).2.2.2 (by omega)
      simp only [Nat.add_sub_cancel] at h1
      by_cases e : i = j
      · subst e; exact h1
      · have := ih i (by omega) (by omega); omega
  intro i j hij hj e
  have := hlt j i hij hj
  omega
theorem flag_all {l : List Ml} {uid fl : Int} {k : Nat} (hu : Uniq l) (hk : findM l uid = some k) : flagAll l uid fl = flagL l k fl := by
  obtain ⟨h1, h2, _⟩ := findTo_inv hk
  have h2' : (mlAt l k).uid = uid := by simpa [uidP] using h2
  apply List.ext_getElem
  · simp [flagAll, flagL]
  · intro i hi hi'
    have hil : i < l.length := by simpa [flagAll] using hi
    simp only [flagAll, flagL, List.getElem_map]
    by_cases e : i = k
    · subst e
      rw [List.getElem_set_self, flagOne, ← mlAt_lt hil, if_pos (by simpa using h2')]
    · rw [List.getElem_set_ne (Ne.symm e), flagOne, if_neg]
      rw [← mlAt_lt hil]
      intro he
      have he' : (mlAt l i).uid = uid := by simpa using he
      rcases Nat.lt_or_ge i k with h | h
      · exact hu i k h h1 (he'.trans h2'.symm)
      · exact hu k i (by omega) hil (h2'.trans he'.symm)
theorem filter_erase {l : List Ml} {uid : Int} : ∀ {k : Nat}, (hk : k < l.length) → l[k].uid = uid → (∀ j, (hj : j < l.length) → j ≠ k → l[j].uid ≠ uid) → l.filter (fun m => m.uid != uid) = l.eraseIdx k := by
  induction l with
  | nil => intro k hk; simp at hk
  | cons m l ih =>
    intro k hk he hn
    cases k with
    | zero =>
      rw [List.filter_cons_of_neg (by simpa using he), List.eraseIdx_cons_zero, List.filter_eq_self]
      intro u hu
      obtain ⟨j, hj, rfl⟩ := List.mem_iff_getElem.1 hu
      rw [bne_iff_ne]
      exact hn (j + 1) (by simpa using hj) (by omega)
    | succ k =>
      rw [List.filter_cons_of_pos (by show (m.uid != uid) = true; rw [bne_iff_ne]; exact hn 0 (by simp) (by omega)), List.eraseIdx_cons_succ, ih (by simpa using hk) (by simpa using he) (fun j hj hne => by
        have := hn (j + 1) (by simpa using hj) (by omega)
        simpa using this)]
theorem exp_all {l : List Ml} {uid : Int} {k : Nat} (hu : Uniq l) (hk : findM l uid = some k) : expAll l uid = l.eraseIdx k := by
  obtain ⟨h1, h2, _⟩ := findTo_inv hk
  have h2' : (mlAt l k).uid = uid := by simpa [uidP] using h2
  refine filter_erase h1 (by rw [← mlAt_lt h1]; exact h2') (fun j hj hne => ?_)
  rw [← mlAt_lt hj]
  intro e
  rcases Nat.lt_or_ge j k with h | h
  · exact hu j k h h1 (e.trans h2'.symm)
  · exact hu k j (by omega) hj (h2'.trans e.symm)
theorem get_found {x : Ix} {nm : ByteArray} {uid : Int} {a k : Nat} (hf : findX x nm = some a) (hm : findM (bxAt x a).mails uid = some k) : getR x nm uid = (mlAt (bxAt x a).mails k, true) := by
  unfold getR; rw [hf]; simp only; rw [hm]
theorem get_none {x : Ix} {nm : ByteArray} {uid : Int} (h : (placeR x nm uid).2.2 = false) : getR x nm uid = (⟨0, 0, 0, 0⟩, false) := by
  unfold placeR at h
  unfold getR
  cases hf : findX x nm with
  | none => rfl
  | some a =>
    rw [hf] at h
    simp only at h ⊢
    cases hm : findM (bxAt x a).mails uid with
    | none => rfl
    | some k => rw [hm] at h; simp [ofO] at h

set_option maxRecDepth 100000 in
set_option maxHeartbeats 1000000 in
theorem rflag_no1 (V : List Nat) (x : Ix) (v : Value) (nm : ByteArray) (uid fl : Int) (w : World) (hV : Old V w) (h : IxAt V w v x) (hok : IxOk x) (hfew : Few x) (hr : rightB x = false) :
    Calls Try.prog 18 #[v, .string nm, .int .i64 uid, .int .i64 fl] w (IxPost V (flagR x nm uid fl) w) := by
  have HEX : Hid (flagR x nm uid fl = (ix0, 1)) := by
    show _ = _
    unfold flagR; rw [hr]; rfl
  have HV := Lib.hid h
  have HOV := Lib.hid hV
  have HOK := Lib.hid hok
  have HFEW := Lib.hid hfew
  have HR := Lib.hid hr
  obtain ⟨A, c, A', c', rfl, hc1, hc2, hc3, hc4, hbx, hrow⟩ := (h.weak (U := []) (fun _ hk => by cases hk)).open_
  have HROW := Lib.hid hrow
  clear hbx hrow h hok hV hfew hr
  unfold maxLen at hc2 hc4
  generalize hn : x.boxes.length = n at *
  generalize hm : x.subs.length = m at *
  generalize hg : x.given = gv at *
  have HN := Lib.hid hn
  have HM := Lib.hid hm
  have HG := Lib.hid hg
  clear hn hm hg
  go_enter Try.func18, Try.ntmps18
  go_wp2_with fail
  have OX := Lib.hid ((Own.newAt w w.heap.size 29 [.slice A n c, .slice A' m c', .int .i64 gv] (by simp)).alloc (.cells #[.slice none 0 0, .slice none 0 0, .int .i64 0] 29))
  have OR := Lib.hid (Own.newAt (w.alloc (.cells #[.slice A n c, .slice A' m c', .int .i64 gv] 29)) (w.heap.size + 1) 29 [.slice none 0 0, .slice none 0 0, .int .i64 0] (by simp))
  have K := (((Kept.refl w).alloc (.cells #[.slice A n c, .slice A' m c', .int .i64 gv] 29)).alloc (.cells #[.slice none 0 0, .slice none 0 0, .int .i64 0] 29))
  generalize ((w.alloc (.cells #[.slice A n c, .slice A' m c', .int .i64 gv] 29)).alloc (.cells #[.slice none 0 0, .slice none 0 0, .int .i64 0] 29)) = w1 at *
  obtain ⟨cX0, cX1, cX2, fX0, fX1, fX2⟩ := OX.out.three
  obtain ⟨cR0, cR1, cR2, fR0, fR1, fR2⟩ := OR.out.three
  refine (rright_any x _ _ (HV.out.go K (Ext.nil _ _)) HOK.out HFEW.out).mono ?_
  rintro e w2 ⟨rfl, hk⟩
  clear cX0 cX1 cX2 fX0 fX1 fX2 cR0 cR1 cR2 fR0 fR1 fR2
  replace OX := Lib.hid (OX.out.kept hk)
  replace OR := Lib.hid (OR.out.kept hk)
  replace K := K.trans hk
  rw [HR.out]
  clear hk
  obtain ⟨cX0, cX1, cX2, fX0, fX1, fX2⟩ := OX.out.three
  obtain ⟨cR0, cR1, cR2, fR0, fR1, fR2⟩ := OR.out.three
  go_wp2
  clear cX0 cX1 cX2 fX0 fX1 fX2 cR0 cR1 cR2 fR0 fR1 fR2
  replace OX : Hid (Own (((w2.setCell ⟨(w.heap.size + 1), 0, none⟩ (.slice none 0 0)).setCell ⟨(w.heap.size + 1), 1, none⟩ (.slice none 0 0)).setCell ⟨(w.heap.size + 1), 2, none⟩ (.int .i64 0)) w.heap.size 29 [.slice A n c, .slice A' m c', .int .i64 gv]) := Lib.hid (((OX.out.far (p := ⟨(w.heap.size + 1), 0, none⟩) (by first | omega | (simp; omega) | simp) (.slice none 0 0)).far (p := ⟨(w.heap.size + 1), 1, none⟩) (by first | omega | (simp; omega) | simp) (.slice none 0 0)).far (p := ⟨(w.heap.size + 1), 2, none⟩) (by first | omega | (simp; omega) | simp) (.int .i64 0))
  replace OR : Hid (Own (((w2.setCell ⟨(w.heap.size + 1), 0, none⟩ (.slice none 0 0)).setCell ⟨(w.heap.size + 1), 1, none⟩ (.slice none 0 0)).setCell ⟨(w.heap.size + 1), 2, none⟩ (.int .i64 0)) (w.heap.size + 1) 29 [.slice none 0 0, .slice none 0 0, .int .i64 0]) := Lib.hid (((OR.out.set_ 0 (.slice none 0 0)).set_ 1 (.slice none 0 0)).set_ 2 (.int .i64 0))
  replace K := (((K.setCell (p := ⟨(w.heap.size + 1), 0, none⟩) (by first | exact Nat.le_refl _ | (simp only []; omega) | simp) (.slice none 0 0)).setCell (p := ⟨(w.heap.size + 1), 1, none⟩) (by first | exact Nat.le_refl _ | (simp only []; omega) | simp) (.slice none 0 0)).setCell (p := ⟨(w.heap.size + 1), 2, none⟩) (by first | exact Nat.le_refl _ | (simp only []; omega) | simp) (.int .i64 0))
  generalize (((w2.setCell ⟨(w.heap.size + 1), 0, none⟩ (.slice none 0 0)).setCell ⟨(w.heap.size + 1), 1, none⟩ (.slice none 0 0)).setCell ⟨(w.heap.size + 1), 2, none⟩ (.int .i64 0)) = w3 at *
  obtain ⟨cX0, cX1, cX2, fX0, fX1, fX2⟩ := OX.out.three
  obtain ⟨cR0, cR1, cR2, fR0, fR1, fR2⟩ := OR.out.three
  refine bodyPost_ret (v := .tuple #[.agg #[.slice none 0 0, .slice none 0 0, .int .i64 0], .int .i64 1]) (by simp [results, Try.results18, go_sem, cR0, cR1, cR2]) rfl ?_
  exact ⟨_, by rw [HEX.out], by rw [HEX.out]; exact ixAt_nil _ _, K⟩

set_option maxRecDepth 100000 in
set_option maxHeartbeats 1000000 in
theorem rflag_no2 (V : List Nat) (x : Ix) (v : Value) (nm : ByteArray) (uid fl : Int) (w : World) (hV : Old V w) (h : IxAt V w v x) (hok : IxOk x) (hfew : Few x) (hr : rightB x = true) (hi : inB fl 0 63 = false) :
    Calls Try.prog 18 #[v, .string nm, .int .i64 uid, .int .i64 fl] w (IxPost V (flagR x nm uid fl) w) := by
  have HEX : Hid (flagR x nm uid fl = (ix0, 1)) := by
    show _ = _
    unfold flagR; rw [hr, show flagsB fl = false from hi]; rfl
  have HV := Lib.hid h
  have HOV := Lib.hid hV
  have HOK := Lib.hid hok
  have HFEW := Lib.hid hfew
  have HR := Lib.hid hr
  have HI := Lib.hid hi
  obtain ⟨A, c, A', c', rfl, hc1, hc2, hc3, hc4, hbx, hrow⟩ := (h.weak (U := []) (fun _ hk => by cases hk)).open_
  have HROW := Lib.hid hrow
  clear hbx hrow h hok hV hfew hr hi
  unfold maxLen at hc2 hc4
  generalize hn : x.boxes.length = n at *
  generalize hm : x.subs.length = m at *
  generalize hg : x.given = gv at *
  have HN := Lib.hid hn
  have HM := Lib.hid hm
  have HG := Lib.hid hg
  clear hn hm hg
  go_enter Try.func18, Try.ntmps18
  go_wp2_with fail
  have OX := Lib.hid ((Own.newAt w w.heap.size 29 [.slice A n c, .slice A' m c', .int .i64 gv] (by simp)).alloc (.cells #[.slice none 0 0, .slice none 0 0, .int .i64 0] 29))
  have OR := Lib.hid (Own.newAt (w.alloc (.cells #[.slice A n c, .slice A' m c', .int .i64 gv] 29)) (w.heap.size + 1) 29 [.slice none 0 0, .slice none 0 0, .int .i64 0] (by simp))
  have K := (((Kept.refl w).alloc (.cells #[.slice A n c, .slice A' m c', .int .i64 gv] 29)).alloc (.cells #[.slice none 0 0, .slice none 0 0, .int .i64 0] 29))
  generalize ((w.alloc (.cells #[.slice A n c, .slice A' m c', .int .i64 gv] 29)).alloc (.cells #[.slice none 0 0, .slice none 0 0, .int .i64 0] 29)) = w1 at *
  obtain ⟨cX0, cX1, cX2, fX0, fX1, fX2⟩ := OX.out.three
  obtain ⟨cR0, cR1, cR2, fR0, fR1, fR2⟩ := OR.out.three
  refine (rright_any x _ _ (HV.out.go K (Ext.nil _ _)) HOK.out HFEW.out).mono ?_
  rintro e w2 ⟨rfl, hk⟩
  clear cX0 cX1 cX2 fX0 fX1 fX2 cR0 cR1 cR2 fR0 fR1 fR2
  replace OX := Lib.hid (OX.out.kept hk)
  replace OR := Lib.hid (OR.out.kept hk)
  replace K := K.trans hk
  rw [HR.out]
  clear hk
  obtain ⟨cX0, cX1, cX2, fX0, fX1, fX2⟩ := OX.out.three
  obtain ⟨cR0, cR1, cR2, fR0, fR1, fR2⟩ := OR.out.three
  go_wp2_with fail
  refine (in_any fl 0 63 _).mono ?_
  rintro e _ ⟨rfl, rfl⟩
  rw [HI.out]
  go_wp2
  clear cX0 cX1 cX2 fX0 fX1 fX2 cR0 cR1 cR2 fR0 fR1 fR2
  replace OX : Hid (Own (((w2.setCell ⟨(w.heap.size + 1), 0, none⟩ (.slice none 0 0)).setCell ⟨(w.heap.size + 1), 1, none⟩ (.slice none 0 0)).setCell ⟨(w.heap.size + 1), 2, none⟩ (.int .i64 0)) w.heap.size 29 [.slice A n c, .slice A' m c', .int .i64 gv]) := Lib.hid (((OX.out.far (p := ⟨(w.heap.size + 1), 0, none⟩) (by first | omega | (simp; omega) | simp) (.slice none 0 0)).far (p := ⟨(w.heap.size + 1), 1, none⟩) (by first | omega | (simp; omega) | simp) (.slice none 0 0)).far (p := ⟨(w.heap.size + 1), 2, none⟩) (by first | omega | (simp; omega) | simp) (.int .i64 0))
  replace OR : Hid (Own (((w2.setCell ⟨(w.heap.size + 1), 0, none⟩ (.slice none 0 0)).setCell ⟨(w.heap.size + 1), 1, none⟩ (.slice none 0 0)).setCell ⟨(w.heap.size + 1), 2, none⟩ (.int .i64 0)) (w.heap.size + 1) 29 [.slice none 0 0, .slice none 0 0, .int .i64 0]) := Lib.hid (((OR.out.set_ 0 (.slice none 0 0)).set_ 1 (.slice none 0 0)).set_ 2 (.int .i64 0))
  replace K := (((K.setCell (p := ⟨(w.heap.size + 1), 0, none⟩) (by first | exact Nat.le_refl _ | (simp only []; omega) | simp) (.slice none 0 0)).setCell (p := ⟨(w.heap.size + 1), 1, none⟩) (by first | exact Nat.le_refl _ | (simp only []; omega) | simp) (.slice none 0 0)).setCell (p := ⟨(w.heap.size + 1), 2, none⟩) (by first | exact Nat.le_refl _ | (simp only []; omega) | simp) (.int .i64 0))
  generalize (((w2.setCell ⟨(w.heap.size + 1), 0, none⟩ (.slice none 0 0)).setCell ⟨(w.heap.size + 1), 1, none⟩ (.slice none 0 0)).setCell ⟨(w.heap.size + 1), 2, none⟩ (.int .i64 0)) = w3 at *
  obtain ⟨cX0, cX1, cX2, fX0, fX1, fX2⟩ := OX.out.three
  obtain ⟨cR0, cR1, cR2, fR0, fR1, fR2⟩ := OR.out.three
  refine bodyPost_ret (v := .tuple #[.agg #[.slice none 0 0, .slice none 0 0, .int .i64 0], .int .i64 1]) (by simp [results, Try.results18, go_sem, cR0, cR1, cR2]) rfl ?_
  exact ⟨_, by rw [HEX.out], by rw [HEX.out]; exact ixAt_nil _ _, K⟩

set_option maxRecDepth 100000 in
set_option maxHeartbeats 1000000 in
theorem rflag_no3 (V : List Nat) (x : Ix) (v : Value) (nm : ByteArray) (uid fl : Int) (w : World) (hV : Old V w) (h : IxAt V w v x) (hok : IxOk x) (hfew : Few x) (hr : rightB x = true) (hi : inB fl 0 63 = true) (hge : getR x nm uid = (⟨0, 0, 0, 0⟩, false)) (hp : (placeR x nm uid).2.2 = false) :
    Calls Try.prog 18 #[v, .string nm, .int .i64 uid, .int .i64 fl] w (IxPost V (flagR x nm uid fl) w) := by
  have HEX : Hid (flagR x nm uid fl = (ix0, 6)) := by
    show _ = _
    unfold flagR
    rcases hq : placeR x nm uid with ⟨p1, p2, p3⟩
    rw [hq] at hp
    have hp' : p3 = false := hp
    subst hp'
    rw [hr, show flagsB fl = true from hi]
    rfl
  have HV := Lib.hid h
  have HOV := Lib.hid hV
  have HOK := Lib.hid hok
  have HFEW := Lib.hid hfew
  have HR := Lib.hid hr
  have HGE := Lib.hid hge
  have HP := Lib.hid hp
  have HI := Lib.hid hi
  obtain ⟨A, c, A', c', rfl, hc1, hc2, hc3, hc4, hbx, hrow⟩ := (h.weak (U := []) (fun _ hk => by cases hk)).open_
  have HROW := Lib.hid hrow
  clear hbx hrow h hok hV hfew hr hge hp hi
  unfold maxLen at hc2 hc4
  generalize hn : x.boxes.length = n at *
  generalize hm : x.subs.length = m at *
  generalize hg : x.given = gv at *
  have HN := Lib.hid hn
  have HM := Lib.hid hm
  have HG := Lib.hid hg
  clear hn hm hg
  go_enter Try.func18, Try.ntmps18
  go_wp2_with fail
  have OX := Lib.hid ((Own.newAt w w.heap.size 29 [.slice A n c, .slice A' m c', .int .i64 gv] (by simp)).alloc (.cells #[.slice none 0 0, .slice none 0 0, .int .i64 0] 29))
  have OR := Lib.hid (Own.newAt (w.alloc (.cells #[.slice A n c, .slice A' m c', .int .i64 gv] 29)) (w.heap.size + 1) 29 [.slice none 0 0, .slice none 0 0, .int .i64 0] (by simp))
  have K := (((Kept.refl w).alloc (.cells #[.slice A n c, .slice A' m c', .int .i64 gv] 29)).alloc (.cells #[.slice none 0 0, .slice none 0 0, .int .i64 0] 29))
  generalize ((w.alloc (.cells #[.slice A n c, .slice A' m c', .int .i64 gv] 29)).alloc (.cells #[.slice none 0 0, .slice none 0 0, .int .i64 0] 29)) = w1 at *
  obtain ⟨cX0, cX1, cX2, fX0, fX1, fX2⟩ := OX.out.three
  obtain ⟨cR0, cR1, cR2, fR0, fR1, fR2⟩ := OR.out.three
  refine (rright_any x _ _ (HV.out.go K (Ext.nil _ _)) HOK.out HFEW.out).mono ?_
  rintro e w2 ⟨rfl, hk⟩
  clear cX0 cX1 cX2 fX0 fX1 fX2 cR0 cR1 cR2 fR0 fR1 fR2
  replace OX := Lib.hid (OX.out.kept hk)
  replace OR := Lib.hid (OR.out.kept hk)
  replace K := K.trans hk
  rw [HR.out]
  clear hk
  obtain ⟨cX0, cX1, cX2, fX0, fX1, fX2⟩ := OX.out.three
  obtain ⟨cR0, cR1, cR2, fR0, fR1, fR2⟩ := OR.out.three
  go_wp2_with fail
  refine (in_any fl 0 63 _).mono ?_
  rintro e _ ⟨rfl, rfl⟩
  rw [HI.out]
  go_wp2_with fail
  refine (rget_any x _ nm uid _ (HV.out.go K (Ext.nil _ _)) HOK.out).mono ?_
  rintro e w3 ⟨rfl, hk⟩
  clear cX0 cX1 cX2 fX0 fX1 fX2 cR0 cR1 cR2 fR0 fR1 fR2
  replace OX := Lib.hid (OX.out.kept hk)
  replace OR := Lib.hid (OR.out.kept hk)
  replace K := K.trans hk
  rw [HGE.out]
  dsimp only
  clear hk
  obtain ⟨cX0, cX1, cX2, fX0, fX1, fX2⟩ := OX.out.three
  obtain ⟨cR0, cR1, cR2, fR0, fR1, fR2⟩ := OR.out.three
  have zX3 := OX.out.lt
  have zR3 := OR.out.lt
  have zK3 := K.size
  go_wp2
  clear cX0 cX1 cX2 fX0 fX1 fX2 cR0 cR1 cR2 fR0 fR1 fR2
  replace OX : Hid (Own (((w3.setCell ⟨(w.heap.size + 1), 0, none⟩ (.slice none 0 0)).setCell ⟨(w.heap.size + 1), 1, none⟩ (.slice none 0 0)).setCell ⟨(w.heap.size + 1), 2, none⟩ (.int .i64 0)) w.heap.size 29 [.slice A n c, .slice A' m c', .int .i64 gv]) := Lib.hid (((OX.out.far (p := ⟨(w.heap.size + 1), 0, none⟩) (by first | omega | (simp; omega) | simp) (.slice none 0 0)).far (p := ⟨(w.heap.size + 1), 1, none⟩) (by first | omega | (simp; omega) | simp) (.slice none 0 0)).far (p := ⟨(w.heap.size + 1), 2, none⟩) (by first | omega | (simp; omega) | simp) (.int .i64 0))
  replace OR : Hid (Own (((w3.setCell ⟨(w.heap.size + 1), 0, none⟩ (.slice none 0 0)).setCell ⟨(w.heap.size + 1), 1, none⟩ (.slice none 0 0)).setCell ⟨(w.heap.size + 1), 2, none⟩ (.int .i64 0)) (w.heap.size + 1) 29 [.slice none 0 0, .slice none 0 0, .int .i64 0]) := Lib.hid (((OR.out.set_ 0 (.slice none 0 0)).set_ 1 (.slice none 0 0)).set_ 2 (.int .i64 0))
  replace K := (((K.setCell (p := ⟨(w.heap.size + 1), 0, none⟩) (by first | exact Nat.le_refl _ | (simp only []; omega) | simp) (.slice none 0 0)).setCell (p := ⟨(w.heap.size + 1), 1, none⟩) (by first | exact Nat.le_refl _ | (simp only []; omega) | simp) (.slice none 0 0)).setCell (p := ⟨(w.heap.size + 1), 2, none⟩) (by first | exact Nat.le_refl _ | (simp only []; omega) | simp) (.int .i64 0))
  generalize (((w3.setCell ⟨(w.heap.size + 1), 0, none⟩ (.slice none 0 0)).setCell ⟨(w.heap.size + 1), 1, none⟩ (.slice none 0 0)).setCell ⟨(w.heap.size + 1), 2, none⟩ (.int .i64 0)) = w4 at *
  replace OX := Lib.hid (OX.out.alloc (.cells #[.int .i64 0, .int .i64 0, .int .i64 0, .int .i64 0] 73))
  replace OR := Lib.hid (OR.out.alloc (.cells #[.int .i64 0, .int .i64 0, .int .i64 0, .int .i64 0] 73))
  have OG := Lib.hid (Own.new w4 73 [.int .i64 0, .int .i64 0, .int .i64 0, .int .i64 0])
  replace K := K.alloc (.cells #[.int .i64 0, .int .i64 0, .int .i64 0, .int .i64 0] 73)
  generalize (w4.alloc (.cells #[.int .i64 0, .int .i64 0, .int .i64 0, .int .i64 0] 73)) = w5 at *
  obtain ⟨cR0, cR1, cR2, fR0, fR1, fR2⟩ := OR.out.three
  refine bodyPost_ret (v := .tuple #[.agg #[.slice none 0 0, .slice none 0 0, .int .i64 0], .int .i64 6]) (by simp [results, Try.results18, go_sem, cR0, cR1, cR2]) rfl ?_
  exact ⟨_, by rw [HEX.out], by rw [HEX.out]; exact ixAt_nil _ _, K⟩

set_option maxRecDepth 100000 in
set_option maxHeartbeats 4000000 in
theorem rflag_main (V : List Nat) (x : Ix) (v : Value) (a q : Nat) (mm : Ml) (nm : ByteArray) (uid fl : Int) (w : World) (hV : Old V w) (h : IxAt V w v x) (hok : IxOk x) (hfew : Few x) (hr : rightB x = true) (hi : inB fl 0 63 = true) (hge : getR x nm uid = (mm, true)) (hf : findX x nm = some a) (hfm : findM (bxAt x a).mails uid = some q) (huq : Uniq (bxAt x a).mails) (hp : placeR x nm uid = ((a : Int), (q : Int), true)) (ha : a < x.boxes.length) (hl : x.boxes.length ≤ 6) :
    Calls Try.prog 18 #[v, .string nm, .int .i64 uid, .int .i64 fl] w (IxPost V (flagR x nm uid fl) w) := by
  have HEX : Hid (flagR x nm uid fl = (withIx x a (flagL (bxAt x a).mails q fl), 0)) := by
    show _ = _
    unfold flagR; rw [hr, hp, show flagsB fl = true from hi]; rfl
  have HV := Lib.hid h
  have HOV := Lib.hid hV
  have HOK := Lib.hid hok
  have HFEW := Lib.hid hfew
  have HR := Lib.hid hr
  have HGE := Lib.hid hge
  have HF := Lib.hid hf
  have HFM := Lib.hid hfm
  have HUQ := Lib.hid huq
  have HP := Lib.hid hp
  have HI := Lib.hid hi
  obtain ⟨A, c, A', c', rfl, hc1, hc2, hc3, hc4, hbx, hrow⟩ := (h.weak (U := []) (fun _ hk => by cases hk)).open_
  obtain ⟨b, o, mv, rfl, hb, _, hbc⟩ := hbx (by omega)
  have HBC := Lib.hid hbc
  clear hbc
  have HROW := Lib.hid hrow
  clear hbx hrow h hok hV hfew hr hge hf hfm huq hp hi
  unfold maxLen at hc2 hc4
  generalize hn : x.boxes.length = n at *
  generalize hm : x.subs.length = m at *
  generalize hg : x.given = gv at *
  have HN := Lib.hid hn
  have HM := Lib.hid hm
  have HG := Lib.hid hg
  clear hn hm hg
  go_enter Try.func18, Try.ntmps18
  go_wp2_with fail
  have OX := Lib.hid ((Own.newAt w w.heap.size 29 [.slice (some ⟨b, o, none⟩) n c, .slice A' m c', .int .i64 gv] (by simp)).alloc (.cells #[.slice none 0 0, .slice none 0 0, .int .i64 0] 29))
  have OR := Lib.hid (Own.newAt (w.alloc (.cells #[.slice (some ⟨b, o, none⟩) n c, .slice A' m c', .int .i64 gv] 29)) (w.heap.size + 1) 29 [.slice none 0 0, .slice none 0 0, .int .i64 0] (by simp))
  have K := (((Kept.refl w).alloc (.cells #[.slice (some ⟨b, o, none⟩) n c, .slice A' m c', .int .i64 gv] 29)).alloc (.cells #[.slice none 0 0, .slice none 0 0, .int .i64 0] 29))
  generalize ((w.alloc (.cells #[.slice (some ⟨b, o, none⟩) n c, .slice A' m c', .int .i64 gv] 29)).alloc (.cells #[.slice none 0 0, .slice none 0 0, .int .i64 0] 29)) = w1 at *
  obtain ⟨cX0, cX1, cX2, fX0, fX1, fX2⟩ := OX.out.three
  obtain ⟨cR0, cR1, cR2, fR0, fR1, fR2⟩ := OR.out.three
  refine (rright_any x _ _ (HV.out.go K (Ext.nil _ _)) HOK.out HFEW.out).mono ?_
  rintro e w2 ⟨rfl, hk⟩
  clear cX0 cX1 cX2 fX0 fX1 fX2 cR0 cR1 cR2 fR0 fR1 fR2
  replace OX := Lib.hid (OX.out.kept hk)
  replace OR := Lib.hid (OR.out.kept hk)
  replace K := K.trans hk
  rw [HR.out]
  clear hk
  obtain ⟨cX0, cX1, cX2, fX0, fX1, fX2⟩ := OX.out.three
  obtain ⟨cR0, cR1, cR2, fR0, fR1, fR2⟩ := OR.out.three
  go_wp2_with fail
  refine (in_any fl 0 63 _).mono ?_
  rintro e _ ⟨rfl, rfl⟩
  rw [HI.out]
  go_wp2_with fail
  have zX2 := OX.out.lt
  have zR2 := OR.out.lt
  have zK2 := K.size
  refine (rget_any x _ nm uid _ (HV.out.go K (Ext.nil _ _)) HOK.out).mono ?_
  rintro e w3 ⟨rfl, hk⟩
  clear cX0 cX1 cX2 fX0 fX1 fX2 cR0 cR1 cR2 fR0 fR1 fR2
  replace OX := Lib.hid (OX.out.kept hk)
  replace OR := Lib.hid (OR.out.kept hk)
  replace K := K.trans hk
  rw [HGE.out]
  dsimp only
  clear hk
  obtain ⟨cX0, cX1, cX2, fX0, fX1, fX2⟩ := OX.out.three
  obtain ⟨cR0, cR1, cR2, fR0, fR1, fR2⟩ := OR.out.three
  have zX3 := OX.out.lt
  have zR3 := OR.out.lt
  have zK3 := K.size
  go_wp2_with fail
  clear cX0 cX1 cX2 fX0 fX1 fX2 cR0 cR1 cR2 fR0 fR1 fR2
  replace OX := Lib.hid (OX.out.alloc (.cells #[.int .i64 mm.uid, .int .i64 mm.flags, .int .i64 mm.obj, .int .i64 mm.size] 73))
  replace OR := Lib.hid (OR.out.alloc (.cells #[.int .i64 mm.uid, .int .i64 mm.flags, .int .i64 mm.obj, .int .i64 mm.size] 73))
  have OG := Lib.hid (Own.new w3 73 [.int .i64 mm.uid, .int .i64 mm.flags, .int .i64 mm.obj, .int .i64 mm.size])
  replace K := K.alloc (.cells #[.int .i64 mm.uid, .int .i64 mm.flags, .int .i64 mm.obj, .int .i64 mm.size] 73)
  generalize (w3.alloc (.cells #[.int .i64 mm.uid, .int .i64 mm.flags, .int .i64 mm.obj, .int .i64 mm.size] 73)) = w4 at *
  refine (rfind_any x _ nm _ (HV.out.go K (Ext.nil _ _))).mono ?_
  rintro e w5 ⟨rfl, hk⟩
  replace OX := Lib.hid (OX.out.kept hk)
  replace OR := Lib.hid (OR.out.kept hk)
  replace OG := Lib.hid (OG.out.kept hk)
  replace K := K.trans hk
  rw [HF.out, show ofO (some a) = (a : Int) from rfl]
  clear hk
  obtain ⟨cX0, cX1, cX2, fX0, fX1, fX2⟩ := OX.out.three
  obtain ⟨cR0, cR1, cR2, fR0, fR1, fR2⟩ := OR.out.three
  have cG0 := OG.out.cell? 0
  have fG0 := OG.out.frozen 0
  have cG1 := OG.out.cell? 1
  have fG1 := OG.out.frozen 1
  have cG2 := OG.out.cell? 2
  have fG2 := OG.out.frozen 2
  have cG3 := OG.out.cell? 3
  have fG3 := OG.out.frozen 3
  simp only [List.getElem?_cons_zero, List.getElem?_cons_succ] at cG0 cG1 cG2 cG3
  have a0 : (0 : Int) ≤ (a : Int) := by omega
  have a1 : (a : Int) < (n : Int) := by omega
  obtain ⟨g1, g2, g3, g4, gm⟩ := HBC.out.go hb K (Ext.refl _ _) a (by rw [HN.out]; exact ha)
  have HAT : Hid (x.boxes[a]'(by rw [HN.out]; exact ha) = bxAt x a) := (bxAt_lt _).symm
  rw [HAT.out] at g1 g2 g3 gm
  obtain ⟨MA, mcc, hmv⟩ := gm.form
  have gm0 := (HBC.out a (by rw [HN.out]; exact ha)).2.2.2.2
  rw [hmv] at g4 gm0
  rw [HAT.out] at gm0
  have HGM := Lib.hid gm0
  clear gm gm0 hmv
  have HNX := Lib.hid (boxB_parts (right_box HR.out (by rw [HN.out]; exact ha)))
  have hm30 : (bxAt x a).mails.length ≤ 30 := HNX.out.2.2.2.2.2.1
  have hmc : mcc ≤ maxLen := by
    obtain ⟨_, _, e, e1, e2, _⟩ := HGM.out
    cases e; exact e2
  unfold maxLen at hmc
  have HAE : Hid (∀ l, withIx x a l = setBx x a ⟨(bxAt x a).name, (bxAt x a).val, (bxAt x a).next, l⟩) := fun l => rfl
  generalize hbn : (bxAt x a).name = bn at *
  have HBN := Lib.hid hbn
  clear hbn
  generalize (bxAt x a).val = bv at *
  generalize (bxAt x a).next = nx at *
  generalize (bxAt x a).mails = ml at *
  generalize hmn : ml.length = mn at *
  have HMN := Lib.hid hmn
  clear hmn HNX HAT
  have zX5 := OX.out.lt
  have zR5 := OR.out.lt
  have zG5 := OG.out.lt
  have zK5 := K.size
  go_upto_region 8 with fail
  clear cX0 cX1 cX2 fX0 fX1 fX2 cR0 cR1 cR2 fR0 fR1 fR2 cG0 cG1 cG2 cG3 fG0 fG1 fG2 fG3
  replace OX := Lib.hid (OX.out.alloc (.cells #[.string bn, .int .i64 bv, .int .i64 nx, .slice MA mn mcc] 43))
  replace OR := Lib.hid (OR.out.alloc (.cells #[.string bn, .int .i64 bv, .int .i64 nx, .slice MA mn mcc] 43))
  replace OG := Lib.hid (OG.out.alloc (.cells #[.string bn, .int .i64 bv, .int .i64 nx, .slice MA mn mcc] 43))
  have OY := Lib.hid (Own.new w5 43 [.string bn, .int .i64 bv, .int .i64 nx, .slice MA mn mcc])
  replace K := K.alloc (.cells #[.string bn, .int .i64 bv, .int .i64 nx, .slice MA mn mcc] 43)
  generalize (w5.alloc (.cells #[.string bn, .int .i64 bv, .int .i64 nx, .slice MA mn mcc] 43)) = w6 at *
  generalize w5.heap.size = gY at *
  clear g1 g2 g3 g4
  obtain ⟨cX0, cX1, cX2, fX0, fX1, fX2⟩ := OX.out.three
  obtain ⟨cR0, cR1, cR2, fR0, fR1, fR2⟩ := OR.out.three
  have cY0 := OY.out.cell? 0
  have fY0 := OY.out.frozen 0
  have cY1 := OY.out.cell? 1
  have fY1 := OY.out.frozen 1
  have cY2 := OY.out.cell? 2
  have fY2 := OY.out.frozen 2
  have cY3 := OY.out.cell? 3
  have fY3 := OY.out.frozen 3
  simp only [List.getElem?_cons_zero, List.getElem?_cons_succ] at cY0 cY1 cY2 cY3
  go_wp2_with fail
  go_loopw [14, 47] (fun lv iv wq => ∃ (k : Nat) (B : Option Addr) (b2 : Nat), k ≤ mn ∧ iv = .int .i64 k ∧ lv = .slice B k b2 ∧ Own wq w.heap.size 29 [.slice (some ⟨b, o, none⟩) n c, .slice A' m c', .int .i64 gv] ∧ Own wq (w.heap.size + 1) 29 [.slice none 0 0, .slice none 0 0, .int .i64 0] ∧ Own wq gY 43 [.string bn, .int .i64 bv, .int .i64 nx, .slice MA mn mcc] ∧ wq.ownsRow (gY + 1) 73 4 (.slice B k b2) k (mls ((ml.take k).map (flagOne uid fl))) ∧ Kept w wq) (fun _ iv _ => mn - (intOf iv).toNat)
  case atStart => exact ⟨0, none, 0, Nat.zero_le _, rfl, rfl, OX.out, OR.out, OY.out, World.ownsRow_nil _ _ _ _, K⟩
  case round =>
    clear cX0 cX1 cX2 fX0 fX1 fX2 cR0 cR1 cR2 fR0 fR1 fR2 cY0 cY1 cY2 cY3 fY0 fY1 fY2 fY3
    clear OX OR OY K
    obtain ⟨k, B, b2, hkm, rfl, rfl, ox, or, oy, hown, K⟩ := hrel
    have OX := Lib.hid ox
    have OR := Lib.hid or
    have OY := Lib.hid oy
    have HL := Lib.hid hown
    clear ox or oy hown
    have zX := OX.out.lt
    have zY := OY.out.lt
    have zR := OR.out.lt
    have zK := K.size
    have k0 : (0 : Int) ≤ (k : Int) := by omega
    obtain ⟨cX0, cX1, cX2, fX0, fX1, fX2⟩ := OX.out.three
    obtain ⟨cR0, cR1, cR2, fR0, fR1, fR2⟩ := OR.out.three
    have cY0 := OY.out.cell? 0
    have fY0 := OY.out.frozen 0
    have cY1 := OY.out.cell? 1
    have fY1 := OY.out.frozen 1
    have cY2 := OY.out.cell? 2
    have fY2 := OY.out.frozen 2
    have cY3 := OY.out.cell? 3
    have fY3 := OY.out.frozen 3
    simp only [List.getElem?_cons_zero, List.getElem?_cons_succ] at cY0 cY1 cY2 cY3
    by_cases hlt : k < mn
    · obtain ⟨mb, mo, e, hmb, _, g5, g6, g7, g8⟩ := (HGM.out.go K (Ext.refl _ _)).cells (k := k) (by rw [HMN.out]; exact hlt)
      subst e
      have HTS : Hid (ml.take (k + 1) = ml.take k ++ [mlAt ml k]) := by show _ = _; rw [mlAt_lt (by rw [HMN.out]; exact hlt), take_snoc ml k (by rw [HMN.out]; exact hlt)]
      have HTL : Hid ((ml.take k).length = k) := by show _ = _; rw [List.length_take, HMN.out]; omega
      have k1 : (k : Int) < (mn : Int) := by omega
      have HB4 := Lib.hid (fun bb (hb : (Value.slice B k b2).ownBlock = some bb) => (ownBlock_of HL.out hb).1)
      generalize hmm : mlAt ml k = m1 at *
      clear hmm
      by_cases hu : m1.uid = uid
      · have HU : Hid ((m1.uid == uid) = true) := beq_t hu
        have hub := HU.out
        have HNEW : Hid (((ml.take k).map (flagOne uid fl)) ++ [⟨uid, fl, m1.obj, m1.size⟩] = ((ml.take (k + 1)).map (flagOne uid fl))) := by show _ = _; rw [HTS.out, List.map_append]; congr 1; simp [flagOne, flagMl, HU.out, hu]
        have HNL : Hid (((ml.take (k + 1)).map (flagOne uid fl)).length = k + 1) := by show _ = _; rw [List.length_map, List.length_take, HMN.out]; omega
        have HPL : Hid (((ml.take k).map (flagOne uid fl)).length = k) := by show _ = _; rw [List.length_map, HTL.out]
        go_wp2_with (at_builtin; go_must (
          refine Try.elRm.wpList_app rfl (.tmp 57) (.tmp 59) rfl (gY + 1) (.slice B k b2) ((ml.take k).map (flagOne uid fl)) rfl (by rw [HPL.out]; exact (HL.out.alloc (.cells #[.int .i64 uid, .int .i64 fl, .int .i64 m1.obj, .int .i64 m1.size] 73)).alloc (.cells #[.int .i64 uid, .int .i64 fl, .int .i64 m1.obj, .int .i64 m1.size] 73)) [] (some ⟨wr.heap.size + 1, 0, none⟩) 1 [⟨uid, fl, m1.obj, m1.size⟩] rfl ((Own.newAt (wr.alloc (.cells #[.int .i64 uid, .int .i64 fl, .int .i64 m1.obj, .int .i64 m1.size] 73)) (wr.heap.size + 1) 73 [.int .i64 uid, .int .i64 fl, .int .i64 m1.obj, .int .i64 m1.size] (by simp)).row (by simp)) (mls_one _) (by rw [HPL.out]; unfold maxLen; simp; omega) (by rw [HPL.out]; simp; omega) (by simp; omega) ?_
          intro v3 w3 hap hgr hat
          rw [HNEW.out, HNL.out] at hap
          obtain ⟨B3, b3, rfl, _, _, _⟩ := own_form (V := []) hap (by simp)
          have HL3 := Lib.hid hap
          have OX3 := Lib.hid (((OX.out.alloc (.cells #[.int .i64 uid, .int .i64 fl, .int .i64 m1.obj, .int .i64 m1.size] 73)).alloc (.cells #[.int .i64 uid, .int .i64 fl, .int .i64 m1.obj, .int .i64 m1.size] 73)).appd hgr (fun bb hb => by have := HB4.out bb hb; omega))
          have OR3 := Lib.hid (((OR.out.alloc (.cells #[.int .i64 uid, .int .i64 fl, .int .i64 m1.obj, .int .i64 m1.size] 73)).alloc (.cells #[.int .i64 uid, .int .i64 fl, .int .i64 m1.obj, .int .i64 m1.size] 73)).appd hgr (fun bb hb => by have := HB4.out bb hb; omega))
          have OY3 := Lib.hid (((OY.out.alloc (.cells #[.int .i64 uid, .int .i64 fl, .int .i64 m1.obj, .int .i64 m1.size] 73)).alloc (.cells #[.int .i64 uid, .int .i64 fl, .int .i64 m1.obj, .int .i64 m1.size] 73)).appd hgr (fun bb hb => by have := HB4.out bb hb; omega))
          have K3 : Kept w w3 := ((K.alloc (.cells #[.int .i64 uid, .int .i64 fl, .int .i64 m1.obj, .int .i64 m1.size] 73)).alloc (.cells #[.int .i64 uid, .int .i64 fl, .int .i64 m1.obj, .int .i64 m1.size] 73)).grown hgr (fun bb hb => by have := HB4.out bb hb; omega)
          clear hap hgr hat))
        go_roundw
        case rel => exact ⟨k + 1, B3, b3, by omega, by go_num, rfl, OX3.out, OR3.out, OY3.out, HL3.out, K3⟩
        case measure => simp [intOf]; omega
      · have HU : Hid ((m1.uid == uid) = false) := beq_f hu
        have hub := HU.out
        have HNEW : Hid (((ml.take k).map (flagOne uid fl)) ++ [⟨m1.uid, m1.flags, m1.obj, m1.size⟩] = ((ml.take (k + 1)).map (flagOne uid fl))) := by show _ = _; rw [HTS.out, List.map_append]; congr 1; simp [flagOne, flagMl, HU.out]
        have HNL : Hid (((ml.take (k + 1)).map (flagOne uid fl)).length = k + 1) := by show _ = _; rw [List.length_map, List.length_take, HMN.out]; omega
        have HPL : Hid (((ml.take k).map (flagOne uid fl)).length = k) := by show _ = _; rw [List.length_map, HTL.out]
        go_wp2_with (at_builtin; go_must (
          refine Try.elRm.wpList_app rfl (.tmp 57) (.tmp 59) rfl (gY + 1) (.slice B k b2) ((ml.take k).map (flagOne uid fl)) rfl (by rw [HPL.out]; exact (HL.out.alloc (.cells #[.int .i64 m1.uid, .int .i64 m1.flags, .int .i64 m1.obj, .int .i64 m1.size] 73)).alloc (.cells #[.int .i64 m1.uid, .int .i64 m1.flags, .int .i64 m1.obj, .int .i64 m1.size] 73)) [] (some ⟨wr.heap.size + 1, 0, none⟩) 1 [⟨m1.uid, m1.flags, m1.obj, m1.size⟩] rfl ((Own.newAt (wr.alloc (.cells #[.int .i64 m1.uid, .int .i64 m1.flags, .int .i64 m1.obj, .int .i64 m1.size] 73)) (wr.heap.size + 1) 73 [.int .i64 m1.uid, .int .i64 m1.flags, .int .i64 m1.obj, .int .i64 m1.size] (by simp)).row (by simp)) (mls_one _) (by rw [HPL.out]; unfold maxLen; simp; omega) (by rw [HPL.out]; simp; omega) (by simp; omega) ?_
          intro v3 w3 hap hgr hat
          rw [HNEW.out, HNL.out] at hap
          obtain ⟨B3, b3, rfl, _, _, _⟩ := own_form (V := []) hap (by simp)
          have HL3 := Lib.hid hap
          have OX3 := Lib.hid (((OX.out.alloc (.cells #[.int .i64 m1.uid, .int .i64 m1.flags, .int .i64 m1.obj, .int .i64 m1.size] 73)).alloc (.cells #[.int .i64 m1.uid, .int .i64 m1.flags, .int .i64 m1.obj, .int .i64 m1.size] 73)).appd hgr (fun bb hb => by have := HB4.out bb hb; omega))
          have OR3 := Lib.hid (((OR.out.alloc (.cells #[.int .i64 m1.uid, .int .i64 m1.flags, .int .i64 m1.obj, .int .i64 m1.size] 73)).alloc (.cells #[.int .i64 m1.uid, .int .i64 m1.flags, .int .i64 m1.obj, .int .i64 m1.size] 73)).appd hgr (fun bb hb => by have := HB4.out bb hb; omega))
          have OY3 := Lib.hid (((OY.out.alloc (.cells #[.int .i64 m1.uid, .int .i64 m1.flags, .int .i64 m1.obj, .int .i64 m1.size] 73)).alloc (.cells #[.int .i64 m1.uid, .int .i64 m1.flags, .int .i64 m1.obj, .int .i64 m1.size] 73)).appd hgr (fun bb hb => by have := HB4.out bb hb; omega))
          have K3 : Kept w w3 := ((K.alloc (.cells #[.int .i64 m1.uid, .int .i64 m1.flags, .int .i64 m1.obj, .int .i64 m1.size] 73)).alloc (.cells #[.int .i64 m1.uid, .int .i64 m1.flags, .int .i64 m1.obj, .int .i64 m1.size] 73)).grown hgr (fun bb hb => by have := HB4.out bb hb; omega)
          clear hap hgr hat))
        go_roundw
        case rel => exact ⟨k + 1, B3, b3, by omega, by go_num, rfl, OX3.out, OR3.out, OY3.out, HL3.out, K3⟩
        case measure => simp [intOf]; omega
    · obtain rfl : k = mn := by omega
      have HTA : Hid (ml.take k = ml) := List.take_of_length_le (by rw [HMN.out]; exact Nat.le_refl _)
      rw [HTA.out] at HL
      have HFA : Hid ((ml.map (flagOne uid fl)) = flagL ml q fl) := flag_all HUQ.out HFM.out
      rw [HFA.out] at HL
      go_wp2_with fail
      clear cX0 cX1 cX2 fX0 fX1 fX2 cR0 cR1 cR2 fR0 fR1 fR2 cY0 cY1 cY2 cY3 fY0 fY1 fY2 fY3
      replace OX : Hid (Own (wr.setCell ⟨gY, 3, none⟩ (.slice B k b2)) w.heap.size 29 [.slice (some ⟨b, o, none⟩) n c, .slice A' m c', .int .i64 gv]) := Lib.hid (OX.out.far (p := ⟨gY, 3, none⟩) (by first | omega | (simp; omega) | simp) (.slice B k b2))
      replace OR : Hid (Own (wr.setCell ⟨gY, 3, none⟩ (.slice B k b2)) (w.heap.size + 1) 29 [.slice none 0 0, .slice none 0 0, .int .i64 0]) := Lib.hid (OR.out.far (p := ⟨gY, 3, none⟩) (by first | omega | (simp; omega) | simp) (.slice B k b2))
      replace OY : Hid (Own (wr.setCell ⟨gY, 3, none⟩ (.slice B k b2)) gY 43 [.string bn, .int .i64 bv, .int .i64 nx, .slice B k b2]) := Lib.hid (OY.out.set_ 3 (.slice B k b2))
      replace HL := Lib.hid (ownsRow_setCell_other HL.out (a := ⟨gY, 3, none⟩) (fun e => by first | (have := ownBlock_eq e; (try dsimp only at this); omega) | (have := (HL.out.lt _ e).1; (try dsimp only at this); omega)) (.slice B k b2))
      replace K := (K.setCell (p := ⟨gY, 3, none⟩) (by first | exact Nat.le_refl _ | (simp only []; omega) | simp) (.slice B k b2))
      generalize (wr.setCell ⟨gY, 3, none⟩ (.slice B k b2)) = wz1 at *
      have HTU := turn_right ((w.heap.size + 1) :: V) x (some ⟨b, o, none⟩) n c A' m c' gv a ⟨bn, bv, nx, flagL ml q fl⟩ B k b2 wz1 (Old.cons OR.out.lt (HOV.out.go K)) (HV.out.go K (Ext.cons (by omega) (Ext.refl _ _))) HR.out (by rw [HN.out]; exact ha) HBN.out.symm (mls_of_own HL.out (by rw [flagL, List.length_set, HMN.out]) (fun j hj => by
        rcases List.mem_cons.1 hj with rfl | hj
        · omega
        · have := HOV.out j hj; omega))
      have HTU := Lib.hid HTU
      clear HL
      refine (HTU.out).mono ?_
      rintro e wz2 ⟨v5, rfl, hx5', hk⟩
      replace OX := Lib.hid (OX.out.kept hk)
      replace OR := Lib.hid (OR.out.kept hk)
      replace OY := Lib.hid (OY.out.kept hk)
      replace K := K.trans hk
      have HX5 := Lib.hid hx5'
      obtain ⟨A5, c5, A6, c6, rfl⟩ := hx5'.form
      clear hx5' HTU
      clear hk
      rw [← HAE.out] at HX5
      rw [← HAE.out]
      generalize (withIx x a (flagL ml q fl)).boxes.length = n5 at *
      generalize (withIx x a (flagL ml q fl)).subs.length = n6 at *
      generalize (withIx x a (flagL ml q fl)).given = gv5 at *
      obtain ⟨cX0, cX1, cX2, fX0, fX1, fX2⟩ := OX.out.three
      obtain ⟨cR0, cR1, cR2, fR0, fR1, fR2⟩ := OR.out.three
      have cY0 := OY.out.cell? 0
      have fY0 := OY.out.frozen 0
      have cY1 := OY.out.cell? 1
      have fY1 := OY.out.frozen 1
      have cY2 := OY.out.cell? 2
      have fY2 := OY.out.frozen 2
      have cY3 := OY.out.cell? 3
      have fY3 := OY.out.frozen 3
      simp only [List.getElem?_cons_zero, List.getElem?_cons_succ] at cY0 cY1 cY2 cY3
      go_wp2
      clear cX0 cX1 cX2 fX0 fX1 fX2 cR0 cR1 cR2 fR0 fR1 fR2 cY0 cY1 cY2 cY3 fY0 fY1 fY2 fY3
      replace OX : Hid (Own (((wz2.setCell ⟨(w.heap.size + 1), 0, none⟩ (.slice A5 n5 c5)).setCell ⟨(w.heap.size + 1), 1, none⟩ (.slice A6 n6 c6)).setCell ⟨(w.heap.size + 1), 2, none⟩ (.int .i64 gv5)) w.heap.size 29 [.slice (some ⟨b, o, none⟩) n c, .slice A' m c', .int .i64 gv]) := Lib.hid (((OX.out.far (p := ⟨(w.heap.size + 1), 0, none⟩) (by first | omega | (simp; omega) | simp) (.slice A5 n5 c5)).far (p := ⟨(w.heap.size + 1), 1, none⟩) (by first | omega | (simp; omega) | simp) (.slice A6 n6 c6)).far (p := ⟨(w.heap.size + 1), 2, none⟩) (by first | omega | (simp; omega) | simp) (.int .i64 gv5))
      replace OR : Hid (Own (((wz2.setCell ⟨(w.heap.size + 1), 0, none⟩ (.slice A5 n5 c5)).setCell ⟨(w.heap.size + 1), 1, none⟩ (.slice A6 n6 c6)).setCell ⟨(w.heap.size + 1), 2, none⟩ (.int .i64 gv5)) (w.heap.size + 1) 29 [.slice A5 n5 c5, .slice A6 n6 c6, .int .i64 gv5]) := Lib.hid (((OR.out.set_ 0 (.slice A5 n5 c5)).set_ 1 (.slice A6 n6 c6)).set_ 2 (.int .i64 gv5))
      replace OY : Hid (Own (((wz2.setCell ⟨(w.heap.size + 1), 0, none⟩ (.slice A5 n5 c5)).setCell ⟨(w.heap.size + 1), 1, none⟩ (.slice A6 n6 c6)).setCell ⟨(w.heap.size + 1), 2, none⟩ (.int .i64 gv5)) gY 43 [.string bn, .int .i64 bv, .int .i64 nx, .slice B k b2]) := Lib.hid (((OY.out.far (p := ⟨(w.heap.size + 1), 0, none⟩) (by first | omega | (simp; omega) | simp) (.slice A5 n5 c5)).far (p := ⟨(w.heap.size + 1), 1, none⟩) (by first | omega | (simp; omega) | simp) (.slice A6 n6 c6)).far (p := ⟨(w.heap.size + 1), 2, none⟩) (by first | omega | (simp; omega) | simp) (.int .i64 gv5))
      replace HX5 := Lib.hid (((HX5.out.put (p := ⟨(w.heap.size + 1), 0, none⟩) (by simp) (.slice A5 n5 c5)).put (p := ⟨(w.heap.size + 1), 1, none⟩) (by simp) (.slice A6 n6 c6)).put (p := ⟨(w.heap.size + 1), 2, none⟩) (by simp) (.int .i64 gv5))
      replace K := (((K.setCell (p := ⟨(w.heap.size + 1), 0, none⟩) (by first | exact Nat.le_refl _ | (simp only []; omega) | simp) (.slice A5 n5 c5)).setCell (p := ⟨(w.heap.size + 1), 1, none⟩) (by first | exact Nat.le_refl _ | (simp only []; omega) | simp) (.slice A6 n6 c6)).setCell (p := ⟨(w.heap.size + 1), 2, none⟩) (by first | exact Nat.le_refl _ | (simp only []; omega) | simp) (.int .i64 gv5))
      generalize (((wz2.setCell ⟨(w.heap.size + 1), 0, none⟩ (.slice A5 n5 c5)).setCell ⟨(w.heap.size + 1), 1, none⟩ (.slice A6 n6 c6)).setCell ⟨(w.heap.size + 1), 2, none⟩ (.int .i64 gv5)) = wz3 at *
      obtain ⟨cX0, cX1, cX2, fX0, fX1, fX2⟩ := OX.out.three
      obtain ⟨cR0, cR1, cR2, fR0, fR1, fR2⟩ := OR.out.three
      have cY0 := OY.out.cell? 0
      have fY0 := OY.out.frozen 0
      have cY1 := OY.out.cell? 1
      have fY1 := OY.out.frozen 1
      have cY2 := OY.out.cell? 2
      have fY2 := OY.out.frozen 2
      have cY3 := OY.out.cell? 3
      have fY3 := OY.out.frozen 3
      simp only [List.getElem?_cons_zero, List.getElem?_cons_succ] at cY0 cY1 cY2 cY3
      refine bodyPost_ret (v := .tuple #[.agg #[.slice A5 n5 c5, .slice A6 n6 c6, .int .i64 gv5], .int .i64 0]) (by simp [results, Try.results18, go_sem, cR0, cR1, cR2]) rfl ?_
      refine ⟨_, by rw [HEX.out], ?_, K⟩
      rw [HEX.out]
      exact HX5.out.go (Kept.refl _) (fun k hk => .inl (List.mem_cons_of_mem _ hk))

theorem rflag_any (V : List Nat) (x : Ix) (v : Value) (nm : ByteArray) (uid fl : Int) (w : World) (hV : Old V w) (h : IxAt V w v x) (hok : IxOk x) (hfew : Few x) :
    Calls Try.prog 18 #[v, .string nm, .int .i64 uid, .int .i64 fl] w (IxPost V (flagR x nm uid fl) w) := by
  rcases Bool.eq_false_or_eq_true (rightB x) with hr | hr
  · rcases Bool.eq_false_or_eq_true (inB fl 0 63) with hi | hi
    · rcases Bool.eq_false_or_eq_true (placeR x nm uid).2.2 with hp | hp
      · obtain ⟨a, q, hp1, ha, hk, hf, hfm⟩ := place_found hp
        obtain ⟨h1, h2, _⟩ := right_len hr
        exact rflag_main V x v a q _ nm uid fl w hV h hok hfew hr hi (get_found hf hfm) hf hfm (right_uniq hr ha) hp1 ha h2
      · exact rflag_no3 V x v nm uid fl w hV h hok hfew hr hi (get_none hp) hp
    · exact rflag_no2 V x v nm uid fl w hV h hok hfew hr hi
  · exact rflag_no1 V x v nm uid fl w hV h hok hfew hr
end Go.Proofs.Ytjinnkbnllnllaa
