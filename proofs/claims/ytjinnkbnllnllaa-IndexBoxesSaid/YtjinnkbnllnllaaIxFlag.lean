/- Walk: index.Flag. -/
import Derived.Test.YtjinnkbnllnllaaIxExpS
import Derived.Test.YtjinnkbnllnllaaElem
namespace Go.Proofs.Ytjinnkbnllnllaa
open Go.RowKit

def flagMl (m : Ml) (fl : Int) : Ml := ⟨m.uid, fl, m.obj, m.size⟩
def flagL (l : List Ml) (k : Nat) (fl : Int) : List Ml := l.set k (flagMl (mlAt l k) fl)
/-- The index with other flags of a message. -/
def flagR (x : Ix) (nm : ByteArray) (uid fl : Int) : Ix × Int :=
  if rightB x && flagsB fl then match placeR x nm uid with
    | (a, k, true) => (withIx x a.toNat (flagL (bxAt x a.toNat).mails k.toNat fl), 0)
    | _ => (ix0, 6)
  else (ix0, 1)
def IxPost (V : List Nat) (r : Ix × Int) (w : World) (e : Ending) (w' : World) : Prop :=
  ∃ v, e = .returned (.tuple #[v, .int .i64 r.2]) ∧ IxAt V w' v r.1 ∧ Kept w w'
def MlsAll (V : List Nat) (w : World) (ps : List Bp) : Prop := ∀ p ∈ ps, MlsAt V w p.2 p.1.mails
theorem MlsAll.go {V U : List Nat} {w w' : World} {ps : List Bp} (h : MlsAll V w ps) (k : Kept w w') (hU : Ext U w V) : MlsAll U w' ps := fun p hp => (h p hp).go k hU
theorem MlsAll.put {V : List Nat} {w : World} {ps : List Bp} (h : MlsAll V w ps) {p : Addr} (hp : p.block ∈ V) (u : Value) : MlsAll V (w.setCell p u) ps := fun q hq => (h q hq).put hp u
theorem mls_flag {l : List Ml} {k : Nat} (h : k < l.length) (fl : Int) : (mls l).set (k * 4 + 1) (.int .i64 fl) = mls (flagL l k fl) := by
  have e : mlAt l k = l[k] := mlAt_lt h
  exact (flat4_set mlc mlc_four l k 1 (by omega) (flagMl (mlAt l k) fl) (.int .i64 fl) h (by rw [e]; rfl)).symm

set_option maxRecDepth 100000 in
set_option maxHeartbeats 1000000 in
theorem flag_no1 (V : List Nat) (x : Ix) (v : Value) (nm : ByteArray) (uid fl : Int) (w : World) (hV : Old V w) (h : IxAt V w v x) (hok : IxOk x) (hr : rightB x = false) :
    Calls Try.prog 15 #[v, .string nm, .int .i64 uid, .int .i64 fl] w (IxPost V (flagR x nm uid fl) w) := by
  have HEX : Hid (flagR x nm uid fl = (ix0, 1)) := by
    show _ = _
    unfold flagR; rw [hr]; rfl
  have HV := Lib.hid h
  have HOV := Lib.hid hV
  have HOK := Lib.hid hok
  have HR := Lib.hid hr
  obtain ⟨A, c, A', c', rfl, hc1, hc2, hc3, hc4, hbx, hrow⟩ := (h.weak (U := []) (fun _ hk => by cases hk)).open_
  have HROW := Lib.hid hrow
  clear hbx hrow h hok hV hr
  unfold maxLen at hc2 hc4
  generalize hn : x.boxes.length = n at *
  generalize hm : x.subs.length = m at *
  generalize hg : x.given = gv at *
  have HN := Lib.hid hn
  have HM := Lib.hid hm
  have HG := Lib.hid hg
  clear hn hm hg
  go_enter Try.func15, Try.ntmps15
  go_wp2_with fail
  have OX := Lib.hid ((Own.newAt w w.heap.size 25 [.slice A n c, .slice A' m c', .int .i64 gv] (by simp)).alloc (.cells #[.slice none 0 0, .slice none 0 0, .int .i64 0] 25))
  have OR := Lib.hid (Own.newAt (w.alloc (.cells #[.slice A n c, .slice A' m c', .int .i64 gv] 25)) (w.heap.size + 1) 25 [.slice none 0 0, .slice none 0 0, .int .i64 0] (by simp))
  have K := (((Kept.refl w).alloc (.cells #[.slice A n c, .slice A' m c', .int .i64 gv] 25)).alloc (.cells #[.slice none 0 0, .slice none 0 0, .int .i64 0] 25))
  generalize ((w.alloc (.cells #[.slice A n c, .slice A' m c', .int .i64 gv] 25)).alloc (.cells #[.slice none 0 0, .slice none 0 0, .int .i64 0] 25)) = w1 at *
  obtain ⟨cX0, cX1, cX2, fX0, fX1, fX2⟩ := OX.out.three
  obtain ⟨cR0, cR1, cR2, fR0, fR1, fR2⟩ := OR.out.three
  refine (right_any x _ _ (HV.out.go K (Ext.nil _ _)) HOK.out).mono ?_
  rintro e w2 ⟨rfl, hk⟩
  clear cX0 cX1 cX2 fX0 fX1 fX2 cR0 cR1 cR2 fR0 fR1 fR2
  replace OX := Lib.hid (OX.out.kept hk)
  replace OR := Lib.hid (OR.out.kept hk)
  replace K := K.trans hk
  rw [HR.out]
  clear hk
  obtain ⟨cX0, cX1, cX2, fX0, fX1, fX2⟩ := OX.out.three
  obtain ⟨cR0, cR1, cR2, fR0, fR1, fR2⟩ := OR.out.three
  go_wp2
  clear cX0 cX1 cX2 fX0 fX1 fX2 cR0 cR1 cR2 fR0 fR1 fR2
  replace OX : Hid (Own (((w2.setCell ⟨(w.heap.size + 1), 0, none⟩ (.slice none 0 0)).setCell ⟨(w.heap.size + 1), 1, none⟩ (.slice none 0 0)).setCell ⟨(w.heap.size + 1), 2, none⟩ (.int .i64 0)) w.heap.size 25 [.slice A n c, .slice A' m c', .int .i64 gv]) := Lib.hid (((OX.out.far (p := ⟨(w.heap.size + 1), 0, none⟩) (by first | omega | (simp; omega) | simp) (.slice none 0 0)).far (p := ⟨(w.heap.size + 1), 1, none⟩) (by first | omega | (simp; omega) | simp) (.slice none 0 0)).far (p := ⟨(w.heap.size + 1), 2, none⟩) (by first | omega | (simp; omega) | simp) (.int .i64 0))
  replace OR : Hid (Own (((w2.setCell ⟨(w.heap.size + 1), 0, none⟩ (.slice none 0 0)).setCell ⟨(w.heap.size + 1), 1, none⟩ (.slice none 0 0)).setCell ⟨(w.heap.size + 1), 2, none⟩ (.int .i64 0)) (w.heap.size + 1) 25 [.slice none 0 0, .slice none 0 0, .int .i64 0]) := Lib.hid (((OR.out.set_ 0 (.slice none 0 0)).set_ 1 (.slice none 0 0)).set_ 2 (.int .i64 0))
  replace K := (((K.setCell (p := ⟨(w.heap.size + 1), 0, none⟩) (by first | exact Nat.le_refl _ | (simp only []; omega) | simp) (.slice none 0 0)).setCell (p := ⟨(w.heap.size + 1), 1, none⟩) (by first | exact Nat.le_refl _ | (simp only []; omega) | simp) (.slice none 0 0)).setCell (p := ⟨(w.heap.size + 1), 2, none⟩) (by first | exact Nat.le_refl _ | (simp only []; omega) | simp) (.int .i64 0))
  generalize (((w2.setCell ⟨(w.heap.size + 1), 0, none⟩ (.slice none 0 0)).setCell ⟨(w.heap.size + 1), 1, none⟩ (.slice none 0 0)).setCell ⟨(w.heap.size + 1), 2, none⟩ (.int .i64 0)) = w3 at *
  obtain ⟨cX0, cX1, cX2, fX0, fX1, fX2⟩ := OX.out.three
  obtain ⟨cR0, cR1, cR2, fR0, fR1, fR2⟩ := OR.out.three
  refine bodyPost_ret (v := .tuple #[.agg #[.slice none 0 0, .slice none 0 0, .int .i64 0], .int .i64 1]) (by simp [results, Try.results15, go_sem, cR0, cR1, cR2]) rfl ?_
  exact ⟨_, by rw [HEX.out], by rw [HEX.out]; exact ixAt_nil _ _, K⟩

set_option maxRecDepth 100000 in
set_option maxHeartbeats 1000000 in
theorem flag_no2 (V : List Nat) (x : Ix) (v : Value) (nm : ByteArray) (uid fl : Int) (w : World) (hV : Old V w) (h : IxAt V w v x) (hok : IxOk x) (hr : rightB x = true) (hf : flagsB fl = false) :
    Calls Try.prog 15 #[v, .string nm, .int .i64 uid, .int .i64 fl] w (IxPost V (flagR x nm uid fl) w) := by
  have HEX : Hid (flagR x nm uid fl = (ix0, 1)) := by
    show _ = _
    unfold flagR; rw [hr, hf]; rfl
  have HV := Lib.hid h
  have HOV := Lib.hid hV
  have HOK := Lib.hid hok
  have HR := Lib.hid hr
  have HF := Lib.hid hf
  obtain ⟨A, c, A', c', rfl, hc1, hc2, hc3, hc4, hbx, hrow⟩ := (h.weak (U := []) (fun _ hk => by cases hk)).open_
  have HROW := Lib.hid hrow
  clear hbx hrow h hok hV hr hf
  unfold maxLen at hc2 hc4
  generalize hn : x.boxes.length = n at *
  generalize hm : x.subs.length = m at *
  generalize hg : x.given = gv at *
  have HN := Lib.hid hn
  have HM := Lib.hid hm
  have HG := Lib.hid hg
  clear hn hm hg
  go_enter Try.func15, Try.ntmps15
  go_wp2_with fail
  have OX := Lib.hid ((Own.newAt w w.heap.size 25 [.slice A n c, .slice A' m c', .int .i64 gv] (by simp)).alloc (.cells #[.slice none 0 0, .slice none 0 0, .int .i64 0] 25))
  have OR := Lib.hid (Own.newAt (w.alloc (.cells #[.slice A n c, .slice A' m c', .int .i64 gv] 25)) (w.heap.size + 1) 25 [.slice none 0 0, .slice none 0 0, .int .i64 0] (by simp))
  have K := (((Kept.refl w).alloc (.cells #[.slice A n c, .slice A' m c', .int .i64 gv] 25)).alloc (.cells #[.slice none 0 0, .slice none 0 0, .int .i64 0] 25))
  generalize ((w.alloc (.cells #[.slice A n c, .slice A' m c', .int .i64 gv] 25)).alloc (.cells #[.slice none 0 0, .slice none 0 0, .int .i64 0] 25)) = w1 at *
  obtain ⟨cX0, cX1, cX2, fX0, fX1, fX2⟩ := OX.out.three
  obtain ⟨cR0, cR1, cR2, fR0, fR1, fR2⟩ := OR.out.three
  refine (right_any x _ _ (HV.out.go K (Ext.nil _ _)) HOK.out).mono ?_
  rintro e w2 ⟨rfl, hk⟩
  clear cX0 cX1 cX2 fX0 fX1 fX2 cR0 cR1 cR2 fR0 fR1 fR2
  replace OX := Lib.hid (OX.out.kept hk)
  replace OR := Lib.hid (OR.out.kept hk)
  replace K := K.trans hk
  rw [HR.out]
  clear hk
  obtain ⟨cX0, cX1, cX2, fX0, fX1, fX2⟩ := OX.out.three
  obtain ⟨cR0, cR1, cR2, fR0, fR1, fR2⟩ := OR.out.three
  go_wp2_with fail
  refine (flags_any fl _).mono ?_
  rintro e _ ⟨rfl, rfl⟩
  rw [HF.out]
  go_wp2
  clear cX0 cX1 cX2 fX0 fX1 fX2 cR0 cR1 cR2 fR0 fR1 fR2
  replace OX : Hid (Own (((w2.setCell ⟨(w.heap.size + 1), 0, none⟩ (.slice none 0 0)).setCell ⟨(w.heap.size + 1), 1, none⟩ (.slice none 0 0)).setCell ⟨(w.heap.size + 1), 2, none⟩ (.int .i64 0)) w.heap.size 25 [.slice A n c, .slice A' m c', .int .i64 gv]) := Lib.hid (((OX.out.far (p := ⟨(w.heap.size + 1), 0, none⟩) (by first | omega | (simp; omega) | simp) (.slice none 0 0)).far (p := ⟨(w.heap.size + 1), 1, none⟩) (by first | omega | (simp; omega) | simp) (.slice none 0 0)).far (p := ⟨(w.heap.size + 1), 2, none⟩) (by first | omega | (simp; omega) | simp) (.int .i64 0))
  replace OR : Hid (Own (((w2.setCell ⟨(w.heap.size + 1), 0, none⟩ (.slice none 0 0)).setCell ⟨(w.heap.size + 1), 1, none⟩ (.slice none 0 0)).setCell ⟨(w.heap.size + 1), 2, none⟩ (.int .i64 0)) (w.heap.size + 1) 25 [.slice none 0 0, .slice none 0 0, .int .i64 0]) := Lib.hid (((OR.out.set_ 0 (.slice none 0 0)).set_ 1 (.slice none 0 0)).set_ 2 (.int .i64 0))
  replace K := (((K.setCell (p := ⟨(w.heap.size + 1), 0, none⟩) (by first | exact Nat.le_refl _ | (simp only []; omega) | simp) (.slice none 0 0)).setCell (p := ⟨(w.heap.size + 1), 1, none⟩) (by first | exact Nat.le_refl _ | (simp only []; omega) | simp) (.slice none 0 0)).setCell (p := ⟨(w.heap.size + 1), 2, none⟩) (by first | exact Nat.le_refl _ | (simp only []; omega) | simp) (.int .i64 0))
  generalize (((w2.setCell ⟨(w.heap.size + 1), 0, none⟩ (.slice none 0 0)).setCell ⟨(w.heap.size + 1), 1, none⟩ (.slice none 0 0)).setCell ⟨(w.heap.size + 1), 2, none⟩ (.int .i64 0)) = w3 at *
  obtain ⟨cX0, cX1, cX2, fX0, fX1, fX2⟩ := OX.out.three
  obtain ⟨cR0, cR1, cR2, fR0, fR1, fR2⟩ := OR.out.three
  refine bodyPost_ret (v := .tuple #[.agg #[.slice none 0 0, .slice none 0 0, .int .i64 0], .int .i64 1]) (by simp [results, Try.results15, go_sem, cR0, cR1, cR2]) rfl ?_
  exact ⟨_, by rw [HEX.out], by rw [HEX.out]; exact ixAt_nil _ _, K⟩

set_option maxRecDepth 100000 in
set_option maxHeartbeats 1000000 in
theorem flag_no3 (V : List Nat) (x : Ix) (v : Value) (nm : ByteArray) (uid fl : Int) (w : World) (hV : Old V w) (h : IxAt V w v x) (hok : IxOk x) (hr : rightB x = true) (hf : flagsB fl = true) (hp : (placeR x nm uid).2.2 = false) :
    Calls Try.prog 15 #[v, .string nm, .int .i64 uid, .int .i64 fl] w (IxPost V (flagR x nm uid fl) w) := by
  have HEX : Hid (flagR x nm uid fl = (ix0, 6)) := by
    show _ = _
    unfold flagR
    rcases hq : placeR x nm uid with ⟨p1, p2, p3⟩
    rw [hq] at hp
    have hp' : p3 = false := hp
    subst hp'
    rw [hr, hf]
    rfl
  have HV := Lib.hid h
  have HOV := Lib.hid hV
  have HOK := Lib.hid hok
  have HR := Lib.hid hr
  have HF := Lib.hid hf
  have HP := Lib.hid hp
  obtain ⟨A, c, A', c', rfl, hc1, hc2, hc3, hc4, hbx, hrow⟩ := (h.weak (U := []) (fun _ hk => by cases hk)).open_
  have HROW := Lib.hid hrow
  clear hbx hrow h hok hV hr hf hp
  unfold maxLen at hc2 hc4
  generalize hn : x.boxes.length = n at *
  generalize hm : x.subs.length = m at *
  generalize hg : x.given = gv at *
  have HN := Lib.hid hn
  have HM := Lib.hid hm
  have HG := Lib.hid hg
  clear hn hm hg
  go_enter Try.func15, Try.ntmps15
  go_wp2_with fail
  have OX := Lib.hid ((Own.newAt w w.heap.size 25 [.slice A n c, .slice A' m c', .int .i64 gv] (by simp)).alloc (.cells #[.slice none 0 0, .slice none 0 0, .int .i64 0] 25))
  have OR := Lib.hid (Own.newAt (w.alloc (.cells #[.slice A n c, .slice A' m c', .int .i64 gv] 25)) (w.heap.size + 1) 25 [.slice none 0 0, .slice none 0 0, .int .i64 0] (by simp))
  have K := (((Kept.refl w).alloc (.cells #[.slice A n c, .slice A' m c', .int .i64 gv] 25)).alloc (.cells #[.slice none 0 0, .slice none 0 0, .int .i64 0] 25))
  generalize ((w.alloc (.cells #[.slice A n c, .slice A' m c', .int .i64 gv] 25)).alloc (.cells #[.slice none 0 0, .slice none 0 0, .int .i64 0] 25)) = w1 at *
  obtain ⟨cX0, cX1, cX2, fX0, fX1, fX2⟩ := OX.out.three
  obtain ⟨cR0, cR1, cR2, fR0, fR1, fR2⟩ := OR.out.three
  refine (right_any x _ _ (HV.out.go K (Ext.nil _ _)) HOK.out).mono ?_
  rintro e w2 ⟨rfl, hk⟩
  clear cX0 cX1 cX2 fX0 fX1 fX2 cR0 cR1 cR2 fR0 fR1 fR2
  replace OX := Lib.hid (OX.out.kept hk)
  replace OR := Lib.hid (OR.out.kept hk)
  replace K := K.trans hk
  rw [HR.out]
  clear hk
  obtain ⟨cX0, cX1, cX2, fX0, fX1, fX2⟩ := OX.out.three
  obtain ⟨cR0, cR1, cR2, fR0, fR1, fR2⟩ := OR.out.three
  go_wp2_with fail
  refine (flags_any fl _).mono ?_
  rintro e _ ⟨rfl, rfl⟩
  rw [HF.out]
  go_wp2_with fail
  refine (place_any x _ nm uid _ (HV.out.go K (Ext.nil _ _))).mono ?_
  rintro e w3 ⟨rfl, hk⟩
  clear cX0 cX1 cX2 fX0 fX1 fX2 cR0 cR1 cR2 fR0 fR1 fR2
  replace OX := Lib.hid (OX.out.kept hk)
  replace OR := Lib.hid (OR.out.kept hk)
  replace K := K.trans hk
  rw [HP.out]
  generalize (placeR x nm uid).1 = pa at *
  generalize (placeR x nm uid).2.1 = pk at *
  clear hk
  obtain ⟨cX0, cX1, cX2, fX0, fX1, fX2⟩ := OX.out.three
  obtain ⟨cR0, cR1, cR2, fR0, fR1, fR2⟩ := OR.out.three
  go_wp2
  clear cX0 cX1 cX2 fX0 fX1 fX2 cR0 cR1 cR2 fR0 fR1 fR2
  replace OX : Hid (Own (((w3.setCell ⟨(w.heap.size + 1), 0, none⟩ (.slice none 0 0)).setCell ⟨(w.heap.size + 1), 1, none⟩ (.slice none 0 0)).setCell ⟨(w.heap.size + 1), 2, none⟩ (.int .i64 0)) w.heap.size 25 [.slice A n c, .slice A' m c', .int .i64 gv]) := Lib.hid (((OX.out.far (p := ⟨(w.heap.size + 1), 0, none⟩) (by first | omega | (simp; omega) | simp) (.slice none 0 0)).far (p := ⟨(w.heap.size + 1), 1, none⟩) (by first | omega | (simp; omega) | simp) (.slice none 0 0)).far (p := ⟨(w.heap.size + 1), 2, none⟩) (by first | omega | (simp; omega) | simp) (.int .i64 0))
  replace OR : Hid (Own (((w3.setCell ⟨(w.heap.size + 1), 0, none⟩ (.slice none 0 0)).setCell ⟨(w.heap.size + 1), 1, none⟩ (.slice none 0 0)).setCell ⟨(w.heap.size + 1), 2, none⟩ (.int .i64 0)) (w.heap.size + 1) 25 [.slice none 0 0, .slice none 0 0, .int .i64 0]) := Lib.hid (((OR.out.set_ 0 (.slice none 0 0)).set_ 1 (.slice none 0 0)).set_ 2 (.int .i64 0))
  replace K := (((K.setCell (p := ⟨(w.heap.size + 1), 0, none⟩) (by first | exact Nat.le_refl _ | (simp only []; omega) | simp) (.slice none 0 0)).setCell (p := ⟨(w.heap.size + 1), 1, none⟩) (by first | exact Nat.le_refl _ | (simp only []; omega) | simp) (.slice none 0 0)).setCell (p := ⟨(w.heap.size + 1), 2, none⟩) (by first | exact Nat.le_refl _ | (simp only []; omega) | simp) (.int .i64 0))
  generalize (((w3.setCell ⟨(w.heap.size + 1), 0, none⟩ (.slice none 0 0)).setCell ⟨(w.heap.size + 1), 1, none⟩ (.slice none 0 0)).setCell ⟨(w.heap.size + 1), 2, none⟩ (.int .i64 0)) = w4 at *
  obtain ⟨cX0, cX1, cX2, fX0, fX1, fX2⟩ := OX.out.three
  obtain ⟨cR0, cR1, cR2, fR0, fR1, fR2⟩ := OR.out.three
  refine bodyPost_ret (v := .tuple #[.agg #[.slice none 0 0, .slice none 0 0, .int .i64 0], .int .i64 6]) (by simp [results, Try.results15, go_sem, cR0, cR1, cR2]) rfl ?_
  exact ⟨_, by rw [HEX.out], by rw [HEX.out]; exact ixAt_nil _ _, K⟩

set_option maxRecDepth 100000 in
set_option maxHeartbeats 1000000 in
theorem flag_main (V : List Nat) (x : Ix) (v : Value) (a k : Nat) (nm : ByteArray) (uid fl : Int) (w : World) (hV : Old V w) (h : IxAt V w v x) (hok : IxOk x) (hr : rightB x = true) (hf : flagsB fl = true) (hp : placeR x nm uid = ((a : Int), (k : Int), true)) (ha : a < x.boxes.length) (hk : k < (bxAt x a).mails.length) (hl : x.boxes.length ≤ 6) (hm30 : (bxAt x a).mails.length ≤ 30) :
    Calls Try.prog 15 #[v, .string nm, .int .i64 uid, .int .i64 fl] w (IxPost V (flagR x nm uid fl) w) := by
  have HEX : Hid (flagR x nm uid fl = (withIx x a (flagL (bxAt x a).mails k fl), 0)) := by
    show _ = _
    unfold flagR; rw [hr, hf, hp]; rfl
  have HV := Lib.hid h
  have HOV := Lib.hid hV
  have HOK := Lib.hid hok
  have HR := Lib.hid hr
  have HF := Lib.hid hf
  have HP := Lib.hid hp
  obtain ⟨A, c, A', c', rfl, hc1, hc2, hc3, hc4, hbx, hrow⟩ := (h.weak (U := []) (fun _ hk => by cases hk)).open_
  obtain ⟨b, o, mv, rfl, hb, _, hbc⟩ := hbx (by omega)
  have HBC := Lib.hid hbc
  clear hbc
  have HROW := Lib.hid hrow
  clear hbx hrow h hok hV hr hf hp
  unfold maxLen at hc2 hc4
  generalize hn : x.boxes.length = n at *
  generalize hm : x.subs.length = m at *
  generalize hg : x.given = gv at *
  have HN := Lib.hid hn
  have HM := Lib.hid hm
  have HG := Lib.hid hg
  clear hn hm hg
  go_enter Try.func15, Try.ntmps15
  go_wp2_with fail
  have OX := Lib.hid ((Own.newAt w w.heap.size 25 [.slice (some ⟨b, o, none⟩) n c, .slice A' m c', .int .i64 gv] (by simp)).alloc (.cells #[.slice none 0 0, .slice none 0 0, .int .i64 0] 25))
  have OR := Lib.hid (Own.newAt (w.alloc (.cells #[.slice (some ⟨b, o, none⟩) n c, .slice A' m c', .int .i64 gv] 25)) (w.heap.size + 1) 25 [.slice none 0 0, .slice none 0 0, .int .i64 0] (by simp))
  have K := (((Kept.refl w).alloc (.cells #[.slice (some ⟨b, o, none⟩) n c, .slice A' m c', .int .i64 gv] 25)).alloc (.cells #[.slice none 0 0, .slice none 0 0, .int .i64 0] 25))
  generalize ((w.alloc (.cells #[.slice (some ⟨b, o, none⟩) n c, .slice A' m c', .int .i64 gv] 25)).alloc (.cells #[.slice none 0 0, .slice none 0 0, .int .i64 0] 25)) = w1 at *
  obtain ⟨cX0, cX1, cX2, fX0, fX1, fX2⟩ := OX.out.three
  obtain ⟨cR0, cR1, cR2, fR0, fR1, fR2⟩ := OR.out.three
  refine (right_any x _ _ (HV.out.go K (Ext.nil _ _)) HOK.out).mono ?_
  rintro e w2 ⟨rfl, hk⟩
  clear cX0 cX1 cX2 fX0 fX1 fX2 cR0 cR1 cR2 fR0 fR1 fR2
  replace OX := Lib.hid (OX.out.kept hk)
  replace OR := Lib.hid (OR.out.kept hk)
  replace K := K.trans hk
  rw [HR.out]
  clear hk
  obtain ⟨cX0, cX1, cX2, fX0, fX1, fX2⟩ := OX.out.three
  obtain ⟨cR0, cR1, cR2, fR0, fR1, fR2⟩ := OR.out.three
  go_wp2_with fail
  refine (flags_any fl _).mono ?_
  rintro e _ ⟨rfl, rfl⟩
  rw [HF.out]
  go_wp2_with fail
  refine (place_any x _ nm uid _ (HV.out.go K (Ext.nil _ _))).mono ?_
  rintro e w3 ⟨rfl, hk⟩
  clear cX0 cX1 cX2 fX0 fX1 fX2 cR0 cR1 cR2 fR0 fR1 fR2
  replace OX := Lib.hid (OX.out.kept hk)
  replace OR := Lib.hid (OR.out.kept hk)
  replace K := K.trans hk
  rw [HP.out]
  clear hk
  obtain ⟨cX0, cX1, cX2, fX0, fX1, fX2⟩ := OX.out.three
  obtain ⟨cR0, cR1, cR2, fR0, fR1, fR2⟩ := OR.out.three
  obtain ⟨_, _, _, g4, gm⟩ := HBC.out.go hb K (Ext.refl _ _) a (by rw [HN.out]; exact ha)
  have HGM := Lib.hid gm
  obtain ⟨MA, mc, hmv⟩ := gm.form
  rw [hmv] at g4 HGM
  have a0 : (0 : Int) ≤ (a : Int) := by omega
  have a1 : (a : Int) < (n : Int) := by omega
  have k0 : (0 : Int) ≤ (k : Int) := by omega
  have HAT : Hid (x.boxes[a]'(by rw [HN.out]; exact ha) = bxAt x a) := (bxAt_lt _).symm
  rw [HAT.out] at g4 HGM
  clear gm hmv
  generalize hmn : (bxAt x a).mails.length = mn at *
  have HMN := Lib.hid hmn
  clear hmn
  have k1 : (k : Int) < (mn : Int) := by omega
  have HCL := cloneMl_any (bxAt x a).mails MA mc w3 (by obtain ⟨MA', mc', e, e1, e2, e3⟩ := HGM.out; cases e; exact e3) (mls_one _) (by rw [HMN.out]; omega)
  rw [HMN.out] at HCL
  have HCL := Lib.hid HCL
  go_wp2_with fail
  have zX3 := OX.out.lt
  have zR3 := OR.out.lt
  have zK3 := K.size
  refine (HCL.out).mono ?_
  rintro e w4 ⟨B, bc, rfl, ho, hk⟩
  clear cX0 cX1 cX2 fX0 fX1 fX2 cR0 cR1 cR2 fR0 fR1 fR2
  replace OX := Lib.hid (OX.out.kept hk)
  replace OR := Lib.hid (OR.out.kept hk)
  replace K := K.trans hk
  obtain ⟨r, bc', e, hr1, hr2, hr3, hr4⟩ := ownBlock_of_row ho (by omega)
  cases e
  have HO := Lib.hid ho
  clear ho g4 HGM HCL
  clear hk
  obtain ⟨cX0, cX1, cX2, fX0, fX1, fX2⟩ := OX.out.three
  obtain ⟨cR0, cR1, cR2, fR0, fR1, fR2⟩ := OR.out.three
  have gk := World.ownsRow.cellAt HO.out (k * 4 + 1) (by omega)
  rw [(mls_at (by rw [HMN.out]; omega)).2.1] at gk
  have gf := World.ownsRow.frozenAt HO.out (k * 4 + 1)
  obtain ⟨old, gk⟩ : ∃ old, w4.cell? ⟨r, k * 4 + 1, none⟩ = some old := ⟨_, gk⟩
  unfold maxLen at hr4
  have hrw : w.heap.size + 1 < r := by omega
  go_wp2_with fail
  clear gk gf
  clear cX0 cX1 cX2 fX0 fX1 fX2 cR0 cR1 cR2 fR0 fR1 fR2
  replace OX : Hid (Own (w4.setCell ⟨r, k * 4 + 1, none⟩ (.int .i64 fl)) w.heap.size 25 [.slice (some ⟨b, o, none⟩) n c, .slice A' m c', .int .i64 gv]) := Lib.hid (OX.out.far (p := ⟨r, k * 4 + 1, none⟩) (by first | omega | (simp; omega) | simp) (.int .i64 fl))
  replace OR : Hid (Own (w4.setCell ⟨r, k * 4 + 1, none⟩ (.int .i64 fl)) (w.heap.size + 1) 25 [.slice none 0 0, .slice none 0 0, .int .i64 0]) := Lib.hid (OR.out.far (p := ⟨r, k * 4 + 1, none⟩) (by first | omega | (simp; omega) | simp) (.int .i64 fl))
  replace HO := Lib.hid (World.ownsRow.stored HO.out (k * 4 + 1) (.int .i64 fl)).1
  replace K := (K.setCell (p := ⟨r, k * 4 + 1, none⟩) (by first | exact Nat.le_refl _ | (simp only []; omega) | simp) (.int .i64 fl))
  generalize (w4.setCell ⟨r, k * 4 + 1, none⟩ (.int .i64 fl)) = w5 at *
  obtain ⟨cX0, cX1, cX2, fX0, fX1, fX2⟩ := OX.out.three
  obtain ⟨cR0, cR1, cR2, fR0, fR1, fR2⟩ := OR.out.three
  rw [mls_flag (by rw [HMN.out]; omega)] at HO
  have zX5 := OX.out.lt
  have zR5 := OR.out.lt
  have zK5 := K.size
  refine (with_any ((w.heap.size + 1) :: V) x.boxes (.slice (some ⟨b, o, none⟩) n c) (.slice A' m c') _ gv a (flagL (bxAt x a).mails k fl) w5 (by have := HV.out.go (U := (w.heap.size + 1) :: V) K (Ext.cons (by omega) (Ext.refl _ _)); exact this.parts.2.1) ⟨_, _, _, rfl⟩ (mlsAt_own HO.out (by rw [flagL, List.length_set, HMN.out]) (fun hm => by
      rcases List.mem_cons.1 hm with e | hm
      · omega
      · have := HOV.out r hm; omega)) (by rw [HN.out]; exact ha) (by rw [HN.out]; omega)).mono ?_
  rintro e w6 ⟨r2, rc, ps, rfl, hps, hml, ho, hk⟩
  clear cX0 cX1 cX2 fX0 fX1 fX2 cR0 cR1 cR2 fR0 fR1 fR2
  replace OX := Lib.hid (OX.out.kept hk)
  replace OR := Lib.hid (OR.out.kept hk)
  replace HO := Lib.hid (ownsRow_kept HO.out hk)
  replace K := K.trans hk
  rw [HN.out] at ho ⊢
  have HML := Lib.hid (MlsAll.go hml hk (Ext.refl _ _))
  have HPS := Lib.hid hps
  have HO2 := Lib.hid ho
  have hrr := HO2.out.lt r2 rfl
  clear hps hml ho
  clear hk
  obtain ⟨cX0, cX1, cX2, fX0, fX1, fX2⟩ := OX.out.three
  obtain ⟨cR0, cR1, cR2, fR0, fR1, fR2⟩ := OR.out.three
  clear HO
  have hrw2 : w.heap.size + 1 < r2 := by omega
  go_wp2
  clear cX0 cX1 cX2 fX0 fX1 fX2 cR0 cR1 cR2 fR0 fR1 fR2
  replace OX : Hid (Own (((w6.setCell ⟨(w.heap.size + 1), 0, none⟩ (.slice (some ⟨r2, 0, none⟩) n rc)).setCell ⟨(w.heap.size + 1), 1, none⟩ (.slice A' m c')).setCell ⟨(w.heap.size + 1), 2, none⟩ (.int .i64 gv)) w.heap.size 25 [.slice (some ⟨b, o, none⟩) n c, .slice A' m c', .int .i64 gv]) := Lib.hid (((OX.out.far (p := ⟨(w.heap.size + 1), 0, none⟩) (by first | omega | (simp; omega) | simp) (.slice (some ⟨r2, 0, none⟩) n rc)).far (p := ⟨(w.heap.size + 1), 1, none⟩) (by first | omega | (simp; omega) | simp) (.slice A' m c')).far (p := ⟨(w.heap.size + 1), 2, none⟩) (by first | omega | (simp; omega) | simp) (.int .i64 gv))
  replace OR : Hid (Own (((w6.setCell ⟨(w.heap.size + 1), 0, none⟩ (.slice (some ⟨r2, 0, none⟩) n rc)).setCell ⟨(w.heap.size + 1), 1, none⟩ (.slice A' m c')).setCell ⟨(w.heap.size + 1), 2, none⟩ (.int .i64 gv)) (w.heap.size + 1) 25 [.slice (some ⟨r2, 0, none⟩) n rc, .slice A' m c', .int .i64 gv]) := Lib.hid (((OR.out.set_ 0 (.slice (some ⟨r2, 0, none⟩) n rc)).set_ 1 (.slice A' m c')).set_ 2 (.int .i64 gv))
  replace HO2 := Lib.hid (ownsRow_setCell_other (ownsRow_setCell_other (ownsRow_setCell_other HO2.out (a := ⟨(w.heap.size + 1), 0, none⟩) (fun e => by have := ownBlock_eq e; (try dsimp only at this); omega) (.slice (some ⟨r2, 0, none⟩) n rc)) (a := ⟨(w.heap.size + 1), 1, none⟩) (fun e => by have := ownBlock_eq e; (try dsimp only at this); omega) (.slice A' m c')) (a := ⟨(w.heap.size + 1), 2, none⟩) (fun e => by have := ownBlock_eq e; (try dsimp only at this); omega) (.int .i64 gv))
  replace HML := Lib.hid (((HML.out.put (p := ⟨(w.heap.size + 1), 0, none⟩) (by simp) (.slice (some ⟨r2, 0, none⟩) n rc)).put (p := ⟨(w.heap.size + 1), 1, none⟩) (by simp) (.slice A' m c')).put (p := ⟨(w.heap.size + 1), 2, none⟩) (by simp) (.int .i64 gv))
  replace K := (((K.setCell (p := ⟨(w.heap.size + 1), 0, none⟩) (by first | exact Nat.le_refl _ | (simp only []; omega) | simp) (.slice (some ⟨r2, 0, none⟩) n rc)).setCell (p := ⟨(w.heap.size + 1), 1, none⟩) (by first | exact Nat.le_refl _ | (simp only []; omega) | simp) (.slice A' m c')).setCell (p := ⟨(w.heap.size + 1), 2, none⟩) (by first | exact Nat.le_refl _ | (simp only []; omega) | simp) (.int .i64 gv))
  generalize (((w6.setCell ⟨(w.heap.size + 1), 0, none⟩ (.slice (some ⟨r2, 0, none⟩) n rc)).setCell ⟨(w.heap.size + 1), 1, none⟩ (.slice A' m c')).setCell ⟨(w.heap.size + 1), 2, none⟩ (.int .i64 gv)) = w7 at *
  obtain ⟨cX0, cX1, cX2, fX0, fX1, fX2⟩ := OX.out.three
  obtain ⟨cR0, cR1, cR2, fR0, fR1, fR2⟩ := OR.out.three
  refine bodyPost_ret (v := .tuple #[.agg #[.slice (some ⟨r2, 0, none⟩) n rc, .slice A' m c', .int .i64 gv], .int .i64 0]) (by simp [results, Try.results15, go_sem, cR0, cR1, cR2]) rfl ?_
  refine ⟨_, by rw [HEX.out], ?_, K⟩
  rw [HEX.out]
  have hpl : ps.length = n := by have := congrArg List.length HPS.out; rw [List.length_map, List.length_set, HN.out] at this; exact this
  refine ⟨_, _, by rw [show (withIx x a (flagL (bxAt x a).mails k fl)).given = gv from HG.out], ⟨ps, HPS.out, ?_, fun p hp => ?_⟩, (HV.out.go K (Ext.refl _ _)).parts.2.2⟩
  · obtain ⟨A6, c6, e6, h61, h62, h63⟩ := own_form (V := V) HO2.out (fun k hk => by have := HOV.out k hk; omega)
    cases e6
    exact ⟨_, _, by rw [hpl], by rw [hpl]; exact h61, h62, h63⟩
  · exact (HML.out p hp).go (Kept.refl _) (fun k hk => .inl (List.mem_cons_of_mem _ hk))

theorem flag_any (V : List Nat) (x : Ix) (v : Value) (nm : ByteArray) (uid fl : Int) (w : World) (hV : Old V w) (h : IxAt V w v x) (hok : IxOk x) :
    Calls Try.prog 15 #[v, .string nm, .int .i64 uid, .int .i64 fl] w (IxPost V (flagR x nm uid fl) w) := by
  rcases Bool.eq_false_or_eq_true (rightB x) with hr | hr
  · rcases Bool.eq_false_or_eq_true (flagsB fl) with hf | hf
    · rcases Bool.eq_false_or_eq_true (placeR x nm uid).2.2 with hp | hp
      · obtain ⟨a, k, hp1, ha, hk, _, _⟩ := place_found hp
        obtain ⟨h1, h2, _, _, h5, _⟩ := right_len hr
        exact flag_main V x v a k nm uid fl w hV h hok hr hf hp1 ha hk h2 (box_mails (allTo_iff.1 h5 a ha))
      · exact flag_no3 V x v nm uid fl w hV h hok hr hf hp
    · exact flag_no2 V x v nm uid fl w hV h hok hr hf
  · exact flag_no1 V x v nm uid fl w hV h hok hr
end Go.Proofs.Ytjinnkbnllnllaa
