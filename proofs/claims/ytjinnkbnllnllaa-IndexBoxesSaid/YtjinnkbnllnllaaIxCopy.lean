/- Walk: index.Copy. -/
import Derived.Test.YtjinnkbnllnllaaIxFlag
import Derived.Test.YtjinnkbnllnllaaIxAppE
namespace Go.Proofs.Ytjinnkbnllnllaa
open Go.RowKit

/-- The index with a copy of a message in a mailbox. -/
def copR (x : Ix) (nm : ByteArray) (uid : Int) (to : ByteArray) : Ix × Int × Int :=
  if rightB x then match placeR x nm uid with
    | (a, k, true) => match findX x to with
      | none => (ix0, 0, 6)
      | some _ => appR x to (mlAt (bxAt x a.toNat).mails k.toNat).obj (mlAt (bxAt x a.toNat).mails k.toNat).size (mlAt (bxAt x a.toNat).mails k.toNat).flags
    | _ => (ix0, 0, 6)
  else (ix0, 0, 1)
def IxPost3 (V : List Nat) (r : Ix × Int × Int) (w : World) (e : Ending) (w' : World) : Prop :=
  ∃ v, e = .returned (.tuple #[v, .int .i64 r.2.1, .int .i64 r.2.2]) ∧ IxAt V w' v r.1 ∧ Kept w w'
theorem MlsAt.cells {V : List Nat} {w : World} {A : Option Addr} {n c : Nat} {l : List Ml} (h : MlsAt V w (.slice A n c) l) {k : Nat} (hk : k < l.length) :
    ∃ b o, A = some ⟨b, o, none⟩ ∧ b < w.heap.size ∧ b ∉ V ∧ w.cell? ⟨b, o + k * 4, none⟩ = some (.int .i64 (mlAt l k).uid) ∧ w.cell? ⟨b, o + k * 4 + 1, none⟩ = some (.int .i64 (mlAt l k).flags) ∧ w.cell? ⟨b, o + k * 4 + 2, none⟩ = some (.int .i64 (mlAt l k).obj) ∧ w.cell? ⟨b, o + k * 4 + 3, none⟩ = some (.int .i64 (mlAt l k).size) := by
  obtain ⟨A', c', e, _, _, h3⟩ := h
  cases e
  obtain ⟨b, o, e, hb, hv, hc⟩ := h3 (by rw [mls_length]; omega)
  obtain ⟨h0, h1, h2, h3⟩ := mls_at hk
  rw [mlAt_lt hk]
  have c1 := hc _ _ h1
  have c2 := hc _ _ h2
  have c3 := hc _ _ h3
  rw [← Nat.add_assoc] at c1 c2 c3
  exact ⟨b, o, e, hb, hv, hc _ _ h0, c1, c2, c3⟩
theorem mail_ok {x : Ix} {a k : Nat} (h : IxOk x) (ha : a < x.boxes.length) (hk : k < (bxAt x a).mails.length) : MlOk (mlAt (bxAt x a).mails k) := by
  have hb : bxAt x a ∈ x.boxes := by rw [bxAt_lt ha]; exact List.getElem_mem ha
  rw [mlAt_lt hk]
  exact (h.2.1 _ hb).2.2.2 _ (List.getElem_mem hk)

set_option maxRecDepth 100000 in
set_option maxHeartbeats 1000000 in
theorem cop_no1 (V : List Nat) (x : Ix) (v : Value) (nm : ByteArray) (uid : Int) (to : ByteArray) (w : World) (hV : Old V w) (h : IxAt V w v x) (hok : IxOk x) (hr : rightB x = false) :
    Calls Try.prog 16 #[v, .string nm, .int .i64 uid, .string to] w (IxPost3 V (copR x nm uid to) w) := by
  have HEX : Hid (copR x nm uid to = (ix0, 0, 1)) := by
    show _ = _
    unfold copR; rw [hr]; rfl
  have HV := Lib.hid h
  have HOV := Lib.hid hV
  have HOK := Lib.hid hok
  have HR := Lib.hid hr
  obtain ⟨A, c, A', c', rfl, hc1, hc2, hc3, hc4, hbx, hrow⟩ := (h.weak (U := []) (fun _ hk => by cases hk)).open_
  have HROW := Lib.hid hrow
  clear hbx hrow h hok hV hr
  unfold maxLen at hc2 hc4
  generalize hn : x.boxes.length = n at *
  generalize hm : x.subs.length = m at *
  generalize hg : x.given = gv at *
  have HN := Lib.hid hn
  have HM := Lib.hid hm
  have HG := Lib.hid hg
  clear hn hm hg
  go_enter Try.func16, Try.ntmps16
  go_wp2_with fail
  have OX := Lib.hid ((Own.newAt w w.heap.size 25 [.slice A n c, .slice A' m c', .int .i64 gv] (by simp)).alloc (.cells #[.slice none 0 0, .slice none 0 0, .int .i64 0] 25))
  have OR := Lib.hid (Own.newAt (w.alloc (.cells #[.slice A n c, .slice A' m c', .int .i64 gv] 25)) (w.heap.size + 1) 25 [.slice none 0 0, .slice none 0 0, .int .i64 0] (by simp))
  have K := (((Kept.refl w).alloc (.cells #[.slice A n c, .slice A' m c', .int .i64 gv] 25)).alloc (.cells #[.slice none 0 0, .slice none 0 0, .int .i64 0] 25))
  generalize ((w.alloc (.cells #[.slice A n c, .slice A' m c', .int .i64 gv] 25)).alloc (.cells #[.slice none 0 0, .slice none 0 0, .int .i64 0] 25)) = w1 at *
  obtain ⟨cX0, cX1, cX2, fX0, fX1, fX2⟩ := OX.out.three
  obtain ⟨cR0, cR1, cR2, fR0, fR1, fR2⟩ := OR.out.three
  refine (right_any x _ _ (HV.out.go K (Ext.nil _ _)) HOK.out).mono ?_
  rintro e w2 ⟨rfl, hk⟩
  clear cX0 cX1 cX2 fX0 fX1 fX2 cR0 cR1 cR2 fR0 fR1 fR2
  replace OX := Lib.hid (OX.out.kept hk)
  replace OR := Lib.hid (OR.out.kept hk)
  replace K := K.trans hk
  rw [HR.out]
  clear hk
  obtain ⟨cX0, cX1, cX2, fX0, fX1, fX2⟩ := OX.out.three
  obtain ⟨cR0, cR1, cR2, fR0, fR1, fR2⟩ := OR.out.three
  go_wp2
  clear cX0 cX1 cX2 fX0 fX1 fX2 cR0 cR1 cR2 fR0 fR1 fR2
  replace OX : Hid (Own (((w2.setCell ⟨(w.heap.size + 1), 0, none⟩ (.slice none 0 0)).setCell ⟨(w.heap.size + 1), 1, none⟩ (.slice none 0 0)).setCell ⟨(w.heap.size + 1), 2, none⟩ (.int .i64 0)) w.heap.size 25 [.slice A n c, .slice A' m c', .int .i64 gv]) := Lib.hid (((OX.out.far (p := ⟨(w.heap.size + 1), 0, none⟩) (by first | omega | (simp; omega) | simp) (.slice none 0 0)).far (p := ⟨(w.heap.size + 1), 1, none⟩) (by first | omega | (simp; omega) | simp) (.slice none 0 0)).far (p := ⟨(w.heap.size + 1), 2, none⟩) (by first | omega | (simp; omega) | simp) (.int .i64 0))
  replace OR : Hid (Own (((w2.setCell ⟨(w.heap.size + 1), 0, none⟩ (.slice none 0 0)).setCell ⟨(w.heap.size + 1), 1, none⟩ (.slice none 0 0)).setCell ⟨(w.heap.size + 1), 2, none⟩ (.int .i64 0)) (w.heap.size + 1) 25 [.slice none 0 0, .slice none 0 0, .int .i64 0]) := Lib.hid (((OR.out.set_ 0 (.slice none 0 0)).set_ 1 (.slice none 0 0)).set_ 2 (.int .i64 0))
  replace K := (((K.setCell (p := ⟨(w.heap.size + 1), 0, none⟩) (by first | exact Nat.le_refl _ | (simp only []; omega) | simp) (.slice none 0 0)).setCell (p := ⟨(w.heap.size + 1), 1, none⟩) (by first | exact Nat.le_refl _ | (simp only []; omega) | simp) (.slice none 0 0)).setCell (p := ⟨(w.heap.size + 1), 2, none⟩) (by first | exact Nat.le_refl _ | (simp only []; omega) | simp) (.int .i64 0))
  generalize (((w2.setCell ⟨(w.heap.size + 1), 0, none⟩ (.slice none 0 0)).setCell ⟨(w.heap.size + 1), 1, none⟩ (.slice none 0 0)).setCell ⟨(w.heap.size + 1), 2, none⟩ (.int .i64 0)) = w3 at *
  obtain ⟨cX0, cX1, cX2, fX0, fX1, fX2⟩ := OX.out.three
  obtain ⟨cR0, cR1, cR2, fR0, fR1, fR2⟩ := OR.out.three
  refine bodyPost_ret (v := .tuple #[.agg #[.slice none 0 0, .slice none 0 0, .int .i64 0], .int .i64 0, .int .i64 1]) (by simp [results, Try.results16, go_sem, cR0, cR1, cR2]) rfl ?_
  exact ⟨_, by rw [HEX.out], by rw [HEX.out]; exact ixAt_nil _ _, K⟩

set_option maxRecDepth 100000 in
set_option maxHeartbeats 1000000 in
theorem cop_no2 (V : List Nat) (x : Ix) (v : Value) (nm : ByteArray) (uid : Int) (to : ByteArray) (w : World) (hV : Old V w) (h : IxAt V w v x) (hok : IxOk x) (hr : rightB x = true) (hp : (placeR x nm uid).2.2 = false) :
    Calls Try.prog 16 #[v, .string nm, .int .i64 uid, .string to] w (IxPost3 V (copR x nm uid to) w) := by
  have HEX : Hid (copR x nm uid to = (ix0, 0, 6)) := by
    show _ = _
    unfold copR
    rcases hq : placeR x nm uid with ⟨p1, p2, p3⟩
    rw [hq] at hp
    have hp' : p3 = false := hp
    subst hp'
    rw [hr]
    rfl
  have HV := Lib.hid h
  have HOV := Lib.hid hV
  have HOK := Lib.hid hok
  have HR := Lib.hid hr
  have HP := Lib.hid hp
  obtain ⟨A, c, A', c', rfl, hc1, hc2, hc3, hc4, hbx, hrow⟩ := (h.weak (U := []) (fun _ hk => by cases hk)).open_
  have HROW := Lib.hid hrow
  clear hbx hrow h hok hV hr hp
  unfold maxLen at hc2 hc4
  generalize hn : x.boxes.length = n at *
  generalize hm : x.subs.length = m at *
  generalize hg : x.given = gv at *
  have HN := Lib.hid hn
  have HM := Lib.hid hm
  have HG := Lib.hid hg
  clear hn hm hg
  go_enter Try.func16, Try.ntmps16
  go_wp2_with fail
  have OX := Lib.hid ((Own.newAt w w.heap.size 25 [.slice A n c, .slice A' m c', .int .i64 gv] (by simp)).alloc (.cells #[.slice none 0 0, .slice none 0 0, .int .i64 0] 25))
  have OR := Lib.hid (Own.newAt (w.alloc (.cells #[.slice A n c, .slice A' m c', .int .i64 gv] 25)) (w.heap.size + 1) 25 [.slice none 0 0, .slice none 0 0, .int .i64 0] (by simp))
  have K := (((Kept.refl w).alloc (.cells #[.slice A n c, .slice A' m c', .int .i64 gv] 25)).alloc (.cells #[.slice none 0 0, .slice none 0 0, .int .i64 0] 25))
  generalize ((w.alloc (.cells #[.slice A n c, .slice A' m c', .int .i64 gv] 25)).alloc (.cells #[.slice none 0 0, .slice none 0 0, .int .i64 0] 25)) = w1 at *
  obtain ⟨cX0, cX1, cX2, fX0, fX1, fX2⟩ := OX.out.three
  obtain ⟨cR0, cR1, cR2, fR0, fR1, fR2⟩ := OR.out.three
  refine (right_any x _ _ (HV.out.go K (Ext.nil _ _)) HOK.out).mono ?_
  rintro e w2 ⟨rfl, hk⟩
  clear cX0 cX1 cX2 fX0 fX1 fX2 cR0 cR1 cR2 fR0 fR1 fR2
  replace OX := Lib.hid (OX.out.kept hk)
  replace OR := Lib.hid (OR.out.kept hk)
  replace K := K.trans hk
  rw [HR.out]
  clear hk
  obtain ⟨cX0, cX1, cX2, fX0, fX1, fX2⟩ := OX.out.three
  obtain ⟨cR0, cR1, cR2, fR0, fR1, fR2⟩ := OR.out.three
  go_wp2_with fail
  refine (place_any x _ nm uid _ (HV.out.go K (Ext.nil _ _))).mono ?_
  rintro e w3 ⟨rfl, hk⟩
  clear cX0 cX1 cX2 fX0 fX1 fX2 cR0 cR1 cR2 fR0 fR1 fR2
  replace OX := Lib.hid (OX.out.kept hk)
  replace OR := Lib.hid (OR.out.kept hk)
  replace K := K.trans hk
  rw [HP.out]
  generalize (placeR x nm uid).1 = pa at *
  generalize (placeR x nm uid).2.1 = pk at *
  clear hk
  obtain ⟨cX0, cX1, cX2, fX0, fX1, fX2⟩ := OX.out.three
  obtain ⟨cR0, cR1, cR2, fR0, fR1, fR2⟩ := OR.out.three
  go_wp2
  clear cX0 cX1 cX2 fX0 fX1 fX2 cR0 cR1 cR2 fR0 fR1 fR2
  replace OX : Hid (Own (((w3.setCell ⟨(w.heap.size + 1), 0, none⟩ (.slice none 0 0)).setCell ⟨(w.heap.size + 1), 1, none⟩ (.slice none 0 0)).setCell ⟨(w.heap.size + 1), 2, none⟩ (.int .i64 0)) w.heap.size 25 [.slice A n c, .slice A' m c', .int .i64 gv]) := Lib.hid (((OX.out.far (p := ⟨(w.heap.size + 1), 0, none⟩) (by first | omega | (simp; omega) | simp) (.slice none 0 0)).far (p := ⟨(w.heap.size + 1), 1, none⟩) (by first | omega | (simp; omega) | simp) (.slice none 0 0)).far (p := ⟨(w.heap.size + 1), 2, none⟩) (by first | omega | (simp; omega) | simp) (.int .i64 0))
  replace OR : Hid (Own (((w3.setCell ⟨(w.heap.size + 1), 0, none⟩ (.slice none 0 0)).setCell ⟨(w.heap.size + 1), 1, none⟩ (.slice none 0 0)).setCell ⟨(w.heap.size + 1), 2, none⟩ (.int .i64 0)) (w.heap.size + 1) 25 [.slice none 0 0, .slice none 0 0, .int .i64 0]) := Lib.hid (((OR.out.set_ 0 (.slice none 0 0)).set_ 1 (.slice none 0 0)).set_ 2 (.int .i64 0))
  replace K := (((K.setCell (p := ⟨(w.heap.size + 1), 0, none⟩) (by first | exact Nat.le_refl _ | (simp only []; omega) | simp) (.slice none 0 0)).setCell (p := ⟨(w.heap.size + 1), 1, none⟩) (by first | exact Nat.le_refl _ | (simp only []; omega) | simp) (.slice none 0 0)).setCell (p := ⟨(w.heap.size + 1), 2, none⟩) (by first | exact Nat.le_refl _ | (simp only []; omega) | simp) (.int .i64 0))
  generalize (((w3.setCell ⟨(w.heap.size + 1), 0, none⟩ (.slice none 0 0)).setCell ⟨(w.heap.size + 1), 1, none⟩ (.slice none 0 0)).setCell ⟨(w.heap.size + 1), 2, none⟩ (.int .i64 0)) = w4 at *
  obtain ⟨cX0, cX1, cX2, fX0, fX1, fX2⟩ := OX.out.three
  obtain ⟨cR0, cR1, cR2, fR0, fR1, fR2⟩ := OR.out.three
  refine bodyPost_ret (v := .tuple #[.agg #[.slice none 0 0, .slice none 0 0, .int .i64 0], .int .i64 0, .int .i64 6]) (by simp [results, Try.results16, go_sem, cR0, cR1, cR2]) rfl ?_
  exact ⟨_, by rw [HEX.out], by rw [HEX.out]; exact ixAt_nil _ _, K⟩

set_option maxRecDepth 100000 in
set_option maxHeartbeats 1000000 in
theorem cop_no3 (V : List Nat) (x : Ix) (v : Value) (a k : Nat) (nm : ByteArray) (uid : Int) (to : ByteArray) (w : World) (hV : Old V w) (h : IxAt V w v x) (hok : IxOk x) (hr : rightB x = true) (hp : placeR x nm uid = ((a : Int), (k : Int), true)) (hf : findX x to = none) :
    Calls Try.prog 16 #[v, .string nm, .int .i64 uid, .string to] w (IxPost3 V (copR x nm uid to) w) := by
  have HEX : Hid (copR x nm uid to = (ix0, 0, 6)) := by
    show _ = _
    unfold copR; rw [hr, hp, hf]; rfl
  have HV := Lib.hid h
  have HOV := Lib.hid hV
  have HOK := Lib.hid hok
  have HR := Lib.hid hr
  have HP := Lib.hid hp
  have HF := Lib.hid hf
  obtain ⟨A, c, A', c', rfl, hc1, hc2, hc3, hc4, hbx, hrow⟩ := (h.weak (U := []) (fun _ hk => by cases hk)).open_
  have HROW := Lib.hid hrow
  clear hbx hrow h hok hV hr hp hf
  unfold maxLen at hc2 hc4
  generalize hn : x.boxes.length = n at *
  generalize hm : x.subs.length = m at *
  generalize hg : x.given = gv at *
  have HN := Lib.hid hn
  have HM := Lib.hid hm
  have HG := Lib.hid hg
  clear hn hm hg
  go_enter Try.func16, Try.ntmps16
  go_wp2_with fail
  have OX := Lib.hid ((Own.newAt w w.heap.size 25 [.slice A n c, .slice A' m c', .int .i64 gv] (by simp)).alloc (.cells #[.slice none 0 0, .slice none 0 0, .int .i64 0] 25))
  have OR := Lib.hid (Own.newAt (w.alloc (.cells #[.slice A n c, .slice A' m c', .int .i64 gv] 25)) (w.heap.size + 1) 25 [.slice none 0 0, .slice none 0 0, .int .i64 0] (by simp))
  have K := (((Kept.refl w).alloc (.cells #[.slice A n c, .slice A' m c', .int .i64 gv] 25)).alloc (.cells #[.slice none 0 0, .slice none 0 0, .int .i64 0] 25))
  generalize ((w.alloc (.cells #[.slice A n c, .slice A' m c', .int .i64 gv] 25)).alloc (.cells #[.slice none 0 0, .slice none 0 0, .int .i64 0] 25)) = w1 at *
  obtain ⟨cX0, cX1, cX2, fX0, fX1, fX2⟩ := OX.out.three
  obtain ⟨cR0, cR1, cR2, fR0, fR1, fR2⟩ := OR.out.three
  refine (right_any x _ _ (HV.out.go K (Ext.nil _ _)) HOK.out).mono ?_
  rintro e w2 ⟨rfl, hk⟩
  clear cX0 cX1 cX2 fX0 fX1 fX2 cR0 cR1 cR2 fR0 fR1 fR2
  replace OX := Lib.hid (OX.out.kept hk)
  replace OR := Lib.hid (OR.out.kept hk)
  replace K := K.trans hk
  rw [HR.out]
  clear hk
  obtain ⟨cX0, cX1, cX2, fX0, fX1, fX2⟩ := OX.out.three
  obtain ⟨cR0, cR1, cR2, fR0, fR1, fR2⟩ := OR.out.three
  go_wp2_with fail
  refine (place_any x _ nm uid _ (HV.out.go K (Ext.nil _ _))).mono ?_
  rintro e w3 ⟨rfl, hk⟩
  clear cX0 cX1 cX2 fX0 fX1 fX2 cR0 cR1 cR2 fR0 fR1 fR2
  replace OX := Lib.hid (OX.out.kept hk)
  replace OR := Lib.hid (OR.out.kept hk)
  replace K := K.trans hk
  rw [HP.out]
  clear hk
  obtain ⟨cX0, cX1, cX2, fX0, fX1, fX2⟩ := OX.out.three
  obtain ⟨cR0, cR1, cR2, fR0, fR1, fR2⟩ := OR.out.three
  go_wp2_with fail
  refine (find_any x _ to _ (HV.out.go K (Ext.nil _ _))).mono ?_
  rintro e w4 ⟨rfl, hk⟩
  clear cX0 cX1 cX2 fX0 fX1 fX2 cR0 cR1 cR2 fR0 fR1 fR2
  replace OX := Lib.hid (OX.out.kept hk)
  replace OR := Lib.hid (OR.out.kept hk)
  replace K := K.trans hk
  rw [HF.out, show ofO none = -1 from rfl]
  clear hk
  obtain ⟨cX0, cX1, cX2, fX0, fX1, fX2⟩ := OX.out.three
  obtain ⟨cR0, cR1, cR2, fR0, fR1, fR2⟩ := OR.out.three
  go_wp2
  clear cX0 cX1 cX2 fX0 fX1 fX2 cR0 cR1 cR2 fR0 fR1 fR2
  replace OX : Hid (Own (((w4.setCell ⟨(w.heap.size + 1), 0, none⟩ (.slice none 0 0)).setCell ⟨(w.heap.size + 1), 1, none⟩ (.slice none 0 0)).setCell ⟨(w.heap.size + 1), 2, none⟩ (.int .i64 0)) w.heap.size 25 [.slice A n c, .slice A' m c', .int .i64 gv]) := Lib.hid (((OX.out.far (p := ⟨(w.heap.size + 1), 0, none⟩) (by first | omega | (simp; omega) | simp) (.slice none 0 0)).far (p := ⟨(w.heap.size + 1), 1, none⟩) (by first | omega | (simp; omega) | simp) (.slice none 0 0)).far (p := ⟨(w.heap.size + 1), 2, none⟩) (by first | omega | (simp; omega) | simp) (.int .i64 0))
  replace OR : Hid (Own (((w4.setCell ⟨(w.heap.size + 1), 0, none⟩ (.slice none 0 0)).setCell ⟨(w.heap.size + 1), 1, none⟩ (.slice none 0 0)).setCell ⟨(w.heap.size + 1), 2, none⟩ (.int .i64 0)) (w.heap.size + 1) 25 [.slice none 0 0, .slice none 0 0, .int .i64 0]) := Lib.hid (((OR.out.set_ 0 (.slice none 0 0)).set_ 1 (.slice none 0 0)).set_ 2 (.int .i64 0))
  replace K := (((K.setCell (p := ⟨(w.heap.size + 1), 0, none⟩) (by first | exact Nat.le_refl _ | (simp only []; omega) | simp) (.slice none 0 0)).setCell (p := ⟨(w.heap.size + 1), 1, none⟩) (by first | exact Nat.le_refl _ | (simp only []; omega) | simp) (.slice none 0 0)).setCell (p := ⟨(w.heap.size + 1), 2, none⟩) (by first | exact Nat.le_refl _ | (simp only []; omega) | simp) (.int .i64 0))
  generalize (((w4.setCell ⟨(w.heap.size + 1), 0, none⟩ (.slice none 0 0)).setCell ⟨(w.heap.size + 1), 1, none⟩ (.slice none 0 0)).setCell ⟨(w.heap.size + 1), 2, none⟩ (.int .i64 0)) = w5 at *
  obtain ⟨cX0, cX1, cX2, fX0, fX1, fX2⟩ := OX.out.three
  obtain ⟨cR0, cR1, cR2, fR0, fR1, fR2⟩ := OR.out.three
  refine bodyPost_ret (v := .tuple #[.agg #[.slice none 0 0, .slice none 0 0, .int .i64 0], .int .i64 0, .int .i64 6]) (by simp [results, Try.results16, go_sem, cR0, cR1, cR2]) rfl ?_
  exact ⟨_, by rw [HEX.out], by rw [HEX.out]; exact ixAt_nil _ _, K⟩

set_option maxRecDepth 100000 in
set_option maxHeartbeats 1000000 in
theorem cop_main (V : List Nat) (x : Ix) (v : Value) (a k q : Nat) (nm : ByteArray) (uid : Int) (to : ByteArray) (w : World) (hV : Old V w) (h : IxAt V w v x) (hok : IxOk x) (hr : rightB x = true) (hp : placeR x nm uid = ((a : Int), (k : Int), true)) (hf : findX x to = some q) (ha : a < x.boxes.length) (hk : k < (bxAt x a).mails.length) (hl : x.boxes.length ≤ 6) (hm30 : (bxAt x a).mails.length ≤ 30) :
    Calls Try.prog 16 #[v, .string nm, .int .i64 uid, .string to] w (IxPost3 V (copR x nm uid to) w) := by
  have HEX : Hid (copR x nm uid to = appR x to (mlAt (bxAt x a).mails k).obj (mlAt (bxAt x a).mails k).size (mlAt (bxAt x a).mails k).flags) := by
    show _ = _
    unfold copR; rw [hr, hp, hf]; rfl
  have HV := Lib.hid h
  have HOV := Lib.hid hV
  have HOK := Lib.hid hok
  have HR := Lib.hid hr
  have HF := Lib.hid hf
  have HP := Lib.hid hp
  obtain ⟨A, c, A', c', rfl, hc1, hc2, hc3, hc4, hbx, hrow⟩ := (h.weak (U := []) (fun _ hk => by cases hk)).open_
  obtain ⟨b, o, mv, rfl, hb, _, hbc⟩ := hbx (by omega)
  have HBC := Lib.hid hbc
  clear hbc
  have HROW := Lib.hid hrow
  clear hbx hrow h hok hV hr hf hp
  unfold maxLen at hc2 hc4
  generalize hn : x.boxes.length = n at *
  generalize hm : x.subs.length = m at *
  generalize hg : x.given = gv at *
  have HN := Lib.hid hn
  have HM := Lib.hid hm
  have HG := Lib.hid hg
  clear hn hm hg
  go_enter Try.func16, Try.ntmps16
  go_wp2_with fail
  have OX := Lib.hid ((Own.newAt w w.heap.size 25 [.slice (some ⟨b, o, none⟩) n c, .slice A' m c', .int .i64 gv] (by simp)).alloc (.cells #[.slice none 0 0, .slice none 0 0, .int .i64 0] 25))
  have OR := Lib.hid (Own.newAt (w.alloc (.cells #[.slice (some ⟨b, o, none⟩) n c, .slice A' m c', .int .i64 gv] 25)) (w.heap.size + 1) 25 [.slice none 0 0, .slice none 0 0, .int .i64 0] (by simp))
  have K := (((Kept.refl w).alloc (.cells #[.slice (some ⟨b, o, none⟩) n c, .slice A' m c', .int .i64 gv] 25)).alloc (.cells #[.slice none 0 0, .slice none 0 0, .int .i64 0] 25))
  generalize ((w.alloc (.cells #[.slice (some ⟨b, o, none⟩) n c, .slice A' m c', .int .i64 gv] 25)).alloc (.cells #[.slice none 0 0, .slice none 0 0, .int .i64 0] 25)) = w1 at *
  obtain ⟨cX0, cX1, cX2, fX0, fX1, fX2⟩ := OX.out.three
  obtain ⟨cR0, cR1, cR2, fR0, fR1, fR2⟩ := OR.out.three
  refine (right_any x _ _ (HV.out.go K (Ext.nil _ _)) HOK.out).mono ?_
  rintro e w2 ⟨rfl, hk⟩
  clear cX0 cX1 cX2 fX0 fX1 fX2 cR0 cR1 cR2 fR0 fR1 fR2
  replace OX := Lib.hid (OX.out.kept hk)
  replace OR := Lib.hid (OR.out.kept hk)
  replace K := K.trans hk
  rw [HR.out]
  clear hk
  obtain ⟨cX0, cX1, cX2, fX0, fX1, fX2⟩ := OX.out.three
  obtain ⟨cR0, cR1, cR2, fR0, fR1, fR2⟩ := OR.out.three
  go_wp2_with fail
  refine (place_any x _ nm uid _ (HV.out.go K (Ext.nil _ _))).mono ?_
  rintro e w3 ⟨rfl, hk⟩
  clear cX0 cX1 cX2 fX0 fX1 fX2 cR0 cR1 cR2 fR0 fR1 fR2
  replace OX := Lib.hid (OX.out.kept hk)
  replace OR := Lib.hid (OR.out.kept hk)
  replace K := K.trans hk
  rw [HP.out]
  clear hk
  obtain ⟨cX0, cX1, cX2, fX0, fX1, fX2⟩ := OX.out.three
  obtain ⟨cR0, cR1, cR2, fR0, fR1, fR2⟩ := OR.out.three
  go_wp2_with fail
  refine (find_any x _ to _ (HV.out.go K (Ext.nil _ _))).mono ?_
  rintro e w4 ⟨rfl, hk⟩
  clear cX0 cX1 cX2 fX0 fX1 fX2 cR0 cR1 cR2 fR0 fR1 fR2
  replace OX := Lib.hid (OX.out.kept hk)
  replace OR := Lib.hid (OR.out.kept hk)
  replace K := K.trans hk
  rw [HF.out, show ofO (some q) = (q : Int) from rfl]
  clear hk
  obtain ⟨cX0, cX1, cX2, fX0, fX1, fX2⟩ := OX.out.three
  obtain ⟨cR0, cR1, cR2, fR0, fR1, fR2⟩ := OR.out.three
  have q0 : (0 : Int) ≤ (q : Int) := by omega
  obtain ⟨_, _, _, g4, gm⟩ := HBC.out.go hb K (Ext.refl _ _) a (by rw [HN.out]; exact ha)
  obtain ⟨MA, mc, hmv⟩ := gm.form
  rw [hmv] at g4 gm
  have HAT : Hid (x.boxes[a]'(by rw [HN.out]; exact ha) = bxAt x a) := (bxAt_lt _).symm
  rw [HAT.out] at g4 gm
  obtain ⟨mb, mo, rfl, hmb, _, g5, g6, g7, g8⟩ := gm.cells hk
  have a0 : (0 : Int) ≤ (a : Int) := by omega
  have a1 : (a : Int) < (n : Int) := by omega
  have k0 : (0 : Int) ≤ (k : Int) := by omega
  have k1 : (k : Int) < ((bxAt x a).mails.length : Int) := by omega
  have HMO := Lib.hid (mail_ok HOK.out (by rw [HN.out]; exact ha) hk)
  clear gm hmv
  generalize hmn : (bxAt x a).mails.length = mn at *
  generalize hml : mlAt (bxAt x a).mails k = ml at *
  clear hmn hml HAT
  have zX4 := OX.out.lt
  have zR4 := OR.out.lt
  have zK4 := K.size
  go_wp2_with fail
  clear cX0 cX1 cX2 fX0 fX1 fX2 cR0 cR1 cR2 fR0 fR1 fR2
  replace OX := Lib.hid (OX.out.alloc (.cells #[.int .i64 ml.uid, .int .i64 ml.flags, .int .i64 ml.obj, .int .i64 ml.size] 47))
  replace OR := Lib.hid (OR.out.alloc (.cells #[.int .i64 ml.uid, .int .i64 ml.flags, .int .i64 ml.obj, .int .i64 ml.size] 47))
  have OM := Lib.hid (Own.new w4 47 [.int .i64 ml.uid, .int .i64 ml.flags, .int .i64 ml.obj, .int .i64 ml.size])
  replace K := K.alloc (.cells #[.int .i64 ml.uid, .int .i64 ml.flags, .int .i64 ml.obj, .int .i64 ml.size] 47)
  generalize (w4.alloc (.cells #[.int .i64 ml.uid, .int .i64 ml.flags, .int .i64 ml.obj, .int .i64 ml.size] 47)) = w5 at *
  clear g4 g5 g6 g7 g8
  refine (appV_any ((w.heap.size + 1) :: V) x _ to ml.obj ml.size ml.flags _ (Old.cons OR.out.lt (HOV.out.go K)) (HV.out.go K (Ext.cons (by omega) (Ext.refl _ _))) HOK.out HMO.out.2.2.1).mono ?_
  rintro e w6 ⟨v2, rfl, hx2, hk⟩
  replace OX := Lib.hid (OX.out.kept hk)
  replace OR := Lib.hid (OR.out.kept hk)
  replace OM := Lib.hid (OM.out.kept hk)
  replace K := K.trans hk
  have HX2 := Lib.hid hx2
  obtain ⟨A2, c2, A3, c3, rfl⟩ := hx2.form
  clear hx2
  clear hk
  generalize hr1 : (appR x to ml.obj ml.size ml.flags).1.boxes.length = n2 at *
  generalize hr2 : (appR x to ml.obj ml.size ml.flags).1.subs.length = n3 at *
  generalize hr3 : (appR x to ml.obj ml.size ml.flags).1.given = gv2 at *
  have HRR := Lib.hid hr3
  generalize hr4 : (appR x to ml.obj ml.size ml.flags).2.1 = u2 at *
  generalize hr5 : (appR x to ml.obj ml.size ml.flags).2.2 = e2 at *
  have HU := Lib.hid hr4
  have HE := Lib.hid hr5
  clear hr1 hr2 hr3 hr4 hr5
  obtain ⟨cX0, cX1, cX2, fX0, fX1, fX2⟩ := OX.out.three
  obtain ⟨cR0, cR1, cR2, fR0, fR1, fR2⟩ := OR.out.three
  have cM0 := OM.out.cell? 0
  have fM0 := OM.out.frozen 0
  have cM1 := OM.out.cell? 1
  have fM1 := OM.out.frozen 1
  have cM2 := OM.out.cell? 2
  have fM2 := OM.out.frozen 2
  have cM3 := OM.out.cell? 3
  have fM3 := OM.out.frozen 3
  simp only [List.getElem?_cons_zero, List.getElem?_cons_succ] at cM0 cM1 cM2 cM3
  go_wp2
  clear cX0 cX1 cX2 fX0 fX1 fX2 cR0 cR1 cR2 fR0 fR1 fR2 cM0 cM1 cM2 cM3 fM0 fM1 fM2 fM3
  replace OX : Hid (Own (((w6.setCell ⟨(w.heap.size + 1), 0, none⟩ (.slice A2 n2 c2)).setCell ⟨(w.heap.size + 1), 1, none⟩ (.slice A3 n3 c3)).setCell ⟨(w.heap.size + 1), 2, none⟩ (.int .i64 gv2)) w.heap.size 25 [.slice (some ⟨b, o, none⟩) n c, .slice A' m c', .int .i64 gv]) := Lib.hid (((OX.out.far (p := ⟨(w.heap.size + 1), 0, none⟩) (by first | omega | (simp; omega) | simp) (.slice A2 n2 c2)).far (p := ⟨(w.heap.size + 1), 1, none⟩) (by first | omega | (simp; omega) | simp) (.slice A3 n3 c3)).far (p := ⟨(w.heap.size + 1), 2, none⟩) (by first | omega | (simp; omega) | simp) (.int .i64 gv2))
  replace OR : Hid (Own (((w6.setCell ⟨(w.heap.size + 1), 0, none⟩ (.slice A2 n2 c2)).setCell ⟨(w.heap.size + 1), 1, none⟩ (.slice A3 n3 c3)).setCell ⟨(w.heap.size + 1), 2, none⟩ (.int .i64 gv2)) (w.heap.size + 1) 25 [.slice A2 n2 c2, .slice A3 n3 c3, .int .i64 gv2]) := Lib.hid (((OR.out.set_ 0 (.slice A2 n2 c2)).set_ 1 (.slice A3 n3 c3)).set_ 2 (.int .i64 gv2))
  replace OM : Hid (Own (((w6.setCell ⟨(w.heap.size + 1), 0, none⟩ (.slice A2 n2 c2)).setCell ⟨(w.heap.size + 1), 1, none⟩ (.slice A3 n3 c3)).setCell ⟨(w.heap.size + 1), 2, none⟩ (.int .i64 gv2)) w4.heap.size 47 [.int .i64 ml.uid, .int .i64 ml.flags, .int .i64 ml.obj, .int .i64 ml.size]) := Lib.hid (((OM.out.far (p := ⟨(w.heap.size + 1), 0, none⟩) (by first | omega | (simp; omega) | simp) (.slice A2 n2 c2)).far (p := ⟨(w.heap.size + 1), 1, none⟩) (by first | omega | (simp; omega) | simp) (.slice A3 n3 c3)).far (p := ⟨(w.heap.size + 1), 2, none⟩) (by first | omega | (simp; omega) | simp) (.int .i64 gv2))
  replace HX2 := Lib.hid (((HX2.out.put (p := ⟨(w.heap.size + 1), 0, none⟩) (by simp) (.slice A2 n2 c2)).put (p := ⟨(w.heap.size + 1), 1, none⟩) (by simp) (.slice A3 n3 c3)).put (p := ⟨(w.heap.size + 1), 2, none⟩) (by simp) (.int .i64 gv2))
  replace K := (((K.setCell (p := ⟨(w.heap.size + 1), 0, none⟩) (by first | exact Nat.le_refl _ | (simp only []; omega) | simp) (.slice A2 n2 c2)).setCell (p := ⟨(w.heap.size + 1), 1, none⟩) (by first | exact Nat.le_refl _ | (simp only []; omega) | simp) (.slice A3 n3 c3)).setCell (p := ⟨(w.heap.size + 1), 2, none⟩) (by first | exact Nat.le_refl _ | (simp only []; omega) | simp) (.int .i64 gv2))
  generalize (((w6.setCell ⟨(w.heap.size + 1), 0, none⟩ (.slice A2 n2 c2)).setCell ⟨(w.heap.size + 1), 1, none⟩ (.slice A3 n3 c3)).setCell ⟨(w.heap.size + 1), 2, none⟩ (.int .i64 gv2)) = w7 at *
  obtain ⟨cX0, cX1, cX2, fX0, fX1, fX2⟩ := OX.out.three
  obtain ⟨cR0, cR1, cR2, fR0, fR1, fR2⟩ := OR.out.three
  have cM0 := OM.out.cell? 0
  have fM0 := OM.out.frozen 0
  have cM1 := OM.out.cell? 1
  have fM1 := OM.out.frozen 1
  have cM2 := OM.out.cell? 2
  have fM2 := OM.out.frozen 2
  have cM3 := OM.out.cell? 3
  have fM3 := OM.out.frozen 3
  simp only [List.getElem?_cons_zero, List.getElem?_cons_succ] at cM0 cM1 cM2 cM3
  refine bodyPost_ret (v := .tuple #[.agg #[.slice A2 n2 c2, .slice A3 n3 c3, .int .i64 gv2], .int .i64 u2, .int .i64 e2]) (by simp [results, Try.results16, go_sem, cR0, cR1, cR2]) rfl ?_
  refine ⟨_, by rw [HEX.out, HU.out, HE.out], ?_, K⟩
  rw [HEX.out]
  exact HX2.out.go (Kept.refl _) (fun k hk => .inl (List.mem_cons_of_mem _ hk))

theorem cop_any (V : List Nat) (x : Ix) (v : Value) (nm : ByteArray) (uid : Int) (to : ByteArray) (w : World) (hV : Old V w) (h : IxAt V w v x) (hok : IxOk x) :
    Calls Try.prog 16 #[v, .string nm, .int .i64 uid, .string to] w (IxPost3 V (copR x nm uid to) w) := by
  rcases Bool.eq_false_or_eq_true (rightB x) with hr | hr
  · rcases Bool.eq_false_or_eq_true (placeR x nm uid).2.2 with hp | hp
    · obtain ⟨a, k, hp1, ha, hk, _, _⟩ := place_found hp
      obtain ⟨h1, h2, _, _, h5, _⟩ := right_len hr
      cases hf : findX x to with
      | none => exact cop_no3 V x v a k nm uid to w hV h hok hr hp1 hf
      | some q => exact cop_main V x v a k q nm uid to w hV h hok hr hp1 hf ha hk h2 (box_mails (allTo_iff.1 h5 a ha))
    · exact cop_no2 V x v nm uid to w hV h hok hr hp
  · exact cop_no1 V x v nm uid to w hV h hok hr
end Go.Proofs.Ytjinnkbnllnllaa
