/- Walk: mailsackref15.Rename. -/
import Derived.Test.YtjinnkbnllnllaaRxCreate
import Derived.Test.YtjinnkbnllnllaaRxTurnIx
import Derived.Deep.RegionHeld3
namespace Go.Proofs.Ytjinnkbnllnllaa
open Go.RowKit

theorem ren_sort {x : Ix} {ps : List Bp} {p : Bp} {a : Nat} (hr : rightB x = true) (hps : ps.map (·.1) = x.boxes) (hf : findX x p.1.name = none) (ha : 0 < a) (hal : a < ps.length) : sortTo (ps.set a p) (ps.set a p).length = insB (ps.eraseIdx a) p := by
  obtain ⟨b0, r, e, hp, hm⟩ := boxes_cons hr hps
  exact sort_named e hp (fun c hc => find_no hf c (hm c hc)) ha hal
/-- The names of an index rise, behind the first. -/
def Rise (x : Ix) : Prop := ∀ i, 1 < i → i < x.boxes.length → gtB (bxAt x (i - 1)).name (bxAt x i).name = false
theorem rise_right {x : Ix} (h : rightB x = true) : Rise x := fun _ h1 hi => right_rise h h1 hi
theorem rise_set {x : Ix} {a : Nat} {b : Bx} (h : Rise x) (ha : a < x.boxes.length) (hn : b.name = (bxAt x a).name) : Rise (setBx x a b) := fun i h1 hi => by
  rw [set_name ha hn, set_name ha hn]
  exact h i h1 (by rwa [setBx_len] at hi)
theorem turn_rise (V : List Nat) (x : Ix) (A : Option Addr) (n c : Nat) (SA : Option Addr) (sn sc : Nat) (gv : Int) (at_ : Nat) (pb : Bx) (PA : Option Addr) (pn pc : Nat) (w : World) (hV : Old V w) (h : IxAt V w (.agg #[.slice A n c, .slice SA sn sc, .int .i64 gv]) x) (hr : Rise x) (hl : x.boxes.length ≤ 100)
    (ha : at_ < x.boxes.length) (hnm : pb.name = (bxAt x at_).name) (hm : MlsAt V w (.slice PA pn pc) pb.mails) :
    Calls Try.prog 44 #[.agg #[.slice A n c, .slice SA sn sc, .int .i64 gv], .int .i64 at_, .agg #[.string pb.name, .int .i64 pb.val, .int .i64 pb.next, .slice PA pn pc]] w (IxRet V (setBx x at_ pb) w) := by
  obtain ⟨hg, ⟨ps, hps, ⟨A', c', e, hc1, hc2, hrow⟩, hml⟩, hs⟩ := h.parts
  cases e
  have hpl : ps.length = x.boxes.length := by rw [← hps, List.length_map]
  have hf : ∀ p ∈ ps, ∃ A n c, p.2 = .slice A n c := fun p hp => by obtain ⟨A, c, e⟩ := (hml p hp).form; exact ⟨A, _, c, e⟩
  refine (turned_any V ps (ps.set at_ (pb, .slice PA pn pc)) A ps.length c SA sn sc gv at_ pb PA pn pc w hV rfl hc1 hc2 (by omega) (hrow.go (Kept.refl _) (Ext.nil _ _)) hf rfl).mono ?_
  rintro e w' ⟨B, b, rfl, k1, k2, k3, k4⟩
  have hid := sort_id (l := ps.set at_ (pb, .slice PA pn pc)) (fun i hi hil => by
    have e1 : ∀ j, (bpAt (ps.set at_ (pb, .slice PA pn pc)) j).1.name = (bxAt x j).name := fun j => by
      rw [bp_set (by omega)]
      split
      · rename_i e; subst e; exact hnm
      · rw [bp_name hps]
    rw [e1, e1]
    exact hr i hi (by rw [List.length_set] at hil; omega)) _ (Nat.le_refl _)
  rw [hid, List.take_length] at k3
  refine ⟨_, rfl, ⟨_, _, by rw [show (setBx x at_ pb).given = gv from hg.symm], ⟨_, ?_, ⟨B, b, rfl, k1, k2, k3⟩, fun p hp => ?_⟩, hs.go k4 (Ext.refl _ _)⟩, k4⟩
  · rw [List.map_set, hps]; rfl
  · rcases List.mem_or_eq_of_mem_set hp with hp | rfl
    · exact (hml p hp).go k4 (Ext.refl _ _)
    · exact hm.go k4 (Ext.refl _ _)
theorem cre_right {x : Ix} {nm : ByteArray} (hr : rightB x = true) (hn : nameB nm = true) (hf : findX x nm = none) (h6 : x.boxes.length ≤ 5) (hg : x.given < 4294967295) : rightB ⟨insX x.boxes ⟨nm, x.given, 1, []⟩, x.subs, x.given + 1⟩ = true := by
  have hL := right_list hr
  have hp := given_pos hL
  refine list_right (ins_right (up_right hL hg) (boxB_mk hn hp.1 hp.2 (show (1 : Int) ≤ 1 by decide) (show (1 : Int) ≤ 4294967295 by decide) (Nat.zero_le _) rfl) (by show x.given < x.given + 1; omega) (find_no hf) h6 ?_)
  have := hL.tot
  simpa using this
theorem mov_set {x : Ix} {nm : ByteArray} (h1 : 1 ≤ x.boxes.length) : setBx (setBx ⟨insX x.boxes ⟨nm, x.given, 1, []⟩, x.subs, x.given + 1⟩ (insPos x.boxes nm) (movBx x nm)) 0 (withMails (bxAt x 0) []) = movIx x nm := by
  unfold setBx movIx
  simp only
  rw [insX_set (b := ⟨nm, x.given, 1, []⟩) (b' := movBx x nm) h1 rfl]

set_option maxRecDepth 100000 in
set_option maxHeartbeats 1000000 in
theorem rren_no1 (V : List Nat) (x : Ix) (v : Value) (fr tn : ByteArray) (w : World) (hV : Old V w) (h : IxAt V w v x) (hok : IxOk x) (hfew : Few x) (hr : rightB x = false) :
    Calls Try.prog 27 #[v, .string fr, .string tn] w (IxPost V (renR x fr tn) w) := by
  have HEX : Hid (renR x fr tn = (ix0, 1)) := by
    show _ = _
    unfold renR; rw [hr]; rfl
  have HV := Lib.hid h
  have HOV := Lib.hid hV
  have HOK := Lib.hid hok
  have HFEW := Lib.hid hfew
  have HR := Lib.hid hr
  obtain ⟨A, c, A', c', rfl, hc1, hc2, hc3, hc4, hbx, hrow⟩ := (h.weak (U := []) (fun _ hk => by cases hk)).open_
  have HROW := Lib.hid hrow
  clear hbx hrow h hok hV hfew hr
  unfold maxLen at hc2 hc4
  generalize hn : x.boxes.length = n at *
  generalize hm : x.subs.length = m at *
  generalize hg : x.given = gv at *
  have HN := Lib.hid hn
  have HM := Lib.hid hm
  have HG := Lib.hid hg
  clear hn hm hg
  go_enter Try.func27, Try.ntmps27
  go_wp2_with fail
  have OX := Lib.hid ((Own.newAt w w.heap.size 29 [.slice A n c, .slice A' m c', .int .i64 gv] (by simp)).alloc (.cells #[.slice none 0 0, .slice none 0 0, .int .i64 0] 29))
  have OR := Lib.hid (Own.newAt (w.alloc (.cells #[.slice A n c, .slice A' m c', .int .i64 gv] 29)) (w.heap.size + 1) 29 [.slice none 0 0, .slice none 0 0, .int .i64 0] (by simp))
  have K := (((Kept.refl w).alloc (.cells #[.slice A n c, .slice A' m c', .int .i64 gv] 29)).alloc (.cells #[.slice none 0 0, .slice none 0 0, .int .i64 0] 29))
  generalize ((w.alloc (.cells #[.slice A n c, .slice A' m c', .int .i64 gv] 29)).alloc (.cells #[.slice none 0 0, .slice none 0 0, .int .i64 0] 29)) = w1 at *
  obtain ⟨cX0, cX1, cX2, fX0, fX1, fX2⟩ := OX.out.three
  obtain ⟨cR0, cR1, cR2, fR0, fR1, fR2⟩ := OR.out.three
  refine (rright_any x _ _ (HV.out.go K (Ext.nil _ _)) HOK.out HFEW.out).mono ?_
  rintro e w2 ⟨rfl, hk⟩
  clear cX0 cX1 cX2 fX0 fX1 fX2 cR0 cR1 cR2 fR0 fR1 fR2
  replace OX := Lib.hid (OX.out.kept hk)
  replace OR := Lib.hid (OR.out.kept hk)
  replace K := K.trans hk
  rw [HR.out]
  clear hk
  obtain ⟨cX0, cX1, cX2, fX0, fX1, fX2⟩ := OX.out.three
  obtain ⟨cR0, cR1, cR2, fR0, fR1, fR2⟩ := OR.out.three
  go_wp2
  clear cX0 cX1 cX2 fX0 fX1 fX2 cR0 cR1 cR2 fR0 fR1 fR2
  replace OX : Hid (Own (((w2.setCell ⟨(w.heap.size + 1), 0, none⟩ (.slice none 0 0)).setCell ⟨(w.heap.size + 1), 1, none⟩ (.slice none 0 0)).setCell ⟨(w.heap.size + 1), 2, none⟩ (.int .i64 0)) w.heap.size 29 [.slice A n c, .slice A' m c', .int .i64 gv]) := Lib.hid (((OX.out.far (p := ⟨(w.heap.size + 1), 0, none⟩) (by first | omega | (simp; omega) | simp) (.slice none 0 0)).far (p := ⟨(w.heap.size + 1), 1, none⟩) (by first | omega | (simp; omega) | simp) (.slice none 0 0)).far (p := ⟨(w.heap.size + 1), 2, none⟩) (by first | omega | (simp; omega) | simp) (.int .i64 0))
  replace OR : Hid (Own (((w2.setCell ⟨(w.heap.size + 1), 0, none⟩ (.slice none 0 0)).setCell ⟨(w.heap.size + 1), 1, none⟩ (.slice none 0 0)).setCell ⟨(w.heap.size + 1), 2, none⟩ (.int .i64 0)) (w.heap.size + 1) 29 [.slice none 0 0, .slice none 0 0, .int .i64 0]) := Lib.hid (((OR.out.set_ 0 (.slice none 0 0)).set_ 1 (.slice none 0 0)).set_ 2 (.int .i64 0))
  replace K := (((K.setCell (p := ⟨(w.heap.size + 1), 0, none⟩) (by first | exact Nat.le_refl _ | (simp only []; omega) | simp) (.slice none 0 0)).setCell (p := ⟨(w.heap.size + 1), 1, none⟩) (by first | exact Nat.le_refl _ | (simp only []; omega) | simp) (.slice none 0 0)).setCell (p := ⟨(w.heap.size + 1), 2, none⟩) (by first | exact Nat.le_refl _ | (simp only []; omega) | simp) (.int .i64 0))
  generalize (((w2.setCell ⟨(w.heap.size + 1), 0, none⟩ (.slice none 0 0)).setCell ⟨(w.heap.size + 1), 1, none⟩ (.slice none 0 0)).setCell ⟨(w.heap.size + 1), 2, none⟩ (.int .i64 0)) = w3 at *
  obtain ⟨cX0, cX1, cX2, fX0, fX1, fX2⟩ := OX.out.three
  obtain ⟨cR0, cR1, cR2, fR0, fR1, fR2⟩ := OR.out.three
  refine bodyPost_ret (v := .tuple #[.agg #[.slice none 0 0, .slice none 0 0, .int .i64 0], .int .i64 1]) (by simp [results, Try.results27, go_sem, cR0, cR1, cR2]) rfl ?_
  exact ⟨_, by rw [HEX.out], by rw [HEX.out]; exact ixAt_nil _ _, K⟩

set_option maxRecDepth 100000 in
set_option maxHeartbeats 1000000 in
theorem rren_no2 (V : List Nat) (x : Ix) (v : Value) (fr tn : ByteArray) (w : World) (hV : Old V w) (h : IxAt V w v x) (hok : IxOk x) (hfew : Few x) (hr : rightB x = true) (hnb : nameB tn = false) (hns : tn.size ≤ maxLen) :
    Calls Try.prog 27 #[v, .string fr, .string tn] w (IxPost V (renR x fr tn) w) := by
  have HEX : Hid (renR x fr tn = (ix0, 1)) := by
    show _ = _
    unfold renR; rw [hr, hnb]; rfl
  have HV := Lib.hid h
  have HOV := Lib.hid hV
  have HOK := Lib.hid hok
  have HFEW := Lib.hid hfew
  have HR := Lib.hid hr
  have HNB := Lib.hid hnb
  have HNS := Lib.hid hns
  obtain ⟨A, c, A', c', rfl, hc1, hc2, hc3, hc4, hbx, hrow⟩ := (h.weak (U := []) (fun _ hk => by cases hk)).open_
  have HROW := Lib.hid hrow
  clear hbx hrow h hok hV hfew hr hnb hns
  unfold maxLen at hc2 hc4
  generalize hn : x.boxes.length = n at *
  generalize hm : x.subs.length = m at *
  generalize hg : x.given = gv at *
  have HN := Lib.hid hn
  have HM := Lib.hid hm
  have HG := Lib.hid hg
  clear hn hm hg
  go_enter Try.func27, Try.ntmps27
  go_wp2_with fail
  have OX := Lib.hid ((Own.newAt w w.heap.size 29 [.slice A n c, .slice A' m c', .int .i64 gv] (by simp)).alloc (.cells #[.slice none 0 0, .slice none 0 0, .int .i64 0] 29))
  have OR := Lib.hid (Own.newAt (w.alloc (.cells #[.slice A n c, .slice A' m c', .int .i64 gv] 29)) (w.heap.size + 1) 29 [.slice none 0 0, .slice none 0 0, .int .i64 0] (by simp))
  have K := (((Kept.refl w).alloc (.cells #[.slice A n c, .slice A' m c', .int .i64 gv] 29)).alloc (.cells #[.slice none 0 0, .slice none 0 0, .int .i64 0] 29))
  generalize ((w.alloc (.cells #[.slice A n c, .slice A' m c', .int .i64 gv] 29)).alloc (.cells #[.slice none 0 0, .slice none 0 0, .int .i64 0] 29)) = w1 at *
  obtain ⟨cX0, cX1, cX2, fX0, fX1, fX2⟩ := OX.out.three
  obtain ⟨cR0, cR1, cR2, fR0, fR1, fR2⟩ := OR.out.three
  refine (rright_any x _ _ (HV.out.go K (Ext.nil _ _)) HOK.out HFEW.out).mono ?_
  rintro e w2 ⟨rfl, hk⟩
  clear cX0 cX1 cX2 fX0 fX1 fX2 cR0 cR1 cR2 fR0 fR1 fR2
  replace OX := Lib.hid (OX.out.kept hk)
  replace OR := Lib.hid (OR.out.kept hk)
  replace K := K.trans hk
  rw [HR.out]
  clear hk
  obtain ⟨cX0, cX1, cX2, fX0, fX1, fX2⟩ := OX.out.three
  obtain ⟨cR0, cR1, cR2, fR0, fR1, fR2⟩ := OR.out.three
  go_wp2_with fail
  refine (rname_any tn _ HNS.out).mono ?_
  rintro e _ ⟨rfl, rfl⟩
  rw [HNB.out]
  go_wp2
  clear cX0 cX1 cX2 fX0 fX1 fX2 cR0 cR1 cR2 fR0 fR1 fR2
  replace OX : Hid (Own (((w2.setCell ⟨(w.heap.size + 1), 0, none⟩ (.slice none 0 0)).setCell ⟨(w.heap.size + 1), 1, none⟩ (.slice none 0 0)).setCell ⟨(w.heap.size + 1), 2, none⟩ (.int .i64 0)) w.heap.size 29 [.slice A n c, .slice A' m c', .int .i64 gv]) := Lib.hid (((OX.out.far (p := ⟨(w.heap.size + 1), 0, none⟩) (by first | omega | (simp; omega) | simp) (.slice none 0 0)).far (p := ⟨(w.heap.size + 1), 1, none⟩) (by first | omega | (simp; omega) | simp) (.slice none 0 0)).far (p := ⟨(w.heap.size + 1), 2, none⟩) (by first | omega | (simp; omega) | simp) (.int .i64 0))
  replace OR : Hid (Own (((w2.setCell ⟨(w.heap.size + 1), 0, none⟩ (.slice none 0 0)).setCell ⟨(w.heap.size + 1), 1, none⟩ (.slice none 0 0)).setCell ⟨(w.heap.size + 1), 2, none⟩ (.int .i64 0)) (w.heap.size + 1) 29 [.slice none 0 0, .slice none 0 0, .int .i64 0]) := Lib.hid (((OR.out.set_ 0 (.slice none 0 0)).set_ 1 (.slice none 0 0)).set_ 2 (.int .i64 0))
  replace K := (((K.setCell (p := ⟨(w.heap.size + 1), 0, none⟩) (by first | exact Nat.le_refl _ | (simp only []; omega) | simp) (.slice none 0 0)).setCell (p := ⟨(w.heap.size + 1), 1, none⟩) (by first | exact Nat.le_refl _ | (simp only []; omega) | simp) (.slice none 0 0)).setCell (p := ⟨(w.heap.size + 1), 2, none⟩) (by first | exact Nat.le_refl _ | (simp only []; omega) | simp) (.int .i64 0))
  generalize (((w2.setCell ⟨(w.heap.size + 1), 0, none⟩ (.slice none 0 0)).setCell ⟨(w.heap.size + 1), 1, none⟩ (.slice none 0 0)).setCell ⟨(w.heap.size + 1), 2, none⟩ (.int .i64 0)) = w3 at *
  obtain ⟨cX0, cX1, cX2, fX0, fX1, fX2⟩ := OX.out.three
  obtain ⟨cR0, cR1, cR2, fR0, fR1, fR2⟩ := OR.out.three
  refine bodyPost_ret (v := .tuple #[.agg #[.slice none 0 0, .slice none 0 0, .int .i64 0], .int .i64 1]) (by simp [results, Try.results27, go_sem, cR0, cR1, cR2]) rfl ?_
  exact ⟨_, by rw [HEX.out], by rw [HEX.out]; exact ixAt_nil _ _, K⟩

set_option maxRecDepth 100000 in
set_option maxHeartbeats 1000000 in
theorem rren_no3 (V : List Nat) (x : Ix) (v : Value) (fr tn : ByteArray) (w : World) (hV : Old V w) (h : IxAt V w v x) (hok : IxOk x) (hfew : Few x) (hr : rightB x = true) (hnb : nameB tn = true) (hns : tn.size ≤ maxLen) (hf : findX x fr = none) :
    Calls Try.prog 27 #[v, .string fr, .string tn] w (IxPost V (renR x fr tn) w) := by
  have HEX : Hid (renR x fr tn = (ix0, 6)) := by
    show _ = _
    unfold renR; rw [hr, hnb, hf]; rfl
  have HV := Lib.hid h
  have HOV := Lib.hid hV
  have HOK := Lib.hid hok
  have HFEW := Lib.hid hfew
  have HR := Lib.hid hr
  have HNB := Lib.hid hnb
  have HNS := Lib.hid hns
  have HF := Lib.hid hf
  obtain ⟨A, c, A', c', rfl, hc1, hc2, hc3, hc4, hbx, hrow⟩ := (h.weak (U := []) (fun _ hk => by cases hk)).open_
  have HROW := Lib.hid hrow
  clear hbx hrow h hok hV hfew hr hnb hns hf
  unfold maxLen at hc2 hc4
  generalize hn : x.boxes.length = n at *
  generalize hm : x.subs.length = m at *
  generalize hg : x.given = gv at *
  have HN := Lib.hid hn
  have HM := Lib.hid hm
  have HG := Lib.hid hg
  clear hn hm hg
  go_enter Try.func27, Try.ntmps27
  go_wp2_with fail
  have OX := Lib.hid ((Own.newAt w w.heap.size 29 [.slice A n c, .slice A' m c', .int .i64 gv] (by simp)).alloc (.cells #[.slice none 0 0, .slice none 0 0, .int .i64 0] 29))
  have OR := Lib.hid (Own.newAt (w.alloc (.cells #[.slice A n c, .slice A' m c', .int .i64 gv] 29)) (w.heap.size + 1) 29 [.slice none 0 0, .slice none 0 0, .int .i64 0] (by simp))
  have K := (((Kept.refl w).alloc (.cells #[.slice A n c, .slice A' m c', .int .i64 gv] 29)).alloc (.cells #[.slice none 0 0, .slice none 0 0, .int .i64 0] 29))
  generalize ((w.alloc (.cells #[.slice A n c, .slice A' m c', .int .i64 gv] 29)).alloc (.cells #[.slice none 0 0, .slice none 0 0, .int .i64 0] 29)) = w1 at *
  obtain ⟨cX0, cX1, cX2, fX0, fX1, fX2⟩ := OX.out.three
  obtain ⟨cR0, cR1, cR2, fR0, fR1, fR2⟩ := OR.out.three
  refine (rright_any x _ _ (HV.out.go K (Ext.nil _ _)) HOK.out HFEW.out).mono ?_
  rintro e w2 ⟨rfl, hk⟩
  clear cX0 cX1 cX2 fX0 fX1 fX2 cR0 cR1 cR2 fR0 fR1 fR2
  replace OX := Lib.hid (OX.out.kept hk)
  replace OR := Lib.hid (OR.out.kept hk)
  replace K := K.trans hk
  rw [HR.out]
  clear hk
  obtain ⟨cX0, cX1, cX2, fX0, fX1, fX2⟩ := OX.out.three
  obtain ⟨cR0, cR1, cR2, fR0, fR1, fR2⟩ := OR.out.three
  go_wp2_with fail
  refine (rname_any tn _ HNS.out).mono ?_
  rintro e _ ⟨rfl, rfl⟩
  rw [HNB.out]
  go_wp2_with fail
  refine (rfind_any x _ fr _ (HV.out.go K (Ext.nil _ _))).mono ?_
  rintro e w3 ⟨rfl, hk⟩
  clear cX0 cX1 cX2 fX0 fX1 fX2 cR0 cR1 cR2 fR0 fR1 fR2
  replace OX := Lib.hid (OX.out.kept hk)
  replace OR := Lib.hid (OR.out.kept hk)
  replace K := K.trans hk
  rw [HF.out, show ofO none = -1 from rfl]
  clear hk
  obtain ⟨cX0, cX1, cX2, fX0, fX1, fX2⟩ := OX.out.three
  obtain ⟨cR0, cR1, cR2, fR0, fR1, fR2⟩ := OR.out.three
  go_wp2
  clear cX0 cX1 cX2 fX0 fX1 fX2 cR0 cR1 cR2 fR0 fR1 fR2
  replace OX : Hid (Own (((w3.setCell ⟨(w.heap.size + 1), 0, none⟩ (.slice none 0 0)).setCell ⟨(w.heap.size + 1), 1, none⟩ (.slice none 0 0)).setCell ⟨(w.heap.size + 1), 2, none⟩ (.int .i64 0)) w.heap.size 29 [.slice A n c, .slice A' m c', .int .i64 gv]) := Lib.hid (((OX.out.far (p := ⟨(w.heap.size + 1), 0, none⟩) (by first | omega | (simp; omega) | simp) (.slice none 0 0)).far (p := ⟨(w.heap.size + 1), 1, none⟩) (by first | omega | (simp; omega) | simp) (.slice none 0 0)).far (p := ⟨(w.heap.size + 1), 2, none⟩) (by first | omega | (simp; omega) | simp) (.int .i64 0))
  replace OR : Hid (Own (((w3.setCell ⟨(w.heap.size + 1), 0, none⟩ (.slice none 0 0)).setCell ⟨(w.heap.size + 1), 1, none⟩ (.slice none 0 0)).setCell ⟨(w.heap.size + 1), 2, none⟩ (.int .i64 0)) (w.heap.size + 1) 29 [.slice none 0 0, .slice none 0 0, .int .i64 0]) := Lib.hid (((OR.out.set_ 0 (.slice none 0 0)).set_ 1 (.slice none 0 0)).set_ 2 (.int .i64 0))
  replace K := (((K.setCell (p := ⟨(w.heap.size + 1), 0, none⟩) (by first | exact Nat.le_refl _ | (simp only []; omega) | simp) (.slice none 0 0)).setCell (p := ⟨(w.heap.size + 1), 1, none⟩) (by first | exact Nat.le_refl _ | (simp only []; omega) | simp) (.slice none 0 0)).setCell (p := ⟨(w.heap.size + 1), 2, none⟩) (by first | exact Nat.le_refl _ | (simp only []; omega) | simp) (.int .i64 0))
  generalize (((w3.setCell ⟨(w.heap.size + 1), 0, none⟩ (.slice none 0 0)).setCell ⟨(w.heap.size + 1), 1, none⟩ (.slice none 0 0)).setCell ⟨(w.heap.size + 1), 2, none⟩ (.int .i64 0)) = w4 at *
  obtain ⟨cX0, cX1, cX2, fX0, fX1, fX2⟩ := OX.out.three
  obtain ⟨cR0, cR1, cR2, fR0, fR1, fR2⟩ := OR.out.three
  refine bodyPost_ret (v := .tuple #[.agg #[.slice none 0 0, .slice none 0 0, .int .i64 0], .int .i64 6]) (by simp [results, Try.results27, go_sem, cR0, cR1, cR2]) rfl ?_
  exact ⟨_, by rw [HEX.out], by rw [HEX.out]; exact ixAt_nil _ _, K⟩

set_option maxRecDepth 100000 in
set_option maxHeartbeats 1000000 in
theorem rren_no4 (V : List Nat) (x : Ix) (v : Value) (a q : Nat) (fr tn : ByteArray) (w : World) (hV : Old V w) (h : IxAt V w v x) (hok : IxOk x) (hfew : Few x) (hr : rightB x = true) (hnb : nameB tn = true) (hns : tn.size ≤ maxLen) (hf : findX x fr = some a) (hf2 : findX x tn = some q) :
    Calls Try.prog 27 #[v, .string fr, .string tn] w (IxPost V (renR x fr tn) w) := by
  have HEX : Hid (renR x fr tn = (ix0, 8)) := by
    show _ = _
    unfold renR; rw [hr, hnb, hf, hf2]; rfl
  have HV := Lib.hid h
  have HOV := Lib.hid hV
  have HOK := Lib.hid hok
  have HFEW := Lib.hid hfew
  have HR := Lib.hid hr
  have HNB := Lib.hid hnb
  have HNS := Lib.hid hns
  have HF := Lib.hid hf
  have HF2 := Lib.hid hf2
  obtain ⟨A, c, A', c', rfl, hc1, hc2, hc3, hc4, hbx, hrow⟩ := (h.weak (U := []) (fun _ hk => by cases hk)).open_
  have HROW := Lib.hid hrow
  clear hbx hrow h hok hV hfew hr hnb hns hf hf2
  unfold maxLen at hc2 hc4
  generalize hn : x.boxes.length = n at *
  generalize hm : x.subs.length = m at *
  generalize hg : x.given = gv at *
  have HN := Lib.hid hn
  have HM := Lib.hid hm
  have HG := Lib.hid hg
  clear hn hm hg
  go_enter Try.func27, Try.ntmps27
  go_wp2_with fail
  have OX := Lib.hid ((Own.newAt w w.heap.size 29 [.slice A n c, .slice A' m c', .int .i64 gv] (by simp)).alloc (.cells #[.slice none 0 0, .slice none 0 0, .int .i64 0] 29))
  have OR := Lib.hid (Own.newAt (w.alloc (.cells #[.slice A n c, .slice A' m c', .int .i64 gv] 29)) (w.heap.size + 1) 29 [.slice none 0 0, .slice none 0 0, .int .i64 0] (by simp))
  have K := (((Kept.refl w).alloc (.cells #[.slice A n c, .slice A' m c', .int .i64 gv] 29)).alloc (.cells #[.slice none 0 0, .slice none 0 0, .int .i64 0] 29))
  generalize ((w.alloc (.cells #[.slice A n c, .slice A' m c', .int .i64 gv] 29)).alloc (.cells #[.slice none 0 0, .slice none 0 0, .int .i64 0] 29)) = w1 at *
  obtain ⟨cX0, cX1, cX2, fX0, fX1, fX2⟩ := OX.out.three
  obtain ⟨cR0, cR1, cR2, fR0, fR1, fR2⟩ := OR.out.three
  refine (rright_any x _ _ (HV.out.go K (Ext.nil _ _)) HOK.out HFEW.out).mono ?_
  rintro e w2 ⟨rfl, hk⟩
  clear cX0 cX1 cX2 fX0 fX1 fX2 cR0 cR1 cR2 fR0 fR1 fR2
  replace OX := Lib.hid (OX.out.kept hk)
  replace OR := Lib.hid (OR.out.kept hk)
  replace K := K.trans hk
  rw [HR.out]
  clear hk
  obtain ⟨cX0, cX1, cX2, fX0, fX1, fX2⟩ := OX.out.three
  obtain ⟨cR0, cR1, cR2, fR0, fR1, fR2⟩ := OR.out.three
  go_wp2_with fail
  refine (rname_any tn _ HNS.out).mono ?_
  rintro e _ ⟨rfl, rfl⟩
  rw [HNB.out]
  go_wp2_with fail
  refine (rfind_any x _ fr _ (HV.out.go K (Ext.nil _ _))).mono ?_
  rintro e w3 ⟨rfl, hk⟩
  clear cX0 cX1 cX2 fX0 fX1 fX2 cR0 cR1 cR2 fR0 fR1 fR2
  replace OX := Lib.hid (OX.out.kept hk)
  replace OR := Lib.hid (OR.out.kept hk)
  replace K := K.trans hk
  rw [HF.out, show ofO (some a) = (a : Int) from rfl]
  have a0 : (0 : Int) ≤ (a : Int) := by omega
  clear hk
  obtain ⟨cX0, cX1, cX2, fX0, fX1, fX2⟩ := OX.out.three
  obtain ⟨cR0, cR1, cR2, fR0, fR1, fR2⟩ := OR.out.three
  go_wp2_with fail
  refine (rfind_any x _ tn _ (HV.out.go K (Ext.nil _ _))).mono ?_
  rintro e w4 ⟨rfl, hk⟩
  clear cX0 cX1 cX2 fX0 fX1 fX2 cR0 cR1 cR2 fR0 fR1 fR2
  replace OX := Lib.hid (OX.out.kept hk)
  replace OR := Lib.hid (OR.out.kept hk)
  replace K := K.trans hk
  rw [HF2.out, show ofO (some q) = (q : Int) from rfl]
  have q0 : (0 : Int) ≤ (q : Int) := by omega
  clear hk
  obtain ⟨cX0, cX1, cX2, fX0, fX1, fX2⟩ := OX.out.three
  obtain ⟨cR0, cR1, cR2, fR0, fR1, fR2⟩ := OR.out.three
  go_wp2
  clear cX0 cX1 cX2 fX0 fX1 fX2 cR0 cR1 cR2 fR0 fR1 fR2
  replace OX : Hid (Own (((w4.setCell ⟨(w.heap.size + 1), 0, none⟩ (.slice none 0 0)).setCell ⟨(w.heap.size + 1), 1, none⟩ (.slice none 0 0)).setCell ⟨(w.heap.size + 1), 2, none⟩ (.int .i64 0)) w.heap.size 29 [.slice A n c, .slice A' m c', .int .i64 gv]) := Lib.hid (((OX.out.far (p := ⟨(w.heap.size + 1), 0, none⟩) (by first | omega | (simp; omega) | simp) (.slice none 0 0)).far (p := ⟨(w.heap.size + 1), 1, none⟩) (by first | omega | (simp; omega) | simp) (.slice none 0 0)).far (p := ⟨(w.heap.size + 1), 2, none⟩) (by first | omega | (simp; omega) | simp) (.int .i64 0))
  replace OR : Hid (Own (((w4.setCell ⟨(w.heap.size + 1), 0, none⟩ (.slice none 0 0)).setCell ⟨(w.heap.size + 1), 1, none⟩ (.slice none 0 0)).setCell ⟨(w.heap.size + 1), 2, none⟩ (.int .i64 0)) (w.heap.size + 1) 29 [.slice none 0 0, .slice none 0 0, .int .i64 0]) := Lib.hid (((OR.out.set_ 0 (.slice none 0 0)).set_ 1 (.slice none 0 0)).set_ 2 (.int .i64 0))
  replace K := (((K.setCell (p := ⟨(w.heap.size + 1), 0, none⟩) (by first | exact Nat.le_refl _ | (simp only []; omega) | simp) (.slice none 0 0)).setCell (p := ⟨(w.heap.size + 1), 1, none⟩) (by first | exact Nat.le_refl _ | (simp only []; omega) | simp) (.slice none 0 0)).setCell (p := ⟨(w.heap.size + 1), 2, none⟩) (by first | exact Nat.le_refl _ | (simp only []; omega) | simp) (.int .i64 0))
  generalize (((w4.setCell ⟨(w.heap.size + 1), 0, none⟩ (.slice none 0 0)).setCell ⟨(w.heap.size + 1), 1, none⟩ (.slice none 0 0)).setCell ⟨(w.heap.size + 1), 2, none⟩ (.int .i64 0)) = w5 at *
  obtain ⟨cX0, cX1, cX2, fX0, fX1, fX2⟩ := OX.out.three
  obtain ⟨cR0, cR1, cR2, fR0, fR1, fR2⟩ := OR.out.three
  refine bodyPost_ret (v := .tuple #[.agg #[.slice none 0 0, .slice none 0 0, .int .i64 0], .int .i64 8]) (by simp [results, Try.results27, go_sem, cR0, cR1, cR2]) rfl ?_
  exact ⟨_, by rw [HEX.out], by rw [HEX.out]; exact ixAt_nil _ _, K⟩

set_option maxRecDepth 100000 in
set_option maxHeartbeats 1000000 in
theorem rren_main (V : List Nat) (x : Ix) (v : Value) (a : Nat) (fr tn : ByteArray) (w : World) (hV : Old V w) (h : IxAt V w v x) (hok : IxOk x) (hfew : Few x) (hr : rightB x = true) (hnb : nameB tn = true) (hns : tn.size ≤ maxLen) (hf : findX x fr = some a) (hf2 : findX x tn = none) (he : nmEq fr inbox = false) (ha0 : 0 < a) (ha : a < x.boxes.length) (hl : x.boxes.length ≤ 6) :
    Calls Try.prog 27 #[v, .string fr, .string tn] w (IxPost V (renR x fr tn) w) := by
  have HEX : Hid (renR x fr tn = (⟨insX (x.boxes.eraseIdx a) (reName (bxAt x a) tn), x.subs, x.given⟩, 0)) := by
    show _ = _
    unfold renR; rw [hr, hnb, hf, hf2, he]; rfl
  have HV := Lib.hid h
  have HOV := Lib.hid hV
  have HOK := Lib.hid hok
  have HFEW := Lib.hid hfew
  have HR := Lib.hid hr
  have HNB := Lib.hid hnb
  have HNS := Lib.hid hns
  have HF := Lib.hid hf
  have HF2 := Lib.hid hf2
  have HE := Lib.hid he
  obtain ⟨A, c, A', c', rfl, hc1, hc2, hc3, hc4, hbx, hrow⟩ := (h.weak (U := []) (fun _ hk => by cases hk)).open_
  have HROW := Lib.hid hrow
  clear hbx hrow h hok hV hfew hr hnb hns hf hf2 he
  unfold maxLen at hc2 hc4
  generalize hn : x.boxes.length = n at *
  generalize hm : x.subs.length = m at *
  generalize hg : x.given = gv at *
  have HN := Lib.hid hn
  have HM := Lib.hid hm
  have HG := Lib.hid hg
  clear hn hm hg
  go_enter Try.func27, Try.ntmps27
  go_wp2_with fail
  have OX := Lib.hid ((Own.newAt w w.heap.size 29 [.slice A n c, .slice A' m c', .int .i64 gv] (by simp)).alloc (.cells #[.slice none 0 0, .slice none 0 0, .int .i64 0] 29))
  have OR := Lib.hid (Own.newAt (w.alloc (.cells #[.slice A n c, .slice A' m c', .int .i64 gv] 29)) (w.heap.size + 1) 29 [.slice none 0 0, .slice none 0 0, .int .i64 0] (by simp))
  have K := (((Kept.refl w).alloc (.cells #[.slice A n c, .slice A' m c', .int .i64 gv] 29)).alloc (.cells #[.slice none 0 0, .slice none 0 0, .int .i64 0] 29))
  generalize ((w.alloc (.cells #[.slice A n c, .slice A' m c', .int .i64 gv] 29)).alloc (.cells #[.slice none 0 0, .slice none 0 0, .int .i64 0] 29)) = w1 at *
  obtain ⟨cX0, cX1, cX2, fX0, fX1, fX2⟩ := OX.out.three
  obtain ⟨cR0, cR1, cR2, fR0, fR1, fR2⟩ := OR.out.three
  refine (rright_any x _ _ (HV.out.go K (Ext.nil _ _)) HOK.out HFEW.out).mono ?_
  rintro e w2 ⟨rfl, hk⟩
  clear cX0 cX1 cX2 fX0 fX1 fX2 cR0 cR1 cR2 fR0 fR1 fR2
  replace OX := Lib.hid (OX.out.kept hk)
  replace OR := Lib.hid (OR.out.kept hk)
  replace K := K.trans hk
  rw [HR.out]
  clear hk
  obtain ⟨cX0, cX1, cX2, fX0, fX1, fX2⟩ := OX.out.three
  obtain ⟨cR0, cR1, cR2, fR0, fR1, fR2⟩ := OR.out.three
  go_wp2_with fail
  refine (rname_any tn _ HNS.out).mono ?_
  rintro e _ ⟨rfl, rfl⟩
  rw [HNB.out]
  go_wp2_with fail
  refine (rfind_any x _ fr _ (HV.out.go K (Ext.nil _ _))).mono ?_
  rintro e w3 ⟨rfl, hk⟩
  clear cX0 cX1 cX2 fX0 fX1 fX2 cR0 cR1 cR2 fR0 fR1 fR2
  replace OX := Lib.hid (OX.out.kept hk)
  replace OR := Lib.hid (OR.out.kept hk)
  replace K := K.trans hk
  rw [HF.out, show ofO (some a) = (a : Int) from rfl]
  have a0 : (0 : Int) ≤ (a : Int) := by omega
  clear hk
  obtain ⟨cX0, cX1, cX2, fX0, fX1, fX2⟩ := OX.out.three
  obtain ⟨cR0, cR1, cR2, fR0, fR1, fR2⟩ := OR.out.three
  go_wp2_with fail
  refine (rfind_any x _ tn _ (HV.out.go K (Ext.nil _ _))).mono ?_
  rintro e w4 ⟨rfl, hk⟩
  clear cX0 cX1 cX2 fX0 fX1 fX2 cR0 cR1 cR2 fR0 fR1 fR2
  replace OX := Lib.hid (OX.out.kept hk)
  replace OR := Lib.hid (OR.out.kept hk)
  replace K := K.trans hk
  rw [HF2.out, show ofO none = -1 from rfl]
  clear hk
  obtain ⟨cX0, cX1, cX2, fX0, fX1, fX2⟩ := OX.out.three
  obtain ⟨cR0, cR1, cR2, fR0, fR1, fR2⟩ := OR.out.three
  obtain ⟨hgq, ⟨ps, hps, ⟨A5, c5, e5, _, _, hrow5⟩, hml5⟩, hst5⟩ := HV.out.parts
  simp only [Value.slice.injEq] at e5
  obtain ⟨e51, hpn, e52⟩ := e5
  subst e51 e52
  have HPS := Lib.hid hps
  have HPN := Lib.hid hpn.symm
  have HML := Lib.hid (show MlsAll V w ps from hml5)
  have HST := Lib.hid hst5
  have HR0 := Lib.hid (hrow5.go (Kept.refl _) (Ext.nil _ _))
  have HFP : Hid (∀ p ∈ ps, ∃ A n c, p.2 = .slice A n c) := fun p hp => by obtain ⟨A, c, e⟩ := (hml5 p hp).form; exact ⟨A, _, c, e⟩
  clear hps hpn hml5 hst5 hrow5 hgq
  obtain ⟨b, o, rfl, hb, _, hcs⟩ := HR0.out (by rw [bxs_length, HPN.out]; omega)
  have hpa : a < ps.length := by rw [HPN.out]; exact ha
  obtain ⟨g1, g2, g3, g4⟩ := bxs_at hpa
  replace g1 : w4.cell? ⟨b, o + a * 4, none⟩ = _ := (K.cell (p := ⟨b, o + a * 4, none⟩) hb).trans (hcs _ _ g1)
  replace g2 : w4.cell? ⟨b, o + a * 4 + 1, none⟩ = _ := (K.cell (p := ⟨b, o + a * 4 + 1, none⟩) hb).trans (hcs _ _ g2)
  replace g3 : w4.cell? ⟨b, o + a * 4 + 2, none⟩ = _ := (K.cell (p := ⟨b, o + a * 4 + 2, none⟩) hb).trans (hcs _ _ g3)
  replace g4 : w4.cell? ⟨b, o + a * 4 + 3, none⟩ = _ := (K.cell (p := ⟨b, o + a * 4 + 3, none⟩) hb).trans (hcs _ _ g4)
  have hpm := HML.out _ (List.getElem_mem hpa)
  obtain ⟨MA, mcc, hmv⟩ := hpm.form
  rw [hmv] at g4 hpm
  have hpx : ps[a].1 = bxAt x a := getElem_xAt HPS.out hpa
  rw [hpx] at g1 g2 g3 g4 hpm hmv
  have HPA : Hid (ps[a]'hpa = (bxAt x a, .slice MA (bxAt x a).mails.length mcc)) := Prod.ext hpx hmv
  have HPM := Lib.hid hpm
  clear hpm hpx hmv hcs
  have a1 : ((a : Nat) : Int) < (n : Int) := by omega
  have HMB : Hid (∀ nm' : ByteArray, reName (bxAt x a) nm' = ⟨nm', (bxAt x a).val, (bxAt x a).next, (bxAt x a).mails⟩) := fun _ => rfl
  have HWB : Hid (withMails (bxAt x a) [] = ⟨(bxAt x a).name, (bxAt x a).val, (bxAt x a).next, []⟩) := rfl
  have HMV : Hid (∀ nm' : ByteArray, movBx x nm' = ⟨nm', x.given, (bxAt x 0).next, (bxAt x 0).mails⟩) := fun _ => rfl
  obtain ⟨bn, hbn⟩ : ∃ s, (bxAt x a).name = s := ⟨_, rfl⟩
  rw [hbn] at g1 HWB
  have HBN := Lib.hid hbn
  clear hbn
  generalize (bxAt x a).val = bv at *
  generalize (bxAt x a).next = bt at *
  generalize (bxAt x a).mails = bml at *
  generalize hmn : bml.length = mn at *
  have HMN := Lib.hid hmn
  clear hmn
  have ag : (0 : Int) < (a : Int) := by omega
  have zX4 := OX.out.lt
  have zR4 := OR.out.lt
  have zK4 := K.size
  go_upto_region 9 with fail
  clear cX0 cX1 cX2 fX0 fX1 fX2 cR0 cR1 cR2 fR0 fR1 fR2
  replace OX := Lib.hid (OX.out.alloc (.cells #[.string bn, .int .i64 bv, .int .i64 bt, .slice MA mn mcc] 43))
  replace OR := Lib.hid (OR.out.alloc (.cells #[.string bn, .int .i64 bv, .int .i64 bt, .slice MA mn mcc] 43))
  have OB := Lib.hid (Own.new w4 43 [.string bn, .int .i64 bv, .int .i64 bt, .slice MA mn mcc])
  replace K := K.alloc (.cells #[.string bn, .int .i64 bv, .int .i64 bt, .slice MA mn mcc] 43)
  generalize (w4.alloc (.cells #[.string bn, .int .i64 bv, .int .i64 bt, .slice MA mn mcc] 43)) = w5 at *
  skip
  generalize w4.heap.size = gB at *
  clear g1 g2 g3 g4
  obtain ⟨cX0, cX1, cX2, fX0, fX1, fX2⟩ := OX.out.three
  obtain ⟨cR0, cR1, cR2, fR0, fR1, fR2⟩ := OR.out.three
  have cB0 := OB.out.cell? 0
  have fB0 := OB.out.frozen 0
  have cB1 := OB.out.cell? 1
  have fB1 := OB.out.frozen 1
  have cB2 := OB.out.cell? 2
  have fB2 := OB.out.frozen 2
  have cB3 := OB.out.cell? 3
  have fB3 := OB.out.frozen 3
  simp only [List.getElem?_cons_zero, List.getElem?_cons_succ] at cB0 cB1 cB2 cB3
  go_upto_region 11 with fail
  clear cX0 cX1 cX2 fX0 fX1 fX2 cR0 cR1 cR2 fR0 fR1 fR2 cB0 cB1 cB2 cB3 fB0 fB1 fB2 fB3
  replace OX : Hid (Own (w5.setCell ⟨gB, 0, none⟩ (.string tn)) w.heap.size 29 [.slice (some ⟨b, o, none⟩) n c, .slice A' m c', .int .i64 gv]) := Lib.hid (OX.out.far (p := ⟨gB, 0, none⟩) (by first | omega | (simp; omega) | simp) (.string tn))
  replace OR : Hid (Own (w5.setCell ⟨gB, 0, none⟩ (.string tn)) (w.heap.size + 1) 29 [.slice none 0 0, .slice none 0 0, .int .i64 0]) := Lib.hid (OR.out.far (p := ⟨gB, 0, none⟩) (by first | omega | (simp; omega) | simp) (.string tn))
  replace OB : Hid (Own (w5.setCell ⟨gB, 0, none⟩ (.string tn)) gB 43 [.string tn, .int .i64 bv, .int .i64 bt, .slice MA mn mcc]) := Lib.hid (OB.out.set_ 0 (.string tn))
  replace K := (K.setCell (p := ⟨gB, 0, none⟩) (by first | exact Nat.le_refl _ | (simp only []; omega) | simp) (.string tn))
  generalize (w5.setCell ⟨gB, 0, none⟩ (.string tn)) = w6 at *
  obtain ⟨cX0, cX1, cX2, fX0, fX1, fX2⟩ := OX.out.three
  obtain ⟨cR0, cR1, cR2, fR0, fR1, fR2⟩ := OR.out.three
  have cB0 := OB.out.cell? 0
  have fB0 := OB.out.frozen 0
  have cB1 := OB.out.cell? 1
  have fB1 := OB.out.frozen 1
  have cB2 := OB.out.cell? 2
  have fB2 := OB.out.frozen 2
  have cB3 := OB.out.cell? 3
  have fB3 := OB.out.frozen 3
  simp only [List.getElem?_cons_zero, List.getElem?_cons_succ] at cB0 cB1 cB2 cB3
  go_wp2_with fail
  have HLS : Hid ((ps.set a ((⟨tn, bv, bt, bml⟩ : Bx), Value.slice MA mn mcc)).length = n) := by show _ = _; rw [List.length_set, HPN.out]
  have HST2 : Hid (sortTo (ps.set a ((⟨tn, bv, bt, bml⟩ : Bx), Value.slice MA mn mcc)) n = insB (ps.eraseIdx a) ((⟨tn, bv, bt, bml⟩ : Bx), Value.slice MA mn mcc)) := by
    show _ = _
    have := ren_sort (p := ((⟨tn, bv, bt, bml⟩ : Bx), Value.slice MA mn mcc)) HR.out HPS.out HF2.out (by omega) hpa
    rwa [HLS.out] at this
  have HI := turned_any ((w.heap.size + 1) :: V) ps (ps.set a ((⟨tn, bv, bt, bml⟩ : Bx), Value.slice MA mn mcc)) (some ⟨b, o, none⟩) n c A' m c' gv a ⟨tn, bv, bt, bml⟩ MA mn mcc w6 (Old.cons OR.out.lt (HOV.out.go K)) HPN.out (by omega) (by unfold maxLen; omega) (by omega) (HR0.out.kept K) HFP.out rfl
  unfold TurnPost at HI
  rw [HLS.out, HST2.out] at HI
  replace HI := Lib.hid HI
  refine (HI.out).mono ?_
  rintro e w7 ⟨A6, c6, rfl, hq1, hq2, hq3, hk⟩
  clear cX0 cX1 cX2 fX0 fX1 fX2 cR0 cR1 cR2 fR0 fR1 fR2 cB0 cB1 cB2 cB3 fB0 fB1 fB2 fB3
  replace OX := Lib.hid (OX.out.kept hk)
  replace OR := Lib.hid (OR.out.kept hk)
  replace OB := Lib.hid (OB.out.kept hk)
  replace K := K.trans hk
  have HS6 := Lib.hid hq3
  have HC6 := Lib.hid hq2
  clear hq3 hq2 HI
  clear hk
  obtain ⟨cX0, cX1, cX2, fX0, fX1, fX2⟩ := OX.out.three
  obtain ⟨cR0, cR1, cR2, fR0, fR1, fR2⟩ := OR.out.three
  have cB0 := OB.out.cell? 0
  have fB0 := OB.out.frozen 0
  have cB1 := OB.out.cell? 1
  have fB1 := OB.out.frozen 1
  have cB2 := OB.out.cell? 2
  have fB2 := OB.out.frozen 2
  have cB3 := OB.out.cell? 3
  have fB3 := OB.out.frozen 3
  simp only [List.getElem?_cons_zero, List.getElem?_cons_succ] at cB0 cB1 cB2 cB3
  go_wp2
  clear cX0 cX1 cX2 fX0 fX1 fX2 cR0 cR1 cR2 fR0 fR1 fR2 cB0 cB1 cB2 cB3 fB0 fB1 fB2 fB3
  replace OX : Hid (Own (((w7.setCell ⟨(w.heap.size + 1), 0, none⟩ (.slice A6 n c6)).setCell ⟨(w.heap.size + 1), 1, none⟩ (.slice A' m c')).setCell ⟨(w.heap.size + 1), 2, none⟩ (.int .i64 gv)) w.heap.size 29 [.slice (some ⟨b, o, none⟩) n c, .slice A' m c', .int .i64 gv]) := Lib.hid (((OX.out.far (p := ⟨(w.heap.size + 1), 0, none⟩) (by first | omega | (simp; omega) | simp) (.slice A6 n c6)).far (p := ⟨(w.heap.size + 1), 1, none⟩) (by first | omega | (simp; omega) | simp) (.slice A' m c')).far (p := ⟨(w.heap.size + 1), 2, none⟩) (by first | omega | (simp; omega) | simp) (.int .i64 gv))
  replace OR : Hid (Own (((w7.setCell ⟨(w.heap.size + 1), 0, none⟩ (.slice A6 n c6)).setCell ⟨(w.heap.size + 1), 1, none⟩ (.slice A' m c')).setCell ⟨(w.heap.size + 1), 2, none⟩ (.int .i64 gv)) (w.heap.size + 1) 29 [.slice A6 n c6, .slice A' m c', .int .i64 gv]) := Lib.hid (((OR.out.set_ 0 (.slice A6 n c6)).set_ 1 (.slice A' m c')).set_ 2 (.int .i64 gv))
  replace OB : Hid (Own (((w7.setCell ⟨(w.heap.size + 1), 0, none⟩ (.slice A6 n c6)).setCell ⟨(w.heap.size + 1), 1, none⟩ (.slice A' m c')).setCell ⟨(w.heap.size + 1), 2, none⟩ (.int .i64 gv)) gB 43 [.string tn, .int .i64 bv, .int .i64 bt, .slice MA mn mcc]) := Lib.hid (((OB.out.far (p := ⟨(w.heap.size + 1), 0, none⟩) (by first | omega | (simp; omega) | simp) (.slice A6 n c6)).far (p := ⟨(w.heap.size + 1), 1, none⟩) (by first | omega | (simp; omega) | simp) (.slice A' m c')).far (p := ⟨(w.heap.size + 1), 2, none⟩) (by first | omega | (simp; omega) | simp) (.int .i64 gv))
  replace HS6 := Lib.hid (((HS6.out.put (p := ⟨(w.heap.size + 1), 0, none⟩) (by simp) (.slice A6 n c6)).put (p := ⟨(w.heap.size + 1), 1, none⟩) (by simp) (.slice A' m c')).put (p := ⟨(w.heap.size + 1), 2, none⟩) (by simp) (.int .i64 gv))
  replace K := (((K.setCell (p := ⟨(w.heap.size + 1), 0, none⟩) (by first | exact Nat.le_refl _ | (simp only []; omega) | simp) (.slice A6 n c6)).setCell (p := ⟨(w.heap.size + 1), 1, none⟩) (by first | exact Nat.le_refl _ | (simp only []; omega) | simp) (.slice A' m c')).setCell (p := ⟨(w.heap.size + 1), 2, none⟩) (by first | exact Nat.le_refl _ | (simp only []; omega) | simp) (.int .i64 gv))
  generalize (((w7.setCell ⟨(w.heap.size + 1), 0, none⟩ (.slice A6 n c6)).setCell ⟨(w.heap.size + 1), 1, none⟩ (.slice A' m c')).setCell ⟨(w.heap.size + 1), 2, none⟩ (.int .i64 gv)) = w8 at *
  obtain ⟨cX0, cX1, cX2, fX0, fX1, fX2⟩ := OX.out.three
  obtain ⟨cR0, cR1, cR2, fR0, fR1, fR2⟩ := OR.out.three
  have cB0 := OB.out.cell? 0
  have fB0 := OB.out.frozen 0
  have cB1 := OB.out.cell? 1
  have fB1 := OB.out.frozen 1
  have cB2 := OB.out.cell? 2
  have fB2 := OB.out.frozen 2
  have cB3 := OB.out.cell? 3
  have fB3 := OB.out.frozen 3
  simp only [List.getElem?_cons_zero, List.getElem?_cons_succ] at cB0 cB1 cB2 cB3
  refine bodyPost_ret (v := .tuple #[.agg #[.slice A6 n c6, .slice A' m c', .int .i64 gv], .int .i64 0]) (by simp [results, Try.results27, go_sem, cR0, cR1, cR2]) rfl ?_
  refine ⟨_, by rw [HEX.out], ?_, K⟩
  rw [HEX.out]
  refine ix_of_Row (qs := insB (ps.eraseIdx a) ((⟨tn, bv, bt, bml⟩ : Bx), Value.slice MA mn mcc)) (by rw [insB_map, map_erase, HPS.out, HMB.out]) (by rw [← HST2.out, ← HLS.out, sortTo_len]) hq1 HC6.out (HS6.out.go (Kept.refl _) (fun k hk => .inl (List.mem_cons_of_mem _ hk))) (fun p hp => ?_) (HST.out.go K (Ext.refl _ _)) rfl
  unfold insB at hp
  rcases List.mem_append.1 hp with hp | hp
  · exact (HML.out p (List.mem_of_mem_eraseIdx (List.mem_of_mem_take hp))).go K (Ext.refl _ _)
  · rcases List.mem_cons.1 hp with rfl | hp
    · exact HPM.out.go K (Ext.refl _ _)
    · exact (HML.out p (List.mem_of_mem_eraseIdx (List.mem_of_mem_drop hp))).go K (Ext.refl _ _)

set_option maxRecDepth 100000 in
set_option maxHeartbeats 1000000 in
theorem rren_mno (V : List Nat) (x : Ix) (v : Value) (fr tn : ByteArray) (w : World) (hV : Old V w) (h : IxAt V w v x) (hok : IxOk x) (hfew : Few x) (hr : rightB x = true) (hnb : nameB tn = true) (hns : tn.size ≤ maxLen) (hf : findX x fr = some 0) (hf2 : findX x tn = none) (he : nmEq fr inbox = true) (ha : 0 < x.boxes.length) (hl : x.boxes.length ≤ 6) (hcr : creR x tn = (ix0, 5)) (hmv : movR x tn = (ix0, 5)) :
    Calls Try.prog 27 #[v, .string fr, .string tn] w (IxPost V (renR x fr tn) w) := by
  have HEX : Hid (renR x fr tn = (ix0, 5)) := by
    show _ = _
    unfold renR; rw [hr, hnb, hf, hf2, he]; exact hmv
  have HV := Lib.hid h
  have HOV := Lib.hid hV
  have HOK := Lib.hid hok
  have HFEW := Lib.hid hfew
  have HR := Lib.hid hr
  have HNB := Lib.hid hnb
  have HNS := Lib.hid hns
  have HF := Lib.hid hf
  have HF2 := Lib.hid hf2
  have HE := Lib.hid he
  have HCR := Lib.hid hcr
  obtain ⟨A, c, A', c', rfl, hc1, hc2, hc3, hc4, hbx, hrow⟩ := (h.weak (U := []) (fun _ hk => by cases hk)).open_
  have HROW := Lib.hid hrow
  clear hbx hrow h hok hV hfew hr hnb hns hf hf2 he hcr
  unfold maxLen at hc2 hc4
  generalize hn : x.boxes.length = n at *
  generalize hm : x.subs.length = m at *
  generalize hg : x.given = gv at *
  have HN := Lib.hid hn
  have HM := Lib.hid hm
  have HG := Lib.hid hg
  clear hn hm hg
  go_enter Try.func27, Try.ntmps27
  go_wp2_with fail
  have OX := Lib.hid ((Own.newAt w w.heap.size 29 [.slice A n c, .slice A' m c', .int .i64 gv] (by simp)).alloc (.cells #[.slice none 0 0, .slice none 0 0, .int .i64 0] 29))
  have OR := Lib.hid (Own.newAt (w.alloc (.cells #[.slice A n c, .slice A' m c', .int .i64 gv] 29)) (w.heap.size + 1) 29 [.slice none 0 0, .slice none 0 0, .int .i64 0] (by simp))
  have K := (((Kept.refl w).alloc (.cells #[.slice A n c, .slice A' m c', .int .i64 gv] 29)).alloc (.cells #[.slice none 0 0, .slice none 0 0, .int .i64 0] 29))
  generalize ((w.alloc (.cells #[.slice A n c, .slice A' m c', .int .i64 gv] 29)).alloc (.cells #[.slice none 0 0, .slice none 0 0, .int .i64 0] 29)) = w1 at *
  obtain ⟨cX0, cX1, cX2, fX0, fX1, fX2⟩ := OX.out.three
  obtain ⟨cR0, cR1, cR2, fR0, fR1, fR2⟩ := OR.out.three
  refine (rright_any x _ _ (HV.out.go K (Ext.nil _ _)) HOK.out HFEW.out).mono ?_
  rintro e w2 ⟨rfl, hk⟩
  clear cX0 cX1 cX2 fX0 fX1 fX2 cR0 cR1 cR2 fR0 fR1 fR2
  replace OX := Lib.hid (OX.out.kept hk)
  replace OR := Lib.hid (OR.out.kept hk)
  replace K := K.trans hk
  rw [HR.out]
  clear hk
  obtain ⟨cX0, cX1, cX2, fX0, fX1, fX2⟩ := OX.out.three
  obtain ⟨cR0, cR1, cR2, fR0, fR1, fR2⟩ := OR.out.three
  go_wp2_with fail
  refine (rname_any tn _ HNS.out).mono ?_
  rintro e _ ⟨rfl, rfl⟩
  rw [HNB.out]
  go_wp2_with fail
  refine (rfind_any x _ fr _ (HV.out.go K (Ext.nil _ _))).mono ?_
  rintro e w3 ⟨rfl, hk⟩
  clear cX0 cX1 cX2 fX0 fX1 fX2 cR0 cR1 cR2 fR0 fR1 fR2
  replace OX := Lib.hid (OX.out.kept hk)
  replace OR := Lib.hid (OR.out.kept hk)
  replace K := K.trans hk
  rw [HF.out, show ofO (some 0) = (0 : Int) from rfl]
  clear hk
  obtain ⟨cX0, cX1, cX2, fX0, fX1, fX2⟩ := OX.out.three
  obtain ⟨cR0, cR1, cR2, fR0, fR1, fR2⟩ := OR.out.three
  go_wp2_with fail
  refine (rfind_any x _ tn _ (HV.out.go K (Ext.nil _ _))).mono ?_
  rintro e w4 ⟨rfl, hk⟩
  clear cX0 cX1 cX2 fX0 fX1 fX2 cR0 cR1 cR2 fR0 fR1 fR2
  replace OX := Lib.hid (OX.out.kept hk)
  replace OR := Lib.hid (OR.out.kept hk)
  replace K := K.trans hk
  rw [HF2.out, show ofO none = -1 from rfl]
  clear hk
  obtain ⟨cX0, cX1, cX2, fX0, fX1, fX2⟩ := OX.out.three
  obtain ⟨cR0, cR1, cR2, fR0, fR1, fR2⟩ := OR.out.three
  obtain ⟨hgq, ⟨ps, hps, ⟨A5, c5, e5, _, _, hrow5⟩, hml5⟩, hst5⟩ := HV.out.parts
  simp only [Value.slice.injEq] at e5
  obtain ⟨e51, hpn, e52⟩ := e5
  subst e51 e52
  have HPS := Lib.hid hps
  have HPN := Lib.hid hpn.symm
  have HML := Lib.hid (show MlsAll V w ps from hml5)
  have HST := Lib.hid hst5
  have HR0 := Lib.hid (hrow5.go (Kept.refl _) (Ext.nil _ _))
  have HFP : Hid (∀ p ∈ ps, ∃ A n c, p.2 = .slice A n c) := fun p hp => by obtain ⟨A, c, e⟩ := (hml5 p hp).form; exact ⟨A, _, c, e⟩
  clear hps hpn hml5 hst5 hrow5 hgq
  obtain ⟨b, o, rfl, hb, _, hcs⟩ := HR0.out (by rw [bxs_length, HPN.out]; omega)
  have hpa : 0 < ps.length := by rw [HPN.out]; exact ha
  obtain ⟨g1, g2, g3, g4⟩ := bxs_at hpa
  replace g1 : w4.cell? ⟨b, o + 0 * 4, none⟩ = _ := (K.cell (p := ⟨b, o + 0 * 4, none⟩) hb).trans (hcs _ _ g1)
  replace g2 : w4.cell? ⟨b, o + 0 * 4 + 1, none⟩ = _ := (K.cell (p := ⟨b, o + 0 * 4 + 1, none⟩) hb).trans (hcs _ _ g2)
  replace g3 : w4.cell? ⟨b, o + 0 * 4 + 2, none⟩ = _ := (K.cell (p := ⟨b, o + 0 * 4 + 2, none⟩) hb).trans (hcs _ _ g3)
  replace g4 : w4.cell? ⟨b, o + 0 * 4 + 3, none⟩ = _ := (K.cell (p := ⟨b, o + 0 * 4 + 3, none⟩) hb).trans (hcs _ _ g4)
  have hpm := HML.out _ (List.getElem_mem hpa)
  obtain ⟨MA, mcc, hmv⟩ := hpm.form
  rw [hmv] at g4 hpm
  have hpx : ps[0].1 = bxAt x 0 := getElem_xAt HPS.out hpa
  rw [hpx] at g1 g2 g3 g4 hpm hmv
  have HPA : Hid (ps[0]'hpa = (bxAt x 0, .slice MA (bxAt x 0).mails.length mcc)) := Prod.ext hpx hmv
  have HPM := Lib.hid hpm
  clear hpm hpx hmv hcs
  have a1 : ((0 : Nat) : Int) < (n : Int) := by omega
  have HMB : Hid (∀ nm' : ByteArray, reName (bxAt x 0) nm' = ⟨nm', (bxAt x 0).val, (bxAt x 0).next, (bxAt x 0).mails⟩) := fun _ => rfl
  have HWB : Hid (withMails (bxAt x 0) [] = ⟨(bxAt x 0).name, (bxAt x 0).val, (bxAt x 0).next, []⟩) := rfl
  have HMV : Hid (∀ nm' : ByteArray, movBx x nm' = ⟨nm', x.given, (bxAt x 0).next, (bxAt x 0).mails⟩) := fun _ => rfl
  obtain ⟨bn, hbn⟩ : ∃ s, (bxAt x 0).name = s := ⟨_, rfl⟩
  rw [hbn] at g1 HWB
  have HBN := Lib.hid hbn
  clear hbn
  generalize (bxAt x 0).val = bv at *
  generalize (bxAt x 0).next = bt at *
  generalize (bxAt x 0).mails = bml at *
  generalize hmn : bml.length = mn at *
  have HMN := Lib.hid hmn
  clear hmn
  simp only [Nat.zero_mul, Nat.add_zero] at g1 g2 g3 g4
  have n00 : (0 : Int) < (n : Int) := by omega
  have zX4 := OX.out.lt
  have zR4 := OR.out.lt
  have zK4 := K.size
  go_upto_region 9 with fail
  have hgB0 : w.heap.size ≤ w4.heap.size := K.size
  clear cX0 cX1 cX2 fX0 fX1 fX2 cR0 cR1 cR2 fR0 fR1 fR2
  replace OX := Lib.hid (OX.out.alloc (.cells #[.string bn, .int .i64 bv, .int .i64 bt, .slice MA mn mcc] 43))
  replace OR := Lib.hid (OR.out.alloc (.cells #[.string bn, .int .i64 bv, .int .i64 bt, .slice MA mn mcc] 43))
  have OB := Lib.hid (Own.new w4 43 [.string bn, .int .i64 bv, .int .i64 bt, .slice MA mn mcc])
  replace K := K.alloc (.cells #[.string bn, .int .i64 bv, .int .i64 bt, .slice MA mn mcc] 43)
  generalize (w4.alloc (.cells #[.string bn, .int .i64 bv, .int .i64 bt, .slice MA mn mcc] 43)) = w5 at *
  generalize w4.heap.size = gB at *
  clear g1 g2 g3 g4
  have zX5 := OX.out.lt
  have zR5 := OR.out.lt
  have zB5 := OB.out.lt
  have zK5 := K.size
  obtain ⟨cX0, cX1, cX2, fX0, fX1, fX2⟩ := OX.out.three
  obtain ⟨cR0, cR1, cR2, fR0, fR1, fR2⟩ := OR.out.three
  have cB0 := OB.out.cell? 0
  have fB0 := OB.out.frozen 0
  have cB1 := OB.out.cell? 1
  have fB1 := OB.out.frozen 1
  have cB2 := OB.out.cell? 2
  have fB2 := OB.out.frozen 2
  have cB3 := OB.out.cell? 3
  have fB3 := OB.out.frozen 3
  simp only [List.getElem?_cons_zero, List.getElem?_cons_succ] at cB0 cB1 cB2 cB3
  go_wp2_with fail
  refine (rcre_any ((w.heap.size + 1) :: gB :: V) x _ tn w5 (Old.cons OR.out.lt (Old.cons OB.out.lt (HOV.out.go K))) (HV.out.go K (Ext.cons (by omega) (Ext.cons (by omega) (Ext.refl _ _)))) HOK.out HFEW.out HNS.out).mono ?_
  rintro e w6 ⟨v2, rfl, hx2, hk⟩
  clear cX0 cX1 cX2 fX0 fX1 fX2 cR0 cR1 cR2 fR0 fR1 fR2 cB0 cB1 cB2 cB3 fB0 fB1 fB2 fB3
  replace OX := Lib.hid (OX.out.kept hk)
  replace OR := Lib.hid (OR.out.kept hk)
  replace OB := Lib.hid (OB.out.kept hk)
  replace K := K.trans hk
  rw [HCR.out] at hx2 ⊢
  dsimp only at hx2 ⊢
  obtain ⟨A2, c2, A3, c3, rfl⟩ := hx2.form
  simp only [show ix0.boxes.length = 0 from rfl, show ix0.subs.length = 0 from rfl, show ix0.given = 0 from rfl]
  clear hx2
  clear hk
  have zX6 := OX.out.lt
  have zR6 := OR.out.lt
  have zB6 := OB.out.lt
  have zK6 := K.size
  obtain ⟨cX0, cX1, cX2, fX0, fX1, fX2⟩ := OX.out.three
  obtain ⟨cR0, cR1, cR2, fR0, fR1, fR2⟩ := OR.out.three
  have cB0 := OB.out.cell? 0
  have fB0 := OB.out.frozen 0
  have cB1 := OB.out.cell? 1
  have fB1 := OB.out.frozen 1
  have cB2 := OB.out.cell? 2
  have fB2 := OB.out.frozen 2
  have cB3 := OB.out.cell? 3
  have fB3 := OB.out.frozen 3
  simp only [List.getElem?_cons_zero, List.getElem?_cons_succ] at cB0 cB1 cB2 cB3
  go_wp2
  clear cX0 cX1 cX2 fX0 fX1 fX2 cR0 cR1 cR2 fR0 fR1 fR2 cB0 cB1 cB2 cB3 fB0 fB1 fB2 fB3
  replace OX : Hid (Own (((w6.setCell ⟨(w.heap.size + 1), 0, none⟩ (.slice none 0 0)).setCell ⟨(w.heap.size + 1), 1, none⟩ (.slice none 0 0)).setCell ⟨(w.heap.size + 1), 2, none⟩ (.int .i64 0)) w.heap.size 29 [.slice (some ⟨b, o, none⟩) n c, .slice A' m c', .int .i64 gv]) := Lib.hid (((OX.out.far (p := ⟨(w.heap.size + 1), 0, none⟩) (by first | omega | (simp; omega) | simp) (.slice none 0 0)).far (p := ⟨(w.heap.size + 1), 1, none⟩) (by first | omega | (simp; omega) | simp) (.slice none 0 0)).far (p := ⟨(w.heap.size + 1), 2, none⟩) (by first | omega | (simp; omega) | simp) (.int .i64 0))
  replace OR : Hid (Own (((w6.setCell ⟨(w.heap.size + 1), 0, none⟩ (.slice none 0 0)).setCell ⟨(w.heap.size + 1), 1, none⟩ (.slice none 0 0)).setCell ⟨(w.heap.size + 1), 2, none⟩ (.int .i64 0)) (w.heap.size + 1) 29 [.slice none 0 0, .slice none 0 0, .int .i64 0]) := Lib.hid (((OR.out.set_ 0 (.slice none 0 0)).set_ 1 (.slice none 0 0)).set_ 2 (.int .i64 0))
  replace OB : Hid (Own (((w6.setCell ⟨(w.heap.size + 1), 0, none⟩ (.slice none 0 0)).setCell ⟨(w.heap.size + 1), 1, none⟩ (.slice none 0 0)).setCell ⟨(w.heap.size + 1), 2, none⟩ (.int .i64 0)) gB 43 [.string bn, .int .i64 bv, .int .i64 bt, .slice MA mn mcc]) := Lib.hid (((OB.out.far (p := ⟨(w.heap.size + 1), 0, none⟩) (by first | omega | (simp; omega) | simp) (.slice none 0 0)).far (p := ⟨(w.heap.size + 1), 1, none⟩) (by first | omega | (simp; omega) | simp) (.slice none 0 0)).far (p := ⟨(w.heap.size + 1), 2, none⟩) (by first | omega | (simp; omega) | simp) (.int .i64 0))
  replace K := (((K.setCell (p := ⟨(w.heap.size + 1), 0, none⟩) (by first | exact Nat.le_refl _ | (simp only []; omega) | simp) (.slice none 0 0)).setCell (p := ⟨(w.heap.size + 1), 1, none⟩) (by first | exact Nat.le_refl _ | (simp only []; omega) | simp) (.slice none 0 0)).setCell (p := ⟨(w.heap.size + 1), 2, none⟩) (by first | exact Nat.le_refl _ | (simp only []; omega) | simp) (.int .i64 0))
  generalize (((w6.setCell ⟨(w.heap.size + 1), 0, none⟩ (.slice none 0 0)).setCell ⟨(w.heap.size + 1), 1, none⟩ (.slice none 0 0)).setCell ⟨(w.heap.size + 1), 2, none⟩ (.int .i64 0)) = w7 at *
  replace OX := Lib.hid (OX.out.alloc (.cells #[.slice A2 0 c2, .slice A3 0 c3, .int .i64 0] 29))
  replace OR := Lib.hid (OR.out.alloc (.cells #[.slice A2 0 c2, .slice A3 0 c3, .int .i64 0] 29))
  replace OB := Lib.hid (OB.out.alloc (.cells #[.slice A2 0 c2, .slice A3 0 c3, .int .i64 0] 29))
  have OY := Lib.hid (Own.new w7 29 [.slice A2 0 c2, .slice A3 0 c3, .int .i64 0])
  replace K := K.alloc (.cells #[.slice A2 0 c2, .slice A3 0 c3, .int .i64 0] 29)
  generalize (w7.alloc (.cells #[.slice A2 0 c2, .slice A3 0 c3, .int .i64 0] 29)) = w8 at *
  obtain ⟨cR0, cR1, cR2, fR0, fR1, fR2⟩ := OR.out.three
  refine bodyPost_ret (v := .tuple #[.agg #[.slice none 0 0, .slice none 0 0, .int .i64 0], .int .i64 5]) (by simp [results, Try.results27, go_sem, cR0, cR1, cR2]) rfl ?_
  exact ⟨_, by rw [HEX.out], by rw [HEX.out]; exact ixAt_nil _ _, K⟩

set_option maxRecDepth 100000 in
set_option maxHeartbeats 4000000 in
theorem rren_mov (V : List Nat) (x : Ix) (v : Value) (fr tn : ByteArray) (w : World) (hV : Old V w) (h : IxAt V w v x) (hok : IxOk x) (hfew : Few x) (hr : rightB x = true) (hnb : nameB tn = true) (hns : tn.size ≤ maxLen) (hf : findX x fr = some 0) (hf2 : findX x tn = none) (he : nmEq fr inbox = true) (ha : 0 < x.boxes.length) (hl : x.boxes.length ≤ 6) (hcr : creR x tn = (⟨insX x.boxes ⟨tn, x.given, 1, []⟩, x.subs, x.given + 1⟩, 0)) (hmv : movR x tn = (movIx x tn, 0)) (hl5 : x.boxes.length ≤ 5) (hgl : x.given < 4294967295) (hg1 : 1 ≤ x.given) :
    Calls Try.prog 27 #[v, .string fr, .string tn] w (IxPost V (renR x fr tn) w) := by
  have HEX : Hid (renR x fr tn = (movIx x tn, 0)) := by
    show _ = _
    unfold renR; rw [hr, hnb, hf, hf2, he]; exact hmv
  have HV := Lib.hid h
  have HOV := Lib.hid hV
  have HOK := Lib.hid hok
  have HFEW := Lib.hid hfew
  have HR := Lib.hid hr
  have HNB := Lib.hid hnb
  have HNS := Lib.hid hns
  have HF := Lib.hid hf
  have HF2 := Lib.hid hf2
  have HE := Lib.hid he
  have HCR := Lib.hid hcr
  have HL5 := Lib.hid hl5
  have HGL := Lib.hid hgl
  obtain ⟨A, c, A', c', rfl, hc1, hc2, hc3, hc4, hbx, hrow⟩ := (h.weak (U := []) (fun _ hk => by cases hk)).open_
  have HROW := Lib.hid hrow
  clear hbx hrow h hok hV hfew hr hnb hns hf hf2 he hcr hl5 hgl
  unfold maxLen at hc2 hc4
  generalize hn : x.boxes.length = n at *
  generalize hm : x.subs.length = m at *
  generalize hg : x.given = gv at *
  have HN := Lib.hid hn
  have HM := Lib.hid hm
  have HG := Lib.hid hg
  clear hn hm hg
  go_enter Try.func27, Try.ntmps27
  go_wp2_with fail
  have OX := Lib.hid ((Own.newAt w w.heap.size 29 [.slice A n c, .slice A' m c', .int .i64 gv] (by simp)).alloc (.cells #[.slice none 0 0, .slice none 0 0, .int .i64 0] 29))
  have OR := Lib.hid (Own.newAt (w.alloc (.cells #[.slice A n c, .slice A' m c', .int .i64 gv] 29)) (w.heap.size + 1) 29 [.slice none 0 0, .slice none 0 0, .int .i64 0] (by simp))
  have K := (((Kept.refl w).alloc (.cells #[.slice A n c, .slice A' m c', .int .i64 gv] 29)).alloc (.cells #[.slice none 0 0, .slice none 0 0, .int .i64 0] 29))
  generalize ((w.alloc (.cells #[.slice A n c, .slice A' m c', .int .i64 gv] 29)).alloc (.cells #[.slice none 0 0, .slice none 0 0, .int .i64 0] 29)) = w1 at *
  obtain ⟨cX0, cX1, cX2, fX0, fX1, fX2⟩ := OX.out.three
  obtain ⟨cR0, cR1, cR2, fR0, fR1, fR2⟩ := OR.out.three
  refine (rright_any x _ _ (HV.out.go K (Ext.nil _ _)) HOK.out HFEW.out).mono ?_
  rintro e w2 ⟨rfl, hk⟩
  clear cX0 cX1 cX2 fX0 fX1 fX2 cR0 cR1 cR2 fR0 fR1 fR2
  replace OX := Lib.hid (OX.out.kept hk)
  replace OR := Lib.hid (OR.out.kept hk)
  replace K := K.trans hk
  rw [HR.out]
  clear hk
  obtain ⟨cX0, cX1, cX2, fX0, fX1, fX2⟩ := OX.out.three
  obtain ⟨cR0, cR1, cR2, fR0, fR1, fR2⟩ := OR.out.three
  go_wp2_with fail
  refine (rname_any tn _ HNS.out).mono ?_
  rintro e _ ⟨rfl, rfl⟩
  rw [HNB.out]
  go_wp2_with fail
  refine (rfind_any x _ fr _ (HV.out.go K (Ext.nil _ _))).mono ?_
  rintro e w3 ⟨rfl, hk⟩
  clear cX0 cX1 cX2 fX0 fX1 fX2 cR0 cR1 cR2 fR0 fR1 fR2
  replace OX := Lib.hid (OX.out.kept hk)
  replace OR := Lib.hid (OR.out.kept hk)
  replace K := K.trans hk
  rw [HF.out, show ofO (some 0) = (0 : Int) from rfl]
  clear hk
  obtain ⟨cX0, cX1, cX2, fX0, fX1, fX2⟩ := OX.out.three
  obtain ⟨cR0, cR1, cR2, fR0, fR1, fR2⟩ := OR.out.three
  go_wp2_with fail
  refine (rfind_any x _ tn _ (HV.out.go K (Ext.nil _ _))).mono ?_
  rintro e w4 ⟨rfl, hk⟩
  clear cX0 cX1 cX2 fX0 fX1 fX2 cR0 cR1 cR2 fR0 fR1 fR2
  replace OX := Lib.hid (OX.out.kept hk)
  replace OR := Lib.hid (OR.out.kept hk)
  replace K := K.trans hk
  rw [HF2.out, show ofO none = -1 from rfl]
  clear hk
  obtain ⟨cX0, cX1, cX2, fX0, fX1, fX2⟩ := OX.out.three
  obtain ⟨cR0, cR1, cR2, fR0, fR1, fR2⟩ := OR.out.three
  obtain ⟨hgq, ⟨ps, hps, ⟨A5, c5, e5, _, _, hrow5⟩, hml5⟩, hst5⟩ := HV.out.parts
  simp only [Value.slice.injEq] at e5
  obtain ⟨e51, hpn, e52⟩ := e5
  subst e51 e52
  have HPS := Lib.hid hps
  have HPN := Lib.hid hpn.symm
  have HML := Lib.hid (show MlsAll V w ps from hml5)
  have HST := Lib.hid hst5
  have HR0 := Lib.hid (hrow5.go (Kept.refl _) (Ext.nil _ _))
  have HFP : Hid (∀ p ∈ ps, ∃ A n c, p.2 = .slice A n c) := fun p hp => by obtain ⟨A, c, e⟩ := (hml5 p hp).form; exact ⟨A, _, c, e⟩
  clear hps hpn hml5 hst5 hrow5 hgq
  obtain ⟨b, o, rfl, hb, _, hcs⟩ := HR0.out (by rw [bxs_length, HPN.out]; omega)
  have hpa : 0 < ps.length := by rw [HPN.out]; exact ha
  obtain ⟨g1, g2, g3, g4⟩ := bxs_at hpa
  replace g1 : w4.cell? ⟨b, o + 0 * 4, none⟩ = _ := (K.cell (p := ⟨b, o + 0 * 4, none⟩) hb).trans (hcs _ _ g1)
  replace g2 : w4.cell? ⟨b, o + 0 * 4 + 1, none⟩ = _ := (K.cell (p := ⟨b, o + 0 * 4 + 1, none⟩) hb).trans (hcs _ _ g2)
  replace g3 : w4.cell? ⟨b, o + 0 * 4 + 2, none⟩ = _ := (K.cell (p := ⟨b, o + 0 * 4 + 2, none⟩) hb).trans (hcs _ _ g3)
  replace g4 : w4.cell? ⟨b, o + 0 * 4 + 3, none⟩ = _ := (K.cell (p := ⟨b, o + 0 * 4 + 3, none⟩) hb).trans (hcs _ _ g4)
  have hpm := HML.out _ (List.getElem_mem hpa)
  obtain ⟨MA, mcc, hmv⟩ := hpm.form
  rw [hmv] at g4 hpm
  have hpx : ps[0].1 = bxAt x 0 := getElem_xAt HPS.out hpa
  rw [hpx] at g1 g2 g3 g4 hpm hmv
  have HPA : Hid (ps[0]'hpa = (bxAt x 0, .slice MA (bxAt x 0).mails.length mcc)) := Prod.ext hpx hmv
  have HPM := Lib.hid hpm
  clear hpm hpx hmv hcs
  have a1 : ((0 : Nat) : Int) < (n : Int) := by omega
  have HMB : Hid (∀ nm' : ByteArray, reName (bxAt x 0) nm' = ⟨nm', (bxAt x 0).val, (bxAt x 0).next, (bxAt x 0).mails⟩) := fun _ => rfl
  have HWB : Hid (withMails (bxAt x 0) [] = ⟨(bxAt x 0).name, (bxAt x 0).val, (bxAt x 0).next, []⟩) := rfl
  have HMV : Hid (∀ nm' : ByteArray, movBx x nm' = ⟨nm', x.given, (bxAt x 0).next, (bxAt x 0).mails⟩) := fun _ => rfl
  obtain ⟨bn, hbn⟩ : ∃ s, (bxAt x 0).name = s := ⟨_, rfl⟩
  rw [hbn] at g1 HWB
  have HBN := Lib.hid hbn
  clear hbn
  generalize (bxAt x 0).val = bv at *
  generalize (bxAt x 0).next = bt at *
  generalize (bxAt x 0).mails = bml at *
  generalize hmn : bml.length = mn at *
  have HMN := Lib.hid hmn
  clear hmn
  simp only [Nat.zero_mul, Nat.add_zero] at g1 g2 g3 g4
  have n00 : (0 : Int) < (n : Int) := by omega
  have zX4 := OX.out.lt
  have zR4 := OR.out.lt
  have zK4 := K.size
  go_upto_region 9 with fail
  have hgB0 : w.heap.size ≤ w4.heap.size := K.size
  clear cX0 cX1 cX2 fX0 fX1 fX2 cR0 cR1 cR2 fR0 fR1 fR2
  replace OX := Lib.hid (OX.out.alloc (.cells #[.string bn, .int .i64 bv, .int .i64 bt, .slice MA mn mcc] 43))
  replace OR := Lib.hid (OR.out.alloc (.cells #[.string bn, .int .i64 bv, .int .i64 bt, .slice MA mn mcc] 43))
  have OB := Lib.hid (Own.new w4 43 [.string bn, .int .i64 bv, .int .i64 bt, .slice MA mn mcc])
  replace K := K.alloc (.cells #[.string bn, .int .i64 bv, .int .i64 bt, .slice MA mn mcc] 43)
  generalize (w4.alloc (.cells #[.string bn, .int .i64 bv, .int .i64 bt, .slice MA mn mcc] 43)) = w5 at *
  generalize w4.heap.size = gB at *
  clear g1 g2 g3 g4
  have zX5 := OX.out.lt
  have zR5 := OR.out.lt
  have zB5 := OB.out.lt
  have zK5 := K.size
  obtain ⟨cX0, cX1, cX2, fX0, fX1, fX2⟩ := OX.out.three
  obtain ⟨cR0, cR1, cR2, fR0, fR1, fR2⟩ := OR.out.three
  have cB0 := OB.out.cell? 0
  have fB0 := OB.out.frozen 0
  have cB1 := OB.out.cell? 1
  have fB1 := OB.out.frozen 1
  have cB2 := OB.out.cell? 2
  have fB2 := OB.out.frozen 2
  have cB3 := OB.out.cell? 3
  have fB3 := OB.out.frozen 3
  simp only [List.getElem?_cons_zero, List.getElem?_cons_succ] at cB0 cB1 cB2 cB3
  go_wp2_with fail
  refine (rcre_any ((w.heap.size + 1) :: gB :: V) x _ tn w5 (Old.cons OR.out.lt (Old.cons OB.out.lt (HOV.out.go K))) (HV.out.go K (Ext.cons (by omega) (Ext.cons (by omega) (Ext.refl _ _)))) HOK.out HFEW.out HNS.out).mono ?_
  rintro e w6 ⟨v2, rfl, hx2, hk⟩
  clear cX0 cX1 cX2 fX0 fX1 fX2 cR0 cR1 cR2 fR0 fR1 fR2 cB0 cB1 cB2 cB3 fB0 fB1 fB2 fB3
  replace OX := Lib.hid (OX.out.kept hk)
  replace OR := Lib.hid (OR.out.kept hk)
  replace OB := Lib.hid (OB.out.kept hk)
  replace K := K.trans hk
  rw [HCR.out] at hx2 ⊢
  dsimp only at hx2 ⊢
  obtain ⟨A2, c2, A3, c3, rfl⟩ := hx2.form
  have HX2 := Lib.hid hx2
  clear hx2
  have HYL : Hid ((insX x.boxes ⟨tn, gv, 1, []⟩).length = n + 1) := by show _ = _; rw [insX_len (by rw [HN.out]; omega), HN.out]
  dsimp only at HX2 ⊢
  rw [HYL.out, HM.out] at HX2
  rw [HYL.out, HM.out]
  clear hk
  have zX6 := OX.out.lt
  have zR6 := OR.out.lt
  have zB6 := OB.out.lt
  have zK6 := K.size
  obtain ⟨cX0, cX1, cX2, fX0, fX1, fX2⟩ := OX.out.three
  obtain ⟨cR0, cR1, cR2, fR0, fR1, fR2⟩ := OR.out.three
  have cB0 := OB.out.cell? 0
  have fB0 := OB.out.frozen 0
  have cB1 := OB.out.cell? 1
  have fB1 := OB.out.frozen 1
  have cB2 := OB.out.cell? 2
  have fB2 := OB.out.frozen 2
  have cB3 := OB.out.cell? 3
  have fB3 := OB.out.frozen 3
  simp only [List.getElem?_cons_zero, List.getElem?_cons_succ] at cB0 cB1 cB2 cB3
  go_wp2_with fail
  clear cX0 cX1 cX2 fX0 fX1 fX2 cR0 cR1 cR2 fR0 fR1 fR2 cB0 cB1 cB2 cB3 fB0 fB1 fB2 fB3
  replace OX := Lib.hid (OX.out.alloc (.cells #[.slice A2 (n + 1) c2, .slice A3 m c3, .int .i64 (gv + 1)] 29))
  replace OR := Lib.hid (OR.out.alloc (.cells #[.slice A2 (n + 1) c2, .slice A3 m c3, .int .i64 (gv + 1)] 29))
  replace OB := Lib.hid (OB.out.alloc (.cells #[.slice A2 (n + 1) c2, .slice A3 m c3, .int .i64 (gv + 1)] 29))
  have OY := Lib.hid (Own.new w6 29 [.slice A2 (n + 1) c2, .slice A3 m c3, .int .i64 (gv + 1)])
  replace HX2 := Lib.hid (HX2.out.go ((Kept.refl w6).alloc (.cells #[.slice A2 (n + 1) c2, .slice A3 m c3, .int .i64 (gv + 1)] 29)) (Ext.refl _ _))
  replace K := K.alloc (.cells #[.slice A2 (n + 1) c2, .slice A3 m c3, .int .i64 (gv + 1)] 29)
  generalize (w6.alloc (.cells #[.slice A2 (n + 1) c2, .slice A3 m c3, .int .i64 (gv + 1)] 29)) = w7 at *
  have HFY : Hid (findX ⟨insX x.boxes ⟨tn, gv, 1, []⟩, x.subs, gv + 1⟩ tn = some (insPos x.boxes tn)) := find_ins (b := ⟨tn, gv, 1, []⟩) (by rw [HN.out]; omega) HF2.out
  have hpl : insPos x.boxes tn ≤ n := by have := insPos_le (l := x.boxes) (nm := tn) (by rw [HN.out]; omega); rwa [HN.out] at this
  have HRY : Hid (Rise ⟨insX x.boxes ⟨tn, gv, 1, []⟩, x.subs, gv + 1⟩) := by
    have := rise_right (cre_right HR.out HNB.out HF2.out (by rw [HN.out]; exact HL5.out) (by rw [HG.out]; exact HGL.out))
    rwa [HG.out] at this
  have HMS : Hid (setBx (setBx ⟨insX x.boxes ⟨tn, gv, 1, []⟩, x.subs, gv + 1⟩ (insPos x.boxes tn) (movBx x tn)) 0 (withMails (bxAt x 0) []) = movIx x tn) := by
    have := mov_set (x := x) (nm := tn) (by rw [HN.out]; omega)
    rwa [HG.out] at this
  have HYK : Hid (xAt (insX x.boxes ⟨tn, gv, 1, []⟩) (insPos x.boxes tn) = ⟨tn, gv, 1, []⟩) := by
    have := insX_at (b := ⟨tn, gv, 1, []⟩) (show 1 ≤ x.boxes.length by rw [HN.out]; omega) (insPos x.boxes tn)
    rw [if_neg (Nat.lt_irrefl _), if_pos rfl] at this
    exact this
  have HY0 : Hid ((bxAt ⟨insX x.boxes ⟨tn, gv, 1, []⟩, x.subs, gv + 1⟩ 0).name = bn) := by
    have := insX_at (b := ⟨tn, gv, 1, []⟩) (show 1 ≤ x.boxes.length by rw [HN.out]; omega) 0
    rw [if_pos (show 0 < insPos x.boxes (⟨tn, gv, 1, []⟩ : Bx).name from insPos_ge _ _)] at this
    show (xAt _ 0).name = _
    rw [this]; exact HBN.out
  rw [HMV.out, HWB.out, HG.out] at HMS
  refine (rfind_any ⟨insX x.boxes ⟨tn, gv, 1, []⟩, x.subs, gv + 1⟩ _ tn _ (HX2.out.go (Kept.refl _) (Ext.nil _ _))).mono ?_
  rintro e w8 ⟨rfl, hk⟩
  replace OX := Lib.hid (OX.out.kept hk)
  replace OR := Lib.hid (OR.out.kept hk)
  replace OB := Lib.hid (OB.out.kept hk)
  replace OY := Lib.hid (OY.out.kept hk)
  replace HX2 := Lib.hid (HX2.out.go hk (Ext.refl _ _))
  replace K := K.trans hk
  rw [HFY.out, show ofO (some (insPos x.boxes tn)) = (insPos x.boxes tn : Int) from rfl]
  clear hk
  generalize hpa2 : insPos x.boxes tn = k at *
  have HPK := Lib.hid hpa2
  clear hpa2
  have k0 : (0 : Int) ≤ (k : Int) := by omega
  have k1 : (k : Int) < ((n + 1 : Nat) : Int) := by omega
  have k2 : (k : Int) < (n : Int) + 1 := by omega
  have hk' : k < (insX x.boxes ⟨tn, gv, 1, []⟩).length := by rw [HYL.out]; omega
  obtain ⟨b2, o2, NA, nc, hA2, hb2, g1, g2, g3, g4⟩ : ∃ b2 o2 NA nc, A2 = some ⟨b2, o2, none⟩ ∧ b2 < w8.heap.size ∧ w8.cell? ⟨b2, o2 + k * 4, none⟩ = some (.string tn) ∧ w8.cell? ⟨b2, o2 + k * 4 + 1, none⟩ = some (.int .i64 gv) ∧ w8.cell? ⟨b2, o2 + k * 4 + 2, none⟩ = some (.int .i64 1) ∧ w8.cell? ⟨b2, o2 + k * 4 + 3, none⟩ = some (.slice NA 0 nc) := by
    obtain ⟨_, _, e, _, _, hbx⟩ := HX2.out.parts.2.1.open_
    obtain ⟨b2, o2, mv2, rfl, hb2, _, hbc2⟩ := hbx (by dsimp only; omega)
    obtain ⟨g1, g2, g3, g4, gm⟩ := hbc2 k hk'
    have hat2 : (insX x.boxes ⟨tn, gv, 1, []⟩)[k]'hk' = ⟨tn, gv, 1, []⟩ := (xAt_lt hk').symm.trans HYK.out
    dsimp only at g1 g2 g3 g4 gm e
    rw [hat2] at g1 g2 g3 gm
    obtain ⟨NA, nc, hmv2⟩ := gm.form
    rw [hmv2] at g4
    simp only [Value.slice.injEq] at e
    exact ⟨b2, o2, NA, nc, e.1, hb2, g1, g2, g3, g4⟩
  subst hA2
  have zX8 := OX.out.lt
  have zR8 := OR.out.lt
  have zB8 := OB.out.lt
  have zY8 := OY.out.lt
  have zK8 := K.size
  obtain ⟨cX0, cX1, cX2, fX0, fX1, fX2⟩ := OX.out.three
  obtain ⟨cR0, cR1, cR2, fR0, fR1, fR2⟩ := OR.out.three
  have cB0 := OB.out.cell? 0
  have fB0 := OB.out.frozen 0
  have cB1 := OB.out.cell? 1
  have fB1 := OB.out.frozen 1
  have cB2 := OB.out.cell? 2
  have fB2 := OB.out.frozen 2
  have cB3 := OB.out.cell? 3
  have fB3 := OB.out.frozen 3
  simp only [List.getElem?_cons_zero, List.getElem?_cons_succ] at cB0 cB1 cB2 cB3
  obtain ⟨cY0, cY1, cY2, fY0, fY1, fY2⟩ := OY.out.three
  go_upto_region 17 with fail
  have hgN : w.heap.size ≤ w8.heap.size := K.size
  have HY2 := Lib.hid (HX2.out.go ((Kept.refl w8).alloc (.cells #[.string tn, .int .i64 gv, .int .i64 1, .slice NA 0 nc] 43)) (Ext.cons (Nat.le_refl _) (Ext.refl _ _)))
  clear cX0 cX1 cX2 fX0 fX1 fX2 cR0 cR1 cR2 fR0 fR1 fR2 cB0 cB1 cB2 cB3 fB0 fB1 fB2 fB3 cY0 cY1 cY2 fY0 fY1 fY2
  replace OX := Lib.hid (OX.out.alloc (.cells #[.string tn, .int .i64 gv, .int .i64 1, .slice NA 0 nc] 43))
  replace OR := Lib.hid (OR.out.alloc (.cells #[.string tn, .int .i64 gv, .int .i64 1, .slice NA 0 nc] 43))
  replace OB := Lib.hid (OB.out.alloc (.cells #[.string tn, .int .i64 gv, .int .i64 1, .slice NA 0 nc] 43))
  replace OY := Lib.hid (OY.out.alloc (.cells #[.string tn, .int .i64 gv, .int .i64 1, .slice NA 0 nc] 43))
  have ON := Lib.hid (Own.new w8 43 [.string tn, .int .i64 gv, .int .i64 1, .slice NA 0 nc])
  replace HX2 := Lib.hid (HX2.out.go ((Kept.refl w8).alloc (.cells #[.string tn, .int .i64 gv, .int .i64 1, .slice NA 0 nc] 43)) (Ext.refl _ _))
  replace K := K.alloc (.cells #[.string tn, .int .i64 gv, .int .i64 1, .slice NA 0 nc] 43)
  generalize (w8.alloc (.cells #[.string tn, .int .i64 gv, .int .i64 1, .slice NA 0 nc] 43)) = w9 at *
  clear HX2 g1 g2 g3 g4
  have hgB : gB < w8.heap.size := by omega
  have hgY : w6.heap.size < w8.heap.size := by omega
  generalize w8.heap.size = gN at *
  generalize w6.heap.size = gY at *
  have hne1 : gN ≠ gB := by omega
  have hne2 : gN ≠ gY := by omega
  have cB0 := OB.out.cell? 0
  have fB0 := OB.out.frozen 0
  have cB1 := OB.out.cell? 1
  have fB1 := OB.out.frozen 1
  have cB2 := OB.out.cell? 2
  have fB2 := OB.out.frozen 2
  have cB3 := OB.out.cell? 3
  have fB3 := OB.out.frozen 3
  simp only [List.getElem?_cons_zero, List.getElem?_cons_succ] at cB0 cB1 cB2 cB3
  have cN0 := ON.out.cell? 0
  have fN0 := ON.out.frozen 0
  have cN1 := ON.out.cell? 1
  have fN1 := ON.out.frozen 1
  have cN2 := ON.out.cell? 2
  have fN2 := ON.out.frozen 2
  have cN3 := ON.out.cell? 3
  have fN3 := ON.out.frozen 3
  simp only [List.getElem?_cons_zero, List.getElem?_cons_succ] at cN0 cN1 cN2 cN3
  go_region_held3 (fun w' => w'.cell? ⟨gB, 3, none⟩ = some (.slice MA mn mcc) ∧ w'.cell? ⟨gB, 2, none⟩ = some (.int .i64 bt)) (go_keep) (fail)
  go_wp2_with fail
  clear cB0 cB1 cB2 cB3 fB0 fB1 fB2 fB3 cN0 cN1 cN2 cN3 fN0 fN1 fN2 fN3
  replace OX : Hid (Own (((w9.setCell ⟨gN, 3, none⟩ (.slice MA mn mcc)).setCell ⟨gN, 2, none⟩ (.int .i64 bt)).setCell ⟨gB, 3, none⟩ (.slice none 0 0)) w.heap.size 29 [.slice (some ⟨b, o, none⟩) n c, .slice A' m c', .int .i64 gv]) := Lib.hid (((OX.out.far (p := ⟨gN, 3, none⟩) (by first | omega | (simp; omega) | simp) (.slice MA mn mcc)).far (p := ⟨gN, 2, none⟩) (by first | omega | (simp; omega) | simp) (.int .i64 bt)).far (p := ⟨gB, 3, none⟩) (by first | omega | (simp; omega) | simp) (.slice none 0 0))
  replace OR : Hid (Own (((w9.setCell ⟨gN, 3, none⟩ (.slice MA mn mcc)).setCell ⟨gN, 2, none⟩ (.int .i64 bt)).setCell ⟨gB, 3, none⟩ (.slice none 0 0)) (w.heap.size + 1) 29 [.slice none 0 0, .slice none 0 0, .int .i64 0]) := Lib.hid (((OR.out.far (p := ⟨gN, 3, none⟩) (by first | omega | (simp; omega) | simp) (.slice MA mn mcc)).far (p := ⟨gN, 2, none⟩) (by first | omega | (simp; omega) | simp) (.int .i64 bt)).far (p := ⟨gB, 3, none⟩) (by first | omega | (simp; omega) | simp) (.slice none 0 0))
  replace OB : Hid (Own (((w9.setCell ⟨gN, 3, none⟩ (.slice MA mn mcc)).setCell ⟨gN, 2, none⟩ (.int .i64 bt)).setCell ⟨gB, 3, none⟩ (.slice none 0 0)) gB 43 [.string bn, .int .i64 bv, .int .i64 bt, .slice none 0 0]) := Lib.hid (((OB.out.far (p := ⟨gN, 3, none⟩) (by first | omega | (simp; omega) | simp) (.slice MA mn mcc)).far (p := ⟨gN, 2, none⟩) (by first | omega | (simp; omega) | simp) (.int .i64 bt)).set_ 3 (.slice none 0 0))
  replace OY : Hid (Own (((w9.setCell ⟨gN, 3, none⟩ (.slice MA mn mcc)).setCell ⟨gN, 2, none⟩ (.int .i64 bt)).setCell ⟨gB, 3, none⟩ (.slice none 0 0)) gY 29 [.slice (some ⟨b2, o2, none⟩) (n + 1) c2, .slice A3 m c3, .int .i64 (gv + 1)]) := Lib.hid (((OY.out.far (p := ⟨gN, 3, none⟩) (by first | omega | (simp; omega) | simp) (.slice MA mn mcc)).far (p := ⟨gN, 2, none⟩) (by first | omega | (simp; omega) | simp) (.int .i64 bt)).far (p := ⟨gB, 3, none⟩) (by first | omega | (simp; omega) | simp) (.slice none 0 0))
  replace ON : Hid (Own (((w9.setCell ⟨gN, 3, none⟩ (.slice MA mn mcc)).setCell ⟨gN, 2, none⟩ (.int .i64 bt)).setCell ⟨gB, 3, none⟩ (.slice none 0 0)) gN 43 [.string tn, .int .i64 gv, .int .i64 bt, .slice MA mn mcc]) := Lib.hid (((ON.out.set_ 3 (.slice MA mn mcc)).set_ 2 (.int .i64 bt)).far (p := ⟨gB, 3, none⟩) (by first | omega | (simp; omega) | simp) (.slice none 0 0))
  replace HY2 := Lib.hid (((HY2.out.put (p := ⟨gN, 3, none⟩) (by simp) (.slice MA mn mcc)).put (p := ⟨gN, 2, none⟩) (by simp) (.int .i64 bt)).put (p := ⟨gB, 3, none⟩) (by simp) (.slice none 0 0))
  replace K := (((K.setCell (p := ⟨gN, 3, none⟩) (by first | exact Nat.le_refl _ | (simp only []; omega) | simp) (.slice MA mn mcc)).setCell (p := ⟨gN, 2, none⟩) (by first | exact Nat.le_refl _ | (simp only []; omega) | simp) (.int .i64 bt)).setCell (p := ⟨gB, 3, none⟩) (by first | exact Nat.le_refl _ | (simp only []; omega) | simp) (.slice none 0 0))
  generalize (((w9.setCell ⟨gN, 3, none⟩ (.slice MA mn mcc)).setCell ⟨gN, 2, none⟩ (.int .i64 bt)).setCell ⟨gB, 3, none⟩ (.slice none 0 0)) = w10 at *
  replace OX := Lib.hid OX.out.drew
  replace OR := Lib.hid OR.out.drew
  replace OB := Lib.hid OB.out.drew
  replace OY := Lib.hid OY.out.drew
  replace ON := Lib.hid ON.out.drew
  replace HY2 := Lib.hid (HY2.out.go ((Kept.refl _).drew) (Ext.refl _ _))
  replace K := K.drew
  generalize w10.drew = w11 at *
  have hnm1 : tn = (bxAt ⟨insX x.boxes ⟨tn, gv, 1, []⟩, x.subs, gv + 1⟩ k).name := by show tn = (xAt _ k).name; rw [HYK.out]
  have HNM := Lib.hid hnm1
  clear hnm1
  have HKL : Hid (k < (⟨insX x.boxes ⟨tn, gv, 1, []⟩, x.subs, gv + 1⟩ : Ix).boxes.length) := hk'
  have HNM2 : Hid (bn = (bxAt (setBx ⟨insX x.boxes ⟨tn, gv, 1, []⟩, x.subs, gv + 1⟩ k ⟨tn, gv, bt, bml⟩) 0).name) := by show _ = _; rw [set_name HKL.out HNM.out]; exact HY0.out.symm
  have HRZ : Hid (Rise (setBx ⟨insX x.boxes ⟨tn, gv, 1, []⟩, x.subs, gv + 1⟩ k ⟨tn, gv, bt, bml⟩)) := rise_set HRY.out HKL.out HNM.out
  have HZL : Hid ((setBx ⟨insX x.boxes ⟨tn, gv, 1, []⟩, x.subs, gv + 1⟩ k ⟨tn, gv, bt, bml⟩).boxes.length = n + 1) := by show _ = _; rw [setBx_len]; exact HYL.out
  have CX0 : ∀ W', Kept w11 W' → W'.cell? ⟨w.heap.size, 0, none⟩ = some (.slice (some ⟨b, o, none⟩) n c) := fun W' hk => (OX.out.kept hk).cell? 0
  have CX1 : ∀ W', Kept w11 W' → W'.cell? ⟨w.heap.size, 1, none⟩ = some (.slice A' m c') := fun W' hk => (OX.out.kept hk).cell? 1
  have CX2 : ∀ W', Kept w11 W' → W'.cell? ⟨w.heap.size, 2, none⟩ = some (.int .i64 gv) := fun W' hk => (OX.out.kept hk).cell? 2
  have CR0 : ∀ W', Kept w11 W' → W'.cell? ⟨(w.heap.size + 1), 0, none⟩ = some (.slice none 0 0) := fun W' hk => (OR.out.kept hk).cell? 0
  have CR1 : ∀ W', Kept w11 W' → W'.cell? ⟨(w.heap.size + 1), 1, none⟩ = some (.slice none 0 0) := fun W' hk => (OR.out.kept hk).cell? 1
  have CR2 : ∀ W', Kept w11 W' → W'.cell? ⟨(w.heap.size + 1), 2, none⟩ = some (.int .i64 0) := fun W' hk => (OR.out.kept hk).cell? 2
  have CB0 : ∀ W', Kept w11 W' → W'.cell? ⟨gB, 0, none⟩ = some (.string bn) := fun W' hk => (OB.out.kept hk).cell? 0
  have CB1 : ∀ W', Kept w11 W' → W'.cell? ⟨gB, 1, none⟩ = some (.int .i64 bv) := fun W' hk => (OB.out.kept hk).cell? 1
  have CB2 : ∀ W', Kept w11 W' → W'.cell? ⟨gB, 2, none⟩ = some (.int .i64 bt) := fun W' hk => (OB.out.kept hk).cell? 2
  have CB3 : ∀ W', Kept w11 W' → W'.cell? ⟨gB, 3, none⟩ = some (.slice none 0 0) := fun W' hk => (OB.out.kept hk).cell? 3
  have CY0 : ∀ W', Kept w11 W' → W'.cell? ⟨gY, 0, none⟩ = some (.slice (some ⟨b2, o2, none⟩) (n + 1) c2) := fun W' hk => (OY.out.kept hk).cell? 0
  have CY1 : ∀ W', Kept w11 W' → W'.cell? ⟨gY, 1, none⟩ = some (.slice A3 m c3) := fun W' hk => (OY.out.kept hk).cell? 1
  have CY2 : ∀ W', Kept w11 W' → W'.cell? ⟨gY, 2, none⟩ = some (.int .i64 (gv + 1)) := fun W' hk => (OY.out.kept hk).cell? 2
  have CN0 : ∀ W', Kept w11 W' → W'.cell? ⟨gN, 0, none⟩ = some (.string tn) := fun W' hk => (ON.out.kept hk).cell? 0
  have CN1 : ∀ W', Kept w11 W' → W'.cell? ⟨gN, 1, none⟩ = some (.int .i64 gv) := fun W' hk => (ON.out.kept hk).cell? 1
  have CN2 : ∀ W', Kept w11 W' → W'.cell? ⟨gN, 2, none⟩ = some (.int .i64 bt) := fun W' hk => (ON.out.kept hk).cell? 2
  have CN3 : ∀ W', Kept w11 W' → W'.cell? ⟨gN, 3, none⟩ = some (.slice MA mn mcc) := fun W' hk => (ON.out.kept hk).cell? 3
  refine wp_region_Z (S := fun W' => Kept w11 W') (Z := [6, 7]) (by kernel_rfl) ((Kept.refl _).drew) (fun hHeld => ?_)
  have kr := (Kept.refl w11).drew
  have Kr := K
  have zr := K.size
  have OXr := OX
  have ORr := OR
  have OBr := OB
  have OYr := OY
  have ONr := ON
  have HY2r := HY2
  replace OX := Lib.hid (OXr.out.kept kr)
  replace OR := Lib.hid (ORr.out.kept kr)
  replace OB := Lib.hid (OBr.out.kept kr)
  replace OY := Lib.hid (OYr.out.kept kr)
  replace ON := Lib.hid (ONr.out.kept kr)
  replace HY2 := Lib.hid (HY2r.out.go kr (Ext.refl _ _))
  replace K := Kr.trans kr
  generalize w11.drew = w12 at *
  refine wpAnyZ_take (i := 0) (oi := { dst := some 72, op := Op.load 29 (Operand.tmp 10), type := 29, pos := "ref.go:241", after := #[], guard := none }) (v := ?_) rfl (by kernel_rfl) (fun _ _ _ h => h) (Or.inl ⟨by rfl, ?_⟩) (by assumption) ?_
  rotate_left
  · (intro wz hSw; (try dsimp only at hSw); go_simp; (try with_reducible rfl))
  (try simp only [Act.put, List.setIfInBounds_toArray, List.set_cons_zero, List.set_cons_succ])
  refine wpAnyZ_take (i := 1) (oi := { dst := some 73, op := Op.move (Operand.tmp 12), type := 3, pos := "ref.go:241", after := #[], guard := none }) (v := ?_) rfl (by kernel_rfl) (fun _ _ _ h => h) (Or.inl ⟨by rfl, ?_⟩) (by assumption) ?_
  rotate_left
  · (intro wz hSw; (try dsimp only at hSw); go_simp; (try with_reducible rfl))
  (try simp only [Act.put, List.setIfInBounds_toArray, List.set_cons_zero, List.set_cons_succ])
  refine wpAnyZ_take (i := 2) (oi := { dst := some 74, op := Op.load 43 (Operand.tmp 13), type := 43, pos := "ref.go:241", after := #[], guard := none }) (v := ?_) rfl (by kernel_rfl) (fun _ _ _ h => h) (Or.inl ⟨by rfl, ?_⟩) (by assumption) ?_
  rotate_left
  · (intro wz hSw; (try dsimp only at hSw); go_simp; (try with_reducible rfl))
  (try simp only [Act.put, List.setIfInBounds_toArray, List.set_cons_zero, List.set_cons_succ])
  refine wpAnyZ_take (i := 4) (oi := { dst := some 76, op := Op.load 43 (Operand.tmp 9), type := 43, pos := "ref.go:241", after := #[], guard := none }) (v := ?_) rfl (by kernel_rfl) (fun _ _ _ h => h) (Or.inl ⟨by rfl, ?_⟩) (by assumption) ?_
  rotate_left
  · (intro wz hSw; (try dsimp only at hSw); go_simp; (try with_reducible rfl))
  (try simp only [Act.put, List.setIfInBounds_toArray, List.set_cons_zero, List.set_cons_succ])
  refine wpAnyZ_ready (rs := [3]) (by kernel_rfl) (by simp) ?_
  refine AllReadyZ.cons (o := { dst := some 75, op := Op.call { callee := Callee.value (Operand.func 44), args := #[Operand.tmp 72, Operand.tmp 73, Operand.tmp 74], argTypes := #[29, 3, 43] }, type := 29, pos := "ref.go:241", after := #[{ on := 0, ground := Ground.data }, { on := 1, ground := Ground.data }, { on := 2, ground := Ground.data }], guard := none }) rfl (fun KK hKK => ?_) AllReadyZ.nil
  go_simp
  have HI := turn_rise (gN :: (w.heap.size + 1) :: gB :: V) ⟨insX x.boxes ⟨tn, gv, 1, []⟩, x.subs, gv + 1⟩ (some ⟨b2, o2, none⟩) (n + 1) c2 A3 m c3 (gv + 1) k ⟨tn, gv, bt, bml⟩ MA mn mcc w12 (Old.cons ON.out.lt (Old.cons OR.out.lt (Old.cons OB.out.lt (HOV.out.go K)))) HY2.out HRY.out (by show (insX _ _).length ≤ 100; rw [HYL.out]; omega) HKL.out HNM.out (HPM.out.go K (Ext.cons hgN (Ext.cons (by omega) (Ext.cons hgB0 (Ext.refl _ _)))))
  refine HI.mono ?_
  rintro e w13 ⟨v4, rfl, hx4, hk⟩
  clear hHeld HI
  replace kr := kr.trans hk
  replace OX := Lib.hid (OXr.out.kept kr)
  replace OR := Lib.hid (ORr.out.kept kr)
  replace OB := Lib.hid (OBr.out.kept kr)
  replace OY := Lib.hid (OYr.out.kept kr)
  replace ON := Lib.hid (ONr.out.kept kr)
  replace HY2 := Lib.hid (HY2r.out.go kr (Ext.refl _ _))
  replace K := Kr.trans kr
  have HX4 := Lib.hid hx4
  obtain ⟨A4, c4, A5, c5, rfl⟩ := hx4.form
  clear hx4 hk
  rw [HZL.out] at HX4 ⊢
  generalize (setBx ⟨insX x.boxes ⟨tn, gv, 1, []⟩, x.subs, gv + 1⟩ k ⟨tn, gv, bt, bml⟩).subs.length = m5 at HX4 ⊢
  generalize (setBx ⟨insX x.boxes ⟨tn, gv, 1, []⟩, x.subs, gv + 1⟩ k ⟨tn, gv, bt, bml⟩).given = g5 at HX4 ⊢
  go_wp2_with fail
  refine hKK.out _ _ ?_ (fun hHeld => ?_)
  · exact kr
  clear hKK KK
  (try simp only [Act.put, List.setIfInBounds_toArray, List.set_cons_zero, List.set_cons_succ])
  refine wpAnyZ_ready (rs := [5]) (by kernel_rfl) (by simp) ?_
  refine AllReadyZ.cons (o := { dst := some 77, op := Op.call { callee := Callee.value (Operand.func 44), args := #[Operand.tmp 75, Operand.const (Value.int IntKind.i64 0), Operand.tmp 76], argTypes := #[29, 3, 43] }, type := 29, pos := "ref.go:241", after := #[{ on := 3, ground := Ground.data }, { on := 4, ground := Ground.data }, { on := 3, ground := Ground.chain }], guard := none }) rfl (fun KK hKK => ?_) AllReadyZ.nil
  go_simp
  have HI := turn_rise (gN :: (w.heap.size + 1) :: gB :: V) (setBx ⟨insX x.boxes ⟨tn, gv, 1, []⟩, x.subs, gv + 1⟩ k ⟨tn, gv, bt, bml⟩) A4 (n + 1) c4 A5 m5 c5 g5 0 ⟨bn, bv, bt, []⟩ none 0 0 w13 (Old.cons ON.out.lt (Old.cons OR.out.lt (Old.cons OB.out.lt (HOV.out.go K)))) HX4.out HRZ.out (by rw [HZL.out]; omega) (by rw [HZL.out]; omega) HNM2.out (mlsAt_nil _ _)
  rw [HMS.out, show ((0 : Nat) : Int) = 0 from rfl] at HI
  refine HI.mono ?_
  rintro e w14 ⟨v6, rfl, hx6, hk⟩
  clear hHeld HI HX4
  replace kr := kr.trans hk
  replace OX := Lib.hid (OXr.out.kept kr)
  replace OR := Lib.hid (ORr.out.kept kr)
  replace OB := Lib.hid (OBr.out.kept kr)
  replace OY := Lib.hid (OYr.out.kept kr)
  replace ON := Lib.hid (ONr.out.kept kr)
  replace HY2 := Lib.hid (HY2r.out.go kr (Ext.refl _ _))
  replace K := Kr.trans kr
  have HX6 := Lib.hid hx6
  obtain ⟨A6, c6, A7, c7, rfl⟩ := hx6.form
  clear hx6 hk
  generalize (movIx x tn).boxes.length = n6 at HX6 ⊢
  generalize (movIx x tn).subs.length = n7 at HX6 ⊢
  generalize (movIx x tn).given = g6 at HX6 ⊢
  go_wp2_with fail
  refine hKK.out _ _ ?_ (fun hHeld => ?_)
  · exact kr
  clear hKK KK
  (try simp only [Act.put, List.setIfInBounds_toArray, List.set_cons_zero, List.set_cons_succ])
  refine wpAnyZ_ready (rs := [6]) (by kernel_rfl) (by simp) ?_
  refine AllReadyZ.late (o := { dst := none, op := Op.store 29 (Operand.tmp 6) (Operand.tmp 77), type := 0, pos := "ref.go:241", after := #[{ on := 5, ground := Ground.data }, { on := 5, ground := Ground.chain }, { on := 0, ground := Ground.phase }, { on := 1, ground := Ground.phase }, { on := 2, ground := Ground.phase }, { on := 3, ground := Ground.phase }, { on := 4, ground := Ground.phase }, { on := 5, ground := Ground.phase }], guard := none }) rfl (by simp) (fun KK hKK => ?_) AllReadyZ.nil
  obtain ⟨cR0, cR1, cR2, fR0, fR1, fR2⟩ := OR.out.three
  go_simp
  clear cR0 cR1 cR2 fR0 fR1 fR2
  replace OX : Hid (Own (((w14.setCell ⟨(w.heap.size + 1), 0, none⟩ (.slice A6 n6 c6)).setCell ⟨(w.heap.size + 1), 1, none⟩ (.slice A7 n7 c7)).setCell ⟨(w.heap.size + 1), 2, none⟩ (.int .i64 g6)) w.heap.size 29 [.slice (some ⟨b, o, none⟩) n c, .slice A' m c', .int .i64 gv]) := Lib.hid (((OX.out.far (p := ⟨(w.heap.size + 1), 0, none⟩) (by first | omega | (simp; omega) | simp) (.slice A6 n6 c6)).far (p := ⟨(w.heap.size + 1), 1, none⟩) (by first | omega | (simp; omega) | simp) (.slice A7 n7 c7)).far (p := ⟨(w.heap.size + 1), 2, none⟩) (by first | omega | (simp; omega) | simp) (.int .i64 g6))
  replace OR : Hid (Own (((w14.setCell ⟨(w.heap.size + 1), 0, none⟩ (.slice A6 n6 c6)).setCell ⟨(w.heap.size + 1), 1, none⟩ (.slice A7 n7 c7)).setCell ⟨(w.heap.size + 1), 2, none⟩ (.int .i64 g6)) (w.heap.size + 1) 29 [.slice A6 n6 c6, .slice A7 n7 c7, .int .i64 g6]) := Lib.hid (((OR.out.set_ 0 (.slice A6 n6 c6)).set_ 1 (.slice A7 n7 c7)).set_ 2 (.int .i64 g6))
  replace OB : Hid (Own (((w14.setCell ⟨(w.heap.size + 1), 0, none⟩ (.slice A6 n6 c6)).setCell ⟨(w.heap.size + 1), 1, none⟩ (.slice A7 n7 c7)).setCell ⟨(w.heap.size + 1), 2, none⟩ (.int .i64 g6)) gB 43 [.string bn, .int .i64 bv, .int .i64 bt, .slice none 0 0]) := Lib.hid (((OB.out.far (p := ⟨(w.heap.size + 1), 0, none⟩) (by first | omega | (simp; omega) | simp) (.slice A6 n6 c6)).far (p := ⟨(w.heap.size + 1), 1, none⟩) (by first | omega | (simp; omega) | simp) (.slice A7 n7 c7)).far (p := ⟨(w.heap.size + 1), 2, none⟩) (by first | omega | (simp; omega) | simp) (.int .i64 g6))
  replace OY : Hid (Own (((w14.setCell ⟨(w.heap.size + 1), 0, none⟩ (.slice A6 n6 c6)).setCell ⟨(w.heap.size + 1), 1, none⟩ (.slice A7 n7 c7)).setCell ⟨(w.heap.size + 1), 2, none⟩ (.int .i64 g6)) gY 29 [.slice (some ⟨b2, o2, none⟩) (n + 1) c2, .slice A3 m c3, .int .i64 (gv + 1)]) := Lib.hid (((OY.out.far (p := ⟨(w.heap.size + 1), 0, none⟩) (by first | omega | (simp; omega) | simp) (.slice A6 n6 c6)).far (p := ⟨(w.heap.size + 1), 1, none⟩) (by first | omega | (simp; omega) | simp) (.slice A7 n7 c7)).far (p := ⟨(w.heap.size + 1), 2, none⟩) (by first | omega | (simp; omega) | simp) (.int .i64 g6))
  replace ON : Hid (Own (((w14.setCell ⟨(w.heap.size + 1), 0, none⟩ (.slice A6 n6 c6)).setCell ⟨(w.heap.size + 1), 1, none⟩ (.slice A7 n7 c7)).setCell ⟨(w.heap.size + 1), 2, none⟩ (.int .i64 g6)) gN 43 [.string tn, .int .i64 gv, .int .i64 bt, .slice MA mn mcc]) := Lib.hid (((ON.out.far (p := ⟨(w.heap.size + 1), 0, none⟩) (by first | omega | (simp; omega) | simp) (.slice A6 n6 c6)).far (p := ⟨(w.heap.size + 1), 1, none⟩) (by first | omega | (simp; omega) | simp) (.slice A7 n7 c7)).far (p := ⟨(w.heap.size + 1), 2, none⟩) (by first | omega | (simp; omega) | simp) (.int .i64 g6))
  replace HX6 := Lib.hid (((HX6.out.put (p := ⟨(w.heap.size + 1), 0, none⟩) (by simp) (.slice A6 n6 c6)).put (p := ⟨(w.heap.size + 1), 1, none⟩) (by simp) (.slice A7 n7 c7)).put (p := ⟨(w.heap.size + 1), 2, none⟩) (by simp) (.int .i64 g6))
  replace K := (((K.setCell (p := ⟨(w.heap.size + 1), 0, none⟩) (by first | exact Nat.le_refl _ | (simp only []; omega) | simp) (.slice A6 n6 c6)).setCell (p := ⟨(w.heap.size + 1), 1, none⟩) (by first | exact Nat.le_refl _ | (simp only []; omega) | simp) (.slice A7 n7 c7)).setCell (p := ⟨(w.heap.size + 1), 2, none⟩) (by first | exact Nat.le_refl _ | (simp only []; omega) | simp) (.int .i64 g6))
  generalize (((w14.setCell ⟨(w.heap.size + 1), 0, none⟩ (.slice A6 n6 c6)).setCell ⟨(w.heap.size + 1), 1, none⟩ (.slice A7 n7 c7)).setCell ⟨(w.heap.size + 1), 2, none⟩ (.int .i64 g6)) = w15 at *
  refine hKK.out _ _ ?_
  clear hKK KK
  (try simp only [Act.put, List.setIfInBounds_toArray, List.set_cons_zero, List.set_cons_succ])
  refine wpAnyZ_ready (rs := [7]) (by kernel_rfl) (by simp) ?_
  refine AllReadyZ.late (o := { dst := some 7, op := Op.assign (Operand.const (Value.int IntKind.i64 0)), type := 3, pos := "ref.go:241", after := #[{ on := 6, ground := Ground.chain }, { on := 0, ground := Ground.phase }, { on := 1, ground := Ground.phase }, { on := 2, ground := Ground.phase }, { on := 3, ground := Ground.phase }, { on := 4, ground := Ground.phase }, { on := 5, ground := Ground.phase }, { on := 6, ground := Ground.phase }], guard := none }) rfl (by simp) (fun KK hKK => ?_) AllReadyZ.nil
  go_simp
  refine hKK.out _ _ ?_
  clear hKK KK
  (try simp only [Act.put, List.setIfInBounds_toArray, List.set_cons_zero, List.set_cons_succ])
  refine wpAnyZ_done (by kernel_rfl) ?_ _
  clear CX0 CX1 CX2 CR0 CR1 CR2 CB0 CB1 CB2 CB3 CY0 CY1 CY2 CN0 CN1 CN2 CN3 OXr ORr OBr OYr ONr HY2r Kr zr hHeld kr
  obtain ⟨cR0, cR1, cR2, fR0, fR1, fR2⟩ := OR.out.three
  go_wp2
  refine bodyPost_ret (v := .tuple #[.agg #[.slice A6 n6 c6, .slice A7 n7 c7, .int .i64 g6], .int .i64 0]) (by simp [results, Try.results27, go_sem, cR0, cR1, cR2]) rfl ?_
  refine ⟨_, by rw [HEX.out], ?_, K⟩
  rw [HEX.out]
  exact HX6.out.go (Kept.refl _) (fun k hk => .inl (List.mem_cons_of_mem _ (List.mem_cons_of_mem _ (List.mem_cons_of_mem _ hk))))

theorem rren_any (V : List Nat) (x : Ix) (v : Value) (fr tn : ByteArray) (w : World) (hV : Old V w) (h : IxAt V w v x) (hok : IxOk x) (hfew : Few x) (hns : tn.size ≤ maxLen) :
    Calls Try.prog 27 #[v, .string fr, .string tn] w (IxPost V (renR x fr tn) w) := by
  rcases Bool.eq_false_or_eq_true (rightB x) with hr | hr
  · rcases Bool.eq_false_or_eq_true (nameB tn) with hn | hn
    · cases hf : findX x fr with
      | none => exact rren_no3 V x v fr tn w hV h hok hfew hr hn hns hf
      | some a =>
        cases hf2 : findX x tn with
        | some q => exact rren_no4 V x v a q fr tn w hV h hok hfew hr hn hns hf hf2
        | none =>
          obtain ⟨h1, h2, _, _, _, _, _, h8⟩ := right_len hr
          rcases Bool.eq_false_or_eq_true (nmEq fr inbox) with he | he
          · have ha : a = 0 := by
              obtain ⟨hal, hp, _⟩ := findTo_inv hf
              have hp' : nmEq (bxAt x a).name fr = true := hp
              rcases Nat.eq_zero_or_pos a with h0 | h0
              · exact h0
              · exfalso
                have := names_once hr hal h1 (by omega)
                rw [nmEq_f] at this
                rw [nmEq_iff] at hp' he h8
                exact this (hp'.trans (he.trans h8.symm))
            subst ha
            rcases mov_cre hr hn hf2 with ⟨b, c⟩ | ⟨b, c, d, e⟩
            · exact rren_mno V x v fr tn w hV h hok hfew hr hn hns hf hf2 he h1 h2 b c
            · have h5 : x.boxes.length ≤ 5 := by
                rcases Nat.lt_or_ge x.boxes.length 6 with h | h
                · omega
                · exfalso
                  unfold movR at c
                  rw [decide_eq_true h, Bool.true_or] at c
                  have := congrArg Prod.snd c
                  exact absurd this (show ¬ (5 : Int) = 0 by decide)
              have := rren_mov V x v fr tn w hV h hok hfew hr hn hns hf hf2 he h1 h2 b c h5 (by omega) d
              exact this
          · exact rren_main V x v a fr tn w hV h hok hfew hr hn hns hf hf2 he (not_first hr hf he) (findTo_inv hf).1 h2
    · exact rren_no2 V x v fr tn w hV h hok hfew hr hn hns
  · exact rren_no1 V x v fr tn w hV h hok hfew hr
end Go.Proofs.Ytjinnkbnllnllaa
