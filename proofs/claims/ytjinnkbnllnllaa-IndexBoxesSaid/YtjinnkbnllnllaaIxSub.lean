/- Walk: index.Subscribe. -/
import Derived.Test.YtjinnkbnllnllaaIxBin
namespace Go.Proofs.Ytjinnkbnllnllaa
open Go.RowKit

def subIx (x : Ix) (l : List ByteArray) : Ix := ⟨x.boxes, l, x.given⟩
def putS (l : List ByteArray) (nm : ByteArray) : List ByteArray := l.take (posS l nm) ++ nm :: l.drop (posS l nm)
/-- The index with a name in Subs, or without it. -/
def subR (x : Ix) (nm : ByteArray) (yes : Bool) : Ix × Int :=
  if rightB x && nameB nm then
    if yes == thereS x.subs nm then (x, 0)
    else if !yes then (subIx x (x.subs.eraseIdx (posS x.subs nm)), 0)
    else if 6 ≤ x.subs.length then (ix0, 5)
    else (subIx x (putS x.subs nm), 0)
  else (ix0, 1)
def SubPost (V : List Nat) (x : Ix) (nm : ByteArray) (yes : Bool) (w : World) (e : Ending) (w' : World) : Prop :=
  ∃ v, e = .returned (.tuple #[v, .int .i64 (subR x nm yes).2]) ∧ IxAt V w' v (subR x nm yes).1 ∧ Kept w w'

theorem strc_one (s : ByteArray) : ∀ u ∈ strc s, u.oneCell' = true := fun u hu => by
  rw [List.mem_singleton.1 hu]; rfl
theorem putS_len (l : List ByteArray) (nm : ByteArray) : (putS l nm).length = l.length + 1 := by
  unfold putS
  rw [List.length_append, List.length_cons, List.length_take, List.length_drop]
  have := (posS_spec l nm).1
  omega
theorem rise_step {x : Ix} (hr : rightB x = true) {i : Nat} (h0 : 0 < i) (hi : i < x.subs.length) : lessB (strAt x.subs (i - 1)) (strAt x.subs i) = true := by
  have h := allTo_iff.1 (right_len hr).2.2.2.2.2.1 i hi
  simp only [subB, Bool.and_eq_true, Bool.not_eq_true', Bool.and_eq_false_iff, decide_eq_false_iff_not, nmLe, Bool.or_eq_false_iff] at h
  rcases h.2 with h2 | h2
  · exact absurd h0 h2
  · exact bl_tri _ _ h2.1 (fun e => by
      have h3 := h2.2
      rw [show (subAt x i).toList = (subAt x (i - 1)).toList from e] at h3
      simp at h3)
theorem rise {x : Ix} (hr : rightB x = true) {j : Nat} : ∀ k, j < k → k < x.subs.length → lessB (strAt x.subs j) (strAt x.subs k) = true
  | 0, h, _ => by omega
  | k + 1, h, hk => by
    have h1 := rise_step hr (i := k + 1) (by omega) hk
    simp only [Nat.add_sub_cancel] at h1
    by_cases e : j = k
    · subst e; exact h1
    · exact bl_trans _ _ _ (rise hr k (by omega) (by omega)) h1
theorem right_mono {x : Ix} (hr : rightB x = true) (nm : ByteArray) : Mono x.subs nm := fun j k hjk hk h => bl_trans _ _ _ (rise hr k hjk hk) h
theorem strsAt_own {V : List Nat} {w : World} {base n : Nat} {v : Value} {l : List ByteArray} (h : w.ownsRow base 9 1 v n (strs l)) (hV : ∀ k ∈ V, k < base) (hn : n = l.length) : StrsAt V w v l := by
  obtain ⟨A, c, e, h1, h2, h3⟩ := own_form (V := V) h hV
  subst hn
  exact ⟨A, c, e, h1, h2, h3⟩

set_option maxRecDepth 100000 in
set_option maxHeartbeats 1000000 in
theorem sub_no1 (V : List Nat) (x : Ix) (v : Value) (nm : ByteArray) (yes : Bool) (w : World) (hV : Old V w) (h : IxAt V w v x) (hok : IxOk x) (hnm : nm.size ≤ maxLen) (hr : rightB x = false) :
    Calls Try.prog 21 #[v, .string nm, .bool yes] w (SubPost V x nm yes w) := by
  have HEX : Hid (subR x nm yes = (ix0, 1)) := by
    show _ = _
    unfold subR; rw [hr]; rfl
  have HVV := Lib.hid h
  have HOV := Lib.hid hV
  replace h := h.weak (U := []) (fun _ hk => by cases hk)
  clear hV
  have H := Lib.hid h
  have HOK := Lib.hid hok
  have HR := Lib.hid hr
  have HNS := Lib.hid hnm
  obtain ⟨A, c, A', c', rfl, hc1, hc2, hc3, hc4, hbx, hrow⟩ := h.open_
  have HROW := Lib.hid hrow
  clear hbx hrow h hok hr hnm hc1 hc2 hc3 hc4
  generalize hn : x.boxes.length = n at *
  generalize hm : x.subs.length = m at *
  generalize hg : x.given = gv at *
  have HN := Lib.hid hn
  have HM := Lib.hid hm
  have HG := Lib.hid hg
  clear hn hm hg
  go_enter Try.func21, Try.ntmps21
  go_wp2_with fail
  refine (right_any x _ _ (H.out.go (((Kept.refl w).alloc _).alloc _) (Ext.refl _ _)) HOK.out).mono ?_
  rintro e w1 ⟨rfl, hk1⟩
  rw [HR.out]
  have OX := Lib.hid (((Own.new w 25 [.slice A n c, .slice A' m c', .int .i64 gv]).alloc (.cells #[.slice none 0 0, .slice none 0 0, .int .i64 0] 25)).kept hk1)
  have OR := Lib.hid ((Own.new1 w (.cells #[.slice A n c, .slice A' m c', .int .i64 gv] 25) 25 [.slice none 0 0, .slice none 0 0, .int .i64 0]).kept hk1)
  have hkw1 := (((Kept.refl w).alloc (.cells #[.slice A n c, .slice A' m c', .int .i64 gv] 25)).alloc (.cells #[.slice none 0 0, .slice none 0 0, .int .i64 0] 25)).trans hk1
  clear hk1
  obtain ⟨q1, q2, q3, q4, q5, q6⟩ := OX.out.three
  obtain ⟨p1, p2, p3, p4, p5, p6⟩ := OR.out.three
  go_wp2
  have r0 := OR.out.put3' (.slice none 0 0) (.slice none 0 0) (.int .i64 0)
  obtain ⟨s1, s2, s3, _, _, _⟩ := r0.three
  refine bodyPost_ret (v := .tuple #[.agg #[.slice none 0 0, .slice none 0 0, .int .i64 0], .int .i64 1]) (by simp [results, Try.results21, go_sem, s1, s2, s3]) rfl ?_
  exact ⟨_, by rw [HEX.out], by rw [HEX.out]; exact ixAt_nil _ _, ((hkw1.setCell (p := ⟨w.heap.size + 1, 0, none⟩) (by simp) _).setCell (p := ⟨w.heap.size + 1, 1, none⟩) (by simp) _).setCell (p := ⟨w.heap.size + 1, 2, none⟩) (by simp) _⟩

set_option maxRecDepth 100000 in
set_option maxHeartbeats 1000000 in
theorem sub_no2 (V : List Nat) (x : Ix) (v : Value) (nm : ByteArray) (yes : Bool) (w : World) (hV : Old V w) (h : IxAt V w v x) (hok : IxOk x) (hnm : nm.size ≤ maxLen) (hr : rightB x = true) (hnb : nameB nm = false) :
    Calls Try.prog 21 #[v, .string nm, .bool yes] w (SubPost V x nm yes w) := by
  have HEX : Hid (subR x nm yes = (ix0, 1)) := by
    show _ = _
    unfold subR; rw [hr, hnb]; rfl
  have HVV := Lib.hid h
  have HOV := Lib.hid hV
  replace h := h.weak (U := []) (fun _ hk => by cases hk)
  clear hV
  have H := Lib.hid h
  have HOK := Lib.hid hok
  have HR := Lib.hid hr
  have HNS := Lib.hid hnm
  have HNB := Lib.hid hnb
  clear hnb
  obtain ⟨A, c, A', c', rfl, hc1, hc2, hc3, hc4, hbx, hrow⟩ := h.open_
  have HROW := Lib.hid hrow
  clear hbx hrow h hok hr hnm hc1 hc2 hc3 hc4
  generalize hn : x.boxes.length = n at *
  generalize hm : x.subs.length = m at *
  generalize hg : x.given = gv at *
  have HN := Lib.hid hn
  have HM := Lib.hid hm
  have HG := Lib.hid hg
  clear hn hm hg
  go_enter Try.func21, Try.ntmps21
  go_wp2_with fail
  refine (right_any x _ _ (H.out.go (((Kept.refl w).alloc _).alloc _) (Ext.refl _ _)) HOK.out).mono ?_
  rintro e w1 ⟨rfl, hk1⟩
  rw [HR.out]
  have OX := Lib.hid (((Own.new w 25 [.slice A n c, .slice A' m c', .int .i64 gv]).alloc (.cells #[.slice none 0 0, .slice none 0 0, .int .i64 0] 25)).kept hk1)
  have OR := Lib.hid ((Own.new1 w (.cells #[.slice A n c, .slice A' m c', .int .i64 gv] 25) 25 [.slice none 0 0, .slice none 0 0, .int .i64 0]).kept hk1)
  have hkw1 := (((Kept.refl w).alloc (.cells #[.slice A n c, .slice A' m c', .int .i64 gv] 25)).alloc (.cells #[.slice none 0 0, .slice none 0 0, .int .i64 0] 25)).trans hk1
  clear hk1
  obtain ⟨q1, q2, q3, q4, q5, q6⟩ := OX.out.three
  obtain ⟨p1, p2, p3, p4, p5, p6⟩ := OR.out.three
  go_wp2_with fail
  refine (name_any nm _ HNS.out).mono ?_
  rintro e _ ⟨rfl, rfl⟩
  rw [HNB.out]
  go_wp2
  have r0 := OR.out.put3' (.slice none 0 0) (.slice none 0 0) (.int .i64 0)
  obtain ⟨s1, s2, s3, _, _, _⟩ := r0.three
  refine bodyPost_ret (v := .tuple #[.agg #[.slice none 0 0, .slice none 0 0, .int .i64 0], .int .i64 1]) (by simp [results, Try.results21, go_sem, s1, s2, s3]) rfl ?_
  exact ⟨_, by rw [HEX.out], by rw [HEX.out]; exact ixAt_nil _ _, ((hkw1.setCell (p := ⟨w.heap.size + 1, 0, none⟩) (by simp) _).setCell (p := ⟨w.heap.size + 1, 1, none⟩) (by simp) _).setCell (p := ⟨w.heap.size + 1, 2, none⟩) (by simp) _⟩

set_option maxRecDepth 100000 in
set_option maxHeartbeats 1000000 in
theorem sub_same_true (V : List Nat) (x : Ix) (v : Value) (nm : ByteArray) (w : World) (hV : Old V w) (h : IxAt V w v x) (hok : IxOk x) (hnm : nm.size ≤ maxLen) (hr : rightB x = true) (hnb : nameB nm = true) (hth : thereS x.subs nm = true) :
    Calls Try.prog 21 #[v, .string nm, .bool true] w (SubPost V x nm true w) := by
  have HEX : Hid (subR x nm true = (x, 0)) := by
    show _ = _
    unfold subR; rw [hr, hnb, hth]; rfl
  have HVV := Lib.hid h
  have HOV := Lib.hid hV
  replace h := h.weak (U := []) (fun _ hk => by cases hk)
  clear hV
  have H := Lib.hid h
  have HOK := Lib.hid hok
  have HR := Lib.hid hr
  have HNS := Lib.hid hnm
  have HNB := Lib.hid hnb
  have HTH := Lib.hid hth
  have hm6 : x.subs.length ≤ 1000 := by have := (right_len hr).2.2.1; omega
  clear hnb hth
  obtain ⟨A, c, A', c', rfl, hc1, hc2, hc3, hc4, hbx, hrow⟩ := h.open_
  have HROW := Lib.hid hrow
  clear hbx hrow h hok hr hnm hc1 hc2 hc3 hc4
  generalize hn : x.boxes.length = n at *
  generalize hm : x.subs.length = m at *
  generalize hg : x.given = gv at *
  have HN := Lib.hid hn
  have HM := Lib.hid hm
  have HG := Lib.hid hg
  clear hn hm hg
  go_enter Try.func21, Try.ntmps21
  go_wp2_with fail
  refine (right_any x _ _ (H.out.go (((Kept.refl w).alloc _).alloc _) (Ext.refl _ _)) HOK.out).mono ?_
  rintro e w1 ⟨rfl, hk1⟩
  rw [HR.out]
  have OX := Lib.hid (((Own.new w 25 [.slice A n c, .slice A' m c', .int .i64 gv]).alloc (.cells #[.slice none 0 0, .slice none 0 0, .int .i64 0] 25)).kept hk1)
  have OR := Lib.hid ((Own.new1 w (.cells #[.slice A n c, .slice A' m c', .int .i64 gv] 25) 25 [.slice none 0 0, .slice none 0 0, .int .i64 0]).kept hk1)
  have hkw1 := (((Kept.refl w).alloc (.cells #[.slice A n c, .slice A' m c', .int .i64 gv] 25)).alloc (.cells #[.slice none 0 0, .slice none 0 0, .int .i64 0] 25)).trans hk1
  clear hk1
  obtain ⟨q1, q2, q3, q4, q5, q6⟩ := OX.out.three
  obtain ⟨p1, p2, p3, p4, p5, p6⟩ := OR.out.three
  go_wp2_with fail
  refine (name_any nm _ HNS.out).mono ?_
  rintro e _ ⟨rfl, rfl⟩
  rw [HNB.out]
  go_wp2_with fail
  have HB : Calls Try.prog 48 #[.slice A' m c', .string nm] w1 fun e w' => e = .returned (.tuple #[.int .i64 (posS x.subs nm), .bool (thereS x.subs nm)]) ∧ Kept w1 w' := by
    have := bin_any x.subs A' c' nm w1 (HROW.out.kept hkw1) (by rw [HM.out]; exact hm6) (right_mono HR.out nm)
    rw [HM.out] at this
    exact this
  refine HB.mono ?_
  rintro e w2 ⟨rfl, hk2⟩
  rw [HTH.out]
  have OX2 := Lib.hid (OX.out.kept hk2)
  have OR2 := Lib.hid (OR.out.kept hk2)
  have hkw2 := hkw1.trans hk2
  clear HB hk2 OX OR q1 q2 q3 q4 q5 q6 p1 p2 p3 p4 p5 p6 hkw1
  obtain ⟨q1, q2, q3, q4, q5, q6⟩ := OX2.out.three
  obtain ⟨p1, p2, p3, p4, p5, p6⟩ := OR2.out.three
  have hpl : posS x.subs nm ≤ m := by rw [← HM.out]; exact (posS_spec x.subs nm).1
  generalize hp : posS x.subs nm = p at *
  have HP := Lib.hid hp
  clear hp
  have hx2 := OX2.out.lt
  have hz2 := OR2.out.lt
  go_wp2
  have r0 := OR2.out.put3' (.slice A n c) (.slice A' m c') (.int .i64 gv)
  obtain ⟨s1, s2, s3, _, _, _⟩ := r0.three
  refine bodyPost_ret (v := .tuple #[.agg #[.slice A n c, .slice A' m c', .int .i64 gv], .int .i64 0]) (by simp [results, Try.results21, go_sem, s1, s2, s3]) rfl ?_
  have hkf := ((hkw2.setCell (p := ⟨w.heap.size + 1, 0, none⟩) (by simp) (.slice A n c)).setCell (p := ⟨w.heap.size + 1, 1, none⟩) (by simp) (.slice A' m c')).setCell (p := ⟨w.heap.size + 1, 2, none⟩) (by simp) (.int .i64 gv)
  exact ⟨_, by rw [HEX.out], by rw [HEX.out]; exact HVV.out.go hkf (Ext.refl _ _), hkf⟩

set_option maxRecDepth 100000 in
set_option maxHeartbeats 1000000 in
theorem sub_same_false (V : List Nat) (x : Ix) (v : Value) (nm : ByteArray) (w : World) (hV : Old V w) (h : IxAt V w v x) (hok : IxOk x) (hnm : nm.size ≤ maxLen) (hr : rightB x = true) (hnb : nameB nm = true) (hth : thereS x.subs nm = false) :
    Calls Try.prog 21 #[v, .string nm, .bool false] w (SubPost V x nm false w) := by
  have HEX : Hid (subR x nm false = (x, 0)) := by
    show _ = _
    unfold subR; rw [hr, hnb, hth]; rfl
  have HVV := Lib.hid h
  have HOV := Lib.hid hV
  replace h := h.weak (U := []) (fun _ hk => by cases hk)
  clear hV
  have H := Lib.hid h
  have HOK := Lib.hid hok
  have HR := Lib.hid hr
  have HNS := Lib.hid hnm
  have HNB := Lib.hid hnb
  have HTH := Lib.hid hth
  have hm6 : x.subs.length ≤ 1000 := by have := (right_len hr).2.2.1; omega
  clear hnb hth
  obtain ⟨A, c, A', c', rfl, hc1, hc2, hc3, hc4, hbx, hrow⟩ := h.open_
  have HROW := Lib.hid hrow
  clear hbx hrow h hok hr hnm hc1 hc2 hc3 hc4
  generalize hn : x.boxes.length = n at *
  generalize hm : x.subs.length = m at *
  generalize hg : x.given = gv at *
  have HN := Lib.hid hn
  have HM := Lib.hid hm
  have HG := Lib.hid hg
  clear hn hm hg
  go_enter Try.func21, Try.ntmps21
  go_wp2_with fail
  refine (right_any x _ _ (H.out.go (((Kept.refl w).alloc _).alloc _) (Ext.refl _ _)) HOK.out).mono ?_
  rintro e w1 ⟨rfl, hk1⟩
  rw [HR.out]
  have OX := Lib.hid (((Own.new w 25 [.slice A n c, .slice A' m c', .int .i64 gv]).alloc (.cells #[.slice none 0 0, .slice none 0 0, .int .i64 0] 25)).kept hk1)
  have OR := Lib.hid ((Own.new1 w (.cells #[.slice A n c, .slice A' m c', .int .i64 gv] 25) 25 [.slice none 0 0, .slice none 0 0, .int .i64 0]).kept hk1)
  have hkw1 := (((Kept.refl w).alloc (.cells #[.slice A n c, .slice A' m c', .int .i64 gv] 25)).alloc (.cells #[.slice none 0 0, .slice none 0 0, .int .i64 0] 25)).trans hk1
  clear hk1
  obtain ⟨q1, q2, q3, q4, q5, q6⟩ := OX.out.three
  obtain ⟨p1, p2, p3, p4, p5, p6⟩ := OR.out.three
  go_wp2_with fail
  refine (name_any nm _ HNS.out).mono ?_
  rintro e _ ⟨rfl, rfl⟩
  rw [HNB.out]
  go_wp2_with fail
  have HB : Calls Try.prog 48 #[.slice A' m c', .string nm] w1 fun e w' => e = .returned (.tuple #[.int .i64 (posS x.subs nm), .bool (thereS x.subs nm)]) ∧ Kept w1 w' := by
    have := bin_any x.subs A' c' nm w1 (HROW.out.kept hkw1) (by rw [HM.out]; exact hm6) (right_mono HR.out nm)
    rw [HM.out] at this
    exact this
  refine HB.mono ?_
  rintro e w2 ⟨rfl, hk2⟩
  rw [HTH.out]
  have OX2 := Lib.hid (OX.out.kept hk2)
  have OR2 := Lib.hid (OR.out.kept hk2)
  have hkw2 := hkw1.trans hk2
  clear HB hk2 OX OR q1 q2 q3 q4 q5 q6 p1 p2 p3 p4 p5 p6 hkw1
  obtain ⟨q1, q2, q3, q4, q5, q6⟩ := OX2.out.three
  obtain ⟨p1, p2, p3, p4, p5, p6⟩ := OR2.out.three
  have hpl : posS x.subs nm ≤ m := by rw [← HM.out]; exact (posS_spec x.subs nm).1
  generalize hp : posS x.subs nm = p at *
  have HP := Lib.hid hp
  clear hp
  have hx2 := OX2.out.lt
  have hz2 := OR2.out.lt
  go_wp2
  have r0 := OR2.out.put3' (.slice A n c) (.slice A' m c') (.int .i64 gv)
  obtain ⟨s1, s2, s3, _, _, _⟩ := r0.three
  refine bodyPost_ret (v := .tuple #[.agg #[.slice A n c, .slice A' m c', .int .i64 gv], .int .i64 0]) (by simp [results, Try.results21, go_sem, s1, s2, s3]) rfl ?_
  have hkf := ((hkw2.setCell (p := ⟨w.heap.size + 1, 0, none⟩) (by simp) (.slice A n c)).setCell (p := ⟨w.heap.size + 1, 1, none⟩) (by simp) (.slice A' m c')).setCell (p := ⟨w.heap.size + 1, 2, none⟩) (by simp) (.int .i64 gv)
  exact ⟨_, by rw [HEX.out], by rw [HEX.out]; exact HVV.out.go hkf (Ext.refl _ _), hkf⟩

set_option maxRecDepth 100000 in
set_option maxHeartbeats 1000000 in
theorem sub_full (V : List Nat) (x : Ix) (v : Value) (nm : ByteArray) (w : World) (hV : Old V w) (h : IxAt V w v x) (hok : IxOk x) (hnm : nm.size ≤ maxLen) (hr : rightB x = true) (hnb : nameB nm = true) (hth : thereS x.subs nm = false) (hf : 6 ≤ x.subs.length) :
    Calls Try.prog 21 #[v, .string nm, .bool true] w (SubPost V x nm true w) := by
  have HEX : Hid (subR x nm true = (ix0, 5)) := by
    show _ = _
    unfold subR; rw [hr, hnb, hth, if_pos hf]; rfl
  have HVV := Lib.hid h
  have HOV := Lib.hid hV
  replace h := h.weak (U := []) (fun _ hk => by cases hk)
  clear hV
  have H := Lib.hid h
  have HOK := Lib.hid hok
  have HR := Lib.hid hr
  have HNS := Lib.hid hnm
  have HNB := Lib.hid hnb
  have HTH := Lib.hid hth
  have hm6 : x.subs.length ≤ 1000 := by have := (right_len hr).2.2.1; omega
  clear hnb hth
  obtain ⟨A, c, A', c', rfl, hc1, hc2, hc3, hc4, hbx, hrow⟩ := h.open_
  have HROW := Lib.hid hrow
  clear hbx hrow h hok hr hnm hc1 hc2 hc3 hc4
  generalize hn : x.boxes.length = n at *
  generalize hm : x.subs.length = m at *
  generalize hg : x.given = gv at *
  have HN := Lib.hid hn
  have HM := Lib.hid hm
  have HG := Lib.hid hg
  clear hn hm hg
  go_enter Try.func21, Try.ntmps21
  go_wp2_with fail
  refine (right_any x _ _ (H.out.go (((Kept.refl w).alloc _).alloc _) (Ext.refl _ _)) HOK.out).mono ?_
  rintro e w1 ⟨rfl, hk1⟩
  rw [HR.out]
  have OX := Lib.hid (((Own.new w 25 [.slice A n c, .slice A' m c', .int .i64 gv]).alloc (.cells #[.slice none 0 0, .slice none 0 0, .int .i64 0] 25)).kept hk1)
  have OR := Lib.hid ((Own.new1 w (.cells #[.slice A n c, .slice A' m c', .int .i64 gv] 25) 25 [.slice none 0 0, .slice none 0 0, .int .i64 0]).kept hk1)
  have hkw1 := (((Kept.refl w).alloc (.cells #[.slice A n c, .slice A' m c', .int .i64 gv] 25)).alloc (.cells #[.slice none 0 0, .slice none 0 0, .int .i64 0] 25)).trans hk1
  clear hk1
  obtain ⟨q1, q2, q3, q4, q5, q6⟩ := OX.out.three
  obtain ⟨p1, p2, p3, p4, p5, p6⟩ := OR.out.three
  go_wp2_with fail
  refine (name_any nm _ HNS.out).mono ?_
  rintro e _ ⟨rfl, rfl⟩
  rw [HNB.out]
  go_wp2_with fail
  have HB : Calls Try.prog 48 #[.slice A' m c', .string nm] w1 fun e w' => e = .returned (.tuple #[.int .i64 (posS x.subs nm), .bool (thereS x.subs nm)]) ∧ Kept w1 w' := by
    have := bin_any x.subs A' c' nm w1 (HROW.out.kept hkw1) (by rw [HM.out]; exact hm6) (right_mono HR.out nm)
    rw [HM.out] at this
    exact this
  refine HB.mono ?_
  rintro e w2 ⟨rfl, hk2⟩
  rw [HTH.out]
  have OX2 := Lib.hid (OX.out.kept hk2)
  have OR2 := Lib.hid (OR.out.kept hk2)
  have hkw2 := hkw1.trans hk2
  clear HB hk2 OX OR q1 q2 q3 q4 q5 q6 p1 p2 p3 p4 p5 p6 hkw1
  obtain ⟨q1, q2, q3, q4, q5, q6⟩ := OX2.out.three
  obtain ⟨p1, p2, p3, p4, p5, p6⟩ := OR2.out.three
  have hpl : posS x.subs nm ≤ m := by rw [← HM.out]; exact (posS_spec x.subs nm).1
  generalize hp : posS x.subs nm = p at *
  have HP := Lib.hid hp
  clear hp
  have hx2 := OX2.out.lt
  have hz2 := OR2.out.lt
  have hf' : (6 : Int) ≤ (m : Int) := by omega
  go_wp2
  have r0 := OR2.out.put3' (.slice none 0 0) (.slice none 0 0) (.int .i64 0)
  obtain ⟨s1, s2, s3, _, _, _⟩ := r0.three
  refine bodyPost_ret (v := .tuple #[.agg #[.slice none 0 0, .slice none 0 0, .int .i64 0], .int .i64 5]) (by simp [results, Try.results21, go_sem, s1, s2, s3]) rfl ?_
  exact ⟨_, by rw [HEX.out], by rw [HEX.out]; exact ixAt_nil _ _, ((hkw2.setCell (p := ⟨w.heap.size + 1, 0, none⟩) (by simp) _).setCell (p := ⟨w.heap.size + 1, 1, none⟩) (by simp) _).setCell (p := ⟨w.heap.size + 1, 2, none⟩) (by simp) _⟩

set_option maxRecDepth 100000 in
set_option maxHeartbeats 1000000 in
theorem sub_del (V : List Nat) (x : Ix) (v : Value) (nm : ByteArray) (w : World) (hV : Old V w) (h : IxAt V w v x) (hok : IxOk x) (hnm : nm.size ≤ maxLen) (hr : rightB x = true) (hnb : nameB nm = true) (hth : thereS x.subs nm = true) :
    Calls Try.prog 21 #[v, .string nm, .bool false] w (SubPost V x nm false w) := by
  have HEX : Hid (subR x nm false = (subIx x (x.subs.eraseIdx (posS x.subs nm)), 0)) := by
    show _ = _
    unfold subR; rw [hr, hnb, hth]; rfl
  have HVV := Lib.hid h
  have HOV := Lib.hid hV
  replace h := h.weak (U := []) (fun _ hk => by cases hk)
  clear hV
  have H := Lib.hid h
  have HOK := Lib.hid hok
  have HR := Lib.hid hr
  have HNS := Lib.hid hnm
  have HNB := Lib.hid hnb
  have HTH := Lib.hid hth
  have hm6 : x.subs.length ≤ 1000 := by have := (right_len hr).2.2.1; omega
  clear hnb hth
  have hlt : posS x.subs nm < x.subs.length := by
    have := HTH.out
    simp only [thereS, Bool.and_eq_true, decide_eq_true_eq] at this
    exact this.1
  obtain ⟨A, c, A', c', rfl, hc1, hc2, hc3, hc4, hbx, hrow⟩ := h.open_
  have HROW := Lib.hid hrow
  clear hbx hrow h hok hr hnm hc1 hc2 hc3 hc4
  generalize hn : x.boxes.length = n at *
  generalize hm : x.subs.length = m at *
  generalize hg : x.given = gv at *
  have HN := Lib.hid hn
  have HM := Lib.hid hm
  have HG := Lib.hid hg
  clear hn hm hg
  go_enter Try.func21, Try.ntmps21
  go_wp2_with fail
  refine (right_any x _ _ (H.out.go (((Kept.refl w).alloc _).alloc _) (Ext.refl _ _)) HOK.out).mono ?_
  rintro e w1 ⟨rfl, hk1⟩
  rw [HR.out]
  have OX := Lib.hid (((Own.new w 25 [.slice A n c, .slice A' m c', .int .i64 gv]).alloc (.cells #[.slice none 0 0, .slice none 0 0, .int .i64 0] 25)).kept hk1)
  have OR := Lib.hid ((Own.new1 w (.cells #[.slice A n c, .slice A' m c', .int .i64 gv] 25) 25 [.slice none 0 0, .slice none 0 0, .int .i64 0]).kept hk1)
  have hkw1 := (((Kept.refl w).alloc (.cells #[.slice A n c, .slice A' m c', .int .i64 gv] 25)).alloc (.cells #[.slice none 0 0, .slice none 0 0, .int .i64 0] 25)).trans hk1
  clear hk1
  obtain ⟨q1, q2, q3, q4, q5, q6⟩ := OX.out.three
  obtain ⟨p1, p2, p3, p4, p5, p6⟩ := OR.out.three
  go_wp2_with fail
  refine (name_any nm _ HNS.out).mono ?_
  rintro e _ ⟨rfl, rfl⟩
  rw [HNB.out]
  go_wp2_with fail
  have HB : Calls Try.prog 48 #[.slice A' m c', .string nm] w1 fun e w' => e = .returned (.tuple #[.int .i64 (posS x.subs nm), .bool (thereS x.subs nm)]) ∧ Kept w1 w' := by
    have := bin_any x.subs A' c' nm w1 (HROW.out.kept hkw1) (by rw [HM.out]; exact hm6) (right_mono HR.out nm)
    rw [HM.out] at this
    exact this
  refine HB.mono ?_
  rintro e w2 ⟨rfl, hk2⟩
  rw [HTH.out]
  have OX2 := Lib.hid (OX.out.kept hk2)
  have OR2 := Lib.hid (OR.out.kept hk2)
  have hkw2 := hkw1.trans hk2
  clear HB hk2 OX OR q1 q2 q3 q4 q5 q6 p1 p2 p3 p4 p5 p6 hkw1
  obtain ⟨q1, q2, q3, q4, q5, q6⟩ := OX2.out.three
  obtain ⟨p1, p2, p3, p4, p5, p6⟩ := OR2.out.three
  have hpl : posS x.subs nm ≤ m := by rw [← HM.out]; exact (posS_spec x.subs nm).1
  generalize hp : posS x.subs nm = p at *
  have HP := Lib.hid hp
  clear hp
  have hx2 := OX2.out.lt
  have hz2 := OR2.out.lt
  go_wp2_with fail
  have HC : Calls Try.prog 50 #[.slice A' m c'] w2 fun e w' => ∃ v, e = .returned v ∧ w'.ownsRow w2.heap.size 9 1 v m (strs x.subs) ∧ Kept w2 w' := by
    have := cloneS_any x.subs A' c' w2 (HROW.out.kept hkw2) (by rw [HM.out]; exact hm6)
    rw [HM.out] at this
    exact this
  refine HC.mono ?_
  rintro e w3 ⟨v3, rfl, ho3, hk3⟩
  clear HC
  obtain ⟨r4, c4, e4, hg1, hg2, hg3, hg4⟩ := ownBlock_of_row ho3 (by omega)
  cases e4
  have HD : Calls Try.prog 49 #[.slice (some ⟨r4, 0, none⟩) m c4, .int .i64 p, .int .i64 ((p : Int) + 1)] w3 fun e w' => ∃ n', e = .returned (.slice (some ⟨r4, 0, none⟩) n' c4) ∧ n' = (x.subs.eraseIdx p).length ∧ w'.ownsRow w2.heap.size 9 1 (.slice (some ⟨r4, 0, none⟩) n' c4) n' (strs (x.subs.eraseIdx p)) ∧ w3.grownBy w' (some r4) := by
    have := delS_any w2.heap.size r4 c4 p x.subs w3 (by rw [HM.out]; exact ho3) (by rw [HM.out]; exact hlt) (by rw [HM.out]; exact hm6)
    rw [HM.out] at this
    exact this
  have HD := Lib.hid HD
  have OX3 := Lib.hid (OX2.out.kept hk3)
  have OR3 := Lib.hid (OR2.out.kept hk3)
  have hkw3 := hkw2.trans hk3
  have hpw : IntKind.i64.wrap ((p : Int) + 1) = (p : Int) + 1 := IntWalk.i64_in _ (by omega)
  clear q1 q2 q3 q4 q5 q6 p1 p2 p3 p4 p5 p6 ho3
  obtain ⟨q1, q2, q3, q4, q5, q6⟩ := OX3.out.three
  obtain ⟨p1, p2, p3, p4, p5, p6⟩ := OR3.out.three
  go_wp2_with fail
  refine HD.out.mono ?_
  rintro e w4 ⟨n', rfl, hn', ho4, hgr⟩
  have HO4 := Lib.hid ho4
  have HN' := Lib.hid hn'
  have OX4 := Lib.hid (OX3.out.grown hgr (by simp; omega))
  have OR4 := Lib.hid (OR3.out.grown hgr (by simp; omega))
  have hkw4 : Kept w w4 := hkw3.grown hgr (fun k hk => by injection hk with hk; have := hkw2.size; omega)
  clear q1 q2 q3 q4 q5 q6 p1 p2 p3 p4 p5 p6 ho4 hgr hn' HD
  obtain ⟨q1, q2, q3, q4, q5, q6⟩ := OX4.out.three
  obtain ⟨p1, p2, p3, p4, p5, p6⟩ := OR4.out.three
  go_wp2
  have hs1 := OX4.out.lt
  have hr1 : r4 ≠ w.heap.size := by omega
  have hr2 : r4 ≠ w.heap.size + 1 := by omega
  have n1 : (Value.slice (some ⟨r4, 0, none⟩) n' c4).ownBlock ≠ some w.heap.size := fun e => hr1 (ownBlock_eq e)
  have n2 : (Value.slice (some ⟨r4, 0, none⟩) n' c4).ownBlock ≠ some (w.heap.size + 1) := fun e => hr2 (ownBlock_eq e)
  have o1 := ownsRow_setCell_other HO4.out (a := ⟨w.heap.size, 1, none⟩) n1 (.slice (some ⟨r4, 0, none⟩) n' c4)
  have o3 := ownsRow_setCell_other (ownsRow_setCell_other (ownsRow_setCell_other o1 (a := ⟨w.heap.size + 1, 0, none⟩) n2 (.slice A n c)) (a := ⟨w.heap.size + 1, 1, none⟩) n2 (.slice (some ⟨r4, 0, none⟩) n' c4)) (a := ⟨w.heap.size + 1, 2, none⟩) n2 (.int .i64 gv)
  have r0 := (OR4.out.far (p := ⟨w.heap.size, 1, none⟩) (by simp) (.slice (some ⟨r4, 0, none⟩) n' c4)).put3' (.slice A n c) (.slice (some ⟨r4, 0, none⟩) n' c4) (.int .i64 gv)
  obtain ⟨s1, s2, s3, _, _, _⟩ := r0.three
  refine bodyPost_ret (v := .tuple #[.agg #[.slice A n c, .slice (some ⟨r4, 0, none⟩) n' c4, .int .i64 gv], .int .i64 0]) (by simp [results, Try.results21, go_sem, s1, s2, s3]) rfl ?_
  have hkf := (((hkw4.setCell (p := ⟨w.heap.size, 1, none⟩) (Nat.le_refl _) (.slice (some ⟨r4, 0, none⟩) n' c4)).setCell (p := ⟨w.heap.size + 1, 0, none⟩) (by simp) (.slice A n c)).setCell (p := ⟨w.heap.size + 1, 1, none⟩) (by simp) (.slice (some ⟨r4, 0, none⟩) n' c4)).setCell (p := ⟨w.heap.size + 1, 2, none⟩) (by simp) (.int .i64 gv)
  refine ⟨_, by rw [HEX.out], ?_, hkf⟩
  rw [HEX.out]
  exact ⟨_, _, by rw [show (subIx x (x.subs.eraseIdx p)).given = gv from HG.out], (HVV.out.go hkf (Ext.refl _ _)).parts.2.1, strsAt_own o3 (fun k hk => by have := HOV.out k hk; have := hkw2.size; omega) HN'.out⟩

set_option maxRecDepth 100000 in
set_option maxHeartbeats 1000000 in
theorem sub_ins (V : List Nat) (x : Ix) (v : Value) (nm : ByteArray) (w : World) (hV : Old V w) (h : IxAt V w v x) (hok : IxOk x) (hnm : nm.size ≤ maxLen) (hr : rightB x = true) (hnb : nameB nm = true) (hth : thereS x.subs nm = false) (hf : ¬ 6 ≤ x.subs.length) :
    Calls Try.prog 21 #[v, .string nm, .bool true] w (SubPost V x nm true w) := by
  have HEX : Hid (subR x nm true = (subIx x (putS x.subs nm), 0)) := by
    show _ = _
    unfold subR; rw [hr, hnb, hth, if_neg hf]; rfl
  have HVV := Lib.hid h
  have HOV := Lib.hid hV
  replace h := h.weak (U := []) (fun _ hk => by cases hk)
  clear hV
  have H := Lib.hid h
  have HOK := Lib.hid hok
  have HR := Lib.hid hr
  have HNS := Lib.hid hnm
  have HNB := Lib.hid hnb
  have HTH := Lib.hid hth
  have hm6 : x.subs.length ≤ 1000 := by have := (right_len hr).2.2.1; omega
  clear hnb hth
  obtain ⟨A, c, A', c', rfl, hc1, hc2, hc3, hc4, hbx, hrow⟩ := h.open_
  have HROW := Lib.hid hrow
  clear hbx hrow h hok hr hnm hc1 hc2 hc3 hc4
  generalize hn : x.boxes.length = n at *
  generalize hm : x.subs.length = m at *
  generalize hg : x.given = gv at *
  have HN := Lib.hid hn
  have HM := Lib.hid hm
  have HG := Lib.hid hg
  clear hn hm hg
  go_enter Try.func21, Try.ntmps21
  go_wp2_with fail
  refine (right_any x _ _ (H.out.go (((Kept.refl w).alloc _).alloc _) (Ext.refl _ _)) HOK.out).mono ?_
  rintro e w1 ⟨rfl, hk1⟩
  rw [HR.out]
  have OX := Lib.hid (((Own.new w 25 [.slice A n c, .slice A' m c', .int .i64 gv]).alloc (.cells #[.slice none 0 0, .slice none 0 0, .int .i64 0] 25)).kept hk1)
  have OR := Lib.hid ((Own.new1 w (.cells #[.slice A n c, .slice A' m c', .int .i64 gv] 25) 25 [.slice none 0 0, .slice none 0 0, .int .i64 0]).kept hk1)
  have hkw1 := (((Kept.refl w).alloc (.cells #[.slice A n c, .slice A' m c', .int .i64 gv] 25)).alloc (.cells #[.slice none 0 0, .slice none 0 0, .int .i64 0] 25)).trans hk1
  clear hk1
  obtain ⟨q1, q2, q3, q4, q5, q6⟩ := OX.out.three
  obtain ⟨p1, p2, p3, p4, p5, p6⟩ := OR.out.three
  go_wp2_with fail
  refine (name_any nm _ HNS.out).mono ?_
  rintro e _ ⟨rfl, rfl⟩
  rw [HNB.out]
  go_wp2_with fail
  have HB : Calls Try.prog 48 #[.slice A' m c', .string nm] w1 fun e w' => e = .returned (.tuple #[.int .i64 (posS x.subs nm), .bool (thereS x.subs nm)]) ∧ Kept w1 w' := by
    have := bin_any x.subs A' c' nm w1 (HROW.out.kept hkw1) (by rw [HM.out]; exact hm6) (right_mono HR.out nm)
    rw [HM.out] at this
    exact this
  refine HB.mono ?_
  rintro e w2 ⟨rfl, hk2⟩
  rw [HTH.out]
  have OX2 := Lib.hid (OX.out.kept hk2)
  have OR2 := Lib.hid (OR.out.kept hk2)
  have hkw2 := hkw1.trans hk2
  clear HB hk2 OX OR q1 q2 q3 q4 q5 q6 p1 p2 p3 p4 p5 p6 hkw1
  obtain ⟨q1, q2, q3, q4, q5, q6⟩ := OX2.out.three
  obtain ⟨p1, p2, p3, p4, p5, p6⟩ := OR2.out.three
  have hpl : posS x.subs nm ≤ m := by rw [← HM.out]; exact (posS_spec x.subs nm).1
  generalize hp : posS x.subs nm = p at *
  have HP := Lib.hid hp
  clear hp
  have hx2 := OX2.out.lt
  have hz2 := OR2.out.lt
  have hf' : ¬ (6 : Int) ≤ (m : Int) := by omega
  go_wp2_with fail
  have HC : Calls Try.prog 50 #[.slice A' m c'] w2 fun e w' => ∃ v, e = .returned v ∧ w'.ownsRow w2.heap.size 9 1 v m (strs x.subs) ∧ Kept w2 w' := by
    have := cloneS_any x.subs A' c' w2 (HROW.out.kept hkw2) (by rw [HM.out]; exact hm6)
    rw [HM.out] at this
    exact this
  refine HC.mono ?_
  rintro e w3 ⟨v3, rfl, ho3, hk3⟩
  clear HC
  obtain ⟨B3, c3, rfl, _, _, _⟩ := own_form (V := []) ho3 (by simp)
  have HI : Calls Try.prog 51 #[.slice B3 m c3, .int .i64 p, .slice (some ⟨w3.heap.size, 0, none⟩) 1 1] (w3.alloc (.cells #[.string nm] 9)) fun e w' => ∃ r4 c4, e = .returned (.slice (some ⟨r4, 0, none⟩) (m + 1) c4) ∧ w2.heap.size ≤ r4 ∧ w'.ownsRow w2.heap.size 9 1 (.slice (some ⟨r4, 0, none⟩) (m + 1) c4) (m + 1) (strs (putS x.subs nm)) ∧ (w3.alloc (.cells #[.string nm] 9)).grownBy w' (Value.slice B3 m c3).ownBlock := by
    have hlb : ∀ k, (Value.slice B3 m c3).ownBlock = some k → w2.heap.size ≤ k ∧ k < w3.heap.size := fun k hk => ownBlock_of ho3 hk
    have := insS_any w2.heap.size p w3.heap.size (.slice B3 m c3) x.subs nm (w3.alloc (.cells #[.string nm] 9)) (by rw [HM.out, strs_flat]; exact ho3.alloc _) (by have := hk3.size; simp; omega) (by rw [HM.out]; exact hpl) (by rw [HM.out]; exact hm6) (by rw [strs_flat]; exact strs_one _) (strc_one nm) (Own.new w3 _ [_]) (fun e => by have := (hlb _ e).2; omega)
    refine this.mono ?_
    rintro e w' ⟨v', rfl, h1, h2, h3⟩
    rw [HM.out, strs_flat] at h1
    obtain ⟨r4, c4, rfl, k1, _⟩ := ownBlock_of_row h1 (by omega)
    refine ⟨r4, c4, rfl, k1, ?_, h2⟩
    rw [show putS x.subs nm = x.subs.take p ++ nm :: x.subs.drop p by unfold putS; rw [HP.out]]
    exact h1
  have HI := Lib.hid HI
  have OX3 := Lib.hid ((OX2.out.kept hk3).alloc (.cells #[.string nm] 9))
  have OR3 := Lib.hid ((OR2.out.kept hk3).alloc (.cells #[.string nm] 9))
  have hkw3 := (hkw2.trans hk3).alloc (.cells #[.string nm] 9)
  have HLB := Lib.hid (fun k (hk : (Value.slice B3 m c3).ownBlock = some k) => (ownBlock_of ho3 hk).1)
  have hz3 := hk3.size
  clear q1 q2 q3 q4 q5 q6 p1 p2 p3 p4 p5 p6 ho3
  obtain ⟨q1, q2, q3, q4, q5, q6⟩ := OX3.out.three
  obtain ⟨p1, p2, p3, p4, p5, p6⟩ := OR3.out.three
  go_wp2_with fail
  refine HI.out.mono ?_
  rintro e w4 ⟨r4, c4, rfl, hr4, ho4, hgr⟩
  have HO4 := Lib.hid ho4
  have OX4 := Lib.hid (OX3.out.appd hgr (fun k hk => by have := HLB.out k hk; omega))
  have OR4 := Lib.hid (OR3.out.appd hgr (fun k hk => by have := HLB.out k hk; omega))
  have hkw4 : Kept w w4 := hkw3.grown hgr (fun k hk => by have := HLB.out k hk; have := hkw2.size; omega)
  clear q1 q2 q3 q4 q5 q6 p1 p2 p3 p4 p5 p6 ho4 hgr HI
  obtain ⟨q1, q2, q3, q4, q5, q6⟩ := OX4.out.three
  obtain ⟨p1, p2, p3, p4, p5, p6⟩ := OR4.out.three
  go_wp2
  have hs1 := OX4.out.lt
  have hr1 : r4 ≠ w.heap.size := by omega
  have hr2 : r4 ≠ w.heap.size + 1 := by omega
  have n1 : (Value.slice (some ⟨r4, 0, none⟩) (m + 1) c4).ownBlock ≠ some w.heap.size := fun e => hr1 (ownBlock_eq e)
  have n2 : (Value.slice (some ⟨r4, 0, none⟩) (m + 1) c4).ownBlock ≠ some (w.heap.size + 1) := fun e => hr2 (ownBlock_eq e)
  have o1 := ownsRow_setCell_other HO4.out (a := ⟨w.heap.size, 1, none⟩) n1 (.slice (some ⟨r4, 0, none⟩) (m + 1) c4)
  have o3 := ownsRow_setCell_other (ownsRow_setCell_other (ownsRow_setCell_other o1 (a := ⟨w.heap.size + 1, 0, none⟩) n2 (.slice A n c)) (a := ⟨w.heap.size + 1, 1, none⟩) n2 (.slice (some ⟨r4, 0, none⟩) (m + 1) c4)) (a := ⟨w.heap.size + 1, 2, none⟩) n2 (.int .i64 gv)
  have r0 := (OR4.out.far (p := ⟨w.heap.size, 1, none⟩) (by simp) (.slice (some ⟨r4, 0, none⟩) (m + 1) c4)).put3' (.slice A n c) (.slice (some ⟨r4, 0, none⟩) (m + 1) c4) (.int .i64 gv)
  obtain ⟨s1, s2, s3, _, _, _⟩ := r0.three
  refine bodyPost_ret (v := .tuple #[.agg #[.slice A n c, .slice (some ⟨r4, 0, none⟩) (m + 1) c4, .int .i64 gv], .int .i64 0]) (by simp [results, Try.results21, go_sem, s1, s2, s3]) rfl ?_
  have hkf := (((hkw4.setCell (p := ⟨w.heap.size, 1, none⟩) (Nat.le_refl _) (.slice (some ⟨r4, 0, none⟩) (m + 1) c4)).setCell (p := ⟨w.heap.size + 1, 0, none⟩) (by simp) (.slice A n c)).setCell (p := ⟨w.heap.size + 1, 1, none⟩) (by simp) (.slice (some ⟨r4, 0, none⟩) (m + 1) c4)).setCell (p := ⟨w.heap.size + 1, 2, none⟩) (by simp) (.int .i64 gv)
  refine ⟨_, by rw [HEX.out], ?_, hkf⟩
  rw [HEX.out]
  exact ⟨_, _, by rw [show (subIx x (putS x.subs nm)).given = gv from HG.out], (HVV.out.go hkf (Ext.refl _ _)).parts.2.1, strsAt_own o3 (fun k hk => by have := HOV.out k hk; have := hkw2.size; omega) (by rw [show (subIx x (putS x.subs nm)).subs = putS x.subs nm from rfl, putS_len, HM.out])⟩

theorem subV_any (V : List Nat) (x : Ix) (v : Value) (nm : ByteArray) (yes : Bool) (w : World) (hV : Old V w) (h : IxAt V w v x) (hok : IxOk x) (hnm : nm.size ≤ maxLen) :
    Calls Try.prog 21 #[v, .string nm, .bool yes] w (SubPost V x nm yes w) := by
  rcases Bool.eq_false_or_eq_true (rightB x) with hr | hr
  · rcases Bool.eq_false_or_eq_true (nameB nm) with hn | hn
    · rcases Bool.eq_false_or_eq_true (thereS x.subs nm) with ht | ht
      · cases yes
        · exact sub_del V x v nm w hV h hok hnm hr hn ht
        · exact sub_same_true V x v nm w hV h hok hnm hr hn ht
      · cases yes
        · exact sub_same_false V x v nm w hV h hok hnm hr hn ht
        · by_cases hf : 6 ≤ x.subs.length
          · exact sub_full V x v nm w hV h hok hnm hr hn ht hf
          · exact sub_ins V x v nm w hV h hok hnm hr hn ht hf
    · exact sub_no2 V x v nm yes w hV h hok hnm hr hn
  · exact sub_no1 V x v nm yes w hV h hok hnm hr
theorem sub_any (x : Ix) (v : Value) (nm : ByteArray) (yes : Bool) (w : World) (h : IxAt [] w v x) (hok : IxOk x) (hnm : nm.size ≤ maxLen) :
    Calls Try.prog 21 #[v, .string nm, .bool yes] w (SubPost [] x nm yes w) := subV_any [] x v nm yes w (fun _ hk => by cases hk) h hok hnm
end Go.Proofs.Ytjinnkbnllnllaa
