/- The index in plain Lean: what Append and Expunge leave. No program. -/
import Derived.Test.YtjinnkbnllnllaaIxAppS
namespace Go.Proofs.Ytjinnkbnllnllaa
open Go.RowKit

/-- An index with another mailbox at a place. -/
def setBx (x : Ix) (a : Nat) (b : Bx) : Ix := ⟨x.boxes.set a b, x.subs, x.given⟩
theorem bxAt_set {x : Ix} {a : Nat} {b : Bx} (ha : a < x.boxes.length) (i : Nat) : bxAt (setBx x a b) i = if i = a then b else bxAt x i := by
  unfold bxAt setBx
  simp only [List.getD_eq_getElem?_getD, List.getElem?_set]
  by_cases h : a = i
  · subst h; simp [ha]
  · rw [if_neg h, if_neg (Ne.symm h)]
theorem bxAt_set_same {x : Ix} {a : Nat} {b : Bx} (ha : a < x.boxes.length) : bxAt (setBx x a b) a = b := by rw [bxAt_set ha, if_pos rfl]
theorem setBx_len {x : Ix} {a : Nat} {b : Bx} : (setBx x a b).boxes.length = x.boxes.length := by simp [setBx]
theorem set_name {x : Ix} {a : Nat} {b : Bx} (ha : a < x.boxes.length) (hn : b.name = (bxAt x a).name) (i : Nat) : (bxAt (setBx x a b) i).name = (bxAt x i).name := by
  rw [bxAt_set ha]
  by_cases h : i = a
  · subst h; rw [if_pos rfl, hn]
  · rw [if_neg h]
theorem set_val {x : Ix} {a : Nat} {b : Bx} (ha : a < x.boxes.length) (hn : b.val = (bxAt x a).val) (i : Nat) : (bxAt (setBx x a b) i).val = (bxAt x i).val := by
  rw [bxAt_set ha]
  by_cases h : i = a
  · subst h; rw [if_pos rfl, hn]
  · rw [if_neg h]
theorem totTo_set {x : Ix} {a : Nat} {b : Bx} (ha : a < x.boxes.length) : ∀ k, totTo (setBx x a b) k + (if a < k then (bxAt x a).mails.length else 0) = totTo x k + (if a < k then b.mails.length else 0)
  | 0 => by simp [totTo]
  | k + 1 => by
    have ih := totTo_set (b := b) ha k
    simp only [totTo]
    rw [bxAt_set ha]
    by_cases h : k = a
    · subst h
      rw [if_neg (Nat.lt_irrefl _), if_neg (Nat.lt_irrefl _)] at ih
      rw [if_pos rfl, if_pos (by omega), if_pos (by omega)]
      omega
    · rw [if_neg h]
      by_cases h2 : a < k
      · rw [if_pos h2, if_pos h2] at ih; rw [if_pos (by omega), if_pos (by omega)]; omega
      · rw [if_neg h2, if_neg h2] at ih; rw [if_neg (by omega), if_neg (by omega)]; omega
theorem tot_ge {x : Ix} {a : Nat} : ∀ k, a < k → (bxAt x a).mails.length ≤ totTo x k
  | 0, h => by omega
  | k + 1, h => by
    simp only [totTo]
    by_cases e : a = k
    · subst e; omega
    · have := tot_ge (x := x) (a := a) k (by omega); omega
theorem right_set {x : Ix} {a : Nat} {b : Bx} (hr : rightB x = true) (ha : a < x.boxes.length) (hn : b.name = (bxAt x a).name) (hv : b.val = (bxAt x a).val) (hb : boxB b = true) (ht : totTo x x.boxes.length + b.mails.length ≤ 30 + (bxAt x a).mails.length) : rightB (setBx x a b) = true := by
  simp only [rightB, Bool.and_eq_true, decide_eq_true_eq] at hr ⊢
  obtain ⟨⟨⟨⟨⟨⟨⟨h1, h2⟩, h3⟩, h4⟩, h5⟩, h6⟩, h7⟩, h8⟩ := hr
  rw [setBx_len, set_name ha hn]
  refine ⟨⟨⟨⟨⟨⟨⟨h1, h2⟩, h3⟩, h4⟩, h5⟩, ?_⟩, h7⟩, ?_⟩
  · rw [allTo_iff] at h6 ⊢
    intro k hk
    have := h6 k hk
    simp only [stepB, set_name ha hn, set_val ha hv] at this ⊢
    have hg : (setBx x a b).given = x.given := rfl
    rw [hg]
    by_cases e : k = a
    · subst e
      rw [bxAt_set_same ha, hb]
      simp only [Bool.and_eq_true] at this ⊢
      exact ⟨⟨⟨trivial, this.1.1.2⟩, this.1.2⟩, this.2⟩
    · rw [bxAt_set ha, if_neg e]; exact this
  · have := totTo_set (b := b) ha x.boxes.length
    rw [if_pos ha, if_pos ha] at this
    omega
theorem find_set {x : Ix} {a : Nat} {b : Bx} (ha : a < x.boxes.length) (hn : b.name = (bxAt x a).name) (nm : ByteArray) : findX (setBx x a b) nm = findX x nm := by
  have h : findP (setBx x a b) nm = findP x nm := by funext i; unfold findP; rw [set_name ha hn]
  unfold findX
  rw [setBx_len, h]

theorem mailsB_mono {n n' : Int} (h : n ≤ n') : ∀ (l : List Ml) (last : Int), mailsB n last l = true → mailsB n' last l = true
  | [], _, _ => rfl
  | m :: l, last, hh => by
    simp only [mailsB, Bool.and_eq_true, decide_eq_true_eq] at hh ⊢
    exact ⟨⟨⟨hh.1.1.1, by omega⟩, hh.1.2⟩, mailsB_mono h l _ hh.2⟩
theorem mailsB_lt {n : Int} : ∀ (l : List Ml) (last : Int), mailsB n last l = true → ∀ m ∈ l, last < m.uid ∧ m.uid < n ∧ mailB m.obj m.size m.flags = true
  | [], _, _, _, h => by cases h
  | m :: l, last, hh, m', h => by
    simp only [mailsB, Bool.and_eq_true, decide_eq_true_eq] at hh
    rcases List.mem_cons.1 h with rfl | h
    · exact ⟨hh.1.1.1, hh.1.1.2, hh.1.2⟩
    · obtain ⟨h1, h2, h3⟩ := mailsB_lt l _ hh.2 m' h
      exact ⟨by omega, h2, h3⟩
theorem mailsB_snoc {n : Int} {m : Ml} (hm : mailB m.obj m.size m.flags = true) (hu : m.uid < n) : ∀ (l : List Ml) (last : Int), mailsB n last l = true → last < m.uid → (∀ u ∈ l, u.uid < m.uid) → mailsB n last (l ++ [m]) = true
  | [], last, _, h, _ => by simp [mailsB, h, hu, hm]
  | u :: l, last, hh, _, ha => by
    simp only [List.cons_append, mailsB, Bool.and_eq_true, decide_eq_true_eq] at hh ⊢
    exact ⟨hh.1, mailsB_snoc hm hu l _ hh.2 (ha u (List.mem_cons_self ..)) (fun v hv => ha v (List.mem_cons_of_mem _ hv))⟩

theorem right_box {x : Ix} {a : Nat} (hr : rightB x = true) (ha : a < x.boxes.length) : boxB (bxAt x a) = true := by
  have h := allTo_iff.1 (right_len hr).2.2.2.2.1 a ha
  simp only [stepB, Bool.and_eq_true] at h
  exact h.1.1.1
theorem boxB_parts {b : Bx} (h : boxB b = true) : nameB b.name = true ∧ 1 ≤ b.val ∧ b.val ≤ 4294967295 ∧ 1 ≤ b.next ∧ b.next ≤ 4294967295 ∧ b.mails.length ≤ 30 ∧ mailsB b.next 0 b.mails = true := by
  simp only [boxB, posB, Bool.and_eq_true, decide_eq_true_eq] at h
  obtain ⟨⟨⟨⟨h1, h2, h3⟩, h4, h5⟩, h6⟩, h7⟩ := h
  exact ⟨h1, h2, h3, h4, h5, h6, h7⟩
theorem boxB_mk {b : Bx} (h1 : nameB b.name = true) (h2 : 1 ≤ b.val) (h3 : b.val ≤ 4294967295) (h4 : 1 ≤ b.next) (h5 : b.next ≤ 4294967295) (h6 : b.mails.length ≤ 30) (h7 : mailsB b.next 0 b.mails = true) : boxB b = true := by
  simp only [boxB, posB, Bool.and_eq_true, decide_eq_true_eq]
  exact ⟨⟨⟨⟨h1, h2, h3⟩, h4, h5⟩, h6⟩, h7⟩

/-- Append: what is answered, and why. -/
theorem appR_cases (x : Ix) (nm : ByteArray) (o s f : Int) : (∃ e, appR x nm o s f = (ix0, 0, e) ∧ e ≠ 0) ∨
    ∃ a, rightB x = true ∧ mailB o s f = true ∧ findX x nm = some a ∧ a < x.boxes.length ∧ totTo x x.boxes.length < 30 ∧ (bxAt x a).next < 4294967295 ∧ appR x nm o s f = (appIx x a ⟨(bxAt x a).next, f, o, s⟩, (bxAt x a).next, 0) := by
  unfold appR
  by_cases h : (rightB x && mailB o s f) = true
  · rw [if_pos h]
    simp only [Bool.and_eq_true] at h
    cases hf : findX x nm with
    | none => exact .inl ⟨6, rfl, by decide⟩
    | some a =>
      simp only
      by_cases h30 : 30 ≤ totTo x x.boxes.length
      · rw [if_pos h30]; exact .inl ⟨9, rfl, by decide⟩
      · rw [if_neg h30]
        by_cases hn : 4294967295 ≤ (bxAt x a).next
        · rw [if_pos hn]; exact .inl ⟨5, rfl, by decide⟩
        · rw [if_neg hn]
          exact .inr ⟨a, h.1, h.2, rfl, (findTo_inv hf).1, by omega, by omega, rfl⟩
  · rw [if_neg h]; exact .inl ⟨1, rfl, by decide⟩

theorem appIx_eq (x : Ix) (a : Nat) (m : Ml) : appIx x a m = setBx x a (nextUp (bxAt x a) ((bxAt x a).mails ++ [m])) := rfl
theorem withIx_eq (x : Ix) (a : Nat) (l : List Ml) : withIx x a l = setBx x a (withMails (bxAt x a) l) := rfl
theorem setBx_setBx (x : Ix) (a : Nat) (b c : Bx) : setBx (setBx x a b) a c = setBx x a c := by simp [setBx]
theorem setBx_self {x : Ix} {a : Nat} (ha : a < x.boxes.length) : setBx x a (bxAt x a) = x := by
  unfold setBx
  rw [bxAt_lt ha, List.set_getElem_self]

/-- An index behind Append is right. -/
theorem app_right {x : Ix} {a : Nat} {o s f : Int} (hr : rightB x = true) (hm : mailB o s f = true) (ha : a < x.boxes.length) (ht : totTo x x.boxes.length < 30) (hx : (bxAt x a).next < 4294967295) : rightB (appIx x a ⟨(bxAt x a).next, f, o, s⟩) = true := by
  obtain ⟨h1, h2, h3, h4, h5, h6, h7⟩ := boxB_parts (right_box hr ha)
  have htot := tot_ge (x := x) x.boxes.length ha
  rw [appIx_eq]
  refine right_set hr ha rfl rfl ?_ ?_
  · refine boxB_mk h1 h2 h3 ?_ ?_ ?_ ?_
    · simp only [nextUp]; omega
    · simp only [nextUp]; omega
    · simp only [nextUp, List.length_append, List.length_singleton]; omega
    · simp only [nextUp]
      refine mailsB_snoc hm (by simp only; omega) _ _ (mailsB_mono (by omega) _ _ h7) (by simp only; omega) (fun u hu => ?_)
      exact (mailsB_lt _ _ h7 u hu).2.1
  · simp only [nextUp, List.length_append, List.length_singleton]; omega
/-- A message that was appended, and let go. -/
theorem exp_back {x : Ix} {a : Nat} {nm : ByteArray} {o s f : Int} (hr : rightB x = true) (hm : mailB o s f = true) (hf : findX x nm = some a) (ha : a < x.boxes.length) (ht : totTo x x.boxes.length < 30) (hx : (bxAt x a).next < 4294967295) :
    expR (appIx x a ⟨(bxAt x a).next, f, o, s⟩) nm (bxAt x a).next = (setBx x a (nextUp (bxAt x a) (bxAt x a).mails), 0) := by
  have h7 := (boxB_parts (right_box hr ha)).2.2.2.2.2.2
  unfold expR
  rw [app_right hr hm ha ht hx, if_pos rfl]
  have hfm : findM ((bxAt x a).mails ++ [⟨(bxAt x a).next, f, o, s⟩]) (bxAt x a).next = some (bxAt x a).mails.length := by
    unfold findM
    refine findTo_some ?_ (fun j hj => ?_) (by simp)
    · unfold uidP mlAt; simp
    · unfold uidP mlAt
      have h1 : ((bxAt x a).mails ++ [(⟨(bxAt x a).next, f, o, s⟩ : Ml)]).getD j ml0 = (bxAt x a).mails[j] := by
        rw [List.getD_eq_getElem?_getD, List.getElem?_append_left hj, List.getElem?_eq_getElem hj]; rfl
      rw [h1]
      have := (mailsB_lt _ _ h7 _ (List.getElem_mem hj)).2.1
      exact beq_f (by omega)
  have hp : placeR (appIx x a ⟨(bxAt x a).next, f, o, s⟩) nm (bxAt x a).next = ((a : Int), ((bxAt x a).mails.length : Int), true) := by
    unfold placeR
    have hfd := find_set (x := x) (a := a) (b := nextUp (bxAt x a) ((bxAt x a).mails ++ [(⟨(bxAt x a).next, f, o, s⟩ : Ml)])) ha rfl nm
    rw [appIx_eq, hfd, hf]
    simp only
    rw [bxAt_set_same ha]
    simp only [nextUp, hfm]
  rw [hp]
  simp only [Int.toNat_natCast]
  rw [withIx_eq, appIx_eq, bxAt_set_same ha, setBx_setBx]
  have he : ((bxAt x a).mails ++ [(⟨(bxAt x a).next, f, o, s⟩ : Ml)]).eraseIdx (bxAt x a).mails.length = (bxAt x a).mails := by
    rw [List.eraseIdx_append_of_length_le (Nat.le_refl _)]; simp
  simp only [nextUp, withMails, he]
end Go.Proofs.Ytjinnkbnllnllaa
