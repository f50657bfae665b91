/- The index in plain Lean: when it is right, said of lists; what each change keeps. -/
import Derived.Test.YtjinnkbnllnllaaIxRename
import Derived.Test.YtjinnkbnllnllaaIxCopy
import Derived.Test.YtjinnkbnllnllaaL15Plain
import Derived.Test.YtjinnkbnllnllaaRxTurnIx
namespace Go.Proofs.Ytjinnkbnllnllaa
open Go.RowKit

structure RightL (x : Ix) : Prop where
  cons : ∃ b0 r, x.boxes = b0 :: r ∧ nmEq b0.name inbox = true ∧ (∀ b ∈ r, nmEq b.name inbox = false) ∧ r.Pairwise (fun a b => lessB a.name b.name = true)
  box : ∀ b ∈ x.boxes, boxB b = true ∧ b.val < x.given
  len : x.boxes.length ≤ 6
  tot : (x.boxes.map (fun b => b.mails.length)).sum ≤ 30
  subs : x.subs.length ≤ 6 ∧ allTo (subB x) x.subs.length = true
  given : posB x.given = true

theorem totTo_sum (x : Ix) : ∀ k, k ≤ x.boxes.length → totTo x k = ((x.boxes.take k).map (fun b => b.mails.length)).sum
  | 0, _ => by simp [totTo]
  | k + 1, hk => by
    rw [totTo, totTo_sum x k (by omega), List.take_succ_eq_append_getElem (by omega), List.map_append, List.sum_append, bxAt_lt (by omega)]
    simp
theorem less_of_rise {a b : ByteArray} (h : gtB a b = false) (hne : nmLe b a = false) : lessB a b = true := by
  rw [nmLe_ge] at hne
  unfold geB at hne
  rw [Bool.not_eq_false'] at hne
  exact hne
theorem right_list {x : Ix} (h : rightB x = true) : RightL x := by
  obtain ⟨h1, h2, h3, h4, h5, h6, h7, h8⟩ := right_len h
  have hst := allTo_iff.1 h5
  have hbx : ∀ i, (hi : i < x.boxes.length) → bxAt x i = x.boxes[i] := fun i hi => bxAt_lt hi
  have step : ∀ i, 1 < i → i < x.boxes.length → lessB (bxAt x (i - 1)).name (bxAt x i).name = true := fun i h1 hi => by
    have := hst i hi
    simp only [stepB, Bool.and_eq_true, Bool.not_eq_true', Bool.and_eq_false_iff, decide_eq_false_iff_not] at this
    rcases this.2 with h2 | h2
    · exact absurd h1 h2
    · exact less_of_rise (gt_of_le h2) h2
  have rise : ∀ j i, 1 ≤ i → i < j → j < x.boxes.length → lessB (bxAt x i).name (bxAt x j).name = true := by
    intro j
    induction j with
    | zero => intro i _ hi; omega
    | succ j ih =>
      intro i h1 hij hj
      have hs := step (j + 1) (by omega) hj
      simp only [Nat.add_sub_cancel] at hs
      by_cases e : i = j
      · subst e; exact hs
      · exact bl_trans _ _ _ (ih i h1 (by omega) (by omega)) hs
  refine ⟨?_, fun b hb => ?_, h2, ?_, ⟨h3, h6⟩, h4⟩
  · obtain ⟨b0, r, e⟩ : ∃ b0 r, x.boxes = b0 :: r := by
      cases hx : x.boxes with
      | nil => rw [hx] at h1; simp at h1
      | cons b r => exact ⟨b, r, rfl⟩
    have hat : ∀ i, (hi : i < r.length) → bxAt x (i + 1) = r[i] := fun i hi => by
      rw [hbx (i + 1) (by rw [e]; simpa using hi)]
      simp only [e, List.getElem_cons_succ]
    have h0 : bxAt x 0 = b0 := by rw [hbx 0 h1]; simp only [e, List.getElem_cons_zero]
    refine ⟨b0, r, e, by rw [← h0]; exact h8, fun b hb => ?_, ?_⟩
    · obtain ⟨i, hi, rfl⟩ := List.mem_iff_getElem.1 hb
      have := hst (i + 1) (by rw [e]; simpa using hi)
      simp only [stepB, Bool.and_eq_true, Bool.not_eq_true', Bool.and_eq_false_iff, decide_eq_false_iff_not] at this
      rcases this.1.2 with h | h
      · omega
      · rw [← hat i hi]; exact h
    · rw [List.pairwise_iff_getElem]
      intro i j hi hj hij
      rw [← hat i hi, ← hat j hj]
      exact rise (j + 1) (i + 1) (by omega) (by omega) (by rw [e]; simpa using hj)
  · obtain ⟨i, hi, rfl⟩ := List.mem_iff_getElem.1 hb
    have := hst i hi
    simp only [stepB, Bool.and_eq_true, decide_eq_true_eq] at this
    rw [← hbx i hi]
    exact ⟨this.1.1.1, this.1.1.2⟩
  · have := totTo_sum x x.boxes.length (Nat.le_refl _)
    rw [List.take_length] at this
    omega
theorem less_not_le {a b : ByteArray} (h : lessB a b = true) : nmLe b a = false := by
  rw [nmLe_ge]
  unfold geB
  rw [show Op.bytesLess a.toList b.toList = true from h]
  rfl
theorem list_right {x : Ix} (h : RightL x) : rightB x = true := by
  obtain ⟨⟨b0, r, e, h0, hr, hp⟩, hb, hl, ht, hs, hg⟩ := h
  have h1 : 1 ≤ x.boxes.length := by rw [e]; simp
  have hat : ∀ i, (hi : i < r.length) → bxAt x (i + 1) = r[i] := fun i hi => by
    rw [bxAt_lt (by rw [e]; simpa using hi)]
    simp only [e, List.getElem_cons_succ]
  have hx0 : bxAt x 0 = b0 := by rw [bxAt_lt h1]; simp only [e, List.getElem_cons_zero]
  have hlen : x.boxes.length = r.length + 1 := by rw [e]; simp
  rw [rightB_split h1 hl, hx0, h0, decide_eq_true hs.1, hg, hs.2]
  have hst : allTo (stepB x) x.boxes.length = true := by
    rw [allTo_iff]
    intro i hi
    obtain ⟨k1, k2⟩ := hb _ (List.getElem_mem hi)
    rw [← bxAt_lt hi] at k1 k2
    simp only [stepB, Bool.and_eq_true, Bool.not_eq_true', Bool.and_eq_false_iff, decide_eq_true_eq, decide_eq_false_iff_not]
    refine ⟨⟨⟨k1, k2⟩, ?_⟩, ?_⟩
    · rcases Nat.eq_zero_or_pos i with h | h
      · exact .inl (by omega)
      · obtain ⟨j, rfl⟩ : ∃ j, i = j + 1 := ⟨i - 1, by omega⟩
        rw [hat j (by omega)]
        exact .inr (hr _ (List.getElem_mem _))
    · by_cases h : 1 < i
      · obtain ⟨j, rfl⟩ : ∃ j, i = j + 2 := ⟨i - 2, by omega⟩
        rw [show j + 2 - 1 = j + 1 from rfl, hat j (by omega), show j + 2 = (j + 1) + 1 from rfl, hat (j + 1) (by omega)]
        exact .inr (less_not_le (List.pairwise_iff_getElem.1 hp j (j + 1) _ _ (by omega)))
      · exact .inl h
  have := totTo_sum x x.boxes.length (Nat.le_refl _)
  rw [List.take_length] at this
  rw [hst, decide_eq_true (by omega)]
  rfl
/-- A right index is of 64 bits. -/
theorem right_ok {x : Ix} (h : rightB x = true) : IxOk x := by
  have hl := right_list h
  have hg := hl.given
  simp only [posB, Bool.and_eq_true, decide_eq_true_eq] at hg
  refine ⟨⟨by omega, by omega⟩, fun b hb => ?_, fun s hs => ?_⟩
  · obtain ⟨k1, k2, k3, k4, k5, k6, k7⟩ := boxB_parts (hl.box b hb).1
    simp only [nameB, Bool.and_eq_true, decide_eq_true_eq] at k1
    refine ⟨by unfold maxLen; omega, ⟨by omega, by omega⟩, ⟨by omega, by omega⟩, fun m hm => ?_⟩
    obtain ⟨a1, a2, a3⟩ := mailsB_lt b.mails 0 k7 m hm
    simp only [mailB, posB, flagsB, Bool.and_eq_true, decide_eq_true_eq] at a3
    exact ⟨⟨by omega, by omega⟩, ⟨by omega, by omega⟩, ⟨by omega, by omega⟩, ⟨by omega, by omega⟩⟩
  · obtain ⟨i, hi, rfl⟩ := List.mem_iff_getElem.1 hs
    have := allTo_iff.1 hl.subs.2 i hi
    simp only [subB, Bool.and_eq_true, nameB, decide_eq_true_eq] at this
    rw [← subAt_lt hi]
    unfold maxLen
    omega

/-! What each change keeps. -/
def Vals (l : List Bx) : Prop := l.Pairwise (fun a b => a.val ≠ b.val)
structure Good (x : Ix) : Prop where
  right : rightB x = true
  vals : Vals x.boxes
/-- Each message, behind, whose UID was given ahead, is one that was there. -/
def OldMl (b c : Bx) : Prop := ∀ m ∈ c.mails, b.next ≤ m.uid ∨ ∃ o ∈ b.mails, o.uid = m.uid ∧ o.obj = m.obj ∧ o.size = m.size
def Kp (x y : Ix) : Prop := x.given ≤ y.given ∧ ∀ b ∈ x.boxes, ∀ c ∈ y.boxes, b.val = c.val → b.next ≤ c.next ∧ OldMl b c
theorem old_refl (b : Bx) : OldMl b b := fun m hm => .inr ⟨m, hm, rfl, rfl, rfl⟩
theorem vals_eq {l : List Bx} (h : Vals l) {b c : Bx} (hb : b ∈ l) (hc : c ∈ l) (e : b.val = c.val) : b = c := by
  obtain ⟨i, hi, rfl⟩ := List.mem_iff_getElem.1 hb
  obtain ⟨j, hj, rfl⟩ := List.mem_iff_getElem.1 hc
  rcases Nat.lt_trichotomy i j with h1 | h1 | h1
  · exact absurd e (List.pairwise_iff_getElem.1 h i j hi hj h1)
  · subst h1; rfl
  · exact absurd e.symm (List.pairwise_iff_getElem.1 h j i hj hi h1)
theorem kp_refl {x : Ix} (h : Good x) : Kp x x := ⟨by omega, fun b hb c hc e => by
  rw [vals_eq h.vals hb hc e]
  exact ⟨by omega, old_refl _⟩⟩
/-- One mailbox is turned, under its name. -/
theorem good_set {x : Ix} {a : Nat} {b : Bx} (h : Good x) (ha : a < x.boxes.length) (hn : b.name = (bxAt x a).name) (hv : b.val = (bxAt x a).val) (hb : boxB b = true) (ht : totTo x x.boxes.length + b.mails.length ≤ 30 + (bxAt x a).mails.length)
    (hx : (bxAt x a).next ≤ b.next) (hm : OldMl (bxAt x a) b) : Good (setBx x a b) ∧ Kp x (setBx x a b) := by
  have hvs : Vals (setBx x a b).boxes := by
    show List.Pairwise _ (x.boxes.set a b)
    rw [List.pairwise_iff_getElem]
    intro i j hi hj hij
    rw [List.length_set] at hi hj
    have hp := List.pairwise_iff_getElem.1 h.vals
    rw [List.getElem_set, List.getElem_set]
    rw [bxAt_lt ha] at hv
    split <;> split
    · omega
    · rename_i e1 e2; subst e1; rw [hv]; exact hp a j ha hj hij
    · rename_i e1 e2; subst e2; rw [hv]; exact hp i a hi ha hij
    · exact hp i j hi hj hij
  refine ⟨⟨right_set h.right ha hn hv hb ht, hvs⟩, Int.le_refl _, fun c hc d hd e => ?_⟩
  have hd' : d ∈ x.boxes.set a b := hd
  rcases List.mem_or_eq_of_mem_set hd' with hd1 | rfl
  · rw [vals_eq h.vals hc hd1 e]
    exact ⟨by omega, old_refl _⟩
  · have hxa : bxAt x a ∈ x.boxes := by rw [bxAt_lt ha]; exact List.getElem_mem ha
    rw [hv] at e
    rw [vals_eq h.vals hc hxa e]
    exact ⟨hx, hm⟩
end Go.Proofs.Ytjinnkbnllnllaa
