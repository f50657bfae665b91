/- Plain: a name that is put among Subs, and let go. -/
import Derived.Test.YtjinnkbnllnllaaIxSub
import Derived.Test.YtjinnkbnllnllaaIxBack
namespace Go.Proofs.Ytjinnkbnllnllaa
open Go.RowKit

theorem strAt_put (l : List ByteArray) (nm : ByteArray) (i : Nat) : strAt (putS l nm) i = if i < posS l nm then strAt l i else if i = posS l nm then nm else strAt l (i - 1) := by
  have hp := (posS_spec l nm).1
  have hl : (l.take (posS l nm)).length = posS l nm := by rw [List.length_take]; omega
  unfold strAt putS
  rw [List.getD_eq_getElem?_getD, List.getD_eq_getElem?_getD, List.getD_eq_getElem?_getD]
  generalize posS l nm = p at *
  by_cases h1 : i < p
  · rw [if_pos h1, List.getElem?_append_left (by omega), List.getElem?_take_of_lt h1]
  · rw [if_neg h1, List.getElem?_append_right (by omega), hl]
    by_cases h2 : i = p
    · rw [if_pos h2, h2, Nat.sub_self]; rfl
    · rw [if_neg h2, show i - p = (i - 1 - p) + 1 by omega, List.getElem?_cons_succ, List.getElem?_drop, show p + (i - 1 - p) = i - 1 by omega]
theorem posS_put (l : List ByteArray) (nm : ByteArray) : posS (putS l nm) nm = posS l nm := by
  have hp := posS_spec l nm
  refine posS_of (by rw [putS_len]; omega) (fun j hj => ?_) (fun _ => ?_)
  · rw [strAt_put, if_pos hj]; exact hp.2.1 j hj
  · rw [strAt_put, if_neg (Nat.lt_irrefl _), if_pos rfl]; exact bl_irrefl _
theorem there_put (l : List ByteArray) (nm : ByteArray) : thereS (putS l nm) nm = true := by
  have hp := (posS_spec l nm).1
  unfold thereS
  rw [posS_put, putS_len, strAt_put, if_neg (Nat.lt_irrefl _), if_pos rfl]
  simp [nmEq]; omega
theorem erase_put (l : List ByteArray) (nm : ByteArray) : (putS l nm).eraseIdx (posS l nm) = l := by
  have hp := (posS_spec l nm).1
  have hl : (l.take (posS l nm)).length = posS l nm := by rw [List.length_take]; omega
  unfold putS
  rw [List.eraseIdx_append_of_length_le (by omega), hl, Nat.sub_self]
  simp
theorem totTo_sub (x : Ix) (l : List ByteArray) : ∀ k, totTo (subIx x l) k = totTo x k
  | 0 => rfl
  | k + 1 => by
    show totTo (subIx x l) k + _ = totTo x k + _
    rw [totTo_sub x l k]; rfl
theorem right_put {x : Ix} {nm : ByteArray} (hr : rightB x = true) (hn : nameB nm = true) (ht : thereS x.subs nm = false) (hf : ¬ 6 ≤ x.subs.length) : rightB (subIx x (putS x.subs nm)) = true := by
  obtain ⟨h1, h2, h3, h4, h5, h6, h7, h8⟩ := right_len hr
  obtain ⟨p1, p2, p3⟩ := posS_spec x.subs nm
  have ht2 : posS x.subs nm < x.subs.length → nmEq (strAt x.subs (posS x.subs nm)) nm = false := fun h => by
    unfold thereS at ht
    rw [decide_eq_true h] at ht
    simpa using ht
  have hsub : allTo (subB (subIx x (putS x.subs nm))) (putS x.subs nm).length = true := allTo_iff.2 (fun i hi => by
    rw [putS_len] at hi
    have hb : ∀ j, j < x.subs.length → nameB (strAt x.subs j) = true ∧ (0 < j → nmLe (strAt x.subs j) (strAt x.subs (j - 1)) = false) := fun j hj => by
      have := allTo_iff.1 h6 j hj
      simp only [subB, Bool.and_eq_true, Bool.not_eq_true', Bool.and_eq_false_iff, decide_eq_false_iff_not] at this
      exact ⟨this.1, fun h0 => this.2.resolve_left (fun h => h h0)⟩
    show (nameB (strAt (putS x.subs nm) i) && !(decide (0 < i) && nmLe (strAt (putS x.subs nm) i) (strAt (putS x.subs nm) (i - 1)))) = true
    rw [strAt_put, strAt_put]
    generalize posS x.subs nm = p at *
    by_cases c1 : i < p
    · obtain ⟨b1, b2⟩ := hb i (by omega)
      rw [if_pos c1, if_pos (show i - 1 < p by omega), b1]
      by_cases c0 : 0 < i
      · rw [b2 c0]; simp
      · simp [c0]
    · rw [if_neg c1]
      by_cases c2 : i = p
      · subst c2
        rw [if_pos rfl, hn]
        by_cases c0 : 0 < i
        · rw [if_pos (show i - 1 < i by omega)]
          have hl := p2 (i - 1) (by omega)
          have hz : nmLe nm (strAt x.subs (i - 1)) = false := by
            unfold nmLe
            rw [Bool.or_eq_false_iff]
            constructor
            · rcases Bool.eq_false_or_eq_true (Op.bytesLess nm.toList (strAt x.subs (i - 1)).toList) with hq | hq
              · have := bl_trans _ _ _ hl hq
                rw [bl_irrefl] at this; cases this
              · exact hq
            · rcases Bool.eq_false_or_eq_true (nm.toList == (strAt x.subs (i - 1)).toList) with hq | hq
              · have e := eq_of_beq hq
                unfold lessB at hl
                rw [e, bl_irrefl] at hl; cases hl
              · exact hq
          rw [hz]; simp
        · simp [c0]
      · rw [if_neg c2]
        obtain ⟨b1, b2⟩ := hb (i - 1) (by omega)
        rw [b1]
        by_cases c3 : i - 1 = p
        · rw [if_neg (show ¬ i - 1 < p by omega), if_pos c3]
          have hpl : p < x.subs.length := by omega
          have hz : nmLe (strAt x.subs (i - 1)) nm = false := by
            unfold nmLe
            rw [Bool.or_eq_false_iff, c3]
            exact ⟨p3 hpl, ht2 hpl⟩
          rw [hz]; simp
        · rw [if_neg (show ¬ i - 1 < p by omega), if_neg c3, b2 (by omega)]; simp)
  unfold rightB
  simp only [Bool.and_eq_true, decide_eq_true_eq]
  refine ⟨⟨⟨⟨⟨⟨⟨h1, h2⟩, h8⟩, ?_⟩, h4⟩, h5⟩, hsub⟩, ?_⟩
  · show (putS x.subs nm).length ≤ 6
    rw [putS_len]; omega
  · show totTo (subIx x (putS x.subs nm)) x.boxes.length ≤ 30
    rw [totTo_sub]; exact h7
theorem sub_ok {x : Ix} {nm : ByteArray} (hok : IxOk x) (hnm : nm.size ≤ maxLen) : IxOk (subIx x (putS x.subs nm)) := by
  obtain ⟨h1, h2, h3⟩ := hok
  refine ⟨h1, h2, fun s hs => ?_⟩
  rcases List.mem_append.1 hs with hs | hs
  · exact h3 s (List.mem_of_mem_take hs)
  · rcases List.mem_cons.1 hs with rfl | hs
    · exact hnm
    · exact h3 s (List.mem_of_mem_drop hs)

/-- Subscribe: refused; or done, and then twice is once, and what is not any more is as if it never was. -/
theorem subR_cases (x : Ix) (nm : ByteArray) (hok : IxOk x) (hnm : nm.size ≤ maxLen) (hroom : Room x) : (∃ e, subR x nm true = (ix0, e) ∧ e ≠ 0) ∨
    ∃ a d, subR x nm true = (a, 0) ∧ subR a nm true = (a, 0) ∧ subR a nm false = (d, 0) ∧ subR x nm false = (d, 0) ∧ IxOk a ∧ Room a ∧ Room d := by
  rcases Bool.eq_false_or_eq_true (rightB x) with hr | hr
  · rcases Bool.eq_false_or_eq_true (nameB nm) with hn | hn
    · rcases Bool.eq_false_or_eq_true (thereS x.subs nm) with ht | ht
      · right
        refine ⟨x, subIx x (x.subs.eraseIdx (posS x.subs nm)), ?_, ?_, ?_, ?_, hok, hroom, hroom⟩
        all_goals (unfold subR; rw [hr, hn, ht]; rfl)
      · by_cases hf : 6 ≤ x.subs.length
        · left
          exact ⟨5, by unfold subR; rw [hr, hn, ht, if_pos hf]; rfl, by omega⟩
        · right
          have hr' := right_put hr hn ht hf
          refine ⟨subIx x (putS x.subs nm), x, ?_, ?_, ?_, ?_, sub_ok hok hnm, hroom, hroom⟩
          · unfold subR; rw [hr, hn, ht, if_neg hf]; rfl
          · unfold subR; rw [hr', hn, show (subIx x (putS x.subs nm)).subs = putS x.subs nm from rfl, there_put]; rfl
          · unfold subR
            rw [hr', hn, show (subIx x (putS x.subs nm)).subs = putS x.subs nm from rfl, there_put, posS_put, erase_put]; rfl
          · unfold subR; rw [hr, hn, ht]; rfl
    · left; exact ⟨1, by unfold subR; rw [hr, hn]; rfl, by omega⟩
  · left; exact ⟨1, by unfold subR; rw [hr]; rfl, by omega⟩

/-- The document's form of an index reads as it does. -/
theorem ref_same (x : Ix) (v : Value) (w : World) (h : IxAt [] w v x) (hroom : Room x) :
    Calls Try.prog 9 #[v] w fun e w' => ∃ v', e = .returned v' ∧ IxAt [] w' v' x ∧ Kept w w' := by
  obtain ⟨b, s, rfl, hb, hs⟩ := h
  obtain ⟨A, c, e⟩ := hs.form
  refine (ref_any [] x b s w hb ⟨A, _, c, e⟩ hroom (fun k hk => by cases hk)).mono ?_
  rintro e w1 ⟨B, b', ps, rfl, hps, hown, hml, hk⟩
  exact ⟨_, rfl, refPost_ix (V := []) hps hown hml (fun k hk => by cases hk) (hs.go hk (Ext.refl _ _)), hk⟩
end Go.Proofs.Ytjinnkbnllnllaa
