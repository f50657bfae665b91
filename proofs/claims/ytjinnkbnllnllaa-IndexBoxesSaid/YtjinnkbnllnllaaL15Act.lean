/- The index in plain Lean: what each act keeps. No program. -/
import Derived.Test.YtjinnkbnllnllaaL15Keep
import Derived.Test.YtjinnkbnllnllaaL15Subs
namespace Go.Proofs.Ytjinnkbnllnllaa
open Go.RowKit

theorem nmEq_iff {a b : ByteArray} : nmEq a b = true ↔ a.toList = b.toList := by simp [nmEq]
theorem nmEq_f {a b : ByteArray} : nmEq a b = false ↔ a.toList ≠ b.toList := by simp [nmEq]
theorem mailsB_pw {next : Int} : ∀ (l : List Ml) (last : Int), mailsB next last l = true ↔ (∀ m ∈ l, last < m.uid ∧ m.uid < next ∧ mailB m.obj m.size m.flags = true) ∧ l.Pairwise (fun a b => a.uid < b.uid)
  | [], last => by simp [mailsB]
  | m :: l, last => by
    simp only [mailsB, Bool.and_eq_true, decide_eq_true_eq, mailsB_pw l m.uid, List.mem_cons, List.pairwise_cons, forall_eq_or_imp]
    constructor
    · rintro ⟨⟨⟨h1, h2⟩, h3⟩, h4, h5⟩
      exact ⟨⟨⟨h1, h2, h3⟩, fun u hu => ⟨by have := (h4 u hu).1; omega, (h4 u hu).2⟩⟩, fun u hu => (h4 u hu).1, h5⟩
    · rintro ⟨⟨⟨h1, h2, h3⟩, h4⟩, h5, h6⟩
      exact ⟨⟨⟨h1, h2⟩, h3⟩, fun u hu => ⟨h5 u hu, (h4 u hu).2⟩, h6⟩
theorem mailsB_sub {next last : Int} {l l' : List Ml} (h : mailsB next last l = true) (hs : l'.Sublist l) : mailsB next last l' = true := by
  rw [mailsB_pw] at h ⊢
  exact ⟨fun m hm => h.1 m (hs.subset hm), h.2.sublist hs⟩

/-! Insertion of a mailbox. -/
theorem posFrom_spec {l : List Bx} {nm : ByteArray} : ∀ f a, a ≤ l.length → l.length ≤ a + f → a ≤ posFrom l nm f a ∧ posFrom l nm f a ≤ l.length ∧ (∀ i, a ≤ i → i < posFrom l nm f a → lessB (xAt l i).name nm = true) ∧ (posFrom l nm f a < l.length → lessB (xAt l (posFrom l nm f a)).name nm = false)
  | 0, a, h, hl => by
    unfold posFrom
    exact ⟨Nat.le_refl _, h, fun i h1 h2 => by omega, fun h => by omega⟩
  | f + 1, a, h, hl => by
    unfold posFrom
    by_cases hc : (decide (a < l.length) && lessB (xAt l a).name nm) = true
    · rw [if_pos hc]
      rw [Bool.and_eq_true, decide_eq_true_eq] at hc
      obtain ⟨h1, h2, h3, h4⟩ := posFrom_spec (l := l) (nm := nm) f (a + 1) (by omega) (by omega)
      refine ⟨by omega, h2, fun i hi hi2 => ?_, h4⟩
      by_cases e : i = a
      · subst e; exact hc.2
      · exact h3 i (by omega) hi2
    · rw [if_neg hc]
      refine ⟨Nat.le_refl _, h, fun i h1 h2 => by omega, fun hlt => ?_⟩
      rw [Bool.and_eq_true, decide_eq_true_eq] at hc
      rcases Bool.eq_false_or_eq_true (lessB (xAt l a).name nm) with e | e
      · exact absurd ⟨hlt, e⟩ hc
      · exact e
theorem insX_perm (l : List Bx) (b : Bx) : (insX l b).Perm (b :: l) := by
  unfold insX
  refine List.perm_middle.trans ?_
  rw [List.take_append_drop]
theorem insX_mem {l : List Bx} {b c : Bx} : c ∈ insX l b ↔ c = b ∨ c ∈ l := by rw [(insX_perm l b).mem_iff, List.mem_cons]
theorem xAt_lt {l : List Bx} {i : Nat} (h : i < l.length) : xAt l i = l[i] := by simp [xAt, h]
/-- Behind the first, sorted names stay so. -/
theorem insX_cons {b0 b : Bx} {r : List Bx} (hp : r.Pairwise (fun a b => lessB a.name b.name = true)) (hn : ∀ c ∈ r, nmEq c.name b.name = false) :
    ∃ r', insX (b0 :: r) b = b0 :: r' ∧ r'.Pairwise (fun a b => lessB a.name b.name = true) := by
  obtain ⟨h1, h2, h3, h4⟩ := posFrom_spec (l := b0 :: r) (nm := b.name) (b0 :: r).length 1 (by simp) (by simp)
  rw [show posFrom (b0 :: r) b.name (b0 :: r).length 1 = insPos (b0 :: r) b.name from rfl] at h1 h2 h3 h4
  obtain ⟨p, hpp⟩ : ∃ p, insPos (b0 :: r) b.name = p + 1 := ⟨insPos (b0 :: r) b.name - 1, by omega⟩
  rw [hpp] at h2 h3 h4
  simp only [List.length_cons] at h2 h4
  have hat : ∀ i, (hi : i < r.length) → xAt (b0 :: r) (i + 1) = r[i] := fun i hi => by rw [xAt_lt (by simpa using hi)]; simp
  refine ⟨r.take p ++ b :: r.drop p, ?_, ?_⟩
  · unfold insX
    rw [hpp]
    simp
  · rw [List.pairwise_append]
    have hlow : ∀ c ∈ r.take p, lessB c.name b.name = true := fun c hc => by
      obtain ⟨i, hi, rfl⟩ := List.mem_iff_getElem.1 hc
      rw [List.length_take] at hi
      have := h3 (i + 1) (by omega) (by omega)
      rw [hat i (by omega)] at this
      rw [List.getElem_take]; exact this
    have hhigh : ∀ c ∈ r.drop p, lessB b.name c.name = true := fun c hc => by
      have hlt : p < r.length := by
        rcases Nat.lt_or_ge p r.length with h | h
        · exact h
        · rw [List.drop_of_length_le h] at hc; cases hc
      have hne := hn r[p] (List.getElem_mem hlt)
      have hnl := h4 (by omega)
      rw [hat p hlt] at hnl
      have h0 : lessB b.name r[p].name = true := bl_tri _ _ hnl (nmEq_f.1 hne)
      rw [List.drop_eq_getElem_cons hlt] at hc
      rcases List.mem_cons.1 hc with rfl | hc
      · exact h0
      · have hsub := hp.sublist (List.drop_sublist p r)
        rw [List.drop_eq_getElem_cons hlt, List.pairwise_cons] at hsub
        exact bl_trans _ _ _ h0 (hsub.1 c hc)
    refine ⟨hp.sublist (List.take_sublist _ _), ?_, fun a ha c hc => ?_⟩
    · rw [List.pairwise_cons]
      exact ⟨hhigh, hp.sublist (List.drop_sublist _ _)⟩
    · rcases List.mem_cons.1 hc with rfl | hc
      · exact hlow a ha
      · exact bl_trans _ _ _ (hlow a ha) (hhigh c hc)
theorem ins_right {y : Ix} {b : Bx} (h : RightL y) (hb : boxB b = true) (hv : b.val < y.given) (hn : ∀ c ∈ y.boxes, nmEq c.name b.name = false) (hl : y.boxes.length ≤ 5) (ht : (y.boxes.map (fun b => b.mails.length)).sum + b.mails.length ≤ 30) :
    RightL ⟨insX y.boxes b, y.subs, y.given⟩ := by
  obtain ⟨⟨b0, r, e, h0, hr, hp⟩, hbx, _, _, hs, hg⟩ := h
  obtain ⟨r', e', hp'⟩ := insX_cons (b0 := b0) (b := b) hp (fun c hc => hn c (by rw [e]; exact List.mem_cons_of_mem _ hc))
  have hbi : nmEq b.name inbox = false := by
    have := hn b0 (by rw [e]; exact List.mem_cons_self ..)
    rw [nmEq_f] at this ⊢
    rw [nmEq_iff] at h0
    rw [h0] at this
    exact fun h => this h.symm
  have hpm := insX_perm y.boxes b
  refine ⟨⟨b0, r', by rw [← e', ← e], h0, fun c hc => ?_, hp'⟩, fun c hc => ?_, ?_, ?_, hs, hg⟩
  · have hm : c ∈ insX y.boxes b := by rw [e, e']; exact List.mem_cons_of_mem _ hc
    rcases insX_mem.1 hm with rfl | hm
    · exact hbi
    · rw [e] at hm
      rcases List.mem_cons.1 hm with rfl | hm
      · -- the first stands once
        have hnd : (insX y.boxes b).Perm (b :: y.boxes) := hpm
        rw [e, e'] at hnd
        have h1 : (c :: r').Perm (c :: b :: r) := hnd.trans (List.Perm.swap _ _ _)
        have h2 := (List.perm_cons c).1 h1
        have h3 := h2.mem_iff.1 hc
        rcases List.mem_cons.1 h3 with rfl | h3
        · exact hbi
        · exact hr c h3
      · exact hr c hm
  · rcases insX_mem.1 hc with rfl | hc
    · exact ⟨hb, hv⟩
    · exact hbx c hc
  · show (insX y.boxes b).length ≤ 6
    rw [hpm.length_eq, List.length_cons]; omega
  · show ((insX y.boxes b).map _).sum ≤ 30
    rw [(hpm.map _).sum_nat, List.map_cons, List.sum_cons]; omega
theorem ins_vals {l : List Bx} {b : Bx} (h : Vals l) (hb : ∀ c ∈ l, c.val ≠ b.val) : Vals (insX l b) := by
  unfold Vals
  rw [(insX_perm l b).pairwise_iff (fun h => Ne.symm h), List.pairwise_cons]
  exact ⟨fun c hc => (hb c hc).symm, h⟩
theorem sum_sub {l l' : List Nat} (h : l'.Sublist l) : l'.sum ≤ l.sum := by
  induction h with
  | slnil => exact Nat.le_refl _
  | cons a _ ih => rw [List.sum_cons]; omega
  | cons_cons a _ ih => rw [List.sum_cons, List.sum_cons]; omega
theorem erase_right {x : Ix} {a : Nat} (h : RightL x) (ha : 0 < a) : RightL ⟨x.boxes.eraseIdx a, x.subs, x.given⟩ := by
  obtain ⟨⟨b0, r, e, h0, hr, hp⟩, hbx, hl, ht, hs, hg⟩ := h
  have hsub : (x.boxes.eraseIdx a).Sublist x.boxes := List.eraseIdx_sublist _ _
  obtain ⟨k, rfl⟩ : ∃ k, a = k + 1 := ⟨a - 1, by omega⟩
  refine ⟨⟨b0, r.eraseIdx k, by show x.boxes.eraseIdx _ = _; rw [e]; rfl, h0, fun c hc => hr c (List.mem_of_mem_eraseIdx hc), hp.sublist (List.eraseIdx_sublist _ _)⟩, fun c hc => hbx c (hsub.subset hc), Nat.le_trans hsub.length_le hl, ?_, hs, hg⟩
  exact Nat.le_trans (sum_sub (hsub.map _)) ht
theorem erase_perm {α : Type} : ∀ (l : List α) (k : Nat) (h : k < l.length), l.Perm (l[k] :: l.eraseIdx k)
  | [], _, h => by simp at h
  | a :: l, 0, _ => by simp
  | a :: l, k + 1, h => by
    have := erase_perm l k (by simpa using h)
    simp only [List.getElem_cons_succ, List.eraseIdx_cons_succ]
    exact ((List.perm_cons a).2 this).trans (List.Perm.swap _ _ _)

/-! The acts, one by one. -/
theorem find_no {x : Ix} {nm : ByteArray} (h : findX x nm = none) : ∀ c ∈ x.boxes, nmEq c.name nm = false := fun c hc => by
  obtain ⟨i, hi, rfl⟩ := List.mem_iff_getElem.1 hc
  have := findTo_none_inv h i hi
  rw [← bxAt_lt hi]; exact this
theorem bxAt_mem {x : Ix} {a : Nat} (h : a < x.boxes.length) : bxAt x a ∈ x.boxes := by rw [bxAt_lt h]; exact List.getElem_mem h
theorem up_right {x : Ix} (h : RightL x) (hg : x.given < 4294967295) : RightL ⟨x.boxes, x.subs, x.given + 1⟩ := by
  obtain ⟨h1, h2, h3, h4, h5, h6⟩ := h
  simp only [posB, Bool.and_eq_true, decide_eq_true_eq] at h6
  refine ⟨h1, fun b hb => ⟨(h2 b hb).1, ?_⟩, h3, h4, h5, ?_⟩
  · have := (h2 b hb).2
    show b.val < x.given + 1
    omega
  · simp only [posB, Bool.and_eq_true, decide_eq_true_eq]; omega
theorem given_pos {x : Ix} (h : RightL x) : 1 ≤ x.given ∧ x.given ≤ 4294967295 := by
  have := h.given
  simpa only [posB, Bool.and_eq_true, decide_eq_true_eq] using this
/-- A new mailbox, of the validity that is given next. -/
theorem new_keeps {x y : Ix} {b : Bx} (hG : Good x) (hy : Good y) (hk : Kp x y) (hyg : y.given = x.given) (hl : x.boxes.length = y.boxes.length) (hg : ¬ 4294967295 ≤ x.given) (h6 : ¬ 6 ≤ x.boxes.length) (hb : boxB b = true) (hv : b.val = x.given)
    (hn : ∀ c ∈ y.boxes, nmEq c.name b.name = false) (ht : (y.boxes.map (fun b => b.mails.length)).sum + b.mails.length ≤ 30) : Good ⟨insX y.boxes b, y.subs, x.given + 1⟩ ∧ Kp x ⟨insX y.boxes b, y.subs, x.given + 1⟩ := by
  have hL := right_list hy.right
  have hU := up_right hL (by omega)
  have hR : RightL ⟨insX y.boxes b, y.subs, x.given + 1⟩ := by
    have := ins_right (b := b) hU hb (by show b.val < y.given + 1; omega) hn (by show y.boxes.length ≤ 5; omega) ht
    rw [hyg] at this; exact this
  refine ⟨⟨list_right hR, ins_vals hy.vals (fun c hc e => ?_)⟩, by show x.given ≤ x.given + 1; omega, fun c hc d hd e => ?_⟩
  · have := (hL.box c hc).2
    omega
  · rcases insX_mem.1 hd with rfl | hd
    · have := ((right_list hG.right).box c hc).2
      omega
    · exact hk.2 c hc d hd e
theorem ix_error {r : Ix × Int} {e : Int} {P : Prop} (h : r = (ix0, e)) (he : e ≠ 0) (h0 : r.2 = 0) : P := by
  rw [h] at h0; exact absurd h0 he
theorem sum_boxes {x : Ix} (h : RightL x) : (x.boxes.map (fun b => b.mails.length)).sum ≤ 30 := h.tot
theorem sum_tot (x : Ix) : (x.boxes.map (fun b => b.mails.length)).sum = totTo x x.boxes.length := by
  have := totTo_sum x x.boxes.length (Nat.le_refl _)
  rw [List.take_length] at this
  exact this.symm
theorem cre_keeps {x : Ix} {nm : ByteArray} (hG : Good x) (h0 : (creR x nm).2 = 0) : Good (creR x nm).1 ∧ Kp x (creR x nm).1 := by
  unfold creR at h0 ⊢
  by_cases h : (rightB x && nameB nm) = true
  · rw [if_pos h] at h0 ⊢
    rw [Bool.and_eq_true] at h
    cases hf : findX x nm with
    | some q => rw [hf] at h0; exact absurd (show (8 : Int) = 0 from h0) (by decide)
    | none =>
      rw [hf] at h0
      simp only at h0 ⊢
      by_cases hc : (decide (6 ≤ x.boxes.length) || decide (4294967295 ≤ x.given)) = true
      · rw [if_pos hc] at h0; exact absurd (show (5 : Int) = 0 from h0) (by decide)
      · rw [if_neg hc]
        rw [Bool.or_eq_true, decide_eq_true_eq, decide_eq_true_eq, not_or] at hc
        have hL := right_list hG.right
        have hg := given_pos hL
        exact new_keeps hG hG (kp_refl hG) rfl rfl hc.2 hc.1 (boxB_mk h.2 hg.1 hg.2 (show (1 : Int) ≤ 1 by decide) (show (1 : Int) ≤ 4294967295 by decide) (Nat.zero_le _) rfl) rfl (find_no hf) (by have := hL.tot; simpa using this)
  · rw [if_neg h] at h0; exact absurd (show (1 : Int) = 0 from h0) (by decide)
theorem posFrom_set {l : List Bx} {c : Bx} {nm : ByteArray} : ∀ f a, 1 ≤ a → posFrom (l.set 0 c) nm f a = posFrom l nm f a
  | 0, _, _ => rfl
  | f + 1, a, h => by
    unfold posFrom
    rw [List.length_set, posFrom_set f (a + 1) (by omega), show xAt (l.set 0 c) a = xAt l a by simp [xAt, List.getD, List.getElem?_set_ne (show 0 ≠ a by omega)]]
theorem insX_set0 {l : List Bx} {b c : Bx} (h : 1 ≤ l.length) : (insX l b).set 0 c = insX (l.set 0 c) b := by
  have hp : insPos (l.set 0 c) b.name = insPos l b.name := by unfold insPos; rw [List.length_set]; exact posFrom_set _ _ (Nat.le_refl _)
  have h1 := insPos_ge l b.name
  unfold insX
  rw [hp, List.set_append_left _ _ (by rw [List.length_take]; omega), ← List.take_set, List.drop_set_of_lt (by omega)]
theorem mov_keeps {x : Ix} {nm : ByteArray} (hG : Good x) (hn : nameB nm = true) (hf : findX x nm = none) (h0 : (movR x nm).2 = 0) : Good (movR x nm).1 ∧ Kp x (movR x nm).1 := by
  unfold movR at h0 ⊢
  by_cases hc : (decide (6 ≤ x.boxes.length) || decide (4294967295 ≤ x.given)) = true
  · rw [if_pos hc] at h0; exact absurd (show (5 : Int) = 0 from h0) (by decide)
  · rw [if_neg hc]
    rw [Bool.or_eq_true, decide_eq_true_eq, decide_eq_true_eq, not_or] at hc
    have hL := right_list hG.right
    have hg := given_pos hL
    have h1 := (right_len hG.right).1
    obtain ⟨b1, b2, b3, b4, b5, b6, b7⟩ := boxB_parts (right_box hG.right h1)
    have htt := totTo_set (x := x) (a := 0) (b := withMails (bxAt x 0) []) h1 x.boxes.length
    rw [if_pos (show 0 < x.boxes.length from h1), if_pos (show 0 < x.boxes.length from h1)] at htt
    simp only [withMails, List.length_nil, Nat.add_zero] at htt
    have hsx := sum_tot x
    have hst := hL.tot
    obtain ⟨hy, hk⟩ := good_set (b := withMails (bxAt x 0) []) hG h1 rfl rfl (boxB_mk b1 b2 b3 b4 b5 (Nat.zero_le _) rfl) (by simp only [withMails, List.length_nil]; omega) (Int.le_refl _) (fun m hm => by cases hm)
    have hfy : findX (setBx x 0 (withMails (bxAt x 0) [])) nm = none := by rw [find_set (b := withMails (bxAt x 0) []) h1 rfl]; exact hf
    have hsy := sum_tot (setBx x 0 (withMails (bxAt x 0) []))
    rw [setBx_len] at hsy
    have := new_keeps (b := movBx x nm) hG hy hk rfl setBx_len.symm hc.2 hc.1 (boxB_mk hn hg.1 hg.2 b4 b5 b6 b7) rfl (find_no hfy) (by
      rw [hsy]
      show _ + (bxAt x 0).mails.length ≤ 30
      simp only [withMails]
      omega)
    have e : movIx x nm = ⟨insX (setBx x 0 (withMails (bxAt x 0) [])).boxes (movBx x nm), (setBx x 0 (withMails (bxAt x 0) [])).subs, x.given + 1⟩ := by
      unfold movIx
      rw [insX_set0 h1]; rfl
    simp only
    rw [e]; exact this
theorem less_kp {x : Ix} {l : List Bx} {s : List ByteArray} (hG : Good x) (hl : ∀ c ∈ l, c ∈ x.boxes) : Kp x ⟨l, s, x.given⟩ := by
  refine ⟨Int.le_refl _, fun b hb c hc e => ?_⟩
  rw [vals_eq hG.vals hb (hl c hc) e]
  exact ⟨Int.le_refl _, old_refl _⟩
theorem not_first {x : Ix} {nm : ByteArray} {a : Nat} (hr : rightB x = true) (hf : findX x nm = some a) (he : nmEq nm inbox = false) : 0 < a := by
  have h8 := (right_len hr).2.2.2.2.2.2.2
  obtain ⟨_, hp, _⟩ := findTo_inv hf
  have hp' : nmEq (bxAt x a).name nm = true := hp
  rcases Nat.eq_zero_or_pos a with rfl | h
  · rw [nmEq_iff] at hp' h8
    rw [nmEq_f, ← hp'] at he
    exact absurd h8 he
  · exact h
theorem del_keeps {x : Ix} {nm : ByteArray} (hG : Good x) (h0 : (delR x nm).2 = 0) : Good (delR x nm).1 ∧ Kp x (delR x nm).1 := by
  unfold delR at h0 ⊢
  by_cases h : (rightB x && !(nmEq nm inbox)) = true
  · rw [if_pos h] at h0 ⊢
    rw [Bool.and_eq_true, Bool.not_eq_true'] at h
    cases hf : findX x nm with
    | none => rw [hf] at h0; exact absurd (show (6 : Int) = 0 from h0) (by decide)
    | some a =>
      simp only
      have ha := not_first h.1 hf h.2
      exact ⟨⟨list_right (erase_right (right_list hG.right) ha), hG.vals.sublist (List.eraseIdx_sublist _ _)⟩, less_kp hG (fun c hc => List.mem_of_mem_eraseIdx hc)⟩
  · rw [if_neg h] at h0; exact absurd (show (1 : Int) = 0 from h0) (by decide)
theorem ren_keeps {x : Ix} {fr tn : ByteArray} (hG : Good x) (h0 : (renR x fr tn).2 = 0) : Good (renR x fr tn).1 ∧ Kp x (renR x fr tn).1 := by
  unfold renR at h0 ⊢
  by_cases h : (rightB x && nameB tn) = true
  · rw [if_pos h] at h0 ⊢
    rw [Bool.and_eq_true] at h
    cases hf : findX x fr with
    | none => rw [hf] at h0; exact absurd (show (6 : Int) = 0 from h0) (by decide)
    | some a =>
      rw [hf] at h0
      cases hf2 : findX x tn with
      | some q => rw [hf2] at h0; exact absurd (show (8 : Int) = 0 from h0) (by decide)
      | none =>
        rw [hf2] at h0
        simp only at h0 ⊢
        rcases Bool.eq_false_or_eq_true (nmEq fr inbox) with he | he
        · rw [if_pos he] at h0 ⊢
          exact mov_keeps hG h.2 hf2 h0
        · rw [if_neg (by rw [he]; decide)]
          have ha := not_first h.1 hf he
          have hal : a < x.boxes.length := (findTo_inv hf).1
          have hL := right_list hG.right
          have hE := erase_right hL ha
          have hpm := erase_perm x.boxes a hal
          rw [← bxAt_lt hal] at hpm
          obtain ⟨b1, b2, b3, b4, b5, b6, b7⟩ := boxB_parts (right_box hG.right hal)
          have hvm : Vals (bxAt x a :: x.boxes.eraseIdx a) := (hpm.pairwise_iff (fun h => Ne.symm h)).1 hG.vals
          unfold Vals at hvm
          rw [List.pairwise_cons] at hvm
          have hsum := (hpm.map (fun b => b.mails.length)).sum_nat
          rw [List.map_cons, List.sum_cons] at hsum
          have hst := hL.tot
          have hlen := hpm.length_eq
          rw [List.length_cons] at hlen
          have hl6 := hL.len
          have hR := ins_right (b := reName (bxAt x a) tn) hE (boxB_mk h.2 b2 b3 b4 b5 b6 b7) (hL.box _ (bxAt_mem hal)).2 (fun c hc => find_no hf2 c (List.mem_of_mem_eraseIdx hc)) (by show (x.boxes.eraseIdx a).length ≤ 5; omega) (by
            show ((x.boxes.eraseIdx a).map _).sum + (bxAt x a).mails.length ≤ 30
            omega)
          refine ⟨⟨list_right hR, ins_vals (b := reName (bxAt x a) tn) hvm.2 (fun c hc => (hvm.1 c hc).symm)⟩, Int.le_refl _, fun c hc d hd e => ?_⟩
          rcases insX_mem.1 hd with rfl | hd
          · rw [vals_eq hG.vals hc (bxAt_mem hal) e]
            exact ⟨Int.le_refl _, fun m hm => .inr ⟨m, hm, rfl, rfl, rfl⟩⟩
          · rw [vals_eq hG.vals hc (List.mem_of_mem_eraseIdx hd) e]
            exact ⟨Int.le_refl _, old_refl _⟩
  · rw [if_neg h] at h0; exact absurd (show (1 : Int) = 0 from h0) (by decide)
theorem subs_pw {x : Ix} (h : allTo (subB x) x.subs.length = true) : (∀ s ∈ x.subs, nameB s = true) ∧ x.subs.Pairwise (fun a b => lessB a b = true) := by
  have h0 := allTo_iff.1 h
  simp only [subB, Bool.and_eq_true, Bool.not_eq_true', Bool.and_eq_false_iff, decide_eq_false_iff_not] at h0
  have step : ∀ i, 0 < i → i < x.subs.length → lessB (subAt x (i - 1)) (subAt x i) = true := fun i h1 hi => by
    rcases (h0 i hi).2 with h2 | h2
    · exact absurd h1 h2
    · exact less_of_rise (gt_of_le h2) h2
  have rise : ∀ j i, i < j → j < x.subs.length → lessB (subAt x i) (subAt x j) = true := by
    intro j
    induction j with
    | zero => intro i hi; omega
    | succ j ih =>
      intro i hij hj
      have hs := step (j + 1) (by omega) hj
      simp only [Nat.add_sub_cancel] at hs
      by_cases e : i = j
      · subst e; exact hs
      · exact bl_trans _ _ _ (ih i (by omega) (by omega)) hs
  refine ⟨fun s hs => ?_, ?_⟩
  · obtain ⟨i, hi, rfl⟩ := List.mem_iff_getElem.1 hs
    rw [← subAt_lt hi]; exact (h0 i hi).1
  · rw [List.pairwise_iff_getElem]
    intro i j hi hj hij
    rw [← subAt_lt hi, ← subAt_lt hj]
    exact rise j i hij hj
theorem pw_subs {x : Ix} (h : (∀ s ∈ x.subs, nameB s = true) ∧ x.subs.Pairwise (fun a b => lessB a b = true)) : allTo (subB x) x.subs.length = true := by
  rw [allTo_iff]
  intro i hi
  simp only [subB, Bool.and_eq_true, Bool.not_eq_true', Bool.and_eq_false_iff, decide_eq_false_iff_not]
  refine ⟨by rw [subAt_lt hi]; exact h.1 _ (List.getElem_mem hi), ?_⟩
  by_cases h0 : 0 < i
  · right
    rw [subAt_lt hi, subAt_lt (by omega)]
    exact less_not_le (List.pairwise_iff_getElem.1 h.2 (i - 1) i (by omega) hi (by omega))
  · exact .inl h0
theorem sub_keeps {x : Ix} {nm : ByteArray} {yes : Bool} (hG : Good x) (h0 : (subR x nm yes).2 = 0) : Good (subR x nm yes).1 ∧ Kp x (subR x nm yes).1 := by
  unfold subR at h0 ⊢
  by_cases h : (rightB x && nameB nm) = true
  · rw [if_pos h] at h0 ⊢
    rw [Bool.and_eq_true] at h
    by_cases hy : (yes == thereS x.subs nm) = true
    · rw [if_pos hy]; exact ⟨hG, kp_refl hG⟩
    · rw [if_neg hy] at h0 ⊢
      by_cases hn : (!yes) = true
      · rw [if_pos hn]
        have hL := right_list hG.right
        have hs := subs_pw hL.subs.2
        refine ⟨⟨list_right ⟨hL.cons, hL.box, hL.len, hL.tot, ⟨Nat.le_trans (List.length_eraseIdx_le ..) hL.subs.1, pw_subs ⟨fun s hs' => hs.1 s (List.mem_of_mem_eraseIdx hs'), hs.2.sublist (List.eraseIdx_sublist _ _)⟩⟩, hL.given⟩, hG.vals⟩, less_kp hG (fun c hc => hc)⟩
      · rw [if_neg hn] at h0 ⊢
        by_cases h6 : 6 ≤ x.subs.length
        · rw [if_pos h6] at h0; exact absurd (show (5 : Int) = 0 from h0) (by decide)
        · rw [if_neg h6]
          obtain rfl : yes = true := by simpa using hn
          have ht : thereS x.subs nm = false := by
            rcases Bool.eq_false_or_eq_true (thereS x.subs nm) with e | e
            · rw [e] at hy; exact absurd rfl hy
            · exact e
          exact ⟨⟨right_put hG.right h.2 ht h6, hG.vals⟩, less_kp hG (fun c hc => hc)⟩
  · rw [if_neg h] at h0; exact absurd (show (1 : Int) = 0 from h0) (by decide)
theorem app_keeps {x : Ix} {nm : ByteArray} {o s f : Int} (hG : Good x) (h0 : (appR x nm o s f).2.2 = 0) : Good (appR x nm o s f).1 ∧ Kp x (appR x nm o s f).1 := by
  rcases appR_cases x nm o s f with ⟨e, he, hne⟩ | ⟨a, hr, hm, hf, ha, ht, hx, he⟩
  · rw [he] at h0; exact absurd h0 hne
  · rw [he]
    simp only
    rw [appIx_eq]
    obtain ⟨h1, h2, h3, h4, h5, h6, h7⟩ := boxB_parts (right_box hr ha)
    have htot := tot_ge (x := x) x.boxes.length ha
    refine good_set hG ha rfl rfl ?_ ?_ ?_ ?_
    · refine boxB_mk h1 h2 h3 ?_ ?_ ?_ ?_
      · simp only [nextUp]; omega
      · simp only [nextUp]; omega
      · simp only [nextUp, List.length_append, List.length_singleton]; omega
      · simp only [nextUp]
        refine mailsB_snoc hm (by simp only; omega) _ _ (mailsB_mono (by omega) _ _ h7) (by simp only; omega) (fun u hu => ?_)
        exact (mailsB_lt _ _ h7 u hu).2.1
    · simp only [nextUp, List.length_append, List.length_singleton]; omega
    · simp only [nextUp]; omega
    · intro m hm'
      simp only [nextUp] at hm'
      rcases List.mem_append.1 hm' with hm' | hm'
      · exact .inr ⟨m, hm', rfl, rfl, rfl⟩
      · rw [List.mem_singleton] at hm'
        subst hm'
        exact .inl (Int.le_refl _)
theorem flagL_map (l : List Ml) (k : Nat) (fl : Int) {β : Type} (g : Ml → β) (hg : ∀ m : Ml, g (flagMl m fl) = g m) : (flagL l k fl).map g = l.map g := by
  unfold flagL
  rw [List.map_set, hg]
  by_cases h : k < l.length
  · rw [mlAt_lt h]
    rw [show g l[k] = (l.map g)[k]'(by rw [List.length_map]; exact h) by simp, List.set_getElem_self]
  · rw [List.set_eq_of_length_le (by rw [List.length_map]; omega)]
theorem flag_keeps {x : Ix} {nm : ByteArray} {uid fl : Int} (hG : Good x) (h0 : (flagR x nm uid fl).2 = 0) : Good (flagR x nm uid fl).1 ∧ Kp x (flagR x nm uid fl).1 := by
  unfold flagR at h0 ⊢
  by_cases h : (rightB x && flagsB fl) = true
  · rw [if_pos h] at h0 ⊢
    rw [Bool.and_eq_true] at h
    rcases Bool.eq_false_or_eq_true (placeR x nm uid).2.2 with hp | hp
    · obtain ⟨a, k, e, ha, hk, _, _⟩ := place_found hp
      rw [e]
      simp only [Int.toNat_natCast]
      obtain ⟨h1, h2, h3, h4, h5, h6, h7⟩ := boxB_parts (right_box hG.right ha)
      have hlen : (flagL (bxAt x a).mails k fl).length = (bxAt x a).mails.length := by unfold flagL; rw [List.length_set]
      have hmem : ∀ m ∈ flagL (bxAt x a).mails k fl, ∃ o ∈ (bxAt x a).mails, o.uid = m.uid ∧ o.obj = m.obj ∧ o.size = m.size ∧ (m = o ∨ m.flags = fl) := fun m hm => by
        unfold flagL at hm
        rcases List.mem_or_eq_of_mem_set hm with hm | rfl
        · exact ⟨m, hm, rfl, rfl, rfl, .inl rfl⟩
        · exact ⟨mlAt (bxAt x a).mails k, by rw [mlAt_lt hk]; exact List.getElem_mem hk, rfl, rfl, rfl, .inr rfl⟩
      rw [withIx_eq]
      have htot := (right_len hG.right).2.2.2.2.2.2.1
      refine good_set hG ha rfl rfl (boxB_mk h1 h2 h3 h4 h5 (by simp only [withMails]; omega) ?_) (by simp only [withMails, hlen]; omega) (Int.le_refl _) (fun m hm => ?_)
      · simp only [withMails]
        rw [mailsB_pw] at h7 ⊢
        refine ⟨fun m hm => ?_, ?_⟩
        · obtain ⟨o, ho, e1, e2, e3, e4⟩ := hmem m hm
          obtain ⟨k1, k2, k3⟩ := h7.1 o ho
          rcases e4 with rfl | e4
          · exact ⟨k1, k2, k3⟩
          · rw [← e1, ← e2, ← e3, e4]
            refine ⟨k1, k2, ?_⟩
            unfold mailB at k3 ⊢
            simp only [Bool.and_eq_true] at k3 ⊢
            exact ⟨k3.1, h.2⟩
        · have hmp := flagL_map (bxAt x a).mails k fl (fun m => m.uid) (fun _ => rfl)
          have hpw := (List.pairwise_map (R := fun a b : Int => a < b) (f := fun m : Ml => m.uid)).2 h7.2
          rw [← hmp] at hpw
          exact List.pairwise_map.1 hpw
      · obtain ⟨o, ho, e1, e2, e3, _⟩ := hmem m hm
        exact .inr ⟨o, ho, e1, e2, e3⟩
    · generalize placeR x nm uid = p at *
      obtain ⟨a, k, b⟩ := p
      have hp' : b = false := hp
      subst hp'
      exact absurd (show (6 : Int) = 0 from h0) (by decide)
  · rw [if_neg h] at h0; exact absurd (show (1 : Int) = 0 from h0) (by decide)
theorem exp_keeps {x : Ix} {nm : ByteArray} {uid : Int} (hG : Good x) (h0 : (expR x nm uid).2 = 0) : Good (expR x nm uid).1 ∧ Kp x (expR x nm uid).1 := by
  unfold expR at h0 ⊢
  rw [if_pos hG.right] at h0 ⊢
  rcases Bool.eq_false_or_eq_true (placeR x nm uid).2.2 with hp | hp
  · obtain ⟨a, k, e, ha, hk, _, _⟩ := place_found hp
    rw [e]
    simp only [Int.toNat_natCast]
    obtain ⟨h1, h2, h3, h4, h5, h6, h7⟩ := boxB_parts (right_box hG.right ha)
    have hsub : ((bxAt x a).mails.eraseIdx k).Sublist (bxAt x a).mails := List.eraseIdx_sublist _ _
    have hlen := hsub.length_le
    have htot := (right_len hG.right).2.2.2.2.2.2.1
    rw [withIx_eq]
    refine good_set hG ha rfl rfl (boxB_mk h1 h2 h3 h4 h5 (by simp only [withMails]; omega) (mailsB_sub h7 hsub)) (by simp only [withMails]; omega) (Int.le_refl _) (fun m hm => .inr ⟨m, hsub.subset hm, rfl, rfl, rfl⟩)
  · generalize placeR x nm uid = p at *
    obtain ⟨a, k, b⟩ := p
    have hp' : b = false := hp
    subst hp'
    exact absurd (show (6 : Int) = 0 from h0) (by decide)
theorem cop_keeps {x : Ix} {nm : ByteArray} {uid : Int} {tn : ByteArray} (hG : Good x) (h0 : (copR x nm uid tn).2.2 = 0) : Good (copR x nm uid tn).1 ∧ Kp x (copR x nm uid tn).1 := by
  unfold copR at h0 ⊢
  rw [if_pos hG.right] at h0 ⊢
  generalize placeR x nm uid = p at *
  obtain ⟨a, k, b⟩ := p
  cases b with
  | false => exact absurd (show (6 : Int) = 0 from h0) (by decide)
  | true =>
    simp only at h0 ⊢
    cases hf : findX x tn with
    | none => rw [hf] at h0; exact absurd (show (6 : Int) = 0 from h0) (by decide)
    | some q =>
      rw [hf] at h0
      exact app_keeps hG h0
end Go.Proofs.Ytjinnkbnllnllaa
