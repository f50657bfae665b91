/- The index in plain Lean: what the reference sorts is what the program inserts. No program. -/
import Derived.Test.YtjinnkbnllnllaaL15Act
namespace Go.Proofs.Ytjinnkbnllnllaa
open Go.RowKit

theorem gt_f {a b : ByteArray} : gtB a b = false ↔ (lessB a b = true ∨ a.toList = b.toList) := by
  unfold gtB lessB
  rw [Bool.not_eq_false', Bool.or_eq_true, beq_iff_eq]
theorem gt_t {a b : ByteArray} : gtB a b = true ↔ lessB b a = true := by
  constructor
  · intro h
    rcases Bool.eq_false_or_eq_true (lessB b a) with e | e
    · exact e
    · exfalso
      have hf : gtB a b = false := by
        rw [gt_f]
        by_cases hab : a.toList = b.toList
        · exact .inr hab
        · exact .inl (bl_tri _ _ e (fun h => hab h.symm))
      rw [h] at hf; cases hf
  · intro h
    rcases Bool.eq_false_or_eq_true (gtB a b) with e | e
    · exact e
    · exfalso
      rw [gt_f] at e
      rcases e with e | e
      · have := bl_trans _ _ _ e h
        rw [bl_irrefl] at this; cases this
      · have h' : Op.bytesLess b.toList a.toList = true := h
        rw [e, bl_irrefl] at h'; cases h'
theorem le_trans_nm {a b c : ByteArray} (h : gtB a b = false) (k : gtB b c = false) : gtB a c = false := by
  rw [gt_f] at h k ⊢
  rcases h with h | h
  · rcases k with k | k
    · exact .inl (bl_trans _ _ _ h k)
    · exact .inl (by unfold lessB at h ⊢; rw [← k]; exact h)
  · rcases k with k | k
    · exact .inl (by unfold lessB at k ⊢; rw [h]; exact k)
    · exact .inr (h.trans k)
theorem less_le {a b : ByteArray} (h : lessB a b = true) : gtB a b = false := gt_f.2 (.inl h)
theorem gt_le {a b : ByteArray} (h : gtB a b = true) : gtB b a = false := less_le (gt_t.1 h)

theorem slide_spec (l : List Bp) (nm : ByteArray) : ∀ k, (1 ≤ k → 1 ≤ slide l nm k) ∧ slide l nm k ≤ k ∧ (∀ i, slide l nm k ≤ i → i < k → gtB (bpAt l i).1.name nm = true) ∧ (1 < slide l nm k → gtB (bpAt l (slide l nm k - 1)).1.name nm = false)
  | 0 => ⟨fun h => by omega, Nat.le_refl _, fun i h1 h2 => by omega, fun h => by simp [slide] at h⟩
  | 1 => ⟨fun _ => Nat.le_refl _, Nat.le_refl _, fun i h1 h2 => by simp only [slide] at h1; omega, fun h => by simp [slide] at h⟩
  | k + 2 => by
    obtain ⟨h1, h2, h3, h4⟩ := slide_spec l nm (k + 1)
    unfold slide
    rcases Bool.eq_false_or_eq_true (gtB (bpAt l (k + 1)).1.name nm) with e | e
    · rw [if_pos e]
      refine ⟨fun _ => h1 (by omega), by omega, fun i hi hik => ?_, h4⟩
      by_cases hh : i = k + 1
      · subst hh; exact e
      · exact h3 i hi (by omega)
    · rw [if_neg (by rw [e]; decide)]
      exact ⟨fun _ => by omega, Nat.le_refl _, fun i h1 h2 => by omega, fun _ => e⟩
theorem insP_perm (l : List Bp) (p : Bp) : (insP l p).Perm (p :: l) := by
  unfold insP
  refine List.perm_middle.trans ?_
  rw [List.take_append_drop]
def leP (a b : Bp) : Prop := gtB a.1.name b.1.name = false
theorem insP_cons {p0 p : Bp} {s : List Bp} (h : s.Pairwise leP) : ∃ s', insP (p0 :: s) p = p0 :: s' ∧ s'.Pairwise leP := by
  obtain ⟨h1, h2, h3, h4⟩ := slide_spec (p0 :: s) p.1.name (p0 :: s).length
  have h1 := h1 (by simp)
  obtain ⟨q, hq⟩ : ∃ q, slide (p0 :: s) p.1.name (p0 :: s).length = q + 1 := ⟨slide (p0 :: s) p.1.name (p0 :: s).length - 1, by omega⟩
  rw [hq] at h2 h3 h4
  simp only [List.length_cons] at h2 h3
  have hat : ∀ i, (hi : i < s.length) → bpAt (p0 :: s) (i + 1) = s[i] := fun i hi => by rw [bpAt_lt (by simpa using hi)]; simp
  refine ⟨s.take q ++ p :: s.drop q, ?_, ?_⟩
  · unfold insP; rw [hq]; simp
  · have hlow : ∀ c ∈ s.take q, leP c p := fun c hc => by
      obtain ⟨i, hi, rfl⟩ := List.mem_iff_getElem.1 hc
      rw [List.length_take] at hi
      rw [List.getElem_take]
      have hl := h4 (by omega)
      rw [show q + 1 - 1 = (q - 1) + 1 by omega, hat (q - 1) (by omega)] at hl
      by_cases e : i = q - 1
      · subst e; exact hl
      · exact le_trans_nm (List.pairwise_iff_getElem.1 h i (q - 1) (by omega) (by omega) (by omega)) hl
    have hhigh : ∀ c ∈ s.drop q, leP p c := fun c hc => by
      obtain ⟨i, hi, rfl⟩ := List.mem_iff_getElem.1 hc
      rw [List.length_drop] at hi
      rw [List.getElem_drop]
      have := h3 (q + i + 1) (by omega) (by omega)
      rw [hat (q + i) (by omega)] at this
      exact gt_le this
    rw [List.pairwise_append, List.pairwise_cons]
    refine ⟨h.sublist (List.take_sublist _ _), ⟨hhigh, h.sublist (List.drop_sublist _ _)⟩, fun a ha c hc => ?_⟩
    rcases List.mem_cons.1 hc with rfl | hc
    · exact hlow a ha
    · exact le_trans_nm (hlow a ha) (hhigh c hc)
theorem sortTo_spec (l : List Bp) : ∀ k, k < l.length → ∃ s, sortTo l (k + 1) = bpAt l 0 :: s ∧ s.Pairwise leP ∧ (sortTo l (k + 1)).Perm (l.take (k + 1))
  | 0, h => by
    refine ⟨[], ?_, List.Pairwise.nil, ?_⟩
    · simp [sortTo, insP, slide]
    · have : l.take 1 = [bpAt l 0] := by rw [bpAt_lt h]; cases l with | nil => simp at h | cons a l => simp
      rw [this]; simp [sortTo, insP, slide]
  | k + 1, h => by
    obtain ⟨s, e, hs, hp⟩ := sortTo_spec l k (by omega)
    have e2 : sortTo l (k + 1 + 1) = insP (sortTo l (k + 1)) (bpAt l (k + 1)) := rfl
    obtain ⟨s', e', hs'⟩ := insP_cons (p0 := bpAt l 0) (p := bpAt l (k + 1)) hs
    refine ⟨s', by rw [e2, e, e'], hs', ?_⟩
    rw [e2]
    refine (insP_perm _ _).trans ?_
    rw [List.take_succ_eq_append_getElem h, ← bpAt_lt h]
    exact ((List.perm_cons _).2 hp).trans (List.perm_append_singleton _ _).symm
/-- A sorted list of the same mailboxes, with the same first one, is what sorting makes. -/
theorem sort_eq {l T : List Bp} {b0 : Bx} {r : List Bx} (hl : 0 < l.length) (hT : T.map (·.1) = b0 :: r) (h0 : bpAt T 0 = bpAt l 0) (hp : T.Perm l) (hr : r.Pairwise (fun a b => lessB a.name b.name = true)) : sortTo l l.length = T := by
  obtain ⟨s, e, hs, hps⟩ := sortTo_spec l (l.length - 1) (by omega)
  rw [show l.length - 1 + 1 = l.length by omega] at e hps
  rw [List.take_length] at hps
  cases T with
  | nil => simp at hT
  | cons t T =>
    rw [List.map_cons, List.cons.injEq] at hT
    have h0' : t = bpAt l 0 := by rw [← h0]; simp [bpAt]
    rw [e, ← h0']
    congr 1
    have hperm : (t :: s).Perm (t :: T) := by rw [h0', ← e]; rw [h0'] at hp; exact hps.trans hp.symm
    have hperm' := (List.perm_cons t).1 hperm
    have hr' : T.Pairwise (fun a b => lessB a.1.name b.1.name = true) := by
      rw [← hT.2] at hr
      exact (List.pairwise_map (R := fun a b : Bx => lessB a.name b.name = true) (f := fun p : Bp => p.1)).1 hr
    refine List.Perm.eq_of_pairwise (le := leP) (fun a b ha hb h1 h2 => ?_) hs (hr'.imp (fun h => less_le h)) hperm'
    have ha' := hperm'.mem_iff.1 ha
    obtain ⟨i, hi, rfl⟩ := List.mem_iff_getElem.1 ha'
    obtain ⟨j, hj, rfl⟩ := List.mem_iff_getElem.1 hb
    rcases Nat.lt_trichotomy i j with h | h | h
    · exfalso
      have := gt_t.2 (List.pairwise_iff_getElem.1 hr' i j hi hj h)
      unfold leP at h2; rw [h2] at this; cases this
    · subst h; rfl
    · exfalso
      have := gt_t.2 (List.pairwise_iff_getElem.1 hr' j i hj hi h)
      unfold leP at h1; rw [h1] at this; cases this
theorem bpAt_insB {ps : List Bp} {p : Bp} (h : 1 ≤ ps.length) : bpAt (insB ps p) 0 = bpAt ps 0 := by
  have h1 := insPos_ge (ps.map (·.1)) p.1.name
  unfold insB bpAt
  simp only [List.getD]
  rw [List.getElem?_append_left (by rw [List.length_take]; omega), List.getElem?_take, if_pos (by omega)]
theorem insB_perm (l : List Bp) (p : Bp) : (insB l p).Perm (p :: l) := by
  unfold insB
  refine List.perm_middle.trans ?_
  rw [List.take_append_drop]
/-- One more, sorted. -/
theorem sort_more {ps : List Bp} {p : Bp} {b0 : Bx} {r : List Bx} (hps : ps.map (·.1) = b0 :: r) (hr : r.Pairwise (fun a b => lessB a.name b.name = true)) (hn : ∀ c ∈ r, nmEq c.name p.1.name = false) : sortTo (ps ++ [p]) (ps ++ [p]).length = insB ps p := by
  obtain ⟨r', e, hr'⟩ := insX_cons (b0 := b0) (b := p.1) hr hn
  have hl : 1 ≤ ps.length := by have := congrArg List.length hps; simp at this; omega
  refine sort_eq (b0 := b0) (r := r') (by simp) ?_ ?_ ?_ hr'
  · rw [insB_map, hps, e]
  · rw [bpAt_insB hl]
    unfold bpAt
    simp only [List.getD]
    rw [List.getElem?_append_left (by omega)]
  · exact (insB_perm ps p).trans (List.perm_append_singleton _ _).symm
theorem set_perm {α : Type} : ∀ (l : List α) (a : Nat) (p : α), a < l.length → (l.set a p).Perm (p :: l.eraseIdx a)
  | [], _, _, h => by simp at h
  | x :: l, 0, p, _ => by simp
  | x :: l, a + 1, p, h => by
    simp only [List.set_cons_succ, List.eraseIdx_cons_succ]
    exact ((List.perm_cons x).2 (set_perm l a p (by simpa using h))).trans (List.Perm.swap _ _ _)
/-- One by another name, sorted. -/
theorem sort_named {ps : List Bp} {p : Bp} {a : Nat} {b0 : Bx} {r : List Bx} (hps : ps.map (·.1) = b0 :: r) (hr : r.Pairwise (fun a b => lessB a.name b.name = true)) (hn : ∀ c ∈ r, nmEq c.name p.1.name = false) (ha : 0 < a) (hal : a < ps.length) :
    sortTo (ps.set a p) (ps.set a p).length = insB (ps.eraseIdx a) p := by
  obtain ⟨k, rfl⟩ : ∃ k, a = k + 1 := ⟨a - 1, by omega⟩
  have hpe : (ps.eraseIdx (k + 1)).map (·.1) = b0 :: r.eraseIdx k := by rw [map_erase, hps]; rfl
  obtain ⟨r', e, hr'⟩ := insX_cons (b0 := b0) (b := p.1) (hr.sublist (List.eraseIdx_sublist _ k)) (fun c hc => hn c (List.mem_of_mem_eraseIdx hc))
  have hl : 1 ≤ (ps.eraseIdx (k + 1)).length := by have := congrArg List.length hpe; simp only [List.length_map, List.length_cons] at this; omega
  refine sort_eq (b0 := b0) (r := r') (by rw [List.length_set]; omega) ?_ ?_ ?_ hr'
  · rw [insB_map, hpe, e]
  · rw [bpAt_insB hl]
    unfold bpAt
    simp only [List.getD]
    rw [List.getElem?_set_ne (by omega), List.getElem?_eraseIdx_of_lt (by omega)]
  · exact (insB_perm _ p).trans (set_perm ps (k + 1) p hal).symm
theorem filter_one {α : Type} {f : α → Bool} {l : List α} : ∀ {k : Nat}, (hk : k < l.length) → f l[k] = false → (∀ j, (hj : j < l.length) → j ≠ k → f l[j] = true) → l.filter f = l.eraseIdx k := by
  induction l with
  | nil => intro k hk; simp at hk
  | cons m l ih =>
    intro k hk he hn
    cases k with
    | zero =>
      rw [List.filter_cons_of_neg (by simpa using he), List.eraseIdx_cons_zero, List.filter_eq_self]
      intro u hu
      obtain ⟨j, hj, rfl⟩ := List.mem_iff_getElem.1 hu
      exact hn (j + 1) (by simpa using hj) (by omega)
    | succ k =>
      rw [List.filter_cons_of_pos (show f m = true from hn 0 (by simp) (by omega)), List.eraseIdx_cons_succ, ih (by simpa using hk) (by simpa using he) (fun j hj hne => by
        have := hn (j + 1) (by simpa using hj) (by omega)
        simpa using this)]
theorem name_inj {a b : ByteArray} (h : a.toList = b.toList) : a = b := by
  have : a.data = b.data := by
    rw [← Array.toList_inj, ← ByteArray.toList_eq, ← ByteArray.toList_eq]; exact h
  cases a; cases b; simp only at this; subst this; rfl
/-- The names of a right index stand once. -/
theorem names_once {x : Ix} (h : rightB x = true) {i j : Nat} (hi : i < x.boxes.length) (hj : j < x.boxes.length) (hij : i ≠ j) : nmEq (bxAt x i).name (bxAt x j).name = false := by
  obtain ⟨⟨b0, r, e, h0, hr, hp⟩, _⟩ := right_list h
  have main : ∀ i j, i < j → j < x.boxes.length → nmEq (bxAt x i).name (bxAt x j).name = false := fun i j hij hj => by
    obtain ⟨k, rfl⟩ : ∃ k, j = k + 1 := ⟨j - 1, by omega⟩
    have hk : k < r.length := by rw [e] at hj; simpa using hj
    have ej : bxAt x (k + 1) = r[k] := by rw [bxAt_lt hj]; simp only [e, List.getElem_cons_succ]
    cases i with
    | zero =>
      have e0 : bxAt x 0 = b0 := by rw [bxAt_lt (by omega)]; simp only [e, List.getElem_cons_zero]
      rw [e0, ej, nmEq_f]
      have h1 := nmEq_iff.1 h0
      have h2 := nmEq_f.1 (hr r[k] (List.getElem_mem hk))
      rw [h1]; exact fun h => h2 h.symm
    | succ i =>
      have ei : bxAt x (i + 1) = r[i]'(by omega) := by rw [bxAt_lt (by omega)]; simp only [e, List.getElem_cons_succ]
      rw [ei, ej, nmEq_f]
      have := List.pairwise_iff_getElem.1 hp i k (by omega) hk (by omega)
      intro h
      have h' : Op.bytesLess r[i].name.toList r[k].name.toList = true := this
      rw [h, bl_irrefl] at h'; cases h'
  rcases Nat.lt_or_ge i j with h | h
  · exact main i j h hj
  · have := main j i (by omega) hi
    rw [nmEq_f] at this ⊢
    exact fun h => this h.symm
/-- What is left without a name. -/
theorem filter_name {x : Ix} {nm : ByteArray} {a : Nat} {ps : List Bp} (hr : rightB x = true) (hps : ps.map (·.1) = x.boxes) (hf : findX x nm = some a) : ps.filter (fun p => !(nmEq p.1.name nm)) = ps.eraseIdx a := by
  obtain ⟨ha, hp, _⟩ := findTo_inv hf
  have hp' : nmEq (bxAt x a).name nm = true := hp
  have hl : ps.length = x.boxes.length := by rw [← hps, List.length_map]
  have hat : ∀ i, (hi : i < ps.length) → ps[i].1 = bxAt x i := fun i hi => by rw [← bp_name hps i, bpAt_lt hi]
  refine filter_one (by omega) ?_ (fun j hj hne => ?_)
  · rw [hat a (by omega), hp']; rfl
  · rw [hat j hj]
    have := names_once hr (show j < x.boxes.length by omega) ha hne
    rw [nmEq_iff] at hp'
    rw [nmEq_f, hp'] at this
    rw [nmEq_f.2 this]; rfl

/-! The subscriptions. -/
def lowS (l : List ByteArray) (nm : ByteArray) : List ByteArray := l.filter (fun s => lessB s nm)
def highS (l : List ByteArray) (nm : ByteArray) : List ByteArray := l.filter (fun s => gtB s nm)
theorem low_high {l : List ByteArray} {nm : ByteArray} (h : l.Pairwise (fun a b => lessB a b = true)) :
    lowS l nm = l.take (posS l nm) ∧ highS l nm = if thereS l nm then l.drop (posS l nm + 1) else l.drop (posS l nm) := by
  obtain ⟨p1, p2, p3⟩ := posS_spec l nm
  have hat : ∀ i, (hi : i < l.length) → strAt l i = l[i] := fun i hi => by simp [strAt, hi]
  have hlow : ∀ s ∈ l.take (posS l nm), lessB s nm = true := fun s hs => by
    obtain ⟨i, hi, rfl⟩ := List.mem_iff_getElem.1 hs
    rw [List.length_take] at hi
    rw [List.getElem_take]
    have := p2 i (by omega)
    rwa [hat i (by omega)] at this
  have hnot : ∀ s ∈ l.drop (posS l nm), lessB s nm = false := fun s hs => by
    obtain ⟨i, hi, rfl⟩ := List.mem_iff_getElem.1 hs
    rw [List.length_drop] at hi
    rw [List.getElem_drop]
    have h0 := p3 (by omega)
    rw [hat _ (by omega)] at h0
    by_cases e : i = 0
    · subst e; exact h0
    · have h1 := List.pairwise_iff_getElem.1 h (posS l nm) (posS l nm + i) (by omega) (by omega) (by omega)
      rcases Bool.eq_false_or_eq_true (lessB l[posS l nm + i] nm) with e2 | e2
      · have := bl_trans _ _ _ h1 e2
        have h0' : Op.bytesLess (l[posS l nm]'(by omega)).toList nm.toList = false := h0
        rw [h0'] at this; cases this
      · exact e2
  have hsplit : l = l.take (posS l nm) ++ l.drop (posS l nm) := (List.take_append_drop _ _).symm
  have hlowgt : ∀ s, lessB s nm = true → gtB s nm = false := fun s h => less_le h
  constructor
  · unfold lowS
    conv => lhs; rw [hsplit]
    rw [List.filter_append, List.filter_eq_self.2 hlow, List.filter_eq_nil_iff.2 (fun s hs => by rw [hnot s hs]; decide), List.append_nil]
  · unfold highS
    conv => lhs; rw [hsplit]
    rw [List.filter_append, List.filter_eq_nil_iff.2 (fun s hs => by rw [hlowgt s (hlow s hs)]; decide), List.nil_append]
    rcases Bool.eq_false_or_eq_true (thereS l nm) with ht | ht
    · rw [if_pos ht]
      unfold thereS at ht
      rw [Bool.and_eq_true, decide_eq_true_eq] at ht
      have hlt := ht.1
      rw [hat _ hlt] at ht
      rw [List.drop_eq_getElem_cons hlt, List.filter_cons_of_neg (by rw [gt_f.2 (.inr (nmEq_iff.1 ht.2))]; decide), List.filter_eq_self]
      intro s hs
      have hsub := h.sublist (List.drop_sublist (posS l nm) l)
      rw [List.drop_eq_getElem_cons hlt, List.pairwise_cons] at hsub
      have := hsub.1 s hs
      rw [gt_t]
      have h2 : Op.bytesLess (l[posS l nm]'hlt).toList s.toList = true := this
      rw [nmEq_iff.1 ht.2] at h2
      exact h2
    · rw [if_neg (by rw [ht]; decide), List.filter_eq_self]
      intro s hs
      rw [gt_t]
      refine bl_tri _ _ (hnot s hs) (fun e => ?_)
      obtain ⟨i, hi, rfl⟩ := List.mem_iff_getElem.1 hs
      rw [List.length_drop] at hi
      rw [List.getElem_drop] at e
      by_cases e0 : i = 0
      · subst e0
        unfold thereS at ht
        rw [decide_eq_true (show posS l nm < l.length by omega), Bool.true_and, hat _ (by omega), nmEq_f] at ht
        exact ht e
      · have h1 := List.pairwise_iff_getElem.1 h (posS l nm) (posS l nm + i) (by omega) (by omega) (by omega)
        have h0 := p3 (by omega)
        rw [hat _ (by omega)] at h0
        have h1' : Op.bytesLess (l[posS l nm]'(by omega)).toList (l[posS l nm + i]'(by omega)).toList = true := h1
        have h0' : Op.bytesLess (l[posS l nm]'(by omega)).toList nm.toList = false := h0
        rw [e, h0'] at h1'; cases h1'
/-- What the reference makes of the subscriptions. -/
def rsubL (l : List ByteArray) (nm : ByteArray) (yes : Bool) : List ByteArray := (lowS l nm ++ if yes then [nm] else []) ++ highS l nm
theorem rsub_eq {x : Ix} {nm : ByteArray} {yes : Bool} (hr : rightB x = true) (hn : nameB nm = true) : subR x nm yes = if 6 < (rsubL x.subs nm yes).length then (ix0, 5) else (subIx x (rsubL x.subs nm yes), 0) := by
  have hs := subs_pw (right_list hr).subs.2
  have hl6 := (right_list hr).subs.1
  obtain ⟨e1, e2⟩ := low_high (nm := nm) hs.2
  obtain ⟨p1, p2, p3⟩ := posS_spec x.subs nm
  unfold subR rsubL
  rw [hr, hn, e1, e2]
  simp only [Bool.and_true, if_true]
  cases ht : thereS x.subs nm with
  | true =>
    have ht' := ht
    unfold thereS at ht'
    rw [Bool.and_eq_true, decide_eq_true_eq] at ht'
    have hlt := ht'.1
    have hnm : x.subs[posS x.subs nm] = nm := by
      have := nmEq_iff.1 ht'.2
      rw [show strAt x.subs (posS x.subs nm) = x.subs[posS x.subs nm] by simp [strAt, hlt]] at this
      exact name_inj this
    cases yes with
    | true =>
      simp only [beq_self_eq_true, if_true]
      have e : (x.subs.take (posS x.subs nm) ++ [nm]) ++ x.subs.drop (posS x.subs nm + 1) = x.subs := by
        have hd : nm :: x.subs.drop (posS x.subs nm + 1) = x.subs.drop (posS x.subs nm) := by rw [List.drop_eq_getElem_cons hlt, hnm]
        rw [List.append_assoc, List.singleton_append, hd, List.take_append_drop]
      rw [e, if_neg (by omega)]; rfl
    | false =>
      simp only [show (false == true) = false from rfl, Bool.false_eq_true, if_false, Bool.not_false, if_true, List.append_nil]
      rw [← List.eraseIdx_eq_take_drop_succ, if_neg (by have := List.length_eraseIdx_le x.subs (posS x.subs nm); omega)]
  | false =>
    cases yes with
    | true =>
      simp only [show (true == false) = false from rfl, Bool.false_eq_true, if_false, Bool.not_true, if_true]
      have el : ((x.subs.take (posS x.subs nm) ++ [nm]) ++ x.subs.drop (posS x.subs nm)).length = x.subs.length + 1 := by
        simp only [List.length_append, List.length_take, List.length_drop, List.length_singleton]; omega
      rw [el]
      by_cases h6 : 6 ≤ x.subs.length
      · rw [if_pos h6, if_pos (by omega)]
      · rw [if_neg h6, if_neg (by omega)]
        unfold putS
        rw [List.append_assoc, List.singleton_append]
    | false =>
      simp only [beq_self_eq_true, if_true, Bool.false_eq_true, if_false, List.append_nil, List.take_append_drop]
      rw [if_neg (by omega)]; rfl
end Go.Proofs.Ytjinnkbnllnllaa
