/- Plain: what a store's changes do to what its names read. -/
import Derived.Test.YtagpimahicgkmaaDoorMh
import Derived.Test.YtagpimahicgkmaaDoorStG
namespace Go.Proofs.YtagpimahicgkmaaDoor
open Go.RowKit

/-! What sectors say. -/
theorem slots_at {c : List ByteArray} {i : Nat} (h : i < 32) : (slotsL c)[i]? = some (decS (atS c (61 + i))) := by
  simp [slotsL, slTo, h, atS]
theorem slotsL_len (c : List ByteArray) : (slotsL c).length = 32 := slTo_len c 32
theorem slots_congr {c c' : List ByteArray} (h : ∀ i, 61 ≤ i → i < 93 → atS c i = atS c' i) : slotsL c = slotsL c' := by
  apply List.ext_getElem?
  intro i
  by_cases hi : i < 32
  · rw [slots_at hi, slots_at hi, h _ (by omega) (by omega)]
  · rw [List.getElem?_eq_none (by rw [slotsL_len]; omega), List.getElem?_eq_none (by rw [slotsL_len]; omega)]
theorem piece_congr {c c' : List ByteArray} {F N : Nat} (hl : F + N ≤ c.length) (hl' : F + N ≤ c'.length) (h : ∀ i, F ≤ i → i < F + N → atS c i = atS c' i) : (c.drop F).take N = (c'.drop F).take N := by
  apply List.ext_getElem
  · simp only [List.length_take, List.length_drop]; omega
  · intro i h1 h2
    have hi : i < N := by simp only [List.length_take, List.length_drop] at h1; omega
    simp only [List.getElem_take, List.getElem_drop]
    have := h (F + i) (by omega) (by omega)
    unfold atS at this
    rw [List.getD_eq_getElem?_getD, List.getD_eq_getElem?_getD, List.getElem?_eq_getElem (by omega), List.getElem?_eq_getElem (by omega)] at this
    simpa using this
theorem obj_congr {c c' : List ByteArray} {t : Slot} (h : SlotOk t) (hl : c.length = 381) (hl' : c'.length = 381) (hc : ∀ i, firstN t.cls t.blk ≤ i → i < firstN t.cls t.blk + countN t.cls → atS c i = atS c' i) : objB c t = objB c' t := by
  unfold objB
  have := (first_le h).1
  rw [piece_congr (by omega) (by omega) hc]
theorem atS_64 {c : List ByteArray} (h64 : ∀ s ∈ c, s.size = 64) {i : Nat} (hi : i < c.length) : (atS c i).size = 64 := by
  unfold atS
  rw [List.getD_eq_getElem?_getD, List.getElem?_eq_getElem hi]
  exact h64 _ (List.getElem_mem _)
theorem setL_64 {c : List ByteArray} (h64 : ∀ s ∈ c, s.size = 64) : ∀ {ws : List Wr} (_ : ∀ x ∈ ws, x.data.size = 64), ∀ s ∈ setL c ws, s.size = 64 := by
  intro ws
  induction ws generalizing c with
  | nil => intro _; exact h64
  | cons x ws ih =>
    intro h
    refine ih (c := c.set x.at_.toNat x.data) (fun s hs => ?_) (fun y hy => h y (by simp [hy]))
    rcases List.mem_or_eq_of_mem_set hs with e | e
    · exact h64 s e
    · subst e; exact h x (by simp)

/-! The bytes of a block. -/
def piece (x : ByteArray) (cl i : Nat) : ByteArray := (padB x (capN cl)).extract (i * 64) ((i + 1) * 64)
theorem fill_to (cl b : Nat) (x : ByteArray) (c : List ByteArray) (i : Nat) (hi : i < c.length) : ∀ k, k ≤ countN cl → atS (setL c ((fillL cl b x).take k)) i = if firstN cl b ≤ i ∧ i < firstN cl b + k then piece x cl (i - firstN cl b) else atS c i
  | 0, _ => by rw [if_neg (by omega)]; rfl
  | k + 1, h => by
    rw [fillL_succ cl b x (by omega), setL_app]
    show atS ((setL c ((fillL cl b x).take k)).set ((firstN cl b + k : Nat) : Int).toNat ((padB x (capN cl)).extract (k * 64) ((k + 1) * 64))) i = _
    rw [Int.toNat_natCast, atS_set (by rw [setL_len]; exact hi), fill_to cl b x c i hi k (by omega)]
    by_cases e : firstN cl b + k = i
    · rw [if_pos e, if_pos (by omega), show i - firstN cl b = k by omega]; rfl
    · rw [if_neg e]
      by_cases h1 : firstN cl b ≤ i ∧ i < firstN cl b + k
      · rw [if_pos h1, if_pos (by omega)]
      · rw [if_neg h1, if_neg (by omega)]
theorem fill_at (cl b : Nat) (x : ByteArray) (c : List ByteArray) (i : Nat) (hi : i < c.length) : atS (setL c (fillL cl b x)) i = if firstN cl b ≤ i ∧ i < firstN cl b + countN cl then piece x cl (i - firstN cl b) else atS c i := by
  have := fill_to cl b x c i hi (countN cl) (Nat.le_refl _)
  rwa [List.take_of_length_le (by rw [fillL_len]; exact Nat.le_refl _)] at this
theorem flat_pieces (p : List UInt8) : ∀ n, ((List.range n).map fun i => (p.drop (i * 64)).take 64).flatten = p.take (n * 64)
  | 0 => by simp
  | n + 1 => by
    rw [List.range_succ, List.map_append, List.flatten_append, flat_pieces p n, List.map_cons, List.map_nil, List.flatten_cons, List.flatten_nil, List.append_nil, show (n + 1) * 64 = n * 64 + 64 by omega, List.take_add]
theorem piece_list (x : ByteArray) (cl i : Nat) : (piece x cl i).data.toList = ((padB x (capN cl)).data.toList.drop (i * 64)).take 64 := by
  unfold piece
  rw [ByteArray.data_extract, Array.toList_extract, List.extract_eq_take_drop, show (i + 1) * 64 - i * 64 = 64 by omega]
theorem cap_count (cl : Nat) : capN cl = countN cl * 64 := by unfold capN countN; split <;> rfl
theorem obj_fill {c' : List ByteArray} {t : Slot} {x : ByteArray} (h : SlotOk t) (hl : c'.length = 381) (hx : x.size = t.size) (hc : ∀ i, firstN t.cls t.blk ≤ i → i < firstN t.cls t.blk + countN t.cls → atS c' i = piece x t.cls (i - firstN t.cls t.blk)) : objB c' t = x := by
  have hf := first_le h
  have e : (c'.drop (firstN t.cls t.blk)).take (countN t.cls) = (List.range (countN t.cls)).map (piece x t.cls) := by
    apply List.ext_getElem
    · simp only [List.length_take, List.length_drop, List.length_map, List.length_range]; omega
    · intro i h1 h2
      have hi : i < countN t.cls := by simpa using h2
      simp only [List.getElem_take, List.getElem_drop, List.getElem_map, List.getElem_range]
      have := hc (firstN t.cls t.blk + i) (by omega) (by omega)
      unfold atS at this
      rw [List.getD_eq_getElem?_getD, List.getElem?_eq_getElem (by omega), show firstN t.cls t.blk + i - firstN t.cls t.blk = i by omega] at this
      simpa using this
  have hp : (padB x (capN t.cls)).data.toList.length ≤ countN t.cls * 64 := by
    rw [Array.length_toList]
    show (padB x (capN t.cls)).size ≤ _
    rw [padB_size, ← cap_count]
    have := h.size
    omega
  have e2 : (joinS ((List.range (countN t.cls)).map (piece x t.cls))).data.toList = x.data.toList ++ (zerosB (capN t.cls - x.size)).data.toList := by
    show (Lib.join _ []).toArray.toList = _
    rw [List.toList_toArray, join_flat2, List.map_map]
    have : (List.range (countN t.cls)).map ((fun s : ByteArray => s.data.toList) ∘ piece x t.cls) = (List.range (countN t.cls)).map fun i => ((padB x (capN t.cls)).data.toList.drop (i * 64)).take 64 := by
      apply List.map_congr_left
      intro i _
      exact piece_list x t.cls i
    rw [this, flat_pieces, List.take_of_length_le hp]
    show (x ++ _).data.toList = _
    rw [ByteArray.data_append, Array.toList_append]
  unfold objB
  rw [e]
  apply ByteArray.ext
  apply Array.toList_inj.1
  rw [ByteArray.data_extract, Array.toList_extract, List.extract_eq_take_drop, e2, List.drop_zero, Nat.sub_zero, ← hx]
  exact List.take_left' (by rw [Array.length_toList]; rfl)

/-! What is written of a slot is what it says. -/
theorem enc_list {t : Slot} (h : t.used = true) : (encS t).data.toList = [1, UInt8.ofNat t.cls, UInt8.ofNat t.blk, UInt8.ofNat t.size, UInt8.ofNat (t.size / 256), UInt8.ofNat t.name.size] ++ t.name.data.toList ++ (zerosB (64 - (headB t ++ t.name).size)).data.toList := by
  unfold encS
  rw [if_pos h]
  unfold padB
  rw [ByteArray.data_append, Array.toList_append, ByteArray.data_append, Array.toList_append]
  rfl
theorem slot0_dec : decS (encS slot0) = slot0 := by
  have hb : decBad (encS slot0) = true := by
    have : byteAt (encS slot0) 0 = 0 := by decide
    unfold decBad
    rw [this]; rfl
  unfold decS
  rw [if_pos hb]
theorem dec_enc {t : Slot} (hu : t.used = true) (h : SlotOk t) : decS (encS t) = t := by
  have e := enc_list hu
  have hb : ∀ k, byteAt (encS t) k = ([1, UInt8.ofNat t.cls, UInt8.ofNat t.blk, UInt8.ofNat t.size, UInt8.ofNat (t.size / 256), UInt8.ofNat t.name.size] ++ t.name.data.toList ++ (zerosB (64 - (headB t ++ t.name).size)).data.toList).getD k 0 := fun k => by unfold byteAt; rw [e]
  have b0 : (byteAt (encS t) 0).toNat = 1 := by rw [hb]; rfl
  have b1 : (byteAt (encS t) 1).toNat = t.cls := by
    rw [hb]; show (UInt8.ofNat t.cls).toNat = _
    rw [UInt8.toNat_ofNat']; have := h.cls; omega
  have b2 : (byteAt (encS t) 2).toNat = t.blk := by
    rw [hb]; show (UInt8.ofNat t.blk).toNat = _
    rw [UInt8.toNat_ofNat']; have := h.blk; have := blocksN_le t.cls; omega
  have b34 : (byteAt (encS t) 3).toNat + 256 * (byteAt (encS t) 4).toNat = t.size := by
    rw [hb, hb]; show (UInt8.ofNat t.size).toNat + 256 * (UInt8.ofNat (t.size / 256)).toNat = _
    rw [UInt8.toNat_ofNat', UInt8.toNat_ofNat']; have := h.size; have := capN_le t.cls; omega
  have b5 : decN (encS t) = t.name.size := by
    unfold decN
    rw [hb]; show (UInt8.ofNat t.name.size).toNat = _
    rw [UInt8.toNat_ofNat']; have := h.hi; omega
  have hn : (encS t).extract 6 (6 + t.name.size) = t.name := by
    apply ByteArray.ext
    apply Array.toList_inj.1
    rw [ByteArray.data_extract, Array.toList_extract, List.extract_eq_take_drop, e, List.append_assoc, show 6 + t.name.size - 6 = t.name.size by omega]
    show ((t.name.data.toList ++ _).take _) = _
    exact List.take_left' (by rw [Array.length_toList]; rfl)
  have er : decRaw (encS t) = t := by
    unfold decRaw
    rw [b1, b2, b34, b5, hn]
    obtain ⟨a, b, c, d, f⟩ := t
    simp only at hu
    rw [hu]
  have hbad : decBad (encS t) = false := by
    unfold decBad
    rw [b0, b1, b2, b34, b5]
    have h1 := h.cls
    have h2 := h.blk
    have h3 := h.size
    have h4 := h.lo
    have h5 := h.hi
    simp only [Bool.or_eq_false_iff, decide_eq_false_iff_not, beq_self_eq_true, Bool.not_true, Nat.not_lt, Nat.not_le]
    exact ⟨⟨⟨⟨⟨trivial, h1⟩, h2⟩, h3⟩, h4⟩, h5⟩
  unfold decS
  rw [hbad, if_neg (by simp), er, if_pos (by simp)]

/-! A state that may be. -/
structure Sane (l : List Slot) (t0 t1 : List Bool) : Prop where
  len : l.length = 32
  ok : ∀ (i : Nat) (t : Slot), l[i]? = some t → t.used = true → SlotOk t
  nm : ∀ (i j : Nat) (t u : Slot), l[i]? = some t → l[j]? = some u → t.used = true → u.used = true → t.name = u.name → i = j
  bk : ∀ (i j : Nat) (t u : Slot), l[i]? = some t → l[j]? = some u → t.used = true → u.used = true → t.cls = u.cls → t.blk = u.blk → i = j
  tk : ∀ (i : Nat) (t : Slot), l[i]? = some t → t.used = true → (if t.cls = 0 then t0 else t1)[t.blk]? = some true
  n0 : t0.length = 24
  n1 : t1.length = 12
theorem nameP_iff {n : ByteArray} {t : Slot} : nameP n t = true ↔ t.used = true ∧ t.name = n := by
  unfold nameP
  rw [Bool.and_eq_true, beq_iff_eq, ByteArray.toList_eq, ByteArray.toList_eq]
  refine and_congr Iff.rfl ⟨fun h => ?_, fun h => by rw [h]⟩
  exact ByteArray.ext (Array.toList_inj.1 h)
def lookL (l : List Slot) (c : List ByteArray) (n : ByteArray) : Option ByteArray := (l.find? (nameP n)).map (objB c)
theorem look_iff {l : List Slot} {t0 t1 : List Bool} (h : Sane l t0 t1) {c : List ByteArray} {n x : ByteArray} : lookL l c n = some x ↔ ∃ (i : Nat) (t : Slot), l[i]? = some t ∧ t.used = true ∧ t.name = n ∧ objB c t = x := by
  unfold lookL
  constructor
  · intro e
    rcases hf : l.find? (nameP n) with _ | t
    · rw [hf] at e; cases e
    · rw [hf] at e
      have h1 := List.find?_some hf
      obtain ⟨i, hi, rfl⟩ := List.getElem_of_mem (List.mem_of_find?_eq_some hf)
      obtain ⟨h2, h3⟩ := nameP_iff.1 h1
      exact ⟨i, _, List.getElem?_eq_getElem hi, h2, h3, by simpa using e⟩
  · rintro ⟨i, t, hi, hu, hn, rfl⟩
    rcases hf : l.find? (nameP n) with _ | u
    · have := List.find?_eq_none.1 hf t (List.mem_of_getElem? hi)
      exact absurd (nameP_iff.2 ⟨hu, hn⟩) this
    · have h1 := List.find?_some hf
      obtain ⟨j, hj, rfl⟩ := List.getElem_of_mem (List.mem_of_find?_eq_some hf)
      obtain ⟨h2, h3⟩ := nameP_iff.1 h1
      have := h.nm i j _ _ hi (List.getElem?_eq_getElem hj) hu h2 (hn.trans h3.symm)
      subst this
      rw [List.getElem?_eq_getElem hj] at hi
      cases hi
      rfl
theorem getElem?_setk {l : List Slot} {k j : Nat} {t u : Slot} (h : (l.set k t)[j]? = some u) : (j = k ∧ u = t) ∨ (j ≠ k ∧ l[j]? = some u) := by
  by_cases e : j = k
  · subst e
    left
    rcases Nat.lt_or_ge j l.length with hlt | hge
    · rw [List.getElem?_set_self hlt] at h; cases h; exact ⟨rfl, rfl⟩
    · rw [List.getElem?_eq_none (by simpa using hge)] at h; cases h
  · right
    rw [List.getElem?_set_ne (fun h => e h.symm)] at h
    exact ⟨e, h⟩
theorem Sane.set {l : List Slot} {t0 t1 : List Bool} (h : Sane l t0 t1) (k : Nat) (t' : Slot) (hok : t'.used = true → SlotOk t') (hn : t'.used = true → ∀ j u, j ≠ k → l[j]? = some u → u.used = true → u.name ≠ t'.name) (hb : t'.used = true → ∀ j u, j ≠ k → l[j]? = some u → u.used = true → ¬ (u.cls = t'.cls ∧ u.blk = t'.blk)) (ht : t'.used = true → (if t'.cls = 0 then t0 else t1)[t'.blk]? = some true) : Sane (l.set k t') t0 t1 where
  len := by rw [List.length_set]; exact h.len
  ok i t e hu := by
    rcases getElem?_setk e with ⟨rfl, rfl⟩ | ⟨_, e⟩
    · exact hok hu
    · exact h.ok i t e hu
  nm i j t u e f hu hv hnm := by
    rcases getElem?_setk e with ⟨rfl, rfl⟩ | ⟨e1, e2⟩ <;> rcases getElem?_setk f with ⟨rfl, rfl⟩ | ⟨f1, f2⟩
    · rfl
    · exact absurd hnm.symm (hn hu j u f1 f2 hv)
    · exact absurd hnm (hn hv i t e1 e2 hu)
    · exact h.nm i j t u e2 f2 hu hv hnm
  bk i j t u e f hu hv h1 h2 := by
    rcases getElem?_setk e with ⟨rfl, rfl⟩ | ⟨e1, e2⟩ <;> rcases getElem?_setk f with ⟨rfl, rfl⟩ | ⟨f1, f2⟩
    · rfl
    · exact absurd ⟨h1.symm, h2.symm⟩ (hb hu j u f1 f2 hv)
    · exact absurd ⟨h1, h2⟩ (hb hv i t e1 e2 hu)
    · exact h.bk i j t u e2 f2 hu hv h1 h2
  tk i t e hu := by
    rcases getElem?_setk e with ⟨rfl, rfl⟩ | ⟨_, e⟩
    · exact ht hu
    · exact h.tk i t e hu
  n0 := h.n0
  n1 := h.n1
theorem takeT_len (tk : List Bool) : (takeT tk).length = tk.length := by unfold takeT; split <;> simp
theorem takeT_true {tk : List Bool} {i : Nat} (h : tk[i]? = some true) : (takeT tk)[i]? = some true := by
  unfold takeT
  split
  · exact h
  · rw [List.getElem?_set]
    obtain ⟨hl, _⟩ := List.getElem?_eq_some_iff.1 h
    split
    · rename_i e; subst e; rw [if_pos hl]
    · exact h
theorem take_yes {tk : List Bool} (h : (takeR tk).2 = true) : tk[(takeR tk).1]? = some false ∧ (takeT tk)[(takeR tk).1]? = some true := by
  unfold takeR takeT at *
  split at h
  · cases h
  · rename_i x r e
    have hx : tk[x]? = some false := mem_frees.1 (by rw [e]; simp)
    obtain ⟨hl, _⟩ := List.getElem?_eq_some_iff.1 hx
    exact ⟨hx, List.getElem?_set_self hl⟩
theorem Sane.take {l : List Slot} {t0 t1 : List Bool} (h : Sane l t0 t1) (cl : Nat) : Sane l (if cl = 0 then takeT t0 else t0) (if cl = 0 then t1 else takeT t1) where
  len := h.len
  ok := h.ok
  nm := h.nm
  bk := h.bk
  tk i t e hu := by
    have := h.tk i t e hu
    by_cases h0 : t.cls = 0
    · rw [if_pos h0] at this ⊢
      split
      · exact takeT_true this
      · exact this
    · rw [if_neg h0] at this ⊢
      split
      · exact this
      · exact takeT_true this
  n0 := by split; rw [takeT_len]; exact h.n0; exact h.n0
  n1 := by split; exact h.n1; rw [takeT_len]; exact h.n1

theorem look_set {l : List Slot} {c c' : List ByteArray} {k : Nat} {t' : Slot} {t0 t1 t0' t1' : List Bool} {nm n : ByteArray} (hs : Sane l t0 t1) (hs' : Sane (l.set k t') t0' t1') (hk : k < 32) (hobj : ∀ j u, j ≠ k → l[j]? = some u → u.used = true → objB c' u = objB c u)
    (hold : ∀ u, l[k]? = some u → u.used = true → u.name = nm) (hoth : ∀ j u, j ≠ k → l[j]? = some u → u.used = true → u.name ≠ nm) (ht : t'.used = true → t'.name = nm) :
    lookL (l.set k t') c' n = if n = nm then (if t'.used = true then some (objB c' t') else none) else lookL l c n := by
  have hkl : k < l.length := by rw [hs.len]; exact hk
  apply Option.ext
  intro x
  rw [look_iff hs']
  by_cases e : n = nm
  · subst e
    rw [if_pos rfl]
    constructor
    · rintro ⟨i, t, hi, hu, hn, rfl⟩
      rcases getElem?_setk hi with ⟨rfl, rfl⟩ | ⟨e1, e⟩
      · rw [if_pos hu]
      · exact absurd hn (hoth i t e1 e hu)
    · intro h
      by_cases hu : t'.used = true
      · rw [if_pos hu] at h
        cases h
        exact ⟨k, t', List.getElem?_set_self hkl, hu, ht hu, rfl⟩
      · rw [if_neg hu] at h; cases h
  · rw [if_neg e, look_iff hs]
    constructor
    · rintro ⟨i, t, hi, hu, hn, rfl⟩
      rcases getElem?_setk hi with ⟨rfl, rfl⟩ | ⟨e1, e2⟩
      · exact absurd (hn.symm.trans (ht hu)) e
      · exact ⟨i, t, e2, hu, hn, (hobj i t e1 e2 hu).symm⟩
    · rintro ⟨i, t, hi, hu, hn, rfl⟩
      by_cases e1 : i = k
      · subst e1
        exact absurd (hn.symm.trans (hold t hi hu)) e
      · exact ⟨i, t, by rw [List.getElem?_set_ne (fun h => e1 h.symm)]; exact hi, hu, hn, hobj i t e1 hi hu⟩

/-! One change. -/
structure SInv (c : List ByteArray) (q : Sto) : Prop where
  len : c.length = 381
  sz : ∀ s ∈ c, s.size = 64
  sl : slotsL c = q.sl
  sane : Sane q.sl q.t0 q.t1
def szC (c : Chg) : Nat := if c.gone then 1 else if 256 < c.data.size then 17 else 5
def WrOk (x : Wr) : Prop := 61 ≤ x.at_ ∧ x.at_ < 381 ∧ x.data.size = 64
/-- What a change does to what is read of a name. -/
def turnO (c : Chg) (n : ByteArray) (o : Option ByteArray) : Option ByteArray := if n = c.name then (if c.gone then none else some c.data) else o
theorem slotsL_set {c c' : List ByteArray} {k : Nat} {t : Slot} (hk : k < 32) (h : ∀ i, 61 ≤ i → i < 93 → atS c' i = if 61 + k = i then encS t else atS c i) (ht : decS (encS t) = t) : slotsL c' = (slotsL c).set k t := by
  apply List.ext_getElem?
  intro i
  by_cases hi : i < 32
  · rw [slots_at hi, h _ (by omega) (by omega), List.getElem?_set]
    by_cases e : k = i
    · subst e; rw [if_pos rfl, if_pos rfl, if_pos (by rw [slotsL_len]; exact hk), ht]
    · rw [if_neg (by omega), if_neg e, slots_at hi]
  · rw [List.getElem?_eq_none (by rw [slotsL_len]; omega), List.getElem?_eq_none (by rw [List.length_set, slotsL_len]; omega)]
theorem first_ge (cl b : Nat) : 93 ≤ firstN cl b := by unfold firstN; split <;> omega
theorem apart {t : Slot} {cl b : Nat} (h : SlotOk t) (hcl : cl ≤ 1) (hb : b < blocksN cl) (hne : ¬ (t.cls = cl ∧ t.blk = b)) {i : Nat} (h1 : firstN t.cls t.blk ≤ i) (h2 : i < firstN t.cls t.blk + countN t.cls) : ¬ (firstN cl b ≤ i ∧ i < firstN cl b + countN cl) := by
  have h3 := h.cls
  have h4 := h.blk
  unfold firstN countN blocksN at *
  rcases (by omega : t.cls = 0 ∨ t.cls = 1) with e | e <;> rcases (by omega : cl = 0 ∨ cl = 1) with f | f <;> subst f <;> rw [e] at h1 h2 h4 hne <;> simp at * <;> omega
theorem ix_name {l : List Slot} {n : ByteArray} {k : Nat} (h : k < l.length) (hp : nameP n l[k] = true) : l[k]? = some l[k] ∧ l[k].used = true ∧ l[k].name = n := ⟨List.getElem?_eq_getElem h, nameP_iff.1 hp⟩
theorem clsN_le (n : Nat) : clsN n ≤ 1 := by unfold clsN; split <;> omega
theorem step_inv {c : List ByteArray} {q : Sto} (h : SInv c q) (ch : Chg) (he : (changeR q ch).1 = 0) :
    ∃ ws, (changeR q ch).2.ws = q.ws ++ ws ∧ SInv (setL c ws) (changeR q ch).2 ∧ (∀ x ∈ ws, WrOk x) ∧ ws.length = szC ch ∧ ∀ n, lookL (changeR q ch).2.sl (setL c ws) n = turnO ch n (lookL q.sl c n) := by
  have hlen := h.sane.len
  unfold changeR at he ⊢
  by_cases h1 : ch.name.size < 1 ∨ 24 < ch.name.size
  · rw [if_pos h1] at he; cases he
  rw [if_neg h1] at he ⊢
  by_cases hg : ch.gone = true
  · rw [if_pos hg] at he ⊢
    rcases ixI_cases (nameP ch.name) q.sl with ⟨hi, _⟩ | ⟨k, hk, hi, hp⟩
    · rw [hi, if_pos (by omega)] at he; cases he
    · rw [hi, if_neg (by omega)] at he ⊢
      have hk32 : k < 32 := by omega
      obtain ⟨e1, e2, e3⟩ := ix_name hk hp
      have hat : ∀ i, i < 381 → atS (setL c [⟨61 + (k : Int), encS slot0⟩]) i = if 61 + k = i then encS slot0 else atS c i := fun i hi => by
        show atS (c.set (61 + (k : Int)).toNat _) i = _
        rw [atS_set (by rw [h.len]; exact hi), show (61 + (k : Int)).toNat = 61 + k by omega]
      have hw : ∀ x ∈ [(⟨61 + (k : Int), encS slot0⟩ : Wr)], WrOk x := by
        intro x hx
        simp only [List.mem_singleton] at hx
        subst hx
        exact ⟨by show (61 : Int) ≤ 61 + (k : Int); omega, by show 61 + (k : Int) < 381; omega, encS_size (t := slot0) (by decide)⟩
      have hs' : Sane (q.sl.set k slot0) q.t0 q.t1 := h.sane.set k slot0 (by intro h; cases h) (by intro h; cases h) (by intro h; cases h) (by intro h; cases h)
      refine ⟨[⟨61 + (k : Int), encS slot0⟩], ?_, ⟨by rw [setL_len]; exact h.len, setL_64 h.sz (fun x hx => (hw x hx).2.2), ?_, ?_⟩, hw, by unfold szC; rw [if_pos hg]; rfl, fun n => ?_⟩
      · simp [Sto.put]
      · rw [slotsL_set hk32 (fun i _ h2 => hat i (by omega)) slot0_dec, h.sl]; rfl
      · exact hs'
      · show lookL (q.sl.set k slot0) _ n = _
        rw [look_set (nm := ch.name) h.sane hs' hk32 (fun j u hj hu hus => ?_) (fun u hu hus => ?_) (fun j u hj hu hus hn => ?_) (by intro h; cases h)]
        · unfold turnO
          rw [if_neg (by decide : ¬ slot0.used = true), if_pos hg]
        · have hok := h.sane.ok j u hu hus
          refine obj_congr hok (by rw [setL_len]; exact h.len) h.len (fun i h2 h3 => ?_)
          have h4 := first_ge u.cls u.blk
          have h5 := (first_le hok).1
          rw [hat i (by omega), if_neg (by omega)]
        · rw [e1] at hu; cases hu; exact e3
        · exact hj (h.sane.nm j k u _ hu e1 hus e2 (hn.trans e3.symm))
  · rw [if_neg hg] at he ⊢
    by_cases h2 : 1024 < ch.data.size
    · rw [if_pos h2] at he; cases he
    rw [if_neg h2] at he ⊢
    by_cases h3 : chgAt q ch < 0
    · rw [if_pos h3] at he; cases he
    rw [if_neg h3] at he ⊢
    by_cases h4 : (takeR (q.tk (clsN ch.data.size))).2 = true
    · rw [if_pos h4] at he ⊢
      obtain ⟨b1, b2⟩ := take_yes h4
      generalize hcl : clsN ch.data.size = cl at *
      generalize hb : (takeR (q.tk cl)).1 = b at *
      have hcl1 : cl ≤ 1 := by rw [← hcl]; exact clsN_le _
      have hcap : ch.data.size ≤ capN cl := by
        rw [← hcl]; unfold clsN
        have e0 : capN 0 = 256 := rfl
        by_cases e : capN 0 < ch.data.size
        · rw [if_pos e]; show ch.data.size ≤ 1024; omega
        · rw [if_neg e]; omega
      have hbl : b < blocksN cl := by
        obtain ⟨hl, _⟩ := List.getElem?_eq_some_iff.1 b1
        unfold Sto.tk at hl
        unfold blocksN
        have := h.sane.n0
        have := h.sane.n1
        split at hl <;> rename_i e
        · rw [if_pos e]; omega
        · rw [if_neg e]; omega
      obtain ⟨k, hk32, hka, hfree, hname⟩ : ∃ k : Nat, k < 32 ∧ chgAt q ch = (k : Int) ∧ (∀ u : Slot, q.sl[k]? = some u → u.used = true → u.name = ch.name) ∧ (∀ (j : Nat) (u : Slot), j ≠ k → q.sl[j]? = some u → u.used = true → u.name ≠ ch.name) := by
        unfold chgAt at h3 ⊢
        rcases ixI_cases (nameP ch.name) q.sl with ⟨hi, hno⟩ | ⟨k, hk, hi, hp⟩
        · rw [hi, if_pos (by omega)] at h3 ⊢
          rcases ixI_cases freeP q.sl with ⟨hi2, _⟩ | ⟨k, hk, hi2, hp⟩
          · rw [hi2] at h3; omega
          · refine ⟨k, by omega, hi2, fun u hu hus => ?_, fun j u _ hu hus hn => ?_⟩
            · rw [List.getElem?_eq_getElem hk] at hu; cases hu
              unfold freeP at hp; rw [hus] at hp; cases hp
            · have := hno u (List.mem_of_getElem? hu)
              rw [nameP_iff.2 ⟨hus, hn⟩] at this; cases this
        · rw [hi, if_neg (by omega)]
          obtain ⟨e1, e2, e3⟩ := ix_name hk hp
          refine ⟨k, by omega, rfl, fun u hu hus => ?_, fun j u hj hu hus hn => ?_⟩
          · rw [e1] at hu; cases hu; exact e3
          · exact hj (h.sane.nm j k u _ hu e1 hus e2 (hn.trans e3.symm))
      rw [hka, Int.toNat_natCast]
      generalize ht' : (⟨true, cl, b, ch.data.size, ch.name⟩ : Slot) = t' at *
      have hu' : t'.used = true := by subst ht'; rfl
      have hc' : t'.cls = cl := by subst ht'; rfl
      have hbk' : t'.blk = b := by subst ht'; rfl
      have hs9 : t'.size = ch.data.size := by subst ht'; rfl
      have hn9 : t'.name = ch.name := by subst ht'; rfl
      have hok' : SlotOk t' := ⟨by omega, by rw [hc', hbk']; exact hbl, by rw [hc', hs9]; exact hcap, by rw [hn9]; omega, by rw [hn9]; omega⟩
      have hblk : ∀ (j : Nat) (u : Slot), q.sl[j]? = some u → u.used = true → ¬ (u.cls = cl ∧ u.blk = b) := fun j u hu hus hcb => by
        have := h.sane.tk j u hu hus
        unfold Sto.tk at b1
        rw [hcb.1, hcb.2, b1] at this
        cases this
      have htk : (q.take cl).sl = q.sl ∧ (q.take cl).ws = q.ws ∧ (q.take cl).t0 = (if cl = 0 then takeT q.t0 else q.t0) ∧ (q.take cl).t1 = (if cl = 0 then q.t1 else takeT q.t1) := by
        unfold Sto.take; split <;> exact ⟨rfl, rfl, rfl, rfl⟩
      have hs2 := h.sane.take cl
      have hat : ∀ i, i < 381 → atS (setL c (fillL cl b ch.data ++ [⟨61 + (k : Int), encS t'⟩])) i = if 61 + k = i then encS t' else if firstN cl b ≤ i ∧ i < firstN cl b + countN cl then piece ch.data cl (i - firstN cl b) else atS c i := fun i hi => by
        rw [setL_app]
        show atS ((setL c _).set (61 + (k : Int)).toNat _) i = _
        rw [atS_set (by rw [setL_len, h.len]; exact hi), show (61 + (k : Int)).toNat = 61 + k by omega, fill_at _ _ _ _ _ (by rw [h.len]; exact hi)]
      have hfl := first_le hok'
      rw [hc', hbk'] at hfl
      have hge := first_ge cl b
      have hw : ∀ x ∈ fillL cl b ch.data ++ [(⟨61 + (k : Int), encS t'⟩ : Wr)], WrOk x := by
        intro x hx
        rcases List.mem_append.1 hx with hx | hx
        · unfold fillL at hx
          simp only [List.mem_map, List.mem_range] at hx
          obtain ⟨i, hi, rfl⟩ := hx
          refine ⟨by show (61 : Int) ≤ ((firstN cl b + i : Nat) : Int); omega, by show ((firstN cl b + i : Nat) : Int) < 381; omega, ?_⟩
          show (ByteArray.extract _ _ _).size = 64
          rw [ByteArray.size_extract, padB_size]
          have := cap_count cl
          omega
        · simp only [List.mem_singleton] at hx
          subst hx
          exact ⟨by show (61 : Int) ≤ 61 + (k : Int); omega, by show 61 + (k : Int) < 381; omega, encS_size (by have := hok'.hi; omega)⟩
      have hs' : Sane (q.sl.set k t') (q.take cl).t0 (q.take cl).t1 := by
        rw [htk.2.2.1, htk.2.2.2]
        refine hs2.set k t' (fun _ => hok') (fun _ j u hj hu hus => by rw [hn9]; exact hname j u hj hu hus) (fun _ j u hj hu hus => by rw [hc', hbk']; exact hblk j u hu hus) (fun _ => ?_)
        rw [hc', hbk']
        unfold Sto.tk at b2
        by_cases e : cl = 0
        · rw [if_pos e] at b2 ⊢; rw [if_pos e]; exact b2
        · rw [if_neg e] at b2 ⊢; rw [if_neg e]; exact b2
      refine ⟨fillL cl b ch.data ++ [⟨61 + (k : Int), encS t'⟩], ?_, ⟨by rw [setL_len]; exact h.len, setL_64 h.sz (fun x hx => (hw x hx).2.2), ?_, ?_⟩, hw, ?_, fun n => ?_⟩
      · simp [Sto.put]
      · rw [slotsL_set (c := c) hk32 (fun i h5 h6 => by rw [hat i (by omega), if_neg (by omega : ¬ (firstN cl b ≤ i ∧ i < firstN cl b + countN cl))]) (dec_enc hu' hok'), h.sl]
        show _ = (q.take cl).sl.set k t'
        rw [htk.1]
      · show Sane ((q.take cl).sl.set k t') _ _
        rw [htk.1]; exact hs'
      · rw [List.length_append, fillL_len]
        unfold szC
        rw [if_neg hg, ← hcl]
        unfold clsN
        have e0 : capN 0 = 256 := rfl
        by_cases e : capN 0 < ch.data.size
        · rw [if_pos e, if_pos (by omega)]; rfl
        · rw [if_neg e, if_neg (by omega)]; rfl
      · show lookL ((q.take cl).sl.set k t') _ n = _
        rw [htk.1, look_set (nm := ch.name) h.sane hs' hk32 (fun j u hj hu hus => ?_) hfree hname (fun _ => hn9)]
        · unfold turnO
          rw [if_pos hu', if_neg hg, obj_fill hok' (by rw [setL_len]; exact h.len) hs9.symm (fun i h5 h6 => ?_)]
          rw [hc', hbk'] at h5 h6 ⊢
          rw [hat i (by omega), if_neg (by omega), if_pos ⟨h5, h6⟩]
        · have hok := h.sane.ok j u hu hus
          refine obj_congr hok (by rw [setL_len]; exact h.len) h.len (fun i h5 h6 => ?_)
          have h7 := first_ge u.cls u.blk
          have h8 := (first_le hok).1
          rw [hat i (by omega), if_neg (by omega), if_neg (apart hok hcl1 hbl (hblk j u hu hus) h5 h6)]
    · rw [if_neg h4] at he; cases he

/-! Changes, one behind the other. -/
def turnsO (n : ByteArray) : List Chg → Option ByteArray → Option ByteArray
  | [], o => o
  | c :: cs, o => turnsO n cs (turnO c n o)
def szL (cs : List Chg) : Nat := (cs.map szC).sum
theorem steps_inv : ∀ (cs : List Chg) {c : List ByteArray} {q : Sto} (_ : SInv c q) (_ : (changesR q cs).1 = 0),
    ∃ ws, (changesR q cs).2.ws = q.ws ++ ws ∧ SInv (setL c ws) (changesR q cs).2 ∧ (∀ x ∈ ws, WrOk x) ∧ ws.length = szL cs ∧ ∀ n, lookL (changesR q cs).2.sl (setL c ws) n = turnsO n cs (lookL q.sl c n)
  | [], c, q, h, _ => ⟨[], by simp [changesR], h, by simp, rfl, fun n => rfl⟩
  | ch :: cs, c, q, h, he => by
    unfold changesR at he ⊢
    by_cases e : (changeR q ch).1 = 0
    · rw [if_pos e] at he ⊢
      obtain ⟨ws, h1, h2, h3, h4, h5⟩ := step_inv h ch e
      obtain ⟨us, g1, g2, g3, g4, g5⟩ := steps_inv cs h2 he
      refine ⟨ws ++ us, by rw [g1, h1, List.append_assoc], by rw [setL_app]; exact g2, fun x hx => (List.mem_append.1 hx).elim (h3 x) (g3 x), by rw [List.length_append, h4, g4]; rfl, fun n => ?_⟩
      rw [setL_app, g5, h5]; rfl
    · rw [if_neg e] at he; exact absurd he e
end Go.Proofs.YtagpimahicgkmaaDoor
