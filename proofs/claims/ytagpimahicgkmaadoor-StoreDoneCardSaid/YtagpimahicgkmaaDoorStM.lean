/- Plain: stores that are made by changes; what Apply and a crash leave of them. -/
import Derived.Test.YtagpimahicgkmaaDoorStL
import Derived.Test.YtagpimahicgkmaaDoorStN
import Derived.Test.YtagpimahicgkmaaDoorWalC
import Derived.Test.YtagpimahicgkmaaDoorDkNew
namespace Go.Proofs.YtagpimahicgkmaaDoor
open Go.RowKit

theorem find_ix (p : Slot → Bool) (l : List Slot) : (l.findIdx? p).map (fun i => l.getD i slot0) = l.find? p := by
  induction l with
  | nil => rfl
  | cons a l ih =>
    rw [List.findIdx?_cons, List.find?_cons]
    cases p a with
    | true => rfl
    | false =>
      rw [← ih]
      simp only [Bool.false_eq_true, if_false, Option.map_map]
      rfl
/-- What Get tells of what is read. -/
def getO : Option ByteArray → ByteArray × Int
  | some x => (x, 0)
  | none => (⟨#[]⟩, 6)
theorem getR_look {d : Dk} (h : storeB d = true) (n : ByteArray) : getR d n = getO (lookL (slotsL (contD d)) (contD d) n) := by
  unfold getR lookL
  rw [if_pos h, ← find_ix]
  rcases (slotsL (contD d)).findIdx? (nameP n) with _ | i <;> rfl
/-! What a store's sectors from 61 on tell is all that it reads. -/
theorem look_congr {c c' : List ByteArray} (hl : c.length = 381) (hl' : c'.length = 381) (h64 : ∀ s ∈ c, s.size = 64) (h : ∀ i, 61 ≤ i → i < 381 → atS c i = atS c' i) (n : ByteArray) : lookL (slotsL c) c n = lookL (slotsL c') c' n := by
  rw [← slots_congr (fun i h1 h2 => h i h1 (by omega))]
  unfold lookL
  rcases hf : (slotsL c).find? (nameP n) with _ | t
  · rfl
  · have h1 := (nameP_iff.1 (List.find?_some hf)).1
    have hok := slots_ok hl h64 t (List.mem_of_find?_eq_some hf) h1
    have h2 := (first_le hok).1
    have h3 := first_ge t.cls t.blk
    show some _ = some _
    rw [obj_congr hok hl hl' (fun i h4 h5 => h i (by omega) (by omega))]
structure Good (d : Dk) : Prop where
  store : storeB d = true
  nil : d.cache = []
  no : byteAt (atS d.sec 0) 0 ≠ 74
  sane : Sane (slotsL d.sec) (takenOf 24 (takenI (slotsL d.sec) 0)) (takenOf 12 (takenI (slotsL d.sec) 1))
section
variable {d s : Dk} {l : List Wr} {cs : List Chg}
theorem Good.view (h : Good d) : viewD d = d.sec := by unfold viewD; rw [h.nil]; rfl
theorem Good.cont (h : Good d) : contD d = d.sec := by rw [contD_yes h.store, h.view]
theorem Good.len (h : Good d) : d.sec.length = 381 := (storeB_parts h.store).1
theorem Good.right (h : Good d) : rightB d = true := (storeB_parts h.store).2
theorem Good.sz (h : Good d) : ∀ s ∈ d.sec, s.size = 64 := (right_parts h.right).2.2.1
theorem Good.inv (h : Good d) : SInv d.sec (stoD d) := ⟨h.len, h.sz, by unfold stoD; rw [h.cont], by unfold stoD; rw [h.cont]; exact h.sane⟩
/-- What a store that may be reads of a name. -/
def readO (d : Dk) (n : ByteArray) : Option ByteArray := lookL (slotsL d.sec) d.sec n
theorem Good.get (h : Good d) (n : ByteArray) : getR d n = getO (readO d n) := by
  rw [getR_look h.store, h.cont]; rfl
theorem taken_mem {l : List Slot} {cl i n : Nat} {t : Slot} (hi : l[i]? = some t) (hu : t.used = true) (hc : t.cls = cl) (hb : t.blk < n) : (takenOf n (takenI l cl))[t.blk]? = some true := by
  have hm : (t.blk : Int) ∈ takenI l cl := by
    unfold takenI
    rw [List.mem_map]
    exact ⟨t, List.mem_filter.2 ⟨List.mem_of_getElem? hi, by unfold takenP; rw [hu, hc]; simp⟩, rfl⟩
  unfold takenOf
  rw [List.getElem?_map, List.getElem?_range hb]
  simp [hm]
/-- The slots of a state, taken anew from what was written. -/
theorem Sane.anew {l : List Slot} {t0 t1 : List Bool} (h : Sane l t0 t1) : Sane l (takenOf 24 (takenI l 0)) (takenOf 12 (takenI l 1)) where
  len := h.len
  ok := h.ok
  nm := h.nm
  bk := h.bk
  tk i t hi hu := by
    have hok := h.ok i t hi hu
    have hb := hok.blk
    have hc := hok.cls
    unfold blocksN at hb
    by_cases e : t.cls = 0
    · rw [if_pos e] at hb ⊢; exact taken_mem hi hu e hb
    · rw [if_neg e] at hb ⊢; exact taken_mem hi hu (by omega : t.cls = 1) hb
  n0 := takenOf_length _ _
  n1 := takenOf_length _ _
theorem Good.like {t0 t1 : List Bool} (hs : Sane (slotsL s.sec) t0 t1) (hr : rightB s = true) (hl : s.sec.length = 381) (hn : s.cache = []) (h0 : byteAt (atS s.sec 0) 0 ≠ 74) : Good s :=
  ⟨by unfold storeB; rw [hr, hl]; rfl, hn, h0, hs.anew⟩
theorem writes_ok (h : Good d) (he : (writesR d cs).2 = 0) : ∃ q, changesR (stoD d) cs = (0, q) ∧ q.ws = (writesR d cs).1 ∧ (writesR d cs).1.length ≤ 30 ∧ SInv (setL d.sec (writesR d cs).1) q ∧ (∀ x ∈ (writesR d cs).1, WrOk x) ∧ (writesR d cs).1.length = szL cs ∧ ∀ n, lookL q.sl (setL d.sec (writesR d cs).1) n = turnsO n cs (readO d n) := by
  unfold writesR at he ⊢
  rw [if_pos h.store] at he ⊢
  by_cases e : (changesR (stoD d) cs).1 = 0
  · rw [if_pos e] at he ⊢
    obtain ⟨ws, h1, h2, h3, h4, h5⟩ := steps_inv cs h.inv e
    have h6 : (changesR (stoD d) cs).2.ws = ws := by rw [h1]; rfl
    by_cases e2 : 30 < (changesR (stoD d) cs).2.ws.length
    · rw [if_pos e2] at he; cases he
    · rw [if_neg e2]
      refine ⟨(changesR (stoD d) cs).2, by rw [← e], rfl, by simpa using e2, ?_⟩
      simp only [h6]
      refine ⟨h2, h3, h4, fun n => ?_⟩
      rw [h5]
      unfold readO stoD
      rw [h.cont]
  · rw [if_neg e] at he; exact absurd he e
/-- What Apply tells. -/
def applyR (d : Dk) (cs : List Chg) : Dk × Int :=
  if (writesR d cs).2 = 0 then
    if (writesR d cs).1.length = 0 then (flushD d, 0) else commitR d (writesR d cs).1
  else (⟨[], []⟩, (writesR d cs).2)
theorem Good.flush (h : Good d) : flushD d = d := by
  rw [flushD_view h.right, h.view]
  obtain ⟨a, b⟩ := d
  have := h.nil
  simp only at this
  rw [this]
theorem Good.ok (h : Good d) (h1 : 0 < l.length) (h2 : l.length ≤ 30) (h3 : ∀ x ∈ l, WrOk x) : Ok d l :=
  ⟨h.right, by rw [h.len]; decide, h1, h2, fun x hx => by rw [h.len]; exact h3 x hx⟩
theorem ok_plan (h : Ok d l) : planErr d l = 0 := by
  unfold planErr
  have h1 : suitsB d = true := by unfold suitsB; rw [h.right, decide_eq_true h.len]; rfl
  have h2 : l.all (okW d) = true := by
    rw [List.all_eq_true]
    intro x hx
    obtain ⟨a, b, c⟩ := h.all x hx
    simp [okW, a, b, c]
  rw [if_neg (by rw [h1]; have := h.pos; simp; intro e; rw [e] at this; simp at this), if_neg (by rw [h2]; simp), if_neg (by have := h.few; omega)]
theorem done_sec (h : Good d) (hk : Ok d l) {i : Nat} (h1 : 61 ≤ i) (h2 : i < 381) : atS (doneD d l).sec i = atS (setL d.sec l) i := by
  rw [done_at hk h1 (by rw [h.len]; exact h2), setL_at hk.nn (by rw [h.len]; exact h2), ← view_at h.right (by rw [h.len]; exact h2), h.view]
/-- THE STORE's LAW: what Apply leaves is a store that may be, and reads of each name what the changes say. -/
theorem apply_good (h : Good d) (he : (applyR d cs).2 = 0) : Good (applyR d cs).1 ∧ ∀ n, readO (applyR d cs).1 n = turnsO n cs (readO d n) := by
  unfold applyR at he ⊢
  by_cases e : (writesR d cs).2 = 0
  · rw [if_pos e] at he ⊢
    obtain ⟨q, hq, hqw, h30, hi, hw, hz, ht⟩ := writes_ok h e
    by_cases e0 : (writesR d cs).1.length = 0
    · rw [if_pos e0]
      show Good (flushD d) ∧ ∀ n, readO (flushD d) n = _
      rw [h.flush]
      refine ⟨h, fun n => ?_⟩
      rw [← ht, List.eq_nil_of_length_eq_zero e0]
      show lookL _ _ _ = lookL _ d.sec _
      have : q.sl = slotsL d.sec := by rw [← hi.sl, List.eq_nil_of_length_eq_zero e0]; rfl
      rw [this]
    · rw [if_neg e0] at he ⊢
      have hk := h.ok (by omega) h30 hw
      generalize (writesR d cs).1 = l at *
      unfold commitR
      rw [if_pos (ok_plan hk)]
      show Good (doneD d l) ∧ ∀ n, readO (doneD d l) n = _
      have hl : (doneD d l).sec.length = 381 := by rw [done_len, h.len]
      have hsec : ∀ i, 61 ≤ i → i < 381 → atS (doneD d l).sec i = atS (setL d.sec l) i := fun i h1 h2 => done_sec h hk h1 h2
      have hsl : slotsL (doneD d l).sec = q.sl := by rw [slots_congr (fun i h1 h2 => hsec i h1 (by omega)), hi.sl]
      refine ⟨Good.like (by rw [hsl]; exact hi.sane) (done_right hk) hl rfl (by rw [done_zero hk]; exact zero_no), fun n => ?_⟩
      rw [← ht]
      unfold readO
      rw [← hi.sl]
      exact look_congr hl hi.len (right_parts (done_right hk)).2.2.1 hsec n
  · rw [if_neg e] at he; exact absurd he e
/-! Crashes. -/
theorem names_congr {c c' : List ByteArray} (h : ∀ i, 61 ≤ i → i < 93 → atS c i = atS c' i) : namesL (slotsL c) = namesL (slotsL c') := by rw [slots_congr h]
theorem Good.store_like (h : Good d) (k : Like d s) : storeB s = true := by unfold storeB; rw [k.right, k.len, h.len]; rfl
theorem like_get (h : Good d) (k : Like d s) (n : ByteArray) : getR s n = getR d n := by
  have hs := h.store_like k
  have hc : contD s = s.sec := by rw [contD_yes hs, view_flat k.nil]
  rw [getR_look hs, getR_look h.store, hc, h.cont]
  congr 1
  exact look_congr (by rw [k.len, h.len]) h.len (right_parts k.right).2.2.1 (fun i h1 h2 => k.rest i h1 (by rw [h.len]; exact h2)) n
theorem like_names (h : Good d) (k : Like d s) : namesR s = namesR d := by
  have hs := h.store_like k
  have hc : contD s = s.sec := by rw [contD_yes hs, view_flat k.nil]
  unfold namesR
  rw [if_pos hs, if_pos h.store, hc, h.cont, names_congr (fun i h1 h2 => k.rest i h1 (by rw [h.len]; omega))]
/-! The first store. -/
def formD : Dk := ⟨List.replicate 381 zero64, []⟩
theorem form_at {i : Nat} (h : i < 381) : atS formD.sec i = zero64 := by
  unfold atS formD
  rw [List.getD_eq_getElem?_getD, List.getElem?_replicate, if_pos h]; rfl
theorem zero_dec : decS zero64 = slot0 := by
  have hb : decBad zero64 = true := by
    have : byteAt zero64 0 = 0 := by decide
    unfold decBad
    rw [this]; rfl
  unfold decS
  rw [if_pos hb]
theorem form_slots : slotsL formD.sec = List.replicate 32 slot0 := by
  apply List.ext_getElem?
  intro i
  by_cases hi : i < 32
  · rw [slots_at hi, form_at (by omega), zero_dec, List.getElem?_replicate, if_pos hi]
  · rw [List.getElem?_eq_none (by rw [slotsL_len]; omega), List.getElem?_replicate, if_neg hi]
theorem form_right : rightB formD = true := by
  unfold rightB formD
  simp only [List.length_replicate, List.all_nil, Bool.and_true, Bool.and_eq_true, decide_eq_true_eq, List.all_eq_true]
  refine ⟨⟨by decide, by decide⟩, fun x hx => ?_⟩
  rw [List.eq_of_mem_replicate hx]; rfl
theorem form_good : Good formD := by
  have hno : ∀ (i : Nat) (t : Slot), (List.replicate 32 slot0)[i]? = some t → t.used = true → False := fun i t h hu => by
    rw [List.getElem?_replicate] at h
    split at h
    · cases h; cases hu
    · cases h
  refine ⟨by unfold storeB; rw [form_right]; unfold formD; rw [List.length_replicate]; rfl, rfl, by rw [form_at (by omega)]; decide, ?_⟩
  rw [form_slots]
  exact ⟨by rw [List.length_replicate], fun i t h hu => (hno i t h hu).elim, fun i j t u h _ hu => (hno i t h hu).elim, fun i j t u h _ hu => (hno i t h hu).elim, fun i t h hu => (hno i t h hu).elim, takenOf_length _ _, takenOf_length _ _⟩
theorem form_read (n : ByteArray) : readO formD n = none := by
  unfold readO lookL
  rw [form_slots]
  have : (List.replicate 32 slot0).find? (nameP n) = none := by
    rw [List.find?_eq_none]
    intro t ht hp
    rw [List.eq_of_mem_replicate ht] at hp
    cases hp
  rw [this]; rfl
/-- A store that changes made, one by one. -/
def madeTo (cs : List Chg) : Nat → Dk
  | 0 => formD
  | k + 1 => match cs[k]? with
    | some c => if (applyR (madeTo cs k) [c]).2 = 0 then (applyR (madeTo cs k) [c]).1 else madeTo cs k
    | none => madeTo cs k
theorem made_good (cs : List Chg) : ∀ k, Good (madeTo cs k)
  | 0 => form_good
  | k + 1 => by
    unfold madeTo
    split
    · split
      · rename_i e; exact (apply_good (made_good cs k) e).1
      · exact made_good cs k
    · exact made_good cs k
/-- A crash behind a part of a transaction, and a repair: all as before, or all as behind it. -/
theorem crash_like (h : Good d) (hk : Ok d l) (part : Int) (keep : List Int) : Like d (recD (crashD (runO d (planL d l) part.toNat) keep)) ∨ Like (doneD d l) (recD (crashD (runO d (planL d l) part.toNat) keep)) := by
  rw [planL_yes (ok_plan hk)]
  exact three_rec hk h.nil (three_plan hk h.nil h.no _ _)
end
end Go.Proofs.YtagpimahicgkmaaDoor
