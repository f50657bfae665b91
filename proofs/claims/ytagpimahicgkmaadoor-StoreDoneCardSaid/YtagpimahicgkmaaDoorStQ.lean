/- Plain: what the rows of the store need: names that rise, what Get tells, what the last change of a name does. -/
import Derived.Test.YtagpimahicgkmaaDoorStM
import Derived.Test.YtagpimahicgkmaaDoorSt2
namespace Go.Proofs.YtagpimahicgkmaaDoor
open Go.RowKit
open Go.Sort
abbrev Bs := List UInt8
theorem bs_total (a b : Bs) : (decide (a ≤ b) || decide (b ≤ a)) = true := by
  have := List.le_total a b
  simpa using this
theorem bs_trans (a b c : Bs) (h : decide (a ≤ b) = true) (h' : decide (b ≤ c) = true) : decide (a ≤ c) = true := by
  simp only [decide_eq_true_eq] at *
  exact List.le_trans h h'
theorem bs_lt {a b : Bs} (h : a ≤ b) (hn : a ≠ b) : a < b := by
  rcases Classical.em (a < b) with e | e
  · exact e
  · exact absurd (List.le_antisymm h (List.not_lt.1 e)) hn
theorem compact_mem (zs : List Bs) (x : Bs) : x ∈ Lib.compact zs ↔ x ∈ zs := by
  unfold Lib.compact Lib.compactUpTo
  simp only [List.mem_map, List.mem_filter, List.mem_range]
  constructor
  · rintro ⟨j, ⟨hj, _⟩, rfl⟩
    rw [getElem!_pos zs.toArray j (by simpa using hj)]
    simp
  · intro h
    have hex : ∃ j, j < zs.length ∧ zs.toArray[j]! = x := by
      obtain ⟨j, hj, e⟩ := List.getElem_of_mem h
      exact ⟨j, hj, by rw [getElem!_pos zs.toArray j (by simpa using hj)]; simpa using e⟩
    obtain ⟨j, hj, e⟩ := hex
    induction j with
    | zero => exact ⟨0, ⟨hj, by simp [Lib.keeps]⟩, e⟩
    | succ j ih =>
      by_cases hk : Lib.keeps zs.toArray (j + 1) = true
      · exact ⟨j + 1, ⟨hj, hk⟩, e⟩
      · simp only [Lib.keeps, decide_eq_true_eq, Nat.add_sub_cancel, Nat.succ_ne_zero, false_or, Classical.not_not] at hk
        exact ih (by omega) (by rw [← hk]; exact e)
theorem compact_rise {zs : List Bs} (h : zs.Pairwise (· ≤ ·)) : (Lib.compact zs).Pairwise (· < ·) := by
  have hle : ∀ i j, i < j → j < zs.length → zs.toArray[i]! ≤ zs.toArray[j]! := fun i j h1 h2 => by
    rw [getElem!_pos zs.toArray i (by simp; omega), getElem!_pos zs.toArray j (by simp; omega)]
    simpa using (List.pairwise_iff_getElem.1 h) i j (by omega) h2 h1
  unfold Lib.compact Lib.compactUpTo
  rw [List.pairwise_map, List.pairwise_filter]
  refine List.Pairwise.imp_of_mem (R := (· < ·)) (fun {a b} ha hb hab ka kb => ?_) List.pairwise_lt_range
  have hbl := List.mem_range.1 hb
  simp only [Lib.keeps, decide_eq_true_eq] at kb
  rcases kb with rfl | kb
  · omega
  · have h1 : zs.toArray[b - 1]! < zs.toArray[b]! := bs_lt (hle _ _ (by omega) hbl) (Ne.symm kb)
    rcases Nat.lt_or_ge a (b - 1) with e | e
    · exact List.lt_of_le_of_lt (hle _ _ e (by omega)) h1
    · rw [show a = b - 1 by omega]; exact h1
theorem sort_rise (zs : List Bs) : (Lib.compact (zs.mergeSort fun x y => decide (x ≤ y))).Pairwise (· < ·) := by
  refine compact_rise ?_
  have := List.pairwise_mergeSort (le := fun x y : Bs => decide (x ≤ y)) bs_trans bs_total zs
  exact this.imp fun h => by simpa using h
theorem sort_mem (zs : List Bs) (x : Bs) : x ∈ Lib.compact (zs.mergeSort fun x y => decide (x ≤ y)) ↔ x ∈ zs := by
  rw [compact_mem, List.mem_mergeSort]

theorem nmL_mem {l : List Slot} {x : Bs} : x ∈ nmL l ↔ ∃ t ∈ l, t.used = true ∧ t.name.data.toList = x := by
  unfold nmL
  simp only [List.mem_map, List.mem_filter]
  exact ⟨fun ⟨t, ⟨h1, h2⟩, h3⟩ => ⟨t, h1, h2, h3⟩, fun ⟨t, h1, h2, h3⟩ => ⟨t, ⟨h1, h2⟩, h3⟩⟩
theorem ba_ext {a b : ByteArray} (h : a.data.toList = b.data.toList) : a = b := by
  rw [← mkB_data a, ← mkB_data b, h]
theorem namesL_mem {l : List Slot} {x : Bs} : x ∈ namesL l ↔ ∃ t ∈ l, t.used = true ∧ t.name.data.toList = x := by
  unfold namesL
  rw [sort_mem, nmL_mem]
theorem names_slot {d : Dk} (h : storeB d = true) (n : ByteArray) : n ∈ namesR d ↔ ∃ t ∈ slotsL (contD d), t.used = true ∧ t.name = n := by
  unfold namesR
  rw [if_pos h, List.mem_map]
  constructor
  · rintro ⟨x, hx, rfl⟩
    obtain ⟨t, h1, h2, h3⟩ := namesL_mem.1 hx
    exact ⟨t, h1, h2, by rw [← h3, mkB_data]⟩
  · rintro ⟨t, h1, h2, rfl⟩
    exact ⟨_, namesL_mem.2 ⟨t, h1, h2, rfl⟩, mkB_data _⟩
theorem getO_zero {o : Option ByteArray} : (getO o).2 = 0 ↔ o.isSome = true := by
  cases o with
  | none => exact ⟨fun h => (by cases h), fun h => (by cases h)⟩
  | some x => exact ⟨fun _ => rfl, fun _ => rfl⟩
theorem look_some {l : List Slot} {c : List ByteArray} {n : ByteArray} : (lookL l c n).isSome = true ↔ ∃ t ∈ l, t.used = true ∧ t.name = n := by
  unfold lookL
  rw [Option.isSome_map, List.find?_isSome]
  exact ⟨fun ⟨t, h1, h2⟩ => ⟨t, h1, nameP_iff.1 h2⟩, fun ⟨t, h1, h2⟩ => ⟨t, h1, nameP_iff.2 h2⟩⟩
/-- A name is told where Get tells something of it. -/
theorem names_get (d : Dk) (n : ByteArray) : n ∈ namesR d ↔ (getR d n).2 = 0 := by
  by_cases h : storeB d = true
  · rw [names_slot h, getR_look h, getO_zero, look_some]
  · unfold namesR getR
    rw [if_neg h, if_neg h]
    exact ⟨fun h => (by cases h), fun h => (by cases h)⟩
theorem names_rise (d : Dk) : (namesR d).Pairwise fun a b => a.data.toList < b.data.toList := by
  unfold namesR
  split
  · rw [List.pairwise_map]
    exact sort_rise _
  · exact List.Pairwise.nil
theorem compact_le (zs : List Bs) : (Lib.compact zs).length ≤ zs.length := by
  unfold Lib.compact Lib.compactUpTo
  rw [List.length_map]
  exact Nat.le_trans (List.length_filter_le _ _) (by rw [List.length_range]; exact Nat.le_refl _)
theorem names_le (d : Dk) : (namesR d).length ≤ 32 := by
  unfold namesR
  split
  · rw [List.length_map]
    unfold namesL
    have h1 := compact_le ((nmL (slotsL (contD d))).mergeSort fun x y => decide (x ≤ y))
    have h2 := nm_le (slotsL (contD d))
    rw [slotsL_len] at h2
    rw [List.length_mergeSort] at h1
    omega
  · exact Nat.zero_le _
theorem names_size {d : Dk} {n : ByteArray} (h : n ∈ namesR d) : 1 ≤ n.size ∧ n.size ≤ 24 := by
  by_cases hs : storeB d = true
  · obtain ⟨t, h1, h2, rfl⟩ := (names_slot hs n).1 h
    have hok := slots_ok (contD_len hs) (contD_64 hs) t h1 h2
    exact ⟨hok.lo, hok.hi⟩
  · unfold namesR at h
    rw [if_neg hs] at h
    cases h
theorem get_size (d : Dk) (n : ByteArray) : (getR d n).1.size ≤ 1024 := by
  by_cases hs : storeB d = true
  · rw [getR_look hs]
    unfold lookL
    rcases hf : (slotsL (contD d)).find? (nameP n) with _ | t
    · exact Nat.zero_le _
    · have h1 := (nameP_iff.1 (List.find?_some hf)).1
      have hok := slots_ok (contD_len hs) (contD_64 hs) t (List.mem_of_find?_eq_some hf) h1
      show (objB _ t).size ≤ 1024
      unfold objB
      rw [ByteArray.size_extract]
      have h2 := hok.size
      have h3 := capN_le t.cls
      omega
  · unfold getR
    rw [if_neg hs]
    exact Nat.zero_le _
/-! Changes. -/
theorem writesR_no {d : Dk} {cs : List Chg} (h : (writesR d cs).2 ≠ 0) : (writesR d cs).1 = [] := by
  unfold writesR at h ⊢
  split
  · rename_i e
    rw [if_pos e] at h
    split
    · rename_i e2
      rw [if_pos e2] at h
      split
      · rfl
      · rename_i e3
        rw [if_neg e3] at h
        exact absurd rfl h
    · rfl
  · rfl
theorem applyR_code {d : Dk} (h : Good d) (cs : List Chg) : (applyR d cs).2 = (writesR d cs).2 := by
  unfold applyR
  by_cases e : (writesR d cs).2 = 0
  · rw [if_pos e]
    obtain ⟨q, hq, hqw, h30, hi, hw, hz, ht⟩ := writes_ok h e
    by_cases e0 : (writesR d cs).1.length = 0
    · rw [if_pos e0, e]
    · rw [if_neg e0]
      unfold commitR
      rw [if_pos (ok_plan (h.ok (by omega) h30 hw)), e]
  · rw [if_neg e]
theorem applyR_no {d : Dk} {cs : List Chg} (h : (applyR d cs).2 ≠ 0) : (applyR d cs).1 = ⟨[], []⟩ := by
  unfold applyR at h ⊢
  split
  · rename_i e
    rw [if_pos e] at h
    split
    · rename_i e0
      rw [if_pos e0] at h
      exact absurd rfl h
    · rename_i e0
      rw [if_neg e0] at h
      unfold commitR at h ⊢
      split
      · rename_i e1
        rw [if_pos e1] at h
        exact absurd rfl h
      · rfl
  · rfl
def lastO (r : Chg × Bool) (o : Option ByteArray) : Option ByteArray := if r.2 then (if r.1.gone then none else some r.1.data) else o
theorem turns_fold (n : ByteArray) (o : Option ByteArray) : ∀ (cs : List Chg) (r : Chg × Bool), turnsO n cs (lastO r o) = lastO (cs.foldl (lastS n) r) o
  | [], r => rfl
  | c :: cs, r => by
    show turnsO n cs (turnO c n (lastO r o)) = lastO (cs.foldl (lastS n) (lastS n r c)) o
    rw [← turns_fold n o cs (lastS n r c)]
    congr 1
    unfold turnO lastS
    by_cases e : n = c.name
    · have e2 : (c.name.toList == n.toList) = true := by rw [e]; simp
      rw [e2, if_pos e]; rfl
    · have e2 : (c.name.toList == n.toList) = false := by
        rw [beq_eq_false_iff_ne]
        exact fun h => e (by rw [ByteArray.toList_eq, ByteArray.toList_eq] at h; exact (ba_ext h).symm)
      rw [e2, if_neg e]; rfl
/-- What changes do to what a name reads is what the last of that name does. -/
theorem turns_last (n : ByteArray) (cs : List Chg) (o : Option ByteArray) : turnsO n cs o = lastO (lastL n cs) o := turns_fold n o cs (chg0, false)
/-! The fixed answer. -/
def anB : ByteArray := ⟨#[97]⟩
def xyzB : ByteArray := ⟨#[120, 121, 122]⟩
def chA : Chg := ⟨anB, xyzB, false⟩
theorem form_sto : stoD formD = ⟨List.replicate 32 slot0, takenOf 24 [], takenOf 12 [], []⟩ := by
  have h1 : takenI (List.replicate 32 slot0) 0 = [] := by decide +kernel
  have h2 : takenI (List.replicate 32 slot0) 1 = [] := by decide +kernel
  unfold stoD
  rw [form_good.cont, form_slots, h1, h2]; rfl
theorem form_code : (writesR formD [chA]).2 = 0 := by
  unfold writesR
  rw [if_pos form_good.store, form_sto]
  decide +kernel
theorem form_len : (writesR formD [chA]).1.length = 5 := by
  obtain ⟨q, hq, hqw, h30, hi, hw, hz, ht⟩ := writes_ok form_good form_code
  rw [hz]; decide +kernel
theorem formA_code : (applyR formD [chA]).2 = 0 := by rw [applyR_code form_good, form_code]
theorem formA_good : Good (applyR formD [chA]).1 := (apply_good form_good formA_code).1
theorem formA_read (n : ByteArray) : readO (applyR formD [chA]).1 n = if n = chA.name then some chA.data else none := by
  rw [(apply_good form_good formA_code).2, form_read]
  show turnO chA n none = _
  unfold turnO
  rfl
theorem formA_get : getR (applyR formD [chA]).1 chA.name = (chA.data, 0) := by
  rw [formA_good.get, formA_read, if_pos rfl]; rfl
theorem formA_names : namesR (applyR formD [chA]).1 = [chA.name] := by
  have hm : ∀ n, n ∈ namesR (applyR formD [chA]).1 ↔ n = chA.name := fun n => by
    rw [names_get, formA_good.get, formA_read, getO_zero]
    by_cases e : n = chA.name
    · rw [if_pos e]; exact ⟨fun _ => e, fun _ => rfl⟩
    · rw [if_neg e]; exact ⟨fun h => (by cases h), fun h => absurd h e⟩
  have hr := names_rise (applyR formD [chA]).1
  generalize namesR (applyR formD [chA]).1 = l at *
  cases l with
  | nil => exact absurd ((hm _).2 rfl) (by simp)
  | cons a l =>
    have ha := (hm a).1 (by simp)
    cases l with
    | nil => rw [ha]
    | cons b l =>
      have hb := (hm b).1 (by simp)
      have := (List.pairwise_cons.1 hr).1 b (by simp)
      rw [ha, hb] at this
      exact absurd this (List.lt_irrefl _)
end Go.Proofs.YtagpimahicgkmaaDoor
