/- Heaps of numbers in plain Lean: down, up, and what a pool of numbers has free. Of no program. -/
import Derived.Below
namespace Go.Proofs.YtagpimahicgkmaaDoor

def at0 (xs : List Nat) (k : Nat) : Nat := xs.getD k 0
def swp (xs : List Nat) (i j : Nat) : List Nat := (xs.set i (at0 xs j)).set j (at0 xs i)

theorem at0_lt {xs : List Nat} {k : Nat} (h : k < xs.length) : at0 xs k = xs[k] := by simp [at0, h]
theorem at0_set (xs : List Nat) (i v k : Nat) (hi : i < xs.length) : at0 (xs.set i v) k = if k = i then v else at0 xs k := by
  simp only [at0, List.getD_eq_getElem?_getD, List.getElem?_set]
  by_cases h : i = k
  · subst h; simp [hi]
  · rw [if_neg h, if_neg (Ne.symm h)]
theorem swp_length (xs : List Nat) (i j : Nat) : (swp xs i j).length = xs.length := by simp [swp]
theorem at0_swp {xs : List Nat} {i j : Nat} (hi : i < xs.length) (hj : j < xs.length) (k : Nat) :
    at0 (swp xs i j) k = if k = j then at0 xs i else if k = i then at0 xs j else at0 xs k := by
  unfold swp
  rw [at0_set _ _ _ _ (by simpa using hj), at0_set _ _ _ _ hi]
theorem swp_perm {xs : List Nat} {i j : Nat} (hi : i < xs.length) (hj : j < xs.length) : (swp xs i j).Perm xs := by
  have := List.set_set_perm (as := xs) hi hj
  unfold swp
  rw [at0_lt hi, at0_lt hj]
  exact this

/-- Each number from the parent i0 on is at most its children, below n. -/
def HeapFrom (i0 n : Nat) (xs : List Nat) : Prop := ∀ k, 0 < k → k < n → i0 ≤ (k - 1) / 2 → at0 xs ((k - 1) / 2) ≤ at0 xs k
/-- The same, but for the children of i; these are at least i's parent. -/
def DownInv (i0 n : Nat) (xs : List Nat) (i : Nat) : Prop :=
  (∀ k, 0 < k → k < n → i0 ≤ (k - 1) / 2 → (k - 1) / 2 ≠ i → at0 xs ((k - 1) / 2) ≤ at0 xs k) ∧
  (∀ k, 0 < k → k < n → (k - 1) / 2 = i → 0 < i → i0 ≤ (i - 1) / 2 → at0 xs ((i - 1) / 2) ≤ at0 xs k)

theorem down_start {i0 n : Nat} {xs : List Nat} (h : HeapFrom (i0 + 1) n xs) : DownInv i0 n xs i0 :=
  ⟨fun k h0 hk h1 h2 => h k h0 hk (by omega), fun k h0 hk h1 h2 h3 => by omega⟩
theorem down_step {i0 n : Nat} {xs : List Nat} {i j : Nat} (h : DownInv i0 n xs i) (hn : n ≤ xs.length) (hi0 : i0 ≤ i) (hj : j < n) (hp : (j - 1) / 2 = i) (hj0 : 0 < j)
    (hlt : at0 xs j < at0 xs i) (hmin : ∀ k, 0 < k → k < n → (k - 1) / 2 = i → at0 xs j ≤ at0 xs k) : DownInv i0 n (swp xs i j) j := by
  have hij : i < j := by omega
  have e := at0_swp (xs := xs) (i := i) (j := j) (by omega) (by omega)
  refine ⟨fun k h0 hk h1 h2 => ?_, fun k h0 hk h1 h2 h3 => ?_⟩
  · rw [e, e]
    by_cases k1 : k = j
    · subst k1; rw [hp, if_neg (by omega), if_pos rfl, if_pos rfl]; omega
    · rw [if_neg k1, if_neg h2]
      by_cases k2 : (k - 1) / 2 = i
      · rw [if_pos k2, if_neg (by omega)]; exact hmin k h0 hk k2
      · rw [if_neg k2]
        by_cases k3 : k = i
        · subst k3; rw [if_pos rfl]; exact h.2 j hj0 hj hp h0 h1
        · rw [if_neg k3]; exact h.1 k h0 hk h1 k2
  · rw [e, e, hp, if_neg (by omega), if_pos rfl, if_neg (by omega), if_neg (by omega)]
    have := h.1 k h0 hk (by omega) (by omega)
    rwa [h1] at this
theorem down_end {i0 n : Nat} {xs : List Nat} {i : Nat} (h : DownInv i0 n xs i) (hmin : ∀ k, 0 < k → k < n → (k - 1) / 2 = i → at0 xs i ≤ at0 xs k) : HeapFrom i0 n xs := fun k h0 hk h1 => by
  by_cases e : (k - 1) / 2 = i
  · rw [e]; exact hmin k h0 hk e
  · exact h.1 k h0 hk h1 e

/-- A heap but for j, which may be less than its parent. -/
def UpInv (n : Nat) (xs : List Nat) (j : Nat) : Prop :=
  (∀ k, 0 < k → k < n → k ≠ j → at0 xs ((k - 1) / 2) ≤ at0 xs k) ∧
  (∀ k, 0 < k → k < n → (k - 1) / 2 = j → 0 < j → at0 xs ((j - 1) / 2) ≤ at0 xs k)
theorem up_step {n : Nat} {xs : List Nat} {i j : Nat} (h : UpInv n xs j) (hn : n ≤ xs.length) (hj : j < n) (hp : (j - 1) / 2 = i) (hj0 : 0 < j) (hlt : at0 xs j < at0 xs i) : UpInv n (swp xs i j) i := by
  have hij : i < j := by omega
  have e := at0_swp (xs := xs) (i := i) (j := j) (by omega) (by omega)
  refine ⟨fun k h0 hk h1 => ?_, fun k h0 hk h1 h2 => ?_⟩
  · rw [e, e]
    by_cases k1 : k = j
    · subst k1; rw [hp, if_neg (by omega), if_pos rfl, if_pos rfl]; omega
    · rw [if_neg k1, if_neg h1]
      by_cases k2 : (k - 1) / 2 = j
      · rw [if_pos k2]; have := h.2 k h0 hk k2 hj0; rwa [hp] at this
      · rw [if_neg k2]
        by_cases k3 : (k - 1) / 2 = i
        · rw [if_pos k3]; have := h.1 k h0 hk k1; rw [k3] at this; omega
        · rw [if_neg k3]; exact h.1 k h0 hk k1
  · have hi := h.1 i h2 (by omega) (by omega)
    rw [e, e, if_neg (by omega), if_neg (by omega)]
    by_cases k1 : k = j
    · rw [if_pos k1]; exact hi
    · rw [if_neg k1, if_neg (by omega)]
      have := h.1 k h0 hk k1
      rw [h1] at this
      omega
theorem up_end {n : Nat} {xs : List Nat} {j : Nat} (h : UpInv n xs j) (hj : j = 0 ∨ at0 xs ((j - 1) / 2) ≤ at0 xs j) : HeapFrom 0 n xs := fun k h0 hk _ => by
  by_cases e : k = j
  · subst e; rcases hj with h1 | h1
    · omega
    · exact h1
  · exact h.1 k h0 hk e
theorem up_start {xs : List Nat} {x : Nat} (h : HeapFrom 0 xs.length xs) : UpInv (xs.length + 1) (xs ++ [x]) xs.length := by
  have e : ∀ k, k < xs.length → at0 (xs ++ [x]) k = at0 xs k := fun k hk => by simp [at0, List.getElem?_append_left hk]
  exact ⟨fun k h0 hk h1 => by rw [e _ (by omega), e _ (by omega)]; exact h k h0 (by omega) (by omega), fun k h0 hk h1 h2 => by omega⟩

theorem heap_least {xs : List Nat} (h : HeapFrom 0 xs.length xs) : ∀ k, k < xs.length → at0 xs 0 ≤ at0 xs k := by
  intro k
  induction k using Nat.strongRecOn with
  | _ k ih =>
    intro hk
    rcases Nat.eq_zero_or_pos k with h0 | h0
    · subst h0; exact Nat.le_refl _
    · exact Nat.le_trans (ih ((k - 1) / 2) (by omega) (by omega)) (h k h0 hk (by omega))

/-- What is free, in order. -/
def frees (tk : List Bool) : List Nat := (List.range tk.length).filter fun i => tk[i]? == some false
theorem mem_frees {tk : List Bool} {i : Nat} : i ∈ frees tk ↔ tk[i]? = some false := by
  simp only [frees, List.mem_filter, List.mem_range, beq_iff_eq]
  exact ⟨fun h => h.2, fun h => ⟨(List.getElem?_eq_some_iff.1 h).1, h⟩⟩
theorem frees_up (tk : List Bool) : (frees tk).Pairwise (· < ·) := List.Pairwise.filter _ List.pairwise_lt_range
theorem frees_nodup (tk : List Bool) : (frees tk).Nodup := (frees_up tk).imp (fun h => Nat.ne_of_lt h)
/-- A heap of just what is free. -/
def HeapOf (tk : List Bool) (fr : List Nat) : Prop := HeapFrom 0 fr.length fr ∧ fr.Perm (frees tk)
theorem up_unique : ∀ {a b : List Nat}, a.Pairwise (· < ·) → b.Pairwise (· < ·) → (∀ x, x ∈ a ↔ x ∈ b) → a = b
  | [], [], _, _, _ => rfl
  | [], y :: b, _, _, h => by have := (h y).2 (by simp); cases this
  | x :: a, [], _, _, h => by have := (h x).1 (by simp); cases this
  | x :: a, y :: b, ha, hb, h => by
    rw [List.pairwise_cons] at ha hb
    have hxy : x = y := by
      rcases List.mem_cons.1 ((h x).1 (by simp)) with e | e
      · exact e
      · rcases List.mem_cons.1 ((h y).2 (by simp)) with e' | e'
        · exact e'.symm
        · have := hb.1 x e; have := ha.1 y e'; omega
    subst hxy
    congr 1
    refine up_unique ha.2 hb.2 (fun z => ⟨fun hz => ?_, fun hz => ?_⟩)
    · rcases List.mem_cons.1 ((h z).1 (by simp [hz])) with e | e
      · subst e; exact absurd (ha.1 z hz) (by omega)
      · exact e
    · rcases List.mem_cons.1 ((h z).2 (by simp [hz])) with e | e
      · subst e; exact absurd (hb.1 z hz) (by omega)
      · exact e
theorem heap_head {tk : List Bool} {fr : List Nat} (h : HeapOf tk fr) (hf : 0 < fr.length) : ∃ l, frees tk = at0 fr 0 :: l := by
  have hp := h.2
  cases hl : frees tk with
  | nil => rw [hl] at hp; have := hp.length_eq; rw [List.length_nil] at this; omega
  | cons x l =>
    refine ⟨l, ?_⟩
    congr 1
    have hu := frees_up tk
    rw [hl] at hu hp
    rw [List.pairwise_cons] at hu
    have hx : x ∈ fr := hp.mem_iff.2 (by simp)
    obtain ⟨k, hk, rfl⟩ := List.mem_iff_getElem.1 hx
    have h1 := heap_least h.1 k hk
    have h0 : at0 fr 0 ∈ fr[k] :: l := hp.mem_iff.1 (by rw [at0_lt hf]; exact List.getElem_mem hf)
    rw [at0_lt hk] at h1
    rcases List.mem_cons.1 h0 with e | e
    · exact e.symm
    · have := hu.1 _ e; omega
theorem frees_take {tk : List Bool} {x : Nat} {l : List Nat} (h : frees tk = x :: l) : frees (tk.set x true) = l := by
  have hu := frees_up tk
  rw [h, List.pairwise_cons] at hu
  refine up_unique (frees_up _) hu.2 (fun z => ?_)
  rw [mem_frees, List.getElem?_set]
  by_cases e : x = z
  · subst e
    constructor
    · intro hh; rw [if_pos rfl] at hh; split at hh <;> simp at hh
    · intro hh; exact absurd (hu.1 _ hh) (by omega)
  · rw [if_neg e, ← mem_frees, h, List.mem_cons]
    exact ⟨fun hh => hh.resolve_left (Ne.symm e), .inr⟩
theorem frees_give {tk : List Bool} {x : Nat} (h : tk[x]? = some true) {fr : List Nat} (hp : fr.Perm (frees tk)) : (fr ++ [x]).Perm (frees (tk.set x false)) := by
  have hx : x < tk.length := (List.getElem?_eq_some_iff.1 h).1
  have hn : x ∉ fr := fun hm => by have := mem_frees.1 (hp.mem_iff.1 hm); rw [h] at this; cases this
  refine (List.perm_ext_iff_of_nodup ?_ (frees_nodup _)).2 (fun z => ?_)
  · exact List.nodup_append.2 ⟨hp.nodup_iff.2 (frees_nodup _), by simp, fun a ha b hb e => by simp at hb; subst hb; subst e; exact hn ha⟩
  · rw [mem_frees, List.getElem?_set, List.mem_append, hp.mem_iff, mem_frees, List.mem_singleton]
    by_cases e : x = z
    · subst e; simp [hx]
    · rw [if_neg e]; exact ⟨fun hh => hh.resolve_right (Ne.symm e), .inl⟩
end Go.Proofs.YtagpimahicgkmaaDoor
