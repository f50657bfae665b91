/- Plain facts on disks: what a flush and a crash do. -/
import Derived.Test.YtagpimahicgkmaaDoorRfCrash
namespace Go.Proofs.YtagpimahicgkmaaDoor

theorem perfTo_get {d : Dk} {p : Nat → Bool} (h : ∀ x ∈ d.cache, 0 ≤ x.at_) {n : Nat} (hn : n < d.sec.length) : (perfTo d.sec d.cache p d.cache.length)[n]'(by rw [perfTo_length]; exact hn) = rcAt d.sec[n] d.cache p n d.cache.length := by
  have e := rcrash_perf p h
  have h1 : n < (rcrashL d p).length := by simpa [rcrashL] using hn
  have : (rcrashL d p)[n] = rcAt d.sec[n] d.cache p n d.cache.length := by simp [rcrashL, List.getElem?_eq_getElem hn]
  rw [← this]
  simp only [e]
theorem rcAt_all (s : ByteArray) (ws : List Wr) (n : Nat) : ∀ k, k ≤ ws.length → rcAt s ws (fun _ => true) n k = readTo n s (ws.take k)
  | 0, _ => rfl
  | k + 1, h => by
    have ih := rcAt_all s ws n k (by omega)
    rw [readTo_take (by omega)]
    by_cases hq : (ws[k]'(by omega)).at_ = n
    · rw [rcAt_yes (by omega) hq rfl, if_pos hq]
    · rw [rcAt_no (by omega) (.inl hq), if_neg hq, ih]
theorem perf_size {d : Dk} {p : Nat → Bool} (h : rightB d = true) : ∀ k, ∀ s ∈ perfTo d.sec d.cache p k, s.size = 64
  | 0 => (right_parts h).2.2.1
  | k + 1 => by
    have ih := perf_size (p := p) h k
    intro s hs
    simp only [perfTo] at hs
    split at hs
    · rename_i x hx
      split at hs
      · rcases List.mem_or_eq_of_mem_set hs with hs | rfl
        · exact ih s hs
        · exact ((right_parts h).2.2.2 x (List.mem_of_getElem? hx)).2.2
      · exact ih s hs
    · exact ih s hs
theorem right_perf {d : Dk} (p : Nat → Bool) (h : rightB d = true) : rightB (perf d p) = true := by
  obtain ⟨h1, h2, _, _⟩ := right_parts h
  have : (perfTo d.sec d.cache p d.cache.length).all (·.size == 64) = true := by
    rw [List.all_eq_true]; intro s hs; simpa using perf_size h _ s hs
  simp only [rightB, perf, perfTo_length, h1, h2, this, List.all_nil, decide_true, Bool.and_self]
theorem read_flush {d : Dk} (h : rightB d = true) {n : Nat} (hn : n < d.sec.length) : readD (perf d fun _ => true) n = readD d n := by
  have hx : ∀ x ∈ d.cache, 0 ≤ x.at_ := fun x hx => ((right_parts h).2.2.2 x hx).1
  have e := perfTo_get (p := fun _ => true) hx hn
  have hn' : n < (perfTo d.sec d.cache (fun _ => true) d.cache.length).length := by rw [perfTo_length]; exact hn
  simp only [readD, perf, readTo, List.foldl_nil, List.getD_eq_getElem?_getD, List.getElem?_eq_getElem hn', List.getElem?_eq_getElem hn, Option.getD_some]
  rw [e, rcAt_all _ _ _ _ (Nat.le_refl _), List.take_of_length_le (Nat.le_refl _)]
  rfl
theorem crash_flushed {d : Dk} (h : rightB d = true) (hc : d.cache = []) (keep : List Int) : crashD d keep = d := by
  obtain ⟨sec, cache⟩ := d
  simp only at hc
  subst hc
  simp [crashD, h, perf, perfTo]
theorem perfTo_congr {l : List ByteArray} {ws : List Wr} {p q : Nat → Bool} : ∀ k, (∀ i, i < k → p i = q i) → perfTo l ws p k = perfTo l ws q k
  | 0, _ => rfl
  | k + 1, h => by
    simp only [perfTo, perfTo_congr k (fun i hi => h i (by omega)), h k (by omega)]
theorem crash_all {d : Dk} (h : rightB d = true) : crashD d (upTo d.cache.length) = perf d fun _ => true := by
  simp only [crashD, h, if_true, perf]
  rw [perfTo_congr (q := fun _ => true)]
  intro i hi
  simp only [upTo, List.contains_iff_mem, List.mem_map, List.mem_range]
  exact ⟨i, hi, rfl⟩
/-- What a sector reads behind a crash: as it was, or one of the writes that waited there. -/
theorem rcAt_from (s : ByteArray) (ws : List Wr) (p : Nat → Bool) (n : Nat) : ∀ k, k ≤ ws.length → rcAt s ws p n k = s ∨ ∃ x ∈ ws, x.at_ = n ∧ x.data = rcAt s ws p n k
  | 0, _ => .inl rfl
  | k + 1, h => by
    by_cases hq : (ws[k]'(by omega)).at_ = n ∧ p k = true
    · rw [rcAt_yes (by omega) hq.1 hq.2]
      exact .inr ⟨ws[k], List.getElem_mem _, hq.1, rfl⟩
    · rw [rcAt_no (by omega) (by
        rcases Bool.eq_false_or_eq_true (p k) with hp | hp
        · exact .inl (fun e => hq ⟨e, hp⟩)
        · exact .inr hp)]
      exact rcAt_from s ws p n k (by omega)
theorem read_perf {d : Dk} (h : rightB d = true) (p : Nat → Bool) {n : Nat} (hn : n < d.sec.length) : readR (perf d p) n = (rcAt d.sec[n] d.cache p n d.cache.length, 0) := by
  have e2 := right_perf p h
  have hn' : n < (perfTo d.sec d.cache p d.cache.length).length := by rw [perfTo_length]; exact hn
  have e4 := perfTo_get (p := p) (fun x hx => ((right_parts h).2.2.2 x hx).1) hn
  simp only [readR, e2, Bool.true_and]
  rw [if_pos (by simp only [perf, Bool.and_eq_true, decide_eq_true_eq]; exact ⟨by simp, decide_eq_true (Int.ofNat_lt.2 hn')⟩)]
  congr 1
  rw [← e4]
  simp [readD, readTo, perf, List.getElem?_eq_getElem hn']
def thereTo (cc sn : ByteArray) (n : Nat) (l : List Wr) (k : Nat) : Bool := (cc.toList == sn.toList) || (l.take k).any fun x => (x.at_ == (n : Int)) && (x.data.toList == cc.toList)
theorem thereTo_succ (cc sn : ByteArray) (n : Nat) (l : List Wr) (k : Nat) (h : k < l.length) : thereTo cc sn n l (k + 1) = (thereTo cc sn n l k || ((l[k].at_ == (n : Int)) && (l[k].data.toList == cc.toList))) := by
  simp only [thereTo, List.take_succ_eq_append_getElem h, List.any_append, List.any_cons, List.any_nil, Bool.or_false, Bool.or_assoc]
theorem thereTo_end {cc sn : ByteArray} {n : Nat} {l : List Wr} (h : cc = sn ∨ ∃ x ∈ l, x.at_ = n ∧ x.data = cc) {k : Nat} (hk : l.length ≤ k) : thereTo cc sn n l k = true := by
  simp only [thereTo, List.take_of_length_le hk, Bool.or_eq_true, List.any_eq_true, Bool.and_eq_true, beq_iff_eq]
  rcases h with h | ⟨x, hx, h1, h2⟩
  · exact .inl (by rw [h])
  · exact .inr ⟨x, hx, h1, by rw [h2]⟩
end Go.Proofs.YtagpimahicgkmaaDoor
