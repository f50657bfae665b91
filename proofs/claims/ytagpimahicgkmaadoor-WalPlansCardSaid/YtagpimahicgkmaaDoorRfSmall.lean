/- Walk: mailsackref09.Small. -/
import Derived.Test.YtagpimahicgkmaaDoorMa
namespace Go.Proofs.YtagpimahicgkmaaDoor
open Go.RowKit

def smallB (d : Dk) : Bool := (d.sec.take 600).all (fun s => decide (s.size ≤ 100)) && (d.cache.take 200).all (fun x => decide (x.data.size ≤ 100)) && decide (d.sec.length ≤ 600) && decide (d.cache.length ≤ 200)
theorem small_parts {d : Dk} (h : smallB d = true) : d.sec.length ≤ 600 ∧ d.cache.length ≤ 200 := by
  simp only [smallB, Bool.and_eq_true, decide_eq_true_eq] at h; exact ⟨h.1.2, h.2⟩
theorem small_sec {d : Dk} {k : Nat} (hk : k < d.sec.length) (h6 : k < 600) (hp : 100 < d.sec[k].size) : false = smallB d := by
  have : (d.sec.take 600).all (fun s => decide (s.size ≤ 100)) = false := all_not _ _ k (by simp; omega) (by simpa using hp)
  simp only [smallB, this, Bool.false_and]
theorem small_cache {d : Dk} {k : Nat} (hk : k < d.cache.length) (h6 : k < 200) (hp : 100 < d.cache[k].data.size) : false = smallB d := by
  have : (d.cache.take 200).all (fun s => decide (s.data.size ≤ 100)) = false := all_not _ _ k (by simp; omega) (by simpa using hp)
  simp only [smallB, this, Bool.false_and, Bool.and_false]
theorem small_end {d : Dk} {k k' : Nat} (h1 : (d.sec.take k).all (fun s => decide (s.size ≤ 100)) = true) (hk : d.sec.length ≤ k ∨ k = 600) (h2 : (d.cache.take k').all (fun x => decide (x.data.size ≤ 100)) = true) (hk' : d.cache.length ≤ k' ∨ k' = 200) :
    (decide (d.sec.length ≤ 600) && decide (d.cache.length ≤ 200)) = smallB d := by
  have e1 : (d.sec.take 600).all (fun s => decide (s.size ≤ 100)) = true := by
    rcases hk with hk | rfl
    · rw [List.take_of_length_le hk] at h1
      rw [List.all_eq_true] at *
      exact fun x hx => h1 x (List.mem_of_mem_take hx)
    · exact h1
  have e2 : (d.cache.take 200).all (fun x => decide (x.data.size ≤ 100)) = true := by
    rcases hk' with hk | rfl
    · rw [List.take_of_length_le hk] at h2
      rw [List.all_eq_true] at *
      exact fun x hx => h2 x (List.mem_of_mem_take hx)
    · exact h2
  simp only [smallB, e1, e2, Bool.true_and]

set_option maxRecDepth 100000 in
set_option maxHeartbeats 400000 in
theorem small_any (V : List Nat) (d : Dk) (v : Value) (w : World) (h : DkAt V w v d) :
    Calls Tryd.prog 10 #[v] w fun e w' => e = .returned (.bool (smallB d)) ∧ Kept w w' := by
  obtain ⟨_, _, rfl, ⟨A, c, rfl, hl, hm, hr⟩, ⟨A', c', rfl, hl', hm', hr'⟩⟩ := h
  unfold maxLen at hm hm'
  have HS := Lib.hid hr
  have HC := Lib.hid hr'
  clear hr hr'
  go_enter Tryd.func10, Tryd.ntmps10
  go_wp2
  go_loop [3] (fun i => ∃ k : Nat, k ≤ d.sec.length ∧ k ≤ 600 ∧ i = .int .i64 k ∧ Hid ((d.sec.take k).all (fun s => decide (s.size ≤ 100)) = true)) (fun i => d.sec.length - (intOf i).toNat)
  case atStart => exact ⟨0, Nat.zero_le _, Nat.zero_le _, rfl, rfl⟩
  case round =>
    obtain ⟨k, hk, hk6, rfl, HA⟩ := hrel
    by_cases hlt : k < d.sec.length ∧ k < 600
    · obtain ⟨hlt, hlt6⟩ := hlt
      obtain ⟨b, o, rfl, hb, _, hc⟩ := HS.out (by rw [strs_length]; omega)
      have g1 : (w.alloc (Obj.cells #[Value.slice (some ⟨b, o, none⟩) d.sec.length c, Value.slice A' d.cache.length c'] 29)).cell? ⟨b, o + k, none⟩ = some (.string d.sec[k]) := by
        rw [World.cell?_alloc_lt _ _ _ hb]; exact hc _ _ (strs_at hlt)
      clear hc
      by_cases hq : d.sec[k].size ≤ 100
      · have HY := Lib.hid (all_take_succ (fun s : ByteArray => decide (s.size ≤ 100)) d.sec k hlt HA.out (by simpa using hq))
        generalize d.sec[k] = s at *
        go_wp2
        go_round
        case rel => exact ⟨k + 1, by omega, by omega, by go_num, HY⟩
        case measure => simp [intOf]; omega
      · have HY := Lib.hid (small_sec hlt hlt6 (by omega))
        generalize d.sec[k] = s at *
        go_wp2
        go_ret
        exact ⟨ret_bool HY.out, (Kept.refl w).alloc _⟩
    · have HK : Hid (d.sec.length ≤ k ∨ k = 600) := by show _ ∨ _; omega
      have h600 : k < d.sec.length → 600 ≤ k := by omega
      clear hlt
      by_cases hlt2 : k < d.sec.length
      all_goals
        have h601 : 600 ≤ k ∨ ¬ k < d.sec.length := by omega
        clear h600
        go_wp2
        go_loop [4] (fun i => ∃ j : Nat, j ≤ d.cache.length ∧ j ≤ 200 ∧ i = .int .i64 j ∧ Hid ((d.cache.take j).all (fun x => decide (x.data.size ≤ 100)) = true)) (fun i => d.cache.length - (intOf i).toNat)
        case atStart => exact ⟨0, Nat.zero_le _, Nat.zero_le _, rfl, rfl⟩
        case round =>
          obtain ⟨j, hj, hj2, rfl, HB⟩ := hrel
          by_cases hltj : j < d.cache.length ∧ j < 200
          · obtain ⟨hltj, hltj2⟩ := hltj
            obtain ⟨b, o, rfl, hb, _, hc⟩ := HC.out (by rw [wrs_length]; omega)
            have g1 : (w.alloc (Obj.cells #[Value.slice A d.sec.length c, Value.slice (some ⟨b, o, none⟩) d.cache.length c'] 29)).cell? ⟨b, o + j * 2 + 1, none⟩ = some (.string d.cache[j].data) := by
              rw [World.cell?_alloc_lt _ _ _ hb]; exact hc _ _ (wrs_at hltj).2
            clear hc
            by_cases hq : d.cache[j].data.size ≤ 100
            · have HY := Lib.hid (all_take_succ (fun x : Wr => decide (x.data.size ≤ 100)) d.cache j hltj HB.out (by simpa using hq))
              generalize d.cache[j].data = s at *
              go_wp2
              go_round
              case rel => exact ⟨j + 1, by omega, by omega, by go_num, HY⟩
              case measure => simp [intOf]; omega
            · have HY := Lib.hid (small_cache hltj hltj2 (by omega))
              generalize d.cache[j].data = s at *
              go_wp2
              go_ret
              exact ⟨ret_bool HY.out, (Kept.refl w).alloc _⟩
          · have HJ : Hid (d.cache.length ≤ j ∨ j = 200) := by show _ ∨ _; omega
            have HE := Lib.hid (small_end HA.out HK.out HB.out HJ.out)
            by_cases hlt3 : j < d.cache.length
            · have h200 : 200 ≤ j := by omega
              clear hltj
              by_cases h6 : d.sec.length ≤ 600
              all_goals
                first
                  | (exfalso; omega)
                  | (go_wp2
                     go_ret
                     exact ⟨ret_bool (by rw [← HE.out, Bool.eq_iff_iff]; simp; omega), (Kept.refl w).alloc _⟩)
            · clear hltj
              by_cases h6 : d.sec.length ≤ 600
              all_goals
                first
                  | (exfalso; omega)
                  | (go_wp2
                     go_ret
                     exact ⟨ret_bool (by rw [← HE.out, Bool.eq_iff_iff]; simp; omega), (Kept.refl w).alloc _⟩)
end Go.Proofs.YtagpimahicgkmaaDoor
