/- Walks: disk.fits, disk.Right. -/
import Derived.Test.YtagpimahicgkmaaDoorRows
import Derived.Test.YtagpimahicgkmaaDoorDkPlain
import Derived.WalkKit
import Derived.WalkSpells
import Derived.WalkLawsBesides
namespace Go.Proofs.YtagpimahicgkmaaDoor
open Go.RowKit

set_option maxHeartbeats 400000 in
theorem fits_any (x : Wr) (n : Nat) (w : World) :
    Calls Tryd.prog 63 #[.agg #[.int .i64 x.at_, .string x.data], .int .i64 n] w fun e w' => e = .returned (.bool (fitsB x n)) ∧ Kept w w' := by
  obtain ⟨a, s⟩ := x
  show Calls _ _ #[.agg #[.int .i64 a, .string s], _] w _
  by_cases h1 : 0 ≤ a
  · by_cases h2 : a < n
    · go_enter Tryd.func63, Tryd.ntmps63
      go_wp2
      go_ret
      exact ⟨ret_bool (by rw [Bool.eq_iff_iff]; simp [fitsB, h1, h2]; omega), (Kept.refl w).alloc _⟩
    · go_enter Tryd.func63, Tryd.ntmps63
      go_wp2
      go_ret
      exact ⟨ret_bool (by simp [fitsB]; omega), (Kept.refl w).alloc _⟩
  · go_enter Tryd.func63, Tryd.ntmps63
    go_wp2
    go_ret
    exact ⟨ret_bool (by simp [fitsB]; omega), (Kept.refl w).alloc _⟩

theorem right_sec {sec : List ByteArray} {cache : List Wr} {k : Nat} (h : k < sec.length) (hp : sec[k].size ≠ 64) : false = rightB ⟨sec, cache⟩ := by
  have : sec.all (·.size == 64) = false := all_not _ _ _ h (by simpa using hp)
  simp only [rightB, this, Bool.and_false, Bool.false_and]

theorem right_cache {sec : List ByteArray} {cache : List Wr} {k : Nat} (h : k < cache.length) (hp : fitsB cache[k] sec.length = false) : false = rightB ⟨sec, cache⟩ := by
  have : cache.all (fitsB · sec.length) = false := all_not _ _ _ h hp
  simp only [rightB, this, Bool.and_false]
theorem right_len {sec : List ByteArray} {cache : List Wr} (h : sec.length < 1 ∨ 1024 < sec.length) : false = rightB ⟨sec, cache⟩ := by
  rcases h with h | h
  · have : decide (1 ≤ sec.length) = false := decide_eq_false (by omega)
    simp only [rightB, this, Bool.false_and]
  · have : decide (sec.length ≤ 1024) = false := decide_eq_false (by omega)
    simp only [rightB, this, Bool.false_and, Bool.and_false]
theorem right_true {sec : List ByteArray} {cache : List Wr} (h1 : 1 ≤ sec.length) (h2 : sec.length ≤ 1024) (h3 : sec.all (·.size == 64) = true) (h4 : cache.all (fitsB · sec.length) = true) : true = rightB ⟨sec, cache⟩ := by
  simp only [rightB, h1, h2, h3, h4, decide_true, Bool.and_self]

set_option maxHeartbeats 400000 in
theorem right_any (V : List Nat) (d : Dk) (v : Value) (w : World) (h : DkAt V w v d) :
    Calls Tryd.prog 27 #[v] w fun e w' => e = .returned (.bool (rightB d)) ∧ Kept w w' := by
  obtain ⟨_, _, rfl, ⟨A, c, rfl, hl, hm, hr⟩, ⟨A', c', rfl, hl', hm', hr'⟩⟩ := h
  obtain ⟨sec, cache⟩ := d
  simp only at *
  unfold maxLen at hm hm'
  by_cases h1 : 1 ≤ sec.length
  · by_cases h2 : sec.length ≤ 1024
    · obtain ⟨b, o, rfl, hb, _, hc⟩ := hr (by rw [strs_length]; omega)
      have HC := Lib.hid hc
      clear hc hr
      have HR' := Lib.hid hr'
      clear hr'
      go_enter Tryd.func27, Tryd.ntmps27
      go_wp2
      go_loop [20] (fun i => ∃ k : Nat, k ≤ sec.length ∧ i = .int .i64 k ∧ Hid ((sec.take k).all (·.size == 64) = true)) (fun i => sec.length - (intOf i).toNat)
      case atStart => exact ⟨0, Nat.zero_le _, rfl, rfl⟩
      case round =>
        obtain ⟨k, hk, rfl, HA⟩ := hrel
        by_cases hlt : k < sec.length
        · have hcell := HC.out k _ (strs_at hlt)
          have hcell' : (w.alloc (Obj.cells #[Value.slice (some ⟨b, o, none⟩) sec.length c, Value.slice A' cache.length c'] 25)).cell? ⟨b, o + k, none⟩ = some (.string sec[k]) := by
            rw [World.cell?_alloc_lt _ _ _ hb]; exact hcell
          generalize hs : sec[k] = s at *
          have HS := Lib.hid hs
          clear hs hcell
          by_cases hq : s.size = 64
          · have t1 := bne_f (a := s.size) (b := 64) (by omega)
            have HQ := Lib.hid hq
            clear hq
            go_wp2
            go_round
            case rel => exact ⟨k + 1, by omega, by go_num, all_take_succ _ _ _ hlt HA.out (by rw [HS.out]; simpa using HQ.out)⟩
            case measure => simp [intOf]; omega
          · have t1 := bne_t (a := s.size) (b := 64) (by omega)
            go_wp2
            go_ret
            exact ⟨ret_bool (right_sec hlt (by rw [HS.out]; exact hq)), (Kept.refl w).alloc _⟩
        · have HS : Hid (sec.all (·.size == 64) = true) := all_of_take _ _ k (by omega) HA.out
          clear HA
          go_wp2
          go_loopw [31] (fun i wr => ∃ k : Nat, k ≤ cache.length ∧ i = .int .i64 k ∧ Hid ((cache.take k).all (fitsB · sec.length) = true) ∧ Kept (w.alloc (Obj.cells #[Value.slice (some ⟨b, o, none⟩) sec.length c, Value.slice A' cache.length c'] 25)) wr) (fun i _ => cache.length - (intOf i).toNat)
          case atStart => exact ⟨0, Nat.zero_le _, rfl, rfl, Kept.refl _⟩
          case round =>
            obtain ⟨k', hk', rfl, HA, hkept⟩ := hrel
            by_cases hlt' : k' < cache.length
            · obtain ⟨b', o', rfl, hb', _, hc'⟩ := HR'.out (by rw [wrs_length]; omega)
              have hkw : Kept w wr := ((Kept.refl w).alloc _).trans hkept
              have g1 : wr.cell? ⟨b', o' + k' * 2, none⟩ = some (.int .i64 cache[k'].at_) := (hkw.cell hb').trans (hc' _ _ (wrs_at hlt').1)
              have g2 : wr.cell? ⟨b', o' + k' * 2 + 1, none⟩ = some (.string cache[k'].data) := (hkw.cell (p := ⟨b', _, none⟩) hb').trans (hc' _ _ (wrs_at hlt').2)
              have g3 : wr.cell? ⟨w.heap.size, 0, none⟩ = some (Value.slice (some ⟨b, o, none⟩) sec.length c) := (hkept.cell (p := ⟨w.heap.size, 0, none⟩) (by simp)).trans (by simp [go_sem])
              have hsz : w.heap.size < wr.heap.size := Nat.lt_of_lt_of_le (by simp) hkept.size
              clear hc'
              generalize hx : cache[k'] = x at *
              have HX := Lib.hid hx
              clear hx
              rcases Bool.eq_false_or_eq_true (fitsB x sec.length) with hf | hf
              · go_wp2_with (go_at_call 63; refine (fits_any _ _ _).mono ?_; rintro e w1 ⟨rfl, hk1⟩)
                go_roundw
                case rel => exact ⟨k' + 1, by omega, by go_num, all_take_succ _ _ _ hlt' HA.out (by rw [HX.out]; exact hf), (hkept.alloc _).trans hk1⟩
                case measure => simp [intOf]; omega
              · go_wp2_with (go_at_call 63; refine (fits_any _ _ _).mono ?_; rintro e w1 ⟨rfl, hk1⟩)
                go_ret
                exact ⟨ret_bool (right_cache hlt' (by rw [HX.out]; exact hf)), (hkw.alloc _).trans hk1⟩
            · have HB : Hid (cache.all (fitsB · sec.length) = true) := all_of_take _ _ k' (by omega) HA.out
              go_wp2
              go_ret
              exact ⟨ret_bool (right_true h1 h2 HS.out HB.out), ((Kept.refl w).alloc _).trans hkept⟩
    · go_enter Tryd.func27, Tryd.ntmps27
      go_wp2
      go_ret
      exact ⟨ret_bool (right_len (by omega)), (Kept.refl w).alloc _⟩
  · go_enter Tryd.func27, Tryd.ntmps27
    go_wp2
    go_ret
    exact ⟨ret_bool (right_len (by omega)), (Kept.refl w).alloc _⟩
end Go.Proofs.YtagpimahicgkmaaDoor
