/- Walks: mailsackref09.fits, Right. -/
import Derived.Test.YtagpimahicgkmaaDoorMa
import Derived.Deep.RegionHeld3
import Derived.Deep.DrawnRows
namespace Go.Proofs.YtagpimahicgkmaaDoor
open Go.RowKit
attribute [local go_sem ↓] Go.wp_at_zero Go.wp_at_succ

set_option maxHeartbeats 400000 in
theorem rfits_any (V : List Nat) (d : Dk) (v : Value) (x : Wr) (w : World) (h : DkAt V w v d) :
    Calls Tryd.prog 83 #[v, .agg #[.int .i64 x.at_, .string x.data]] w fun e w' => e = .returned (.bool (fitsB x d.sec.length)) ∧ Kept w w' := by
  obtain ⟨_, _, rfl, ⟨A, c, rfl, hl, hm, hr⟩, ⟨A', c', rfl, hl', hm', hr'⟩⟩ := h
  obtain ⟨a, s⟩ := x
  show Calls _ _ #[_, .agg #[.int .i64 a, .string s]] w _
  generalize d.sec.length = n at *
  clear hr hr'
  by_cases h1 : 0 ≤ a
  · by_cases h2 : a < n
    · go_enter Tryd.func83, Tryd.ntmps83
      go_wp2
      go_ret
      exact ⟨ret_bool (by rw [Bool.eq_iff_iff]; simp [fitsB, h1, h2]; omega), ((Kept.refl w).alloc _).alloc _⟩
    · go_enter Tryd.func83, Tryd.ntmps83
      go_wp2
      go_ret
      exact ⟨ret_bool (by simp [fitsB]; omega), ((Kept.refl w).alloc _).alloc _⟩
  · go_enter Tryd.func83, Tryd.ntmps83
    go_wp2
    go_ret
    exact ⟨ret_bool (by simp [fitsB]; omega), ((Kept.refl w).alloc _).alloc _⟩

set_option maxRecDepth 100000 in
set_option maxHeartbeats 400000 in
theorem rright_any (V : List Nat) (d : Dk) (v : Value) (w : World) (h : DkAt V w v d) :
    Calls Tryd.prog 59 #[v] w fun e w' => e = .returned (.bool (rightB d)) ∧ Kept w w' := by
  have H := Lib.hid h
  obtain ⟨_, _, rfl, ⟨A, c, rfl, hl, hm, hr⟩, ⟨A', c', rfl, hl', hm', hr'⟩⟩ := h
  unfold maxLen at hm hm'
  have HS := Lib.hid hr
  have HC := Lib.hid hr'
  clear hr hr'
  go_enter Tryd.func59, Tryd.ntmps59
  go_wp2
  go_loop [3] (fun i => ∃ k : Nat, k ≤ d.sec.length ∧ i = .int .i64 k ∧ Hid ((d.sec.take k).all (·.size == 64) = true)) (fun i => d.sec.length - (intOf i).toNat)
  case atStart => exact ⟨0, Nat.zero_le _, rfl, rfl⟩
  case round =>
    obtain ⟨k, hk, rfl, HA⟩ := hrel
    by_cases hlt : k < d.sec.length
    · obtain ⟨b, o, rfl, hb, _, hc⟩ := HS.out (by rw [strs_length]; omega)
      have g1 : (w.alloc (Obj.cells #[Value.slice (some ⟨b, o, none⟩) d.sec.length c, Value.slice A' d.cache.length c'] 29)).cell? ⟨b, o + k, none⟩ = some (.string d.sec[k]) := by
        rw [World.cell?_alloc_lt _ _ _ hb]; exact hc _ _ (strs_at hlt)
      clear hc
      by_cases hq : d.sec[k].size = 64
      · have HY := Lib.hid (all_take_succ (fun s : ByteArray => s.size == 64) d.sec k hlt HA.out (by simpa using hq))
        generalize d.sec[k] = s at *
        have t1 := bne_f (a := s.size) (b := 64) (by omega)
        clear hq
        go_wp2
        go_round
        case rel => exact ⟨k + 1, by omega, by go_num, HY⟩
        case measure => simp [intOf]; omega
      · have HY := Lib.hid (right_sec (cache := d.cache) hlt hq)
        generalize d.sec[k] = s at *
        have t1 := bne_t (a := s.size) (b := 64) (by omega)
        go_wp2
        go_ret
        exact ⟨ret_bool HY.out, (Kept.refl w).alloc _⟩
    · have HSA : Hid (d.sec.all (·.size == 64) = true) := all_of_take _ _ k (by omega) HA.out
      clear HA
      go_wp2
      go_loopw [4] (fun i wr => ∃ j : Nat, j ≤ d.cache.length ∧ i = .int .i64 j ∧ Hid ((d.cache.take j).all (fitsB · d.sec.length) = true) ∧ Kept (w.alloc (Obj.cells #[Value.slice A d.sec.length c, Value.slice A' d.cache.length c'] 29)) wr) (fun i _ => d.cache.length - (intOf i).toNat)
      case atStart => exact ⟨0, Nat.zero_le _, rfl, rfl, Kept.refl _⟩
      case round =>
        obtain ⟨j, hj, rfl, HB, hkept⟩ := hrel
        obtain ⟨q1, q2, _, _⟩ := ((Own.new w 29 [Value.slice A d.sec.length c, Value.slice A' d.cache.length c']).kept hkept).two
        have hkw : Kept w wr := ((Kept.refl w).alloc _).trans hkept
        by_cases hltj : j < d.cache.length
        · obtain ⟨b, o, rfl, hb, _, hc⟩ := HC.out.kept hkw (by rw [wrs_length]; omega)
          have g1 : wr.cell? ⟨b, o + j * 2, none⟩ = some (.int .i64 d.cache[j].at_) := hc _ _ (wrs_at hltj).1
          have g2 : wr.cell? ⟨b, o + j * 2 + 1, none⟩ = some (.string d.cache[j].data) := hc _ _ (wrs_at hltj).2
          clear hc
          rcases Bool.eq_false_or_eq_true (fitsB d.cache[j] d.sec.length) with hf | hf
          · have HY := Lib.hid (all_take_succ (fitsB · d.sec.length) d.cache j hltj HB.out hf)
            generalize d.cache[j] = x at *
            have hkd : ∀ W', Kept wr W' → DkAt V W' (.agg #[Value.slice A d.sec.length c, Value.slice (some ⟨b, o, none⟩) d.cache.length c']) d := fun W' hk => H.out.go (hkw.trans hk) (Ext.refl _ _)
            have HKD := Lib.hid hkd
            clear hkd
            have i0 : (0 : Int) ≤ (j : Int) := by omega
            have i1 : (j : Int) < (d.cache.length : Int) := by omega
            have hz : w.heap.size < wr.heap.size := Nat.lt_of_lt_of_le (by simp) hkept.size
            go_wp2_with fail
            go_region_held3 (fun w' => w'.cell? ⟨w.heap.size, 0, none⟩ = some (Value.slice A d.sec.length c) ∧ w'.cell? ⟨w.heap.size, 1, none⟩ = some (Value.slice (some ⟨b, o, none⟩) d.cache.length c') ∧ w'.cell? ⟨b, o + j * 2, none⟩ = some (.int .i64 x.at_) ∧ w'.cell? ⟨b, o + j * 2 + 1, none⟩ = some (.string x.data))
              (first | exact ⟨q1, q2, g1, g2⟩ | exact ⟨(hk2.cell (p := ⟨w.heap.size, 0, none⟩) hz).trans q1, (hk2.cell (p := ⟨w.heap.size, 1, none⟩) hz).trans q2, (hk2.cell (p := ⟨b, o + j * 2, none⟩) hb).trans g1, (hk2.cell (p := ⟨b, o + j * 2 + 1, none⟩) hb).trans g2⟩)
              (first | (go_at_call 83; refine (rfits_any V d _ x _ (HKD.out _ (Kept.drew (Kept.refl _)))).mono ?_; rw [hf]; rintro e w2 ⟨rfl, hk2⟩))
            have hk3 : Kept wr w2 := ((Kept.refl wr).drew).trans hk2
            go_wp2
            go_roundw
            case rel => exact ⟨j + 1, by omega, by go_num, HY, hkept.trans hk3⟩
            case measure => simp [intOf]; omega
          · have HY := Lib.hid (right_cache (sec := d.sec) hltj hf)
            generalize d.cache[j] = x at *
            have hkd : ∀ W', Kept wr W' → DkAt V W' (.agg #[Value.slice A d.sec.length c, Value.slice (some ⟨b, o, none⟩) d.cache.length c']) d := fun W' hk => H.out.go (hkw.trans hk) (Ext.refl _ _)
            have HKD := Lib.hid hkd
            clear hkd
            have i0 : (0 : Int) ≤ (j : Int) := by omega
            have i1 : (j : Int) < (d.cache.length : Int) := by omega
            have hz : w.heap.size < wr.heap.size := Nat.lt_of_lt_of_le (by simp) hkept.size
            go_wp2_with fail
            go_region_held3 (fun w' => w'.cell? ⟨w.heap.size, 0, none⟩ = some (Value.slice A d.sec.length c) ∧ w'.cell? ⟨w.heap.size, 1, none⟩ = some (Value.slice (some ⟨b, o, none⟩) d.cache.length c') ∧ w'.cell? ⟨b, o + j * 2, none⟩ = some (.int .i64 x.at_) ∧ w'.cell? ⟨b, o + j * 2 + 1, none⟩ = some (.string x.data))
              (first | exact ⟨q1, q2, g1, g2⟩ | exact ⟨(hk2.cell (p := ⟨w.heap.size, 0, none⟩) hz).trans q1, (hk2.cell (p := ⟨w.heap.size, 1, none⟩) hz).trans q2, (hk2.cell (p := ⟨b, o + j * 2, none⟩) hb).trans g1, (hk2.cell (p := ⟨b, o + j * 2 + 1, none⟩) hb).trans g2⟩)
              (first | (go_at_call 83; refine (rfits_any V d _ x _ (HKD.out _ (Kept.drew (Kept.refl _)))).mono ?_; rw [hf]; rintro e w2 ⟨rfl, hk2⟩))
            have hk3 : Kept wr w2 := ((Kept.refl wr).drew).trans hk2
            go_wp2
            go_ret
            exact ⟨ret_bool HY.out, hkw.trans hk3⟩
        · have HCA : Hid (d.cache.all (fitsB · d.sec.length) = true) := all_of_take _ _ j (by omega) HB.out
          by_cases h1 : 1 ≤ d.sec.length
          · by_cases h2 : d.sec.length ≤ 1024
            · have HY := Lib.hid (right_true h1 h2 HSA.out HCA.out)
              go_wp2
              go_ret
              exact ⟨ret_bool (by rw [← HY.out]; simp; omega), hkw⟩
            · have HY := Lib.hid (right_len (sec := d.sec) (cache := d.cache) (by omega))
              go_wp2
              go_ret
              exact ⟨ret_bool (by rw [← HY.out]; simp; omega), hkw⟩
          · have HY := Lib.hid (right_len (sec := d.sec) (cache := d.cache) (by omega))
            go_wp2
            go_ret
            exact ⟨ret_bool (by rw [← HY.out]), hkw⟩
end Go.Proofs.YtagpimahicgkmaaDoor
