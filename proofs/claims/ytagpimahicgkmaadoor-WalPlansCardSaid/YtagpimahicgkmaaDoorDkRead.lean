/- Walk: disk.Read. -/
import Derived.Test.YtagpimahicgkmaaDoorMa
namespace Go.Proofs.YtagpimahicgkmaaDoor
open Go.RowKit

set_option maxHeartbeats 400000 in
theorem read_any (V : List Nat) (d : Dk) (at_ : Int) (v : Value) (w : World) (h : DkAt V w v d) (hat : at_ ≤ 9223372036854775807) :
    Calls Tryd.prog 26 #[v, .int .i64 at_] w fun e w' => e = .returned (.tuple #[.string (readR d at_).1, .int .i64 (readR d at_).2]) ∧ Kept w w' := by
  have H := Lib.hid h
  obtain ⟨s, c, rfl, ⟨A, k0, rfl, hl, hm, hs⟩, ⟨A', k1, rfl, hl', hm', hc⟩⟩ := h
  unfold maxLen at hm hm'
  have HS := Lib.hid hs
  have HC := Lib.hid hc
  clear hs hc
  rcases Bool.eq_false_or_eq_true (rightB d) with hr | hr
  · by_cases h0 : 0 ≤ at_
    · by_cases h1 : at_ < d.sec.length
      · obtain ⟨n, rfl⟩ := Int.eq_ofNat_of_zero_le h0
        obtain ⟨b, o, rfl, hb, _, hc⟩ := HS.out (by rw [strs_length]; omega)
        have g0 := hc n _ (strs_at (by omega))
        have HR : Hid (readR d n = (readTo n (d.sec[n]'(by omega)) d.cache, 0)) := by
          show _ = _
          simp [readR, hr, h1, readD, List.getElem?_eq_getElem (show n < d.sec.length by omega)]
        generalize hsn : d.sec[n]'(by omega) = sn at *
        clear hsn hc HS
        go_enter Tryd.func26, Tryd.ntmps26
        go_wp2_with fail
        refine (right_any V d _ _ (H.out.go ((Kept.refl w).alloc _) (Ext.refl _ _))).mono ?_
        rintro e w1 ⟨rfl, hk1⟩
        obtain ⟨q1, q2, _, _⟩ := ((Own.new w _ [Value.slice (some ⟨b, o, none⟩) d.sec.length k0, Value.slice A' d.cache.length k1]).kept hk1).two
        have hkw1 : Kept w w1 := ((Kept.refl w).alloc _).trans hk1
        have g1 := (hkw1.cell (p := ⟨b, o + n, none⟩) hb).trans g0
        clear hk1
        go_wp2_with fail
        go_loop [6] (fun i => ∃ k : Nat, k ≤ d.cache.length ∧ i = .int .i64 ((k : Int) - 1) ∧ Hid (∀ x ∈ d.cache.drop k, x.at_ ≠ (n : Int))) (fun i => (intOf i + 1).toNat)
        case atStart => exact ⟨d.cache.length, Nat.le_refl _, rfl, fun x hx => by rw [List.drop_length] at hx; cases hx⟩
        case round =>
          obtain ⟨k, hk, rfl, HN⟩ := hrel
          by_cases hlt : 0 < k
          · obtain ⟨m, rfl⟩ : ∃ m, k = m + 1 := ⟨k - 1, by omega⟩
            have hml : m < d.cache.length := by omega
            obtain ⟨b', o', rfl, hb', _, hc'⟩ := HC.out.kept hkw1 (by rw [wrs_length]; omega)
            have g2 : w1.cell? ⟨b', o' + m * 2, none⟩ = some (.int .i64 d.cache[m].at_) := hc' _ _ (wrs_at hml).1
            have g3 : w1.cell? ⟨b', o' + m * 2 + 1, none⟩ = some (.string d.cache[m].data) := hc' _ _ (wrs_at hml).2
            have e1 : ((m + 1 : Nat) : Int) - 1 = (m : Int) := by omega
            rw [e1]
            clear e1 hc'
            by_cases hq : d.cache[m].at_ = (n : Int)
            · have HY := Lib.hid (readTo_hit hml hq HN.out sn)
              rw [hq] at g2
              generalize d.cache[m].data = y at *
              clear hq
              go_wp2
              go_ret2
              exact ⟨by rw [HR.out, HY.out]; rfl, hkw1⟩
            · have t1 := beq_f hq
              have HN' : Hid (∀ x ∈ d.cache.drop m, x.at_ ≠ (n : Int)) := by
                intro x hx
                rw [List.drop_eq_getElem_cons hml] at hx
                rcases List.mem_cons.1 hx with rfl | hx
                · exact hq
                · exact HN.out x hx
              generalize d.cache[m].at_ = z at *
              clear hq
              go_wp2
              go_round
              case rel => exact ⟨m, by omega, rfl, HN'⟩
              case measure => simp [intOf]
          · obtain rfl : k = 0 := by omega
            have HY := Lib.hid (readTo_none (l := d.cache) (by simpa using HN.out) sn)
            go_wp2
            go_ret2
            exact ⟨by rw [HR.out, HY.out]; rfl, hkw1⟩
      · have HR : Hid (readR d at_ = (.empty, 1)) := by show _ = _; simp [readR, h1]
        go_enter Tryd.func26, Tryd.ntmps26
        go_wp2_with fail
        refine (right_any V d _ _ (H.out.go ((Kept.refl w).alloc _) (Ext.refl _ _))).mono ?_
        rintro e w1 ⟨rfl, hk1⟩
        obtain ⟨q1, q2, _, _⟩ := ((Own.new w _ [Value.slice A d.sec.length k0, Value.slice A' d.cache.length k1]).kept hk1).two
        go_wp2
        go_ret2
        exact ⟨by rw [HR.out]; rfl, ((Kept.refl w).alloc _).trans hk1⟩
    · have HR : Hid (readR d at_ = (.empty, 1)) := by show _ = _; simp [readR, h0]
      go_enter Tryd.func26, Tryd.ntmps26
      go_wp2_with fail
      refine (right_any V d _ _ (H.out.go ((Kept.refl w).alloc _) (Ext.refl _ _))).mono ?_
      rintro e w1 ⟨rfl, hk1⟩
      obtain ⟨q1, q2, _, _⟩ := ((Own.new w _ [Value.slice A d.sec.length k0, Value.slice A' d.cache.length k1]).kept hk1).two
      go_wp2
      go_ret2
      exact ⟨by rw [HR.out]; rfl, ((Kept.refl w).alloc _).trans hk1⟩
  · have HR : Hid (readR d at_ = (.empty, 1)) := by show _ = _; simp [readR, hr]
    go_enter Tryd.func26, Tryd.ntmps26
    go_wp2_with fail
    refine (right_any V d _ _ (H.out.go ((Kept.refl w).alloc _) (Ext.refl _ _))).mono ?_
    rintro e w1 ⟨rfl, hk1⟩
    go_wp2
    go_ret2
    exact ⟨by rw [HR.out]; rfl, ((Kept.refl w).alloc _).trans hk1⟩
end Go.Proofs.YtagpimahicgkmaaDoor
