/- Walk: mailsacklaw12.same. -/
import Derived.Test.YtagpimahicgkmaaGreatDoorStN
import Derived.Deep.QuietTactic
import Derived.BigQuiet
namespace Go.Proofs.YtagpimahicgkmaaGreatDoor
open Go.RowKit

set_option maxRecDepth 100000 in
set_option maxHeartbeats 1000000 in
theorem same_any (la lb : List ByteArray) (v u : Value) (w : World) (h : StrsAt [] w v la) (g : StrsAt [] w u lb) :
    Calls Tryz.prog 14 #[v, u] w fun e w' => ∃ b, e = .returned (.bool b) ∧ (la = lb → b = true) ∧ Kept w w' := by
  obtain ⟨A, c, rfl, hl, hm, hr⟩ := h
  obtain ⟨A', c', rfl, hl', hm', hr'⟩ := g
  unfold maxLen at hm hm'
  have HA := Lib.hid hr
  have HB := Lib.hid hr'
  clear hr hr'
  by_cases hlen : la.length = lb.length
  · go_enter Tryz.func14, Tryz.ntmps14
    have t0 := bne_f (show ((la.length : Nat) : Int) = (lb.length : Int) by omega)
    go_wp2_with fail
    go_loopw [13] (fun iv wq => ∃ (k : Nat), k ≤ la.length ∧ iv = .int .i64 k ∧ Kept w wq) (fun iv _ => la.length - (intOf iv).toNat)
    case atStart => exact ⟨0, Nat.zero_le _, rfl, Kept.refl _⟩
    case round =>
      obtain ⟨k, hk, rfl, K⟩ := hrel
      by_cases hlt : k < la.length
      · obtain ⟨b, o, rfl, hb, _, hc⟩ := (HA.out.kept K) (by rw [strs_length]; omega)
        obtain ⟨b1, o1, rfl, hb1, _, hc1⟩ := (HB.out.kept K) (by rw [strs_length]; omega)
        have hlt1 : k < lb.length := by omega
        have g1 : wr.cell? ⟨b, o + k, none⟩ = some (.string la[k]) := hc _ _ (strs_at hlt)
        have g2 : wr.cell? ⟨b1, o1 + k, none⟩ = some (.string lb[k]) := hc1 _ _ (strs_at hlt1)
        have HQ : Hid (la = lb → (la[k].toList == lb[k].toList) = true) := fun e => by subst e; simp
        clear hc hc1
        generalize la[k] = x at *
        generalize lb[k] = y at *
        have i0 : (0 : Int) ≤ (k : Int) := by omega
        have i1 : (k : Int) < (la.length : Int) := by omega
        have i2 : (k : Int) < (lb.length : Int) := by omega
        rcases Bool.eq_false_or_eq_true (x.toList == y.toList) with hq | hq
        · clear HQ
          go_wp2_with fail
          go_quiet (fail)
          go_wp2
          go_roundw
          case rel => exact ⟨k + 1, by omega, by go_num, K.drewN _⟩
          case measure => simp [intOf]; omega
        · have HN : Hid (¬ la = lb) := fun e => by have := HQ.out e; rw [hq] at this; cases this
          clear HQ
          go_wp2_with fail
          go_quiet (fail)
          go_wp2
          go_ret
          exact ⟨false, rfl, fun e => absurd e HN.out, K.drewN _⟩
      · obtain rfl : k = la.length := by omega
        go_wp2
        go_ret
        exact ⟨true, rfl, fun _ => rfl, K⟩
  · have HN : Hid (¬ la = lb) := fun e => hlen (by rw [e])
    have t0 := bne_t (show ((la.length : Nat) : Int) ≠ (lb.length : Int) by omega)
    clear hlen
    go_enter Tryz.func14, Tryz.ntmps14
    go_wp2
    go_ret
    exact ⟨false, rfl, fun e => absurd e HN.out, Kept.refl _⟩
end Go.Proofs.YtagpimahicgkmaaGreatDoor
