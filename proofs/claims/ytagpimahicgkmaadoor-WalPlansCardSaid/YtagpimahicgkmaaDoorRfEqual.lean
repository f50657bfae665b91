/- Walk: mailsackref09.Equal, of two disks that read alike. -/
import Derived.Test.YtagpimahicgkmaaDoorMa
import Derived.Deep.QuietTactic
import Derived.BigQuiet
namespace Go.Proofs.YtagpimahicgkmaaDoor
open Go.RowKit

set_option maxRecDepth 100000 in
set_option maxHeartbeats 400000 in
theorem equal_any (V U : List Nat) (d : Dk) (v u : Value) (w : World) (h : DkAt V w v d) (g : DkAt U w u d) :
    Calls Tryd.prog 20 #[v, u] w fun e w' => e = .returned (.bool true) ∧ Kept w w' := by
  obtain ⟨_, _, rfl, ⟨A, c, rfl, hl, hm, hr⟩, ⟨A', c', rfl, hl', hm', hr'⟩⟩ := h
  obtain ⟨_, _, rfl, ⟨B, e, rfl, gl, gm, gr⟩, ⟨B', e', rfl, gl', gm', gr'⟩⟩ := g
  unfold maxLen at hm hm' gm gm'
  have HA := Lib.hid hr
  have HC := Lib.hid hr'
  have GA := Lib.hid gr
  have GC := Lib.hid gr'
  clear hr hr' gr gr'
  generalize hn : d.sec.length = n at *
  generalize hn' : d.cache.length = n' at *
  have HN := Lib.hid hn
  have HN' := Lib.hid hn'
  clear hn hn'
  go_enter Tryd.func20, Tryd.ntmps20
  go_wp2
  go_loopw [5] (fun i wr => ∃ k : Nat, k ≤ n ∧ i = .int .i64 k ∧ ∃ q, wr = ((w.alloc (Obj.cells #[Value.slice A n c, Value.slice A' n' c'] 29)).alloc (Obj.cells #[Value.slice B n e, Value.slice B' n' e'] 29)).drewN q) (fun i _ => n - (intOf i).toNat)
  case atStart => exact ⟨0, Nat.zero_le _, rfl, 0, rfl⟩
  case round =>
    obtain ⟨k, hk, rfl, q, rfl⟩ := hrel
    by_cases hlt : k < n
    · have hlt' : k < d.sec.length := by rw [HN.out]; exact hlt
      obtain ⟨b, o, rfl, hb, _, hc⟩ := HA.out (by rw [strs_length]; omega)
      obtain ⟨b1, o1, rfl, hb1, _, hc1⟩ := GA.out (by rw [strs_length]; omega)
      have g1 : w.cell? ⟨b, o + k, none⟩ = some (.string d.sec[k]) := hc _ _ (strs_at hlt')
      have g2 : w.cell? ⟨b1, o1 + k, none⟩ = some (.string d.sec[k]) := hc1 _ _ (strs_at hlt')
      clear hc hc1
      generalize d.sec[k] = s at *
      have i0 : (0 : Int) ≤ (k : Int) := by omega
      have i1 : (k : Int) < (n : Int) := by omega
      go_wp2_with fail
      go_quiet (fail)
      go_wp2
      go_roundw
      case rel => exact ⟨k + 1, by omega, by go_num, _, rfl⟩
      case measure => simp [intOf]; omega
    · go_wp2_with fail
      go_loopw [6] (fun i wr => ∃ k : Nat, k ≤ n' ∧ i = .int .i64 k ∧ ∃ q, wr = ((w.alloc (Obj.cells #[Value.slice A n c, Value.slice A' n' c'] 29)).alloc (Obj.cells #[Value.slice B n e, Value.slice B' n' e'] 29)).drewN q) (fun i _ => n' - (intOf i).toNat)
      case atStart => exact ⟨0, Nat.zero_le _, rfl, _, rfl⟩
      case round =>
        obtain ⟨j, hj, rfl, q, rfl⟩ := hrel
        by_cases hltj : j < n'
        · have hlt' : j < d.cache.length := by rw [HN'.out]; exact hltj
          obtain ⟨b, o, rfl, hb, _, hc⟩ := HC.out (by rw [wrs_length]; omega)
          obtain ⟨b1, o1, rfl, hb1, _, hc1⟩ := GC.out (by rw [wrs_length]; omega)
          have g1 : w.cell? ⟨b, o + j * 2, none⟩ = some (.int .i64 d.cache[j].at_) := hc _ _ (wrs_at hlt').1
          have g2 : w.cell? ⟨b, o + j * 2 + 1, none⟩ = some (.string d.cache[j].data) := hc _ _ (wrs_at hlt').2
          have g3 : w.cell? ⟨b1, o1 + j * 2, none⟩ = some (.int .i64 d.cache[j].at_) := hc1 _ _ (wrs_at hlt').1
          have g4 : w.cell? ⟨b1, o1 + j * 2 + 1, none⟩ = some (.string d.cache[j].data) := hc1 _ _ (wrs_at hlt').2
          clear hc hc1
          generalize d.cache[j] = x at *
          have i0 : (0 : Int) ≤ (j : Int) := by omega
          have i1 : (j : Int) < (n' : Int) := by omega
          go_wp2_with fail
          go_quiet (fail)
          go_wp2
          go_roundw
          case rel => exact ⟨j + 1, by omega, by go_num, _, rfl⟩
          case measure => simp [intOf]; omega
        · go_wp2
          go_ret
          exact ⟨rfl, (((Kept.refl w).alloc _).alloc _).drewN _⟩
end Go.Proofs.YtagpimahicgkmaaDoor
