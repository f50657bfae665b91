/- Walk: mailsackref15.Small. -/
import Derived.Test.YtjinnkbnllnllaaIxRef
namespace Go.Proofs.Ytjinnkbnllnllaa
open Go.RowKit

def smSub (x : Ix) (i : Nat) : Bool := decide ((subAt x i).size ≤ 100)
def smBox (x : Ix) (i : Nat) : Bool := decide ((bxAt x i).name.size ≤ 100) && decide ((bxAt x i).mails.length ≤ 50)
def smallB (x : Ix) : Bool := decide (x.boxes.length ≤ 10) && decide (x.subs.length ≤ 10) && allTo (smSub x) x.subs.length && allTo (smBox x) x.boxes.length
def SmallPost (x : Ix) (w : World) (e : Ending) (w' : World) : Prop := e = .returned (.bool (smallB x)) ∧ Kept w w'

set_option maxRecDepth 100000 in
set_option maxHeartbeats 2000000 in
theorem small_any (x : Ix) (v : Value) (w : World) (h : IxAt [] w v x) :
    Calls Try.prog 8 #[v] w (SmallPost x w) := by
  obtain ⟨A, c, A', c', rfl, hc1, hc2, hc3, hc4, hbx, hrow⟩ := h.open_
  have HBX := Lib.hid hbx
  have HROW := Lib.hid hrow
  clear hbx hrow h
  unfold maxLen at hc2 hc4
  by_cases hlen : x.boxes.length ≤ 10 ∧ x.subs.length ≤ 10
  · obtain ⟨hl1, hl2⟩ := hlen
    have HE : Hid (smallB x = (allTo (smSub x) x.subs.length && allTo (smBox x) x.boxes.length)) := by show _ = _; simp [smallB, hl1, hl2]
    generalize hn : x.boxes.length = n at *
    generalize hm : x.subs.length = m at *
    have HN := Lib.hid hn
    have HM := Lib.hid hm
    clear hn hm
    go_enter Try.func8, Try.ntmps8
    go_wp2
    go_loopw [20] (fun iv wr => ∃ k : Nat, k ≤ m ∧ iv = .int .i64 k ∧ Hid (∀ j, j < k → smSub x j = true) ∧ wr = w.alloc (.cells #[.slice A n c, .slice A' m c', .int .i64 x.given] 29)) (fun iv _ => m - (intOf iv).toNat)
    case atStart => exact ⟨0, Nat.zero_le _, rfl, fun j hj => by omega, rfl⟩
    case round =>
      obtain ⟨k, hk, rfl, HA, rfl⟩ := hrel
      by_cases hlt : k < m
      · have hk' : k < x.subs.length := by rw [HM.out]; exact hlt
        obtain ⟨b, o, rfl, hb, _, hc⟩ := HROW.out (by rw [strs_length]; omega)
        have g1 : (w.alloc (.cells #[.slice A n c, .slice (some ⟨b, o, none⟩) m c', .int .i64 x.given] 29)).cell? ⟨b, o + k, none⟩ = some (.string x.subs[k]) := by
          rw [World.cell?_alloc_lt _ _ _ hb]; exact hc _ _ (strs_at hk')
        have HS : Hid (smSub x k = decide (x.subs[k].size ≤ 100)) := by show _ = _; unfold smSub; rw [subAt_lt hk']
        clear hc
        generalize x.subs[k] = s at *
        by_cases hq : s.size ≤ 100
        · go_wp2
          go_roundw
          case rel =>
            refine ⟨k + 1, by omega, by go_num, fun j hj => ?_, trivial⟩
            by_cases e : j = k
            · subst e; rw [HS.out]; simpa using hq
            · exact HA.out j (by omega)
          case measure => simp [intOf]; omega
        · have hq' : (100 : Int) < (s.size : Int) := by omega
          go_wp2
          go_ret
          exact ⟨ret_bool (by rw [HE.out, allTo_no hlt (by rw [HS.out]; simpa using hq)]; rfl), (Kept.refl w).alloc _⟩
      · obtain rfl : k = m := by omega
        go_wp2
        go_loopw [31] (fun iv wr => ∃ i : Nat, i ≤ n ∧ iv = .int .i64 i ∧ Hid (∀ j, j < i → smBox x j = true) ∧ Kept w wr) (fun iv _ => n - (intOf iv).toNat)
        case atStart => exact ⟨0, Nat.zero_le _, rfl, fun j hj => by omega, (Kept.refl w).alloc _⟩
        case round =>
          obtain ⟨i, hi, rfl, HB, hkw⟩ := hrel
          by_cases hlt : i < n
          · obtain ⟨b, o, mv, rfl, hb, _, hbc⟩ := HBX.out (by omega)
            have hk' : i < x.boxes.length := by rw [HN.out]; exact hlt
            obtain ⟨g1, g2, g3, g4, gm⟩ := hbc.go hb hkw (Ext.refl _ _) i hk'
            obtain ⟨MA, mc, hmv⟩ := gm.form
            rw [hmv] at g4
            have HS : Hid (smBox x i = (decide (x.boxes[i].name.size ≤ 100) && decide (x.boxes[i].mails.length ≤ 50))) := by show _ = _; unfold smBox; rw [bxAt_lt hk']
            clear hbc gm hmv
            generalize x.boxes[i] = B at *
            by_cases hq : B.name.size ≤ 100 ∧ B.mails.length ≤ 50
            · obtain ⟨hq1, hq2⟩ := hq
              go_wp2
              go_roundw
              case rel =>
                refine ⟨i + 1, by omega, by go_num, fun j hj => ?_, hkw.alloc _⟩
                by_cases e : j = i
                · subst e; rw [HS.out]; simp [hq1, hq2]
                · exact HB.out j (by omega)
              case measure => simp [intOf]; omega
            · have HNO : Hid (false = smallB x) := by
                show _ = _
                rw [HE.out, allTo_no hlt (by rw [HS.out]; simp; omega), Bool.and_false]
              by_cases hq1 : B.name.size ≤ 100
              · have hq2 : (50 : Int) < (B.mails.length : Int) := by omega
                go_wp2
                go_ret
                exact ⟨ret_bool HNO.out, hkw.alloc _⟩
              · have hq2 : (100 : Int) < (B.name.size : Int) := by omega
                go_wp2
                go_ret
                exact ⟨ret_bool HNO.out, hkw.alloc _⟩
          · obtain rfl : i = n := by omega
            go_wp2
            go_ret
            exact ⟨ret_bool (by rw [HE.out, allTo_iff.2 HA.out, allTo_iff.2 HB.out]; rfl), hkw⟩
  · have HE : Hid (false = smallB x) := by
      show _ = _
      unfold smallB
      have : (decide (x.boxes.length ≤ 10) && decide (x.subs.length ≤ 10)) = false := by simp; omega
      rw [this]; rfl
    go_enter Try.func8, Try.ntmps8
    by_cases h1 : x.boxes.length ≤ 10
    · have h2 : (10 : Int) < (x.subs.length : Int) := by omega
      go_wp2
      go_ret
      exact ⟨ret_bool HE.out, (Kept.refl w).alloc _⟩
    · have h2 : (10 : Int) < (x.boxes.length : Int) := by omega
      go_wp2
      go_ret
      exact ⟨ret_bool HE.out, (Kept.refl w).alloc _⟩
end Go.Proofs.Ytjinnkbnllnllaa
