/- Walk: index.New; mailsacklaw15.awake. -/
import Derived.Test.YtjinnkbnllnllaaIxEqual
namespace Go.Proofs.Ytjinnkbnllnllaa
open Go.RowKit

def ix1 : Ix := ⟨[⟨inbox, 1, 1, []⟩], [], 2⟩
set_option maxRecDepth 100000 in
set_option maxHeartbeats 1000000 in
theorem new_any (w : World) : Calls Try.prog 29 #[] w fun e w' => ∃ v, e = .returned v ∧ IxAt [] w' v ix1 ∧ Kept w w' := by
  have hlit := inbox_lit
  go_enter Try.func29, Try.ntmps29
  go_wp2
  refine bodyPost_ret (v := .agg #[.slice (some ⟨w.heap.size + 1, 0, none⟩) 1 1, .slice none 0 0, .int .i64 2]) (by simp [results, Try.results29, go_sem]) rfl ?_
  refine ⟨_, rfl, ⟨_, _, rfl, ⟨[(⟨inbox, 1, 1, []⟩, .slice none 0 0)], rfl, ⟨_, _, rfl, Nat.le_refl _, by decide, ?_⟩, fun p hp => ?_⟩, strsAt_nil _ _⟩, ((Kept.refl w).alloc _).alloc _⟩
  · exact (Own.new1 w _ _ [_, _, _, _]).row (by simp)
  · rw [List.mem_singleton.1 hp]; exact mlsAt_nil _ _
theorem ix1_ok : IxOk ix1 := by
  refine ⟨by unfold I64 ix1; simp, fun b hb => ?_, fun s hs => by cases hs⟩
  rw [List.mem_singleton.1 hb]
  exact ⟨by decide, by unfold I64; simp, by unfold I64; simp, fun m hm => by cases hm⟩
theorem app_ix1 : appR ix1 inbox 7 3 0 = (appIx ix1 0 ⟨1, 0, 7, 3⟩, 1, 0) := by
  kernel_rfl
theorem find_ix1 : findX (appIx ix1 0 ⟨1, 0, 7, 3⟩) inbox = some 0 := by kernel_rfl
theorem app1_len : (appIx ix1 0 ⟨1, 0, 7, 3⟩).boxes.length = 1 := rfl
theorem app1_subs : (appIx ix1 0 ⟨1, 0, 7, 3⟩).subs.length = 0 := rfl
theorem app1_given : (appIx ix1 0 ⟨1, 0, 7, 3⟩).given = 2 := rfl
set_option maxRecDepth 100000 in
set_option maxHeartbeats 1000000 in
theorem awake_any (w : World) : Calls Try.prog 10 #[] w fun e w' => e = .returned (.bool true) ∧ Kept w w' := by
  have hlit := inbox_lit
  go_enter Try.func10, Try.ntmps10
  go_wp2_with fail
  refine (new_any w).mono ?_
  rintro e w1 ⟨v1, rfl, hv1, hk1⟩
  obtain ⟨A1, c1, A1', c1', rfl⟩ := hv1.form
  have H1 := Lib.hid hv1
  clear hv1
  go_wp2_with fail
  refine (app_any ix1 _ inbox 7 3 0 w1 H1.out ix1_ok (by unfold I64; simp)).mono ?_
  rintro e w2 ⟨v2, rfl, hv2, hk2⟩
  rw [app_ix1] at hv2 ⊢
  have H2 := Lib.hid hv2
  obtain ⟨A, c, A', c', rfl, hc1, hc2, hc3, hc4, hbx, hrow⟩ := hv2.open_
  obtain ⟨b, o, mv, rfl, hb, _, hbc⟩ := hbx (by decide)
  obtain ⟨g1, g2, g3, g4, gm⟩ := (hbc.go hb ((Kept.refl w2).alloc (.cells #[.slice (some ⟨b, o, none⟩) 1 c, .slice A' 0 c', .int .i64 2] 25)) (Ext.refl _ _)) 0 (by decide)
  obtain ⟨MA, mc, hmv⟩ := gm.form
  rw [hmv] at g4
  replace g3 : (w2.alloc (.cells #[.slice (some ⟨b, o, none⟩) 1 c, .slice A' 0 c', .int .i64 2] 25)).cell? ⟨b, o + 2, none⟩ = some (.int .i64 2) := g3
  replace g4 : (w2.alloc (.cells #[.slice (some ⟨b, o, none⟩) 1 c, .slice A' 0 c', .int .i64 2] 25)).cell? ⟨b, o + 3, none⟩ = some (.slice MA 1 mc) := g4
  clear hbc hbx hrow hv2 gm hmv g1 g2
  have hkw := hk1.trans hk2
  clear hk1 hk2
  simp only [app1_len, app1_subs, app1_given]
  go_wp2_with fail
  refine (find_any (appIx ix1 0 ⟨1, 0, 7, 3⟩) _ inbox _ (H2.out.go ((Kept.refl w2).alloc _) (Ext.refl _ _))).mono ?_
  rw [find_ix1]
  rintro e w3 ⟨rfl, hk3⟩
  have OX := Lib.hid ((Own.new w2 25 [.slice (some ⟨b, o, none⟩) 1 c, .slice A' 0 c', .int .i64 2]).kept hk3)
  obtain ⟨q1, q2, q3, _, _, _⟩ := OX.out.three
  simp only [ofO]
  go_wp2
  go_ret
  exact ⟨rfl, (hkw.alloc _).trans hk3⟩
end Go.Proofs.Ytjinnkbnllnllaa
