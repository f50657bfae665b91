/- Walk: mailsackref15.Right, whole. -/
import Derived.Test.YtjinnkbnllnllaaRxRight
namespace Go.Proofs.Ytjinnkbnllnllaa
open Go.RowKit

set_option maxRecDepth 100000 in
set_option maxHeartbeats 1000000 in
theorem rright_any (x : Ix) (v : Value) (w : World) (h : IxAt [] w v x) (hok : IxOk x) (hsm : ∀ k, k < x.boxes.length → (bxAt x k).mails.length ≤ 50) :
    Calls Try.prog 41 #[v] w (RightPost x w) := by
  obtain ⟨A, c, A', c', rfl, hc1, hc2, hc3, hc4, hbx, hrow⟩ := h.open_
  by_cases h1 : 1 ≤ x.boxes.length ∧ x.boxes.length ≤ 6
  · obtain ⟨h1, h2⟩ := h1
    have H1 : Hid (inB (x.boxes.length : Int) 1 6 = true) := by show _ = _; unfold inB; rw [decide_eq_true (by omega), decide_eq_true (by omega)]; rfl
    obtain ⟨b, o, mv, rfl, hb, _, hbc⟩ := hbx h1
    have g0 := (hbc 0 h1).1
    simp only [Nat.zero_mul, Nat.add_zero] at g0
    have hlit := inbox_lit
    by_cases h4 : x.subs.length ≤ 6
    · rcases Bool.eq_false_or_eq_true (nmEq (bxAt x 0).name inbox) with h3 | h3
      · rcases Bool.eq_false_or_eq_true (posB x.given) with h5 | h5
        · exact rright_main x A' b o c c' mv w hok hc1 hc2 hc3 hc4 hb hbc hrow hsm h1 h2 h3 h4 h5
        · have HE := Lib.hid (rightB_no4 h5)
          have H5 : Hid (inB x.given 1 4294967295 = false) := h5
          have h3' : (x.boxes[0].name.toList == inbox.toList) = true := by rw [bxAt_lt h1] at h3; exact h3
          unfold maxLen at hc2 hc4
          clear hbc hrow hbx h h3 h5 hok hsm
          generalize x.boxes[0].name = nm at *
          generalize x.boxes.length = n at *
          generalize x.subs.length = m at *
          go_enter Try.func41, Try.ntmps41
          go_wp2_with fail
          refine (in_any _ _ _ _).mono ?_
          rw [H1.out]
          rintro e w1 ⟨rfl, rfl⟩
          go_wp2_with fail
          refine (in_any _ _ _ _).mono ?_
          rw [H5.out]
          rintro e w1 ⟨rfl, rfl⟩
          go_wp2
          go_ret
          exact ⟨ret_bool HE.out.symm, (Kept.refl w).alloc _⟩
      · have HE := Lib.hid (rightB_no2 h3)
        have h3' : (x.boxes[0].name.toList == inbox.toList) = false := by rw [bxAt_lt h1] at h3; exact h3
        unfold maxLen at hc2 hc4
        clear hbc hrow hbx h h3 hok hsm
        generalize x.boxes[0].name = nm at *
        generalize x.boxes.length = n at *
        generalize x.subs.length = m at *
        go_enter Try.func41, Try.ntmps41
        go_wp2_with fail
        refine (in_any _ _ _ _).mono ?_
        rw [H1.out]
        rintro e w1 ⟨rfl, rfl⟩
        go_wp2
        go_ret
        exact ⟨ret_bool HE.out.symm, (Kept.refl w).alloc _⟩
    · have HE := Lib.hid (rightB_no3 h4)
      have h4' : 6 < x.subs.length := by omega
      unfold maxLen at hc2 hc4
      clear hbc hrow hbx h hok hsm g0
      generalize x.boxes.length = n at *
      generalize x.subs.length = m at *
      go_enter Try.func41, Try.ntmps41
      go_wp2_with fail
      refine (in_any _ _ _ _).mono ?_
      rw [H1.out]
      rintro e w1 ⟨rfl, rfl⟩
      go_wp2
      go_ret
      exact ⟨ret_bool HE.out.symm, (Kept.refl w).alloc _⟩
  · have HE := Lib.hid (rightB_no1 h1)
    have H1 : Hid (inB (x.boxes.length : Int) 1 6 = false) := by
      show _ = _; unfold inB
      rcases Nat.lt_or_ge x.boxes.length 1 with h | h
      · rw [decide_eq_false (by omega)]; rfl
      · rw [decide_eq_false (p := (x.boxes.length : Int) ≤ 6) (by omega), Bool.and_false]
    unfold maxLen at hc2 hc4
    clear hrow hbx h hok hsm h1
    generalize x.boxes.length = n at *
    generalize x.subs.length = m at *
    go_enter Try.func41, Try.ntmps41
    go_wp2_with fail
    refine (in_any _ _ _ _).mono ?_
    rw [H1.out]
    rintro e w1 ⟨rfl, rfl⟩
    go_wp2
    go_ret
    exact ⟨ret_bool HE.out.symm, (Kept.refl w).alloc _⟩
end Go.Proofs.Ytjinnkbnllnllaa
