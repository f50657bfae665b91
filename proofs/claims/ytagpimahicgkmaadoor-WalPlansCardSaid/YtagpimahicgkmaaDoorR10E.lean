/- Walk: mailsackref10.Error. -/
import Derived.Test.YtagpimahicgkmaaDoorR10S
import Derived.Test.YtagpimahicgkmaaDoorMa
namespace Go.Proofs.YtagpimahicgkmaaDoor
open Go.RowKit

theorem planErr_no1 {d : Dk} {l : List Wr} (h : suitsB d = false ∨ l.length = 0) : planErr d l = 1 := by unfold planErr; rw [if_pos h]
theorem planErr_no2 {d : Dk} {l : List Wr} {k : Nat} (hk : k < l.length) (h : okW d l[k] = false) : planErr d l = 1 := by
  unfold planErr
  split
  · rfl
  · rw [if_pos (all_not (okW d) l k hk h)]
theorem planErr_yes {d : Dk} {l : List Wr} (h1 : suitsB d = true) (h2 : l.length ≠ 0) (h3 : l.all (okW d) = true) : planErr d l = if 30 < l.length then 4 else 0 := by
  unfold planErr
  rw [if_neg (by rw [h1]; simp; intro e; rw [e] at h2; exact h2 rfl), if_neg (by rw [h3]; simp)]
set_option maxRecDepth 100000 in
set_option maxHeartbeats 2000000 in
theorem rerror_any (d : Dk) (l : List Wr) (v u : Value) (w : World) (h : DkAt [] w v d) (hu : WrsAt [] w u l) :
    Calls Tryd.prog 23 #[v, u] w fun e w' => e = .returned (.int .i64 (planErr d l)) ∧ Kept w w' := by
  have HD := Lib.hid h
  have HW := Lib.hid hu
  obtain ⟨_, _, rfl, _, _⟩ := h
  obtain ⟨A0, c0, B0, e0, rfl, rfl⟩ := HD.out.form
  obtain ⟨WA, wc, rfl, hw1, hw2, hwr⟩ := hu
  unfold maxLen at hw2
  have HWR := Lib.hid hwr
  clear hwr
  generalize hn0 : d.sec.length = n0 at *
  generalize hm0 : d.cache.length = m0 at *
  have HN0 := Lib.hid hn0
  clear hn0 hm0
  go_enter Tryd.func23, Tryd.ntmps23
  go_wp2_with fail
  have OD := Lib.hid (Own.newAt w w.heap.size 29 [.slice A0 n0 c0, .slice B0 m0 e0] (by simp))
  have K := ((Kept.refl w).alloc (.cells #[.slice A0 n0 c0, .slice B0 m0 e0] 29))
  generalize (w.alloc (.cells #[.slice A0 n0 c0, .slice B0 m0 e0] 29)) = w1 at *
  obtain ⟨cD0, cD1, fD0, fD1⟩ := OD.out.two
  replace HD := Lib.hid (HD.out.go K (Ext.refl _ _))
  replace HW := Lib.hid (HW.out.go K (Ext.refl _ _))
  refine (rjour_any [] d _ _ HD.out).mono ?_
  rintro e w2 ⟨rfl, hk⟩
  clear cD0 cD1 fD0 fD1
  replace OD := Lib.hid (OD.out.kept hk)
  replace HD := Lib.hid (HD.out.go hk (Ext.refl _ _))
  replace HW := Lib.hid (HW.out.go hk (Ext.refl _ _))
  replace K := K.trans hk
  clear hk
  rcases Bool.eq_false_or_eq_true (suitsB d) with hs | hs
  · skip
    rw [hs]
    by_cases hl0 : l.length = 0
    · have HE : Hid (planErr d l = 1) := planErr_no1 (.inr hl0)
      have t1 : ((l.length : Nat) : Int) = 0 := by omega
      clear hs
      obtain ⟨cD0, cD1, fD0, fD1⟩ := OD.out.two
      go_wp2
      go_ret
      exact ⟨by rw [HE.out]; first | rfl | simp, K⟩
    · have t1 := beq_f (show ((l.length : Nat) : Int) ≠ 0 by omega)
      have HPY := Lib.hid (fun h => planErr_yes (l := l) hs hl0 h)
      have HS1 := Lib.hid hs
      clear hs
      obtain ⟨cD0, cD1, fD0, fD1⟩ := OD.out.two
      go_wp2_with fail
      clear cD0 cD1 fD0 fD1
      go_loopw [5] (fun iv wq => ∃ (k : Nat), k ≤ l.length ∧ iv = .int .i64 k ∧ Hid ((l.take k).all (okW d) = true) ∧ Kept w2 wq) (fun iv _ => l.length - (intOf iv).toNat)
      case atStart => exact ⟨0, Nat.zero_le _, rfl, rfl, Kept.refl _⟩
      case round =>
        obtain ⟨k, hk, rfl, HA, K9⟩ := hrel
        replace OD := Lib.hid (OD.out.kept K9)
        replace K := K.trans K9
        by_cases hlt : k < l.length
        · skip
          obtain ⟨b, o, rfl, hb, _, hcs⟩ := HWR.out (by rw [wrs_length]; omega)
          have hb2 : b < wr.heap.size := Nat.lt_of_lt_of_le hb K.size
          have g1 := (K.cell (p := ⟨b, o + k * 2, none⟩) hb).trans (hcs _ _ (wrs_at hlt).1)
          have g2 := (K.cell (p := ⟨b, o + k * 2 + 1, none⟩) hb).trans (hcs _ _ (wrs_at hlt).2)
          have HNO : Hid (okW d l[k] = false → planErr d l = 1) := fun h => planErr_no2 hlt h
          have HYE : Hid (okW d l[k] = true → (l.take (k + 1)).all (okW d) = true) := fun h => all_take_succ _ _ _ hlt HA.out h
          have HOK : Hid (okW d l[k] = (decide (61 ≤ l[k].at_) && decide (l[k].at_ < d.sec.length) && l[k].data.size == 64)) := rfl
          have hnd := HN0.out
          clear hcs
          generalize l[k] = x at *
          obtain ⟨xa, xd⟩ := x
          simp only at g1 g2 HOK
          have i0 : (0 : Int) ≤ (k : Int) := by omega
          have i1 : (k : Int) < (l.length : Int) := by omega
          by_cases h1 : xa < 61
          · have HE : Hid (planErr d l = 1) := HNO.out (by rw [HOK.out, decide_eq_false (by omega : ¬ 61 ≤ xa)]; rfl)
            clear HNO HYE HOK hnd HA
            obtain ⟨cD0, cD1, fD0, fD1⟩ := OD.out.two
            go_wp2_with fail
            go_quiet (fail)
            go_wp2
            go_ret
            exact ⟨by rw [HE.out]; rfl, K.drewN _⟩
          · have h1' : ¬ xa < 61 := h1
            by_cases h2 : xa ≥ (n0 : Int)
            · have HE : Hid (planErr d l = 1) := HNO.out (by rw [HOK.out, decide_eq_true (by omega : 61 ≤ xa), decide_eq_false (by omega : ¬ xa < (d.sec.length : Int))]; rfl)
              clear HNO HYE HOK hnd HA
              obtain ⟨cD0, cD1, fD0, fD1⟩ := OD.out.two
              go_wp2_with fail
              go_quiet (fail)
              go_wp2
              go_ret
              exact ⟨by rw [HE.out]; rfl, K.drewN _⟩
            · by_cases h3 : xd.size = 64
              · have HA2 := Lib.hid (HYE.out (by rw [HOK.out, decide_eq_true (by omega : 61 ≤ xa), decide_eq_true (by omega : xa < (d.sec.length : Int)), h3]; rfl))
                have t3 := bne_f (show ((xd.size : Nat) : Int) = 64 by omega)
                clear HNO HYE HOK hnd HA
                obtain ⟨cD0, cD1, fD0, fD1⟩ := OD.out.two
                go_wp2_with fail
                go_quiet (fail)
                go_wp2
                go_roundw
                case rel => exact ⟨k + 1, by omega, by go_num, HA2, K9.drewN _⟩
                case measure => simp [intOf]; omega
              · have HE : Hid (planErr d l = 1) := HNO.out (by rw [HOK.out, decide_eq_true (by omega : 61 ≤ xa), decide_eq_true (by omega : xa < (d.sec.length : Int))]; simpa using h3)
                have t3 := bne_t (show ((xd.size : Nat) : Int) ≠ 64 by omega)
                clear HNO HYE HOK hnd HA
                obtain ⟨cD0, cD1, fD0, fD1⟩ := OD.out.two
                go_wp2_with fail
                go_quiet (fail)
                go_wp2
                go_ret
                exact ⟨by rw [HE.out]; rfl, K.drewN _⟩
        · have HPE := Lib.hid (HPY.out (all_of_take _ _ k (by omega) HA.out))
          clear HPY HA
          by_cases h30 : 30 < l.length
          · have t3 : (l.length : Int) > 30 := by omega
            rw [if_pos h30] at HPE
            clear h30
            go_wp2
            go_ret
            exact ⟨by rw [HPE.out]; rfl, K⟩
          · have t3 : ¬ (l.length : Int) > 30 := by omega
            rw [if_neg h30] at HPE
            clear h30
            go_wp2
            go_ret
            exact ⟨by rw [HPE.out]; rfl, K⟩
  · rw [hs]
    have HE : Hid (planErr d l = 1) := planErr_no1 (.inl hs)
    clear hs
    obtain ⟨cD0, cD1, fD0, fD1⟩ := OD.out.two
    go_wp2
    go_ret
    exact ⟨by rw [HE.out]; first | rfl | simp, K⟩
end Go.Proofs.YtagpimahicgkmaaDoor
