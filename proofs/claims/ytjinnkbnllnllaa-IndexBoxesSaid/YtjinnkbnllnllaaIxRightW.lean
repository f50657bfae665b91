/- Walk: index.Right. -/
import Derived.Test.YtjinnkbnllnllaaIxRight
import Derived.IntWalk
namespace Go.Proofs.Ytjinnkbnllnllaa
open Go.RowKit

theorem IxAt.open_ {V : List Nat} {w : World} {v : Value} {x : Ix} (h : IxAt V w v x) : ∃ A c A' c', v = .agg #[.slice A x.boxes.length c, .slice A' x.subs.length c', .int .i64 x.given] ∧ x.boxes.length ≤ c ∧ c ≤ maxLen ∧ x.subs.length ≤ c' ∧ c' ≤ maxLen ∧
    (0 < x.boxes.length → ∃ b o mv, A = some ⟨b, o, none⟩ ∧ b < w.heap.size ∧ b ∉ V ∧ Bc V w b o x.boxes mv) ∧ Row V w A' (strs x.subs) := by
  obtain ⟨b, s, rfl, h1, A', c', rfl, h3, h4, h5⟩ := h
  obtain ⟨A, c, rfl, h6, h7, h8⟩ := h1.open_
  exact ⟨A, c, A', c', rfl, h6, h7, h3, h4, h8, h5⟩

theorem rightB_no1 {x : Ix} (h : ¬ (1 ≤ x.boxes.length ∧ x.boxes.length ≤ 6)) : rightB x = false := by
  unfold rightB
  have : (decide (1 ≤ x.boxes.length) && decide (x.boxes.length ≤ 6)) = false := by simp; omega
  rw [this]; rfl
theorem rightB_split {x : Ix} (h1 : 1 ≤ x.boxes.length) (h2 : x.boxes.length ≤ 6) : rightB x = (nmEq (bxAt x 0).name inbox && decide (x.subs.length ≤ 6) && posB x.given && allTo (stepB x) x.boxes.length && allTo (subB x) x.subs.length && decide (totTo x x.boxes.length ≤ 30)) := by
  simp [rightB, h1, h2]

def RightPost (x : Ix) (w : World) (e : Ending) (w' : World) : Prop := e = .returned (.bool (rightB x)) ∧ Kept w w'

set_option maxRecDepth 100000 in
set_option maxHeartbeats 2000000 in
theorem right_main (x : Ix) (A' : Option Addr) (b o c c' : Nat) (mv : Nat → Value) (w : World) (hok : IxOk x) (hc1 : x.boxes.length ≤ c) (hc2 : c ≤ maxLen) (hc3 : x.subs.length ≤ c') (hc4 : c' ≤ maxLen) (hb : b < w.heap.size) (hbc : Bc [] w b o x.boxes mv) (hrow : Row [] w A' (strs x.subs))
    (h1 : 1 ≤ x.boxes.length) (h2 : x.boxes.length ≤ 6) (h3 : nmEq (bxAt x 0).name inbox = true) (h4 : x.subs.length ≤ 6) (h5 : posB x.given = true) :
    Calls Try.prog 31 #[.agg #[.slice (some ⟨b, o, none⟩) x.boxes.length c, .slice A' x.subs.length c', .int .i64 x.given]] w (RightPost x w) := by
  have HE : Hid (rightB x = (allTo (stepB x) x.boxes.length && allTo (subB x) x.subs.length && decide (totTo x x.boxes.length ≤ 30))) := by show _ = _; rw [rightB_split h1 h2, h3, h5]; simp [h4]
  have HBC := Lib.hid hbc
  have HROW := Lib.hid hrow
  obtain ⟨⟨hg1, hg2⟩, hob, hos⟩ := hok
  have HOB := Lib.hid hob
  have HOS := Lib.hid hos
  have g0 := (hbc 0 h1).1
  simp only [Nat.zero_mul, Nat.add_zero] at g0
  have h3' : (x.boxes[0].name.toList == inbox.toList) = true := by rw [bxAt_lt h1] at h3; exact h3
  have H5 := Lib.hid h5
  have hlit := inbox_lit
  unfold maxLen at hc2 hc4
  clear hbc hrow h3 h5 hob hos
  generalize x.boxes[0].name = nm0 at *
  generalize hn : x.boxes.length = n at *
  generalize hm : x.subs.length = m at *
  have HN := Lib.hid hn
  have HM := Lib.hid hm
  clear hn hm
  go_enter Try.func31, Try.ntmps31
  go_wp2_with fail
  refine (pos_any _ _ hg2 hg1).mono ?_
  rw [H5.out]
  rintro e w1 ⟨rfl, rfl⟩
  clear g0 h3'
  go_wp2_with fail
  go_loopw [3, 39] (fun tv iv wr => ∃ k t : Nat, k ≤ n ∧ iv = .int .i64 k ∧ tv = .int .i64 t ∧ Hid (t = totTo x k) ∧ Hid (∀ j, j < k → stepB x j = true) ∧ Own wr w.heap.size 25 [.slice (some ⟨b, o, none⟩) n c, .slice A' m c', .int .i64 x.given] ∧ Kept w wr) (fun _ iv _ => n - (intOf iv).toNat)
  case atStart => exact ⟨0, 0, Nat.zero_le _, rfl, rfl, rfl, fun j hj => by omega, Own.new w _ [_, _, _], (Kept.refl w).alloc _⟩
  case round =>
    obtain ⟨k, t, hk, rfl, rfl, HT, HS, ho, hkw⟩ := hrel
    have HO := Lib.hid ho
    obtain ⟨q1, q2, q3, _, _, _⟩ := ho.three
    have hz := ho.lt
    have hzw := hkw.size
    have ht30 := totTo_le k HS.out
    rw [← HT.out] at ht30
    by_cases hlt : k < n
    · have hk' : k < x.boxes.length := by rw [HN.out]; exact hlt
      obtain ⟨g1, g2, g3, g4, gm⟩ := HBC.out.go hb hkw (Ext.refl _ _) k hk'
      have hbok := HOB.out x.boxes[k] (List.getElem_mem hk')
      have HBOK := Lib.hid hbok
      have HAT := Lib.hid (bxAt_lt hk')
      obtain ⟨MA, mc, hmv⟩ := gm.form
      have HST : Hid (stepB x k = (boxB x.boxes[k] && decide (x.boxes[k].val < x.given) && !(decide (0 < k) && nmEq x.boxes[k].name inbox) && !(decide (1 < k) && nmLe x.boxes[k].name (bxAt x (k - 1)).name))) := by
        show _ = _; simp only [stepB, bxAt_lt hk']
      have HNO : Hid (stepB x k = false → false = rightB x) := fun h => by rw [HE.out, allTo_no hlt h]; rfl
      have HPREV : Hid (1 ≤ k → ∀ W', Kept w W' → W'.cell? ⟨b, o + (k - 1) * 4, none⟩ = some (.string (bxAt x (k - 1)).name)) := fun h1 W' hk2 => by
        have hj : k - 1 < x.boxes.length := by omega
        rw [bxAt_lt hj]
        exact (HBC.out.go hb hk2 (Ext.refl _ _) (k - 1) hj).1
      rw [hmv] at g4 gm
      have HGM := Lib.hid gm
      clear ho gm hbok hmv
      generalize x.boxes[k] = B at *
      have hml : B.mails.length ≤ mc ∧ mc ≤ maxLen := by
        obtain ⟨_, _, e, e1, e2, _⟩ := HGM.out
        cases e; exact ⟨e1, e2⟩
      obtain ⟨hml1, hml2⟩ := hml
      unfold maxLen at hml2
      go_wp2_with fail
      refine (box_any [] B _ _ (HGM.out.go ((Kept.refl wr).alloc _) (Ext.refl _ _)) HBOK.out).mono ?_
      rintro e w1 ⟨rfl, hk1⟩
      have OB := Lib.hid ((Own.new wr 40 [.string B.name, .int .i64 B.val, .int .i64 B.next, .slice MA B.mails.length mc]).kept hk1)
      have OI := Lib.hid ((HO.out.alloc (.cells #[.string B.name, .int .i64 B.val, .int .i64 B.next, .slice MA B.mails.length mc] 40)).kept hk1)
      have hkw1 := (hkw.alloc (.cells #[.string B.name, .int .i64 B.val, .int .i64 B.next, .slice MA B.mails.length mc] 40)).trans hk1
      have hz1 : w.heap.size < w1.heap.size := OI.out.lt
      have hz2 : wr.heap.size < w1.heap.size := OB.out.lt
      clear g1 g2 g3 g4 q1 q2 q3 hk1
      obtain ⟨q1, q2, q3, q4⟩ := OB.out.four
      obtain ⟨q5, q6, q7, _, _, _⟩ := OI.out.three
      obtain ⟨pb, hpb⟩ : ∃ p, boxB B = p := ⟨_, rfl⟩
      rw [hpb]
      rw [hpb] at HST
      have HPB := Lib.hid hpb
      clear hpb
      cases pb with
      | false =>
        go_wp2
        go_ret
        exact ⟨ret_bool (HNO.out (by rw [HST.out]; rfl)), hkw1⟩
      | true =>
        have hbm : B.mails.length ≤ 30 := by
          have := HPB.out
          simp only [boxB, Bool.and_eq_true, decide_eq_true_eq] at this
          exact this.1.2
        by_cases hv : B.val < x.given
        · rcases Nat.eq_zero_or_pos k with hk0 | hk0
          · subst hk0
            go_wp2_with fail
            go_quiet (fail)
            go_wp2
            go_roundw
            case rel =>
              refine ⟨0 + 1, t + B.mails.length, by omega, by go_num, by go_num, by show _ = _; rw [totTo, HT.out, HAT.out], fun j hj => ?_, OI.out.drewN _, hkw1.drewN _⟩
              by_cases e : j = 0
              · subst e; rw [HST.out]; simp [hv]
              · exact HS.out j (by omega)
            case measure => simp [intOf]; omega
          · have k0 : (0 : Int) < (k : Int) := by omega
            obtain ⟨pe, hpe⟩ : ∃ p, (B.name.toList == inbox.toList) = p := ⟨_, rfl⟩
            have HPE : Hid (nmEq B.name inbox = pe) := hpe
            cases pe with
            | true =>
              go_wp2_with fail
              go_quiet (fail)
              go_wp2
              go_ret
              exact ⟨ret_bool (HNO.out (by rw [HST.out, HPE.out]; simp; omega)), hkw1.drewN _⟩
            | false =>
              by_cases hk1 : k = 1
              · subst hk1
                go_wp2_with fail
                go_quiet (fail)
                go_wp2
                go_roundw
                case rel =>
                  refine ⟨1 + 1, t + B.mails.length, by omega, by go_num, by go_num, by show _ = _; rw [totTo, HT.out, HAT.out], fun j hj => ?_, OI.out.drewN _, hkw1.drewN _⟩
                  by_cases e : j = 1
                  · subst e; rw [HST.out, HPE.out]; simp [hv]
                  · exact HS.out j (by omega)
                case measure => simp [intOf]; omega
              · have k1 : (1 : Int) < (k : Int) := by omega
                have gp := HPREV.out hk0 w1 hkw1
                have i0 : (0 : Int) ≤ (k : Int) - 1 := by omega
                have i1 : (k : Int) - 1 < (n : Int) := by omega
                have i2 : ((k : Int) - 1).toNat = k - 1 := by omega
                have i3 : IntKind.i64.wrap ((k : Int) - 1) = (k : Int) - 1 := IntWalk.i64_in _ (by omega)
                obtain ⟨l1, hl1⟩ : ∃ p, Op.bytesLess B.name.toList (bxAt x (k - 1)).name.toList = p := ⟨_, rfl⟩
                obtain ⟨l2, hl2⟩ : ∃ p, (B.name.toList == (bxAt x (k - 1)).name.toList) = p := ⟨_, rfl⟩
                have HLE : Hid (nmLe B.name (bxAt x (k - 1)).name = (l1 || l2)) := by show _ = _; unfold nmLe; rw [hl1, hl2]
                generalize (bxAt x (k - 1)).name = pn at *
                cases l1 with
                | true =>
                  go_wp2_with fail
                  go_quiet (fail)
                  go_wp2
                  go_ret
                  exact ⟨ret_bool (HNO.out (by rw [HST.out, HLE.out]; simp; omega)), hkw1.drewN _⟩
                | false =>
                  cases l2 with
                  | true =>
                    go_wp2_with fail
                    go_quiet (fail)
                    go_wp2
                    go_ret
                    exact ⟨ret_bool (HNO.out (by rw [HST.out, HLE.out]; simp; omega)), hkw1.drewN _⟩
                  | false =>
                    go_wp2_with fail
                    go_quiet (fail)
                    clear i0 i1 i2 i3
                    go_wp2
                    go_roundw
                    case rel =>
                      refine ⟨k + 1, t + B.mails.length, by omega, by go_num, by go_num, by show _ = _; rw [totTo, HT.out, HAT.out], fun j hj => ?_, OI.out.drewN _, hkw1.drewN _⟩
                      by_cases e : j = k
                      · subst e; rw [HST.out, HPE.out, HLE.out]; simp [hv]
                      · exact HS.out j (by omega)
                    case measure => simp [intOf]; omega
        · have hv' : x.given ≤ B.val := by omega
          go_wp2
          go_ret
          exact ⟨ret_bool (HNO.out (by rw [HST.out, decide_eq_false (show ¬ B.val < x.given by omega)]; rfl)), hkw1⟩
    · obtain rfl : k = n := by omega
      have HALL : Hid (allTo (stepB x) k = true) := allTo_iff.2 HS.out
      have HE2 : Hid (rightB x = (allTo (subB x) m && decide (t ≤ 30))) := by show _ = _; rw [HE.out, HALL.out, HT.out, Bool.true_and]
      clear ho
      go_wp2_with fail
      go_loopw [86] (fun iv wx => ∃ j : Nat, j ≤ m ∧ iv = .int .i64 j ∧ Hid (∀ i, i < j → subB x i = true) ∧ Own wx w.heap.size 25 [.slice (some ⟨b, o, none⟩) k c, .slice A' m c', .int .i64 x.given] ∧ Kept w wx) (fun iv _ => m - (intOf iv).toNat)
      case atStart => exact ⟨0, Nat.zero_le _, rfl, fun j hj => by omega, HO.out, hkw⟩
      case round =>
        obtain ⟨j, hj, rfl, HJ, ho, hkx⟩ := hrel
        have HO2 := Lib.hid ho
        obtain ⟨r1, r2, r3, _, _, _⟩ := ho.three
        clear ho
        by_cases hlt2 : j < m
        · have hj' : j < x.subs.length := by rw [HM.out]; exact hlt2
          obtain ⟨b', o', rfl, hb', _, hc'⟩ := HROW.out.kept hkx (by rw [strs_length]; omega)
          have s1 : wr.cell? ⟨b', o' + j, none⟩ = some (.string x.subs[j]) := hc' _ _ (strs_at hj')
          have HPREV : Hid (1 ≤ j → wr.cell? ⟨b', o' + (j - 1), none⟩ = some (.string (subAt x (j - 1)))) := fun h1 => by
            have hi : j - 1 < x.subs.length := by omega
            rw [subAt_lt hi]
            exact hc' _ _ (strs_at hi)
          have HST : Hid (subB x j = (nameB x.subs[j] && !(decide (0 < j) && nmLe x.subs[j] (subAt x (j - 1))))) := by show _ = _; simp only [subB, subAt_lt hj']
          have HNO : Hid (subB x j = false → false = rightB x) := fun h => by rw [HE2.out, allTo_no hlt2 h]; rfl
          have hsz := HOS.out x.subs[j] (List.getElem_mem hj')
          clear hc'
          generalize x.subs[j] = s at *
          obtain ⟨pn, hpn⟩ : ∃ p, nameB s = p := ⟨_, rfl⟩
          rw [hpn] at HST
          have HPN := Lib.hid hpn
          clear hpn
          cases pn with
          | false =>
            go_wp2_with fail
            refine (name_any _ _ hsz).mono ?_
            rw [HPN.out]
            rintro e w1 ⟨rfl, rfl⟩
            go_wp2
            go_ret
            exact ⟨ret_bool (HNO.out (by rw [HST.out]; rfl)), hkx⟩
          | true =>
            rcases Nat.eq_zero_or_pos j with hj0 | hj0
            · subst hj0
              simp only [Nat.add_zero] at s1
              go_wp2_with fail
              refine (name_any _ _ hsz).mono ?_
              rw [HPN.out]
              rintro e w1 ⟨rfl, rfl⟩
              go_wp2
              go_roundw
              case rel =>
                refine ⟨1, by omega, by first | rfl | go_num, fun i hi => ?_, HO2.out, hkx⟩
                obtain rfl : i = 0 := by omega
                rw [HST.out]; rfl
              case measure => simp [intOf]; omega
            · have j0 : (0 : Int) < (j : Int) := by omega
              have gp := HPREV.out hj0
              have i0 : (0 : Int) ≤ (j : Int) - 1 := by omega
              have i1 : (j : Int) - 1 < (m : Int) := by omega
              have i2 : ((j : Int) - 1).toNat = j - 1 := by omega
              obtain ⟨l1, hl1⟩ : ∃ p, Op.bytesLess s.toList (subAt x (j - 1)).toList = p := ⟨_, rfl⟩
              obtain ⟨l2, hl2⟩ : ∃ p, (s.toList == (subAt x (j - 1)).toList) = p := ⟨_, rfl⟩
              have HLE : Hid (nmLe s (subAt x (j - 1)) = (l1 || l2)) := by show _ = _; unfold nmLe; rw [hl1, hl2]
              generalize subAt x (j - 1) = pv at *
              cases l1 with
              | true =>
                go_wp2_with fail
                refine (name_any _ _ hsz).mono ?_
                rw [HPN.out]
                rintro e w1 ⟨rfl, rfl⟩
                go_wp2
                go_ret
                exact ⟨ret_bool (HNO.out (by rw [HST.out, HLE.out]; simp; omega)), hkx⟩
              | false =>
                cases l2 with
                | true =>
                  go_wp2_with fail
                  refine (name_any _ _ hsz).mono ?_
                  rw [HPN.out]
                  rintro e w1 ⟨rfl, rfl⟩
                  go_wp2
                  go_ret
                  exact ⟨ret_bool (HNO.out (by rw [HST.out, HLE.out]; simp; omega)), hkx⟩
                | false =>
                  go_wp2_with fail
                  refine (name_any _ _ hsz).mono ?_
                  rw [HPN.out]
                  rintro e w1 ⟨rfl, rfl⟩
                  go_wp2
                  go_roundw
                  case rel =>
                    refine ⟨j + 1, by omega, by go_num, fun i hi => ?_, HO2.out, hkx⟩
                    by_cases e : i = j
                    · subst e; rw [HST.out, HLE.out]; simp
                    · exact HJ.out i (by omega)
                  case measure => simp [intOf]; omega
        · obtain rfl : j = m := by omega
          have HALL2 : Hid (allTo (subB x) j = true) := allTo_iff.2 HJ.out
          by_cases ht : t ≤ 30
          · go_wp2
            go_ret
            exact ⟨ret_bool (by rw [HE2.out, HALL2.out]; simp [ht]; omega), hkx⟩
          · have ht' : 30 < t := by omega
            go_wp2
            go_ret
            exact ⟨ret_bool (by rw [HE2.out, HALL2.out]; simp [ht]; omega), hkx⟩

theorem rightB_no2 {x : Ix} (h : nmEq (bxAt x 0).name inbox = false) : rightB x = false := by simp [rightB, h]
theorem rightB_no3 {x : Ix} (h : ¬ x.subs.length ≤ 6) : rightB x = false := by simp [rightB, h]
theorem rightB_no4 {x : Ix} (h : posB x.given = false) : rightB x = false := by simp [rightB, h]

set_option maxRecDepth 100000 in
set_option maxHeartbeats 1000000 in
theorem right_any (x : Ix) (v : Value) (w : World) (h : IxAt [] w v x) (hok : IxOk x) :
    Calls Try.prog 31 #[v] w (RightPost x w) := by
  obtain ⟨A, c, A', c', rfl, hc1, hc2, hc3, hc4, hbx, hrow⟩ := h.open_
  by_cases h1 : 1 ≤ x.boxes.length
  · obtain ⟨b, o, mv, rfl, hb, _, hbc⟩ := hbx h1
    by_cases h2 : x.boxes.length ≤ 6
    · have g0 := (hbc 0 h1).1
      simp only [Nat.zero_mul, Nat.add_zero] at g0
      have hlit := inbox_lit
      rcases Bool.eq_false_or_eq_true (nmEq (bxAt x 0).name inbox) with h3 | h3
      · by_cases h4 : x.subs.length ≤ 6
        · rcases Bool.eq_false_or_eq_true (posB x.given) with h5 | h5
          · exact right_main x A' b o c c' mv w hok hc1 hc2 hc3 hc4 hb hbc hrow h1 h2 h3 h4 h5
          · have HE := Lib.hid (rightB_no4 h5)
            have H5 := Lib.hid h5
            have h3' : (x.boxes[0].name.toList == inbox.toList) = true := by rw [bxAt_lt h1] at h3; exact h3
            obtain ⟨⟨hg1, hg2⟩, _, _⟩ := hok
            unfold maxLen at hc2 hc4
            clear hbc hrow hbx h h3 h5
            generalize x.boxes[0].name = nm at *
            go_enter Try.func31, Try.ntmps31
            go_wp2_with fail
            refine (pos_any _ _ hg2 hg1).mono ?_
            rw [H5.out]
            rintro e w1 ⟨rfl, rfl⟩
            go_wp2
            go_ret
            exact ⟨ret_bool HE.out.symm, (Kept.refl w).alloc _⟩
        · have HE := Lib.hid (rightB_no3 h4)
          have h4' : 6 < x.subs.length := by omega
          have h3' : (x.boxes[0].name.toList == inbox.toList) = true := by rw [bxAt_lt h1] at h3; exact h3
          unfold maxLen at hc2 hc4
          clear hbc hrow hbx h h3 hok
          generalize x.boxes[0].name = nm at *
          go_enter Try.func31, Try.ntmps31
          go_wp2
          go_ret
          exact ⟨ret_bool HE.out.symm, (Kept.refl w).alloc _⟩
      · have HE := Lib.hid (rightB_no2 h3)
        have h3' : (x.boxes[0].name.toList == inbox.toList) = false := by rw [bxAt_lt h1] at h3; exact h3
        unfold maxLen at hc2 hc4
        clear hbc hrow hbx h h3 hok
        generalize x.boxes[0].name = nm at *
        go_enter Try.func31, Try.ntmps31
        go_wp2
        go_ret
        exact ⟨ret_bool HE.out.symm, (Kept.refl w).alloc _⟩
    · have HE := Lib.hid (rightB_no1 (x := x) (by omega))
      have h2' : 6 < x.boxes.length := by omega
      unfold maxLen at hc2 hc4
      clear hbc hrow hbx h hok
      go_enter Try.func31, Try.ntmps31
      go_wp2
      go_ret
      exact ⟨ret_bool HE.out.symm, (Kept.refl w).alloc _⟩
  · have HE := Lib.hid (rightB_no1 (x := x) (by omega))
    have h1' : x.boxes.length = 0 := by omega
    unfold maxLen at hc2 hc4
    rw [h1']
    clear hrow hbx h hok h1' hc1
    go_enter Try.func31, Try.ntmps31
    go_wp2
    go_ret
    exact ⟨ret_bool HE.out.symm, (Kept.refl w).alloc _⟩
end Go.Proofs.Ytjinnkbnllnllaa
