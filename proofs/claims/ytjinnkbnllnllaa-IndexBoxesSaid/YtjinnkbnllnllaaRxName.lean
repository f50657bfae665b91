/- Walk: the document's words on names and mails. -/
import Derived.Test.YtjinnkbnllnllaaIxName
import Derived.Test.YtjinnkbnllnllaaIxBox
import Derived.Test.YtjinnkbnllnllaaElem
namespace Go.Proofs.Ytjinnkbnllnllaa
open Go.RowKit

def inB (n lo hi : Int) : Bool := decide (lo ≤ n) && decide (n ≤ hi)
theorem in_any (n lo hi : Int) (w : World) :
    Calls Try.prog 45 #[.int .i64 n, .int .i64 lo, .int .i64 hi] w fun e w' => e = .returned (.bool (inB n lo hi)) ∧ w = w' := by
  by_cases h1 : lo ≤ n
  · by_cases h2 : n ≤ hi
    · have HE : Hid (inB n lo hi = true) := by show _ = _; simp [inB, h1, h2]
      go_enter Try.func45, Try.ntmps45
      go_wp2
      go_ret
      exact ⟨ret_bool HE.out.symm, rfl⟩
    · have HE : Hid (inB n lo hi = false) := by show _ = _; simp [inB, h2]
      go_enter Try.func45, Try.ntmps45
      go_wp2
      go_ret
      exact ⟨ret_bool HE.out.symm, rfl⟩
  · have HE : Hid (inB n lo hi = false) := by show _ = _; simp [inB, h1]
    go_enter Try.func45, Try.ntmps45
    go_wp2
    go_ret
    exact ⟨ret_bool HE.out.symm, rfl⟩

set_option maxHeartbeats 1000000 in
theorem rname_any (s : ByteArray) (w : World) (hs : s.size ≤ maxLen) :
    Calls Try.prog 55 #[.string s] w fun e w' => e = .returned (.bool (nameB s)) ∧ w = w' := by
  unfold maxLen at hs
  go_enter Try.func55, Try.ntmps55
  go_wp2_with fail
  go_loop [3] (fun i => ∃ k : Nat, k ≤ s.size ∧ i = .int .i64 k ∧ Hid (∀ j, (hj : j < s.size) → j < k → charB s[j] = true)) (fun i => s.size - (intOf i).toNat)
  case atStart => exact ⟨0, Nat.zero_le _, rfl, fun j _ h => absurd h (by omega)⟩
  case round =>
    obtain ⟨k, hk, rfl, HA⟩ := hrel
    by_cases hlt : k < s.size
    · have HN := Lib.hid (fun (h : charB s[k] = false) => nameB_no hlt h)
      have HY : Hid (charB s[k] = true → ∀ j, (hj : j < s.size) → j < k + 1 → charB s[j] = true) := fun h j hj hjk => by
        by_cases e : j = k
        · subst e; exact h
        · exact HA.out j hj (by omega)
      clear HA
      go_wp2_with fail
      all_goals
        first
          | (go_ret
             refine ⟨ret_bool (HN.out (charB_no ?_)).symm, rfl⟩
             simp only [bne_iff_ne, ne_eq] at *
             omega)
          | (go_round
             case rel =>
               refine ⟨k + 1, by omega, by go_num, HY.out ((charB_iff _).2 ?_)⟩
               simp only [bne_iff_ne, bne_eq_false_iff_eq, ne_eq, Bool.not_eq_false', decide_eq_true_eq] at *
               omega
             case measure => simp [intOf]; omega)
    · by_cases h1 : 1 ≤ s.size
      · by_cases h2 : s.size ≤ 16
        · have HE : Hid (nameB s = true) := nameB_yes h1 h2 (fun j hj => HA.out j hj (by omega))
          go_wp2
          go_ret
          exact ⟨ret_bool (by rw [HE.out]; exact decide_eq_true (by omega)), rfl⟩
        · have HE : Hid (nameB s = false) := by show _ = _; simp [nameB, h2]
          go_wp2
          go_ret
          exact ⟨ret_bool (by rw [HE.out]; exact decide_eq_false (by omega)), rfl⟩
      · have HE : Hid (nameB s = false) := by show _ = _; simp [nameB, h1]
        have h0 : s.size = 0 := by omega
        obtain rfl : k = 0 := by omega
        go_wp2
        go_ret
        exact ⟨ret_bool HE.out.symm, rfl⟩

/-- May a message be so, as the document says? -/
def rmB (m : Ml) : Bool := inB m.uid 1 4294967295 && inB m.flags 0 63 && inB m.obj 1 4294967295 && inB m.size 0 700
theorem rmB_eq (m : Ml) : rmB m = (posB m.uid && mailB m.obj m.size m.flags) := by
  simp only [rmB, inB, mailB, posB, flagsB]
  rw [Bool.eq_iff_iff]
  simp only [Bool.and_eq_true, decide_eq_true_eq]
  omega

set_option maxRecDepth 100000 in
theorem rmail_0 (m : Ml) (w : World) (h0 : inB m.uid 1 4294967295 = false) :
    Calls Try.prog 42 #[.agg #[.int .i64 m.uid, .int .i64 m.flags, .int .i64 m.obj, .int .i64 m.size]] w fun e w' => e = .returned (.bool (rmB m)) ∧ Kept w w' := by
  have H0 := Lib.hid h0
  clear h0
  go_enter Try.func42, Try.ntmps42
  go_wp2_with fail
  have OM := Lib.hid (Own.newAt w w.heap.size 73 [.int .i64 m.uid, .int .i64 m.flags, .int .i64 m.obj, .int .i64 m.size] (by simp))
  have K := ((Kept.refl w).alloc (.cells #[.int .i64 m.uid, .int .i64 m.flags, .int .i64 m.obj, .int .i64 m.size] 73))
  generalize (w.alloc (.cells #[.int .i64 m.uid, .int .i64 m.flags, .int .i64 m.obj, .int .i64 m.size] 73)) = w1 at *
  have cM0 := OM.out.cell? 0
  have fM0 := OM.out.frozen 0
  have cM1 := OM.out.cell? 1
  have fM1 := OM.out.frozen 1
  have cM2 := OM.out.cell? 2
  have fM2 := OM.out.frozen 2
  have cM3 := OM.out.cell? 3
  have fM3 := OM.out.frozen 3
  simp only [List.getElem?_cons_zero, List.getElem?_cons_succ] at cM0 cM1 cM2 cM3
  refine (in_any m.uid 1 4294967295 _).mono ?_
  rintro e _ ⟨rfl, rfl⟩
  rw [H0.out]
  go_wp2
  go_ret
  exact ⟨ret_bool (by rw [rmB, H0.out]; rfl), K⟩

set_option maxRecDepth 100000 in
theorem rmail_1 (m : Ml) (w : World) (h0 : inB m.uid 1 4294967295 = true) (h1 : inB m.flags 0 63 = false) :
    Calls Try.prog 42 #[.agg #[.int .i64 m.uid, .int .i64 m.flags, .int .i64 m.obj, .int .i64 m.size]] w fun e w' => e = .returned (.bool (rmB m)) ∧ Kept w w' := by
  have H0 := Lib.hid h0
  have H1 := Lib.hid h1
  clear h0 h1
  go_enter Try.func42, Try.ntmps42
  go_wp2_with fail
  have OM := Lib.hid (Own.newAt w w.heap.size 73 [.int .i64 m.uid, .int .i64 m.flags, .int .i64 m.obj, .int .i64 m.size] (by simp))
  have K := ((Kept.refl w).alloc (.cells #[.int .i64 m.uid, .int .i64 m.flags, .int .i64 m.obj, .int .i64 m.size] 73))
  generalize (w.alloc (.cells #[.int .i64 m.uid, .int .i64 m.flags, .int .i64 m.obj, .int .i64 m.size] 73)) = w1 at *
  have cM0 := OM.out.cell? 0
  have fM0 := OM.out.frozen 0
  have cM1 := OM.out.cell? 1
  have fM1 := OM.out.frozen 1
  have cM2 := OM.out.cell? 2
  have fM2 := OM.out.frozen 2
  have cM3 := OM.out.cell? 3
  have fM3 := OM.out.frozen 3
  simp only [List.getElem?_cons_zero, List.getElem?_cons_succ] at cM0 cM1 cM2 cM3
  refine (in_any m.uid 1 4294967295 _).mono ?_
  rintro e _ ⟨rfl, rfl⟩
  rw [H0.out]
  go_wp2_with fail
  refine (in_any m.flags 0 63 _).mono ?_
  rintro e _ ⟨rfl, rfl⟩
  rw [H1.out]
  go_wp2
  go_ret
  exact ⟨ret_bool (by rw [rmB, H0.out, H1.out]; rfl), K⟩

set_option maxRecDepth 100000 in
theorem rmail_2 (m : Ml) (w : World) (h0 : inB m.uid 1 4294967295 = true) (h1 : inB m.flags 0 63 = true) (h2 : inB m.obj 1 4294967295 = false) :
    Calls Try.prog 42 #[.agg #[.int .i64 m.uid, .int .i64 m.flags, .int .i64 m.obj, .int .i64 m.size]] w fun e w' => e = .returned (.bool (rmB m)) ∧ Kept w w' := by
  have H0 := Lib.hid h0
  have H1 := Lib.hid h1
  have H2 := Lib.hid h2
  clear h0 h1 h2
  go_enter Try.func42, Try.ntmps42
  go_wp2_with fail
  have OM := Lib.hid (Own.newAt w w.heap.size 73 [.int .i64 m.uid, .int .i64 m.flags, .int .i64 m.obj, .int .i64 m.size] (by simp))
  have K := ((Kept.refl w).alloc (.cells #[.int .i64 m.uid, .int .i64 m.flags, .int .i64 m.obj, .int .i64 m.size] 73))
  generalize (w.alloc (.cells #[.int .i64 m.uid, .int .i64 m.flags, .int .i64 m.obj, .int .i64 m.size] 73)) = w1 at *
  have cM0 := OM.out.cell? 0
  have fM0 := OM.out.frozen 0
  have cM1 := OM.out.cell? 1
  have fM1 := OM.out.frozen 1
  have cM2 := OM.out.cell? 2
  have fM2 := OM.out.frozen 2
  have cM3 := OM.out.cell? 3
  have fM3 := OM.out.frozen 3
  simp only [List.getElem?_cons_zero, List.getElem?_cons_succ] at cM0 cM1 cM2 cM3
  refine (in_any m.uid 1 4294967295 _).mono ?_
  rintro e _ ⟨rfl, rfl⟩
  rw [H0.out]
  go_wp2_with fail
  refine (in_any m.flags 0 63 _).mono ?_
  rintro e _ ⟨rfl, rfl⟩
  rw [H1.out]
  go_wp2_with fail
  refine (in_any m.obj 1 4294967295 _).mono ?_
  rintro e _ ⟨rfl, rfl⟩
  rw [H2.out]
  go_wp2
  go_ret
  exact ⟨ret_bool (by rw [rmB, H0.out, H1.out, H2.out]; rfl), K⟩

set_option maxRecDepth 100000 in
theorem rmail_3 (m : Ml) (w : World) (h0 : inB m.uid 1 4294967295 = true) (h1 : inB m.flags 0 63 = true) (h2 : inB m.obj 1 4294967295 = true) (h3 : inB m.size 0 700 = false) :
    Calls Try.prog 42 #[.agg #[.int .i64 m.uid, .int .i64 m.flags, .int .i64 m.obj, .int .i64 m.size]] w fun e w' => e = .returned (.bool (rmB m)) ∧ Kept w w' := by
  have H0 := Lib.hid h0
  have H1 := Lib.hid h1
  have H2 := Lib.hid h2
  have H3 := Lib.hid h3
  clear h0 h1 h2 h3
  go_enter Try.func42, Try.ntmps42
  go_wp2_with fail
  have OM := Lib.hid (Own.newAt w w.heap.size 73 [.int .i64 m.uid, .int .i64 m.flags, .int .i64 m.obj, .int .i64 m.size] (by simp))
  have K := ((Kept.refl w).alloc (.cells #[.int .i64 m.uid, .int .i64 m.flags, .int .i64 m.obj, .int .i64 m.size] 73))
  generalize (w.alloc (.cells #[.int .i64 m.uid, .int .i64 m.flags, .int .i64 m.obj, .int .i64 m.size] 73)) = w1 at *
  have cM0 := OM.out.cell? 0
  have fM0 := OM.out.frozen 0
  have cM1 := OM.out.cell? 1
  have fM1 := OM.out.frozen 1
  have cM2 := OM.out.cell? 2
  have fM2 := OM.out.frozen 2
  have cM3 := OM.out.cell? 3
  have fM3 := OM.out.frozen 3
  simp only [List.getElem?_cons_zero, List.getElem?_cons_succ] at cM0 cM1 cM2 cM3
  refine (in_any m.uid 1 4294967295 _).mono ?_
  rintro e _ ⟨rfl, rfl⟩
  rw [H0.out]
  go_wp2_with fail
  refine (in_any m.flags 0 63 _).mono ?_
  rintro e _ ⟨rfl, rfl⟩
  rw [H1.out]
  go_wp2_with fail
  refine (in_any m.obj 1 4294967295 _).mono ?_
  rintro e _ ⟨rfl, rfl⟩
  rw [H2.out]
  go_wp2_with fail
  refine (in_any m.size 0 700 _).mono ?_
  rintro e _ ⟨rfl, rfl⟩
  rw [H3.out]
  go_wp2
  go_ret
  exact ⟨ret_bool (by rw [rmB, H0.out, H1.out, H2.out, H3.out]; rfl), K⟩

set_option maxRecDepth 100000 in
theorem rmail_4 (m : Ml) (w : World) (h0 : inB m.uid 1 4294967295 = true) (h1 : inB m.flags 0 63 = true) (h2 : inB m.obj 1 4294967295 = true) (h3 : inB m.size 0 700 = true) :
    Calls Try.prog 42 #[.agg #[.int .i64 m.uid, .int .i64 m.flags, .int .i64 m.obj, .int .i64 m.size]] w fun e w' => e = .returned (.bool (rmB m)) ∧ Kept w w' := by
  have H0 := Lib.hid h0
  have H1 := Lib.hid h1
  have H2 := Lib.hid h2
  have H3 := Lib.hid h3
  clear h0 h1 h2 h3
  go_enter Try.func42, Try.ntmps42
  go_wp2_with fail
  have OM := Lib.hid (Own.newAt w w.heap.size 73 [.int .i64 m.uid, .int .i64 m.flags, .int .i64 m.obj, .int .i64 m.size] (by simp))
  have K := ((Kept.refl w).alloc (.cells #[.int .i64 m.uid, .int .i64 m.flags, .int .i64 m.obj, .int .i64 m.size] 73))
  generalize (w.alloc (.cells #[.int .i64 m.uid, .int .i64 m.flags, .int .i64 m.obj, .int .i64 m.size] 73)) = w1 at *
  have cM0 := OM.out.cell? 0
  have fM0 := OM.out.frozen 0
  have cM1 := OM.out.cell? 1
  have fM1 := OM.out.frozen 1
  have cM2 := OM.out.cell? 2
  have fM2 := OM.out.frozen 2
  have cM3 := OM.out.cell? 3
  have fM3 := OM.out.frozen 3
  simp only [List.getElem?_cons_zero, List.getElem?_cons_succ] at cM0 cM1 cM2 cM3
  refine (in_any m.uid 1 4294967295 _).mono ?_
  rintro e _ ⟨rfl, rfl⟩
  rw [H0.out]
  go_wp2_with fail
  refine (in_any m.flags 0 63 _).mono ?_
  rintro e _ ⟨rfl, rfl⟩
  rw [H1.out]
  go_wp2_with fail
  refine (in_any m.obj 1 4294967295 _).mono ?_
  rintro e _ ⟨rfl, rfl⟩
  rw [H2.out]
  go_wp2_with fail
  refine (in_any m.size 0 700 _).mono ?_
  rintro e _ ⟨rfl, rfl⟩
  rw [H3.out]
  go_wp2
  go_ret
  exact ⟨ret_bool (by rw [rmB, H0.out, H1.out, H2.out, H3.out]; rfl), K⟩

theorem rmail_any (m : Ml) (w : World) : Calls Try.prog 42 #[.agg #[.int .i64 m.uid, .int .i64 m.flags, .int .i64 m.obj, .int .i64 m.size]] w fun e w' => e = .returned (.bool (rmB m)) ∧ Kept w w' := by
  rcases Bool.eq_false_or_eq_true (inB m.uid 1 4294967295) with h0 | h0
  · rcases Bool.eq_false_or_eq_true (inB m.flags 0 63) with h1 | h1
    · rcases Bool.eq_false_or_eq_true (inB m.obj 1 4294967295) with h2 | h2
      · rcases Bool.eq_false_or_eq_true (inB m.size 0 700) with h3 | h3
        · exact rmail_4 m w h0 h1 h2 h3
        · exact rmail_3 m w h0 h1 h2 h3
      · exact rmail_2 m w h0 h1 h2
    · exact rmail_1 m w h0 h1
  · exact rmail_0 m w h0
end Go.Proofs.Ytjinnkbnllnllaa
