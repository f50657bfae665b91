/- Walks: index.positive, rightFlags, rightMail, RightName. -/
import Derived.Test.YtjinnkbnllnllaaRows
import Derived.Test.YtjinnkbnllnllaaIxPlain
import Derived.WalkKit
import Derived.WalkSpells
import Derived.WalkLawsBesides
import Derived.Outline
namespace Go.Proofs.Ytjinnkbnllnllaa
open Go.RowKit

set_option maxHeartbeats 400000 in
theorem pos_any (n : Int) (w : World) (hn : n ≤ 9223372036854775807) (hm : -9223372036854775808 ≤ n) :
    Calls Try.prog 57 #[.int .i64 n] w fun e w' => e = .returned (.bool (posB n)) ∧ w = w' := by
  by_cases h1 : 1 ≤ n
  · by_cases h2 : n ≤ 4294967295
    · have HE : Hid (posB n = true) := by show _ = _; simp [posB, h1, h2]
      go_enter Try.func57, Try.ntmps57
      go_wp2
      go_ret
      exact ⟨ret_bool HE.out.symm, rfl⟩
    · have HE : Hid (posB n = false) := by show _ = _; simp [posB, h2]
      go_enter Try.func57, Try.ntmps57
      go_wp2
      go_ret
      exact ⟨ret_bool HE.out.symm, rfl⟩
  · have HE : Hid (posB n = false) := by show _ = _; simp [posB, h1]
    go_enter Try.func57, Try.ntmps57
    go_wp2
    go_ret
    exact ⟨ret_bool HE.out.symm, rfl⟩
set_option maxHeartbeats 400000 in
theorem flags_any (n : Int) (w : World) :
    Calls Try.prog 40 #[.int .i64 n] w fun e w' => e = .returned (.bool (flagsB n)) ∧ w = w' := by
  by_cases h1 : 0 ≤ n
  · by_cases h2 : n ≤ 63
    · have HE : Hid (flagsB n = true) := by show _ = _; simp [flagsB, h1, h2]
      go_enter Try.func40, Try.ntmps40
      go_wp2
      go_ret
      exact ⟨ret_bool HE.out.symm, rfl⟩
    · have HE : Hid (flagsB n = false) := by show _ = _; simp [flagsB, h2]
      go_enter Try.func40, Try.ntmps40
      go_wp2
      go_ret
      exact ⟨ret_bool HE.out.symm, rfl⟩
  · have HE : Hid (flagsB n = false) := by show _ = _; simp [flagsB, h1]
    go_enter Try.func40, Try.ntmps40
    go_wp2
    go_ret
    exact ⟨ret_bool HE.out.symm, rfl⟩

set_option maxHeartbeats 400000 in
theorem mail_any (o s f : Int) (w : World) (hn : o ≤ 9223372036854775807) (hm : -9223372036854775808 ≤ o) :
    Calls Try.prog 33 #[.int .i64 o, .int .i64 s, .int .i64 f] w fun e w' => e = .returned (.bool (mailB o s f)) ∧ w = w' := by
  obtain ⟨p, hp⟩ : ∃ p, posB o = p := ⟨_, rfl⟩
  have HP := Lib.hid hp
  clear hp
  cases p with
  | false =>
    have HE : Hid (mailB o s f = false) := by show _ = _; simp [mailB, HP.out]
    go_enter Try.func33, Try.ntmps33
    go_wp2_with fail
    refine (pos_any o _ hn hm).mono ?_
    rw [HP.out]
    rintro e w1 ⟨rfl, rfl⟩
    go_wp2
    go_ret
    exact ⟨ret_bool HE.out.symm, rfl⟩
  | true =>
    by_cases h1 : 0 ≤ s
    · by_cases h2 : s ≤ 700
      · have HE : Hid (mailB o s f = flagsB f) := by show _ = _; simp [mailB, HP.out, h1, h2]
        go_enter Try.func33, Try.ntmps33
        go_wp2_with fail
        refine (pos_any o _ hn hm).mono ?_
        rw [HP.out]
        rintro e w1 ⟨rfl, rfl⟩
        go_wp2_with fail
        refine (flags_any f _).mono ?_
        rintro e w1 ⟨rfl, rfl⟩
        go_wp2
        go_ret
        exact ⟨ret_bool HE.out.symm, rfl⟩
      · have HE : Hid (mailB o s f = false) := by show _ = _; simp [mailB, HP.out, h2]
        go_enter Try.func33, Try.ntmps33
        go_wp2_with fail
        refine (pos_any o _ hn hm).mono ?_
        rw [HP.out]
        rintro e w1 ⟨rfl, rfl⟩
        go_wp2
        go_ret
        exact ⟨ret_bool HE.out.symm, rfl⟩
    · have HE : Hid (mailB o s f = false) := by show _ = _; simp [mailB, HP.out, h1]
      go_enter Try.func33, Try.ntmps33
      go_wp2_with fail
      refine (pos_any o _ hn hm).mono ?_
      rw [HP.out]
      rintro e w1 ⟨rfl, rfl⟩
      go_wp2
      go_ret
      exact ⟨ret_bool HE.out.symm, rfl⟩

theorem nameB_no {s : ByteArray} {k : Nat} (h : k < s.size) (hc : charB s[k] = false) : nameB s = false := by
  unfold nameB
  have : s.data.toList.all charB = false := by
    rw [List.all_eq_false]
    refine ⟨s[k], ?_, by rw [hc]; simp⟩
    rw [Array.mem_toList_iff]
    exact Array.getElem_mem (xs := s.data) (show k < s.data.size from h)
  rw [this, Bool.and_false]
theorem nameB_yes {s : ByteArray} (h1 : 1 ≤ s.size) (h2 : s.size ≤ 16) (h : ∀ k, (hk : k < s.size) → charB s[k] = true) : nameB s = true := by
  unfold nameB
  have : s.data.toList.all charB = true := by
    rw [List.all_eq_true]
    intro c hc
    obtain ⟨k, hk, rfl⟩ := List.mem_iff_getElem.1 hc
    exact h k (by simpa using hk)
  rw [this]; simp [h1, h2]

theorem charB_iff (c : UInt8) : charB c = true ↔ (97 ≤ c.toNat ∧ c.toNat ≤ 122) ∨ (65 ≤ c.toNat ∧ c.toNat ≤ 90) ∨ (48 ≤ c.toNat ∧ c.toNat ≤ 57) ∨ c.toNat = 45 ∨ c.toNat = 47 ∨ c.toNat = 95 := by
  simp only [charB, Bool.or_eq_true, Bool.and_eq_true, decide_eq_true_eq, beq_iff_eq]
  omega
theorem charB_no {c : UInt8} (h : ¬ ((97 ≤ c.toNat ∧ c.toNat ≤ 122) ∨ (65 ≤ c.toNat ∧ c.toNat ≤ 90) ∨ (48 ≤ c.toNat ∧ c.toNat ≤ 57) ∨ c.toNat = 45 ∨ c.toNat = 47 ∨ c.toNat = 95)) : charB c = false := by
  rcases Bool.eq_false_or_eq_true (charB c) with e | e
  · exact absurd ((charB_iff c).1 e) h
  · exact e

set_option maxHeartbeats 1000000 in
theorem name_any (s : ByteArray) (w : World) (hs : s.size ≤ maxLen) :
    Calls Try.prog 47 #[.string s] w fun e w' => e = .returned (.bool (nameB s)) ∧ w = w' := by
  unfold maxLen at hs
  by_cases h1 : 1 ≤ s.size
  · by_cases h2 : s.size ≤ 16
    · go_enter Try.func47, Try.ntmps47
      go_wp2_with fail
      go_loop [17] (fun i => ∃ k : Nat, k ≤ s.size ∧ i = .int .i64 k ∧ Hid (∀ j, (hj : j < s.size) → j < k → charB s[j] = true)) (fun i => s.size - (intOf i).toNat)
      case atStart => exact ⟨0, Nat.zero_le _, rfl, fun j _ h => absurd h (by omega)⟩
      case round =>
        obtain ⟨k, hk, rfl, HA⟩ := hrel
        by_cases hlt : k < s.size
        · have HN := Lib.hid (fun (h : charB s[k] = false) => nameB_no hlt h)
          have HY : Hid (charB s[k] = true → ∀ j, (hj : j < s.size) → j < k + 1 → charB s[j] = true) := fun h j hj hjk => by
            by_cases e : j = k
            · subst e; exact h
            · exact HA.out j hj (by omega)
          clear HA
          go_wp2_with fail
          all_goals
            first
              | (go_ret
                 refine ⟨ret_bool (HN.out (charB_no ?_)).symm, rfl⟩
                 simp only [bne_iff_ne, ne_eq] at *
                 omega)
              | (go_round
                 case rel =>
                   refine ⟨k + 1, by omega, by go_num, HY.out ((charB_iff _).2 ?_)⟩
                   simp only [bne_iff_ne, bne_eq_false_iff_eq, ne_eq, Bool.not_eq_false', decide_eq_true_eq] at *
                   omega
                 case measure => simp [intOf]; omega)
        · have HE : Hid (nameB s = true) := nameB_yes h1 h2 (fun j hj => HA.out j hj (by omega))
          go_wp2
          go_ret
          exact ⟨ret_bool HE.out.symm, rfl⟩
    · have HE : Hid (nameB s = false) := by show _ = _; simp [nameB, h2]
      go_enter Try.func47, Try.ntmps47
      go_wp2
      go_ret
      exact ⟨ret_bool HE.out.symm, rfl⟩
  · have HE : Hid (nameB s = false) := by show _ = _; simp [nameB, h1]
    have h1' : s.size = 0 := by omega
    go_enter Try.func47, Try.ntmps47
    go_wp2
    go_ret
    exact ⟨ret_bool HE.out.symm, rfl⟩
end Go.Proofs.Ytjinnkbnllnllaa
