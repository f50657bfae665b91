/- Walk: mailsacklaw11.awake. -/
import Derived.Test.YtbkipbkkdcikcaaPoolNew
namespace Go.Proofs.Ytbkipbkkdcikcaa
open Go.RowKit

theorem aw1 : takeR (takenOf 3 [0]) = (1, true) := by decide
theorem aw2 : takeT (takenOf 3 [0]) = [true, true, false] := by decide
theorem aw3 : giveR [true, true, false] 0 = true := by decide
theorem aw4 : giveT [true, true, false] 0 = [false, true, false] := by decide
theorem aw5 : takeR [false, true, false] = (0, true) := by decide
theorem aw6 : takeT [false, true, false] = [true, true, false] := by decide
theorem aw7 : (frees [true, true, false]).length = 1 := by decide

set_option maxHeartbeats 400000 in
theorem awake11 (w : World) : Calls Try.prog 9 #[] w fun e w' => e = .returned (.bool true) ∧ Kept w w' := by
  go_enter Try.func9, Try.ntmps9
  go_wp2_with fail
  refine (aNew_yes 3 [0] _ _ ⟨_, _, rfl, Nat.le_refl _, by unfold maxLen; simp, (Own.new w 3 [.int .i64 0]).row (by simp)⟩ (by omega)).mono ?_
  rintro e w1 ⟨g, rfl, hp1, hk1⟩
  have hz1 := hk1.size
  have HK : Kept w w1 := ((Kept.refl w).alloc _).trans hk1
  have HP1 := Lib.hid hp1
  clear hp1 hk1
  generalize hB : (w.alloc (Obj.cells #[Value.int .i64 0] 3)).heap.size = B at *
  have hBw : w.heap.size ≤ B := by rw [← hB]; simp
  clear hB
  go_wp2_with fail
  refine (pTake_any B g _ _ HP1.out hz1).mono ?_
  rintro e w2 ⟨rfl, hp2, hk2⟩
  rw [aw1]
  rw [aw2] at hp2
  have HP2 := Lib.hid hp2
  have hz2 := Nat.le_trans hz1 hk2.size
  have HK2 : Kept w w2 := Below.trans HK (Below.mono hk2 hBw)
  clear hp2 hk2 HP1 HK
  go_wp2_with fail
  refine (pGive_any B g _ 0 _ HP2.out hz2).mono ?_
  rintro e w3 ⟨rfl, hp3, hk3⟩
  rw [aw3]
  rw [aw4] at hp3
  have HP3 := Lib.hid hp3
  have hz3 := Nat.le_trans hz2 hk3.size
  have HK3 : Kept w w3 := Below.trans HK2 (Below.mono hk3 hBw)
  clear hp3 hk3 HP2 HK2
  go_wp2_with fail
  refine (pTake_any B g _ _ HP3.out hz3).mono ?_
  rintro e w4 ⟨rfl, hp4, hk4⟩
  rw [aw5]
  rw [aw6] at hp4
  have HP4 := Lib.hid hp4
  have HK4 : Kept w w4 := Below.trans HK3 (Below.mono hk4 hBw)
  clear hp4 hk4 HP3 HK3
  go_wp2_with fail
  refine (pLen_any B g _ _ HP4.out).mono ?_
  rw [aw7]
  rintro e w5 ⟨rfl, rfl⟩
  go_wp2
  go_ret
  exact ⟨rfl, HK4⟩
end Go.Proofs.Ytbkipbkkdcikcaa
