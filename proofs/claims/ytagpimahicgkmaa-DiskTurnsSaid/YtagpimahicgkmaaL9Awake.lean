/- Walk: mailsacklaw09.awake. -/
import Derived.Test.YtagpimahicgkmaaDkNew
import Derived.Test.YtagpimahicgkmaaDkPut
import Derived.Test.YtagpimahicgkmaaDkRead
import Derived.Test.YtagpimahicgkmaaDkCrash
namespace Go.Proofs.Ytagpimahicgkmaa
open Go.RowKit

def xz : ByteArray := ⟨(120 :: List.replicate 63 0).toArray⟩
theorem new2 : newR 2 = (⟨[zero64, zero64], []⟩, 0) := by rfl
theorem put2 : putR ⟨[zero64, zero64], []⟩ ⟨1, xz⟩ = (⟨[zero64, zero64], [⟨1, xz⟩]⟩, 0) := by rfl
theorem read2 : readR ⟨[zero64, zero64], [⟨1, xz⟩]⟩ 1 = (xz, 0) := by rfl
theorem crash2 : crashD ⟨[zero64, zero64], [⟨1, xz⟩]⟩ [] = ⟨[zero64, zero64], []⟩ := by rfl
theorem read3 : readR ⟨[zero64, zero64], []⟩ 1 = (zero64, 0) := by rfl
theorem zero_lit : ({ data := #[0, 0, 0, 0, 0, 0, 0, 0, 0, 0, 0, 0, 0, 0, 0, 0, 0, 0, 0, 0, 0, 0, 0, 0, 0, 0, 0, 0, 0, 0, 0, 0, 0, 0, 0, 0, 0, 0, 0, 0, 0, 0, 0, 0, 0, 0, 0, 0, 0, 0, 0, 0, 0, 0, 0, 0, 0, 0, 0, 0, 0, 0, 0, 0] } : ByteArray) = zero64 := by rfl
theorem xz_lit : ({ data := #[120] } ++ zero64.extract 1 64 : ByteArray) = xz := by rfl
theorem intsAt_nil (V : List Nat) (w : World) : IntsAt V w (.slice none 0 0) [] := ⟨_, _, rfl, Nat.le_refl _, Nat.zero_le _, Row.nil _ _ _⟩

set_option maxHeartbeats 400000 in
theorem awake9 (w : World) : Calls Try.prog 8 #[] w fun e w' => e = .returned (.bool true) ∧ Kept w w' := by
  have hz := zero_lit
  have hx := xz_lit
  have hzs : zero64.size = 64 := rfl
  go_enter Try.func8, Try.ntmps8
  go_wp2_with fail
  refine (new_any [] 2 _ (fun _ h => by cases h)).mono ?_
  rw [new2]
  rintro e w1 ⟨s1, c1, rfl, hd1, hk1⟩
  obtain ⟨A1, k1, A1', k1', rfl, rfl⟩ := hd1.form
  have HD1 := Lib.hid (hd1.go ((Kept.refl w1).alloc (Obj.cells #[Value.slice A1 2 k1, Value.slice A1' 0 k1'] 25)) (Ext.cons (k := w1.heap.size) (Nat.le_refl _) (Ext.nil _ _)))
  have HOd := Lib.hid (Own.new w1 25 [Value.slice A1 2 k1, Value.slice A1' 0 k1'])
  clear hd1
  go_wp2_with fail
  refine (put_any [w1.heap.size] _ ⟨1, xz⟩ _ _ HD1.out (Old.cons (by simp) (fun _ h => by cases h)) (by simp)).mono ?_
  rw [put2]
  rintro e w2 ⟨s2, c2, rfl, hd2, hk2⟩
  obtain ⟨A2, k2, A2', k2', rfl, rfl⟩ := hd2.form
  have HO2 := Lib.hid (HOd.out.kept hk2)
  obtain ⟨p1, p2, p3, p4⟩ := HO2.out.two
  have HD2 := Lib.hid ((hd2.put (p := ⟨w1.heap.size, 0, none⟩) (by simp) (Value.slice A2 2 k2)).put (p := ⟨w1.heap.size, 1, none⟩) (by simp) (Value.slice A2' 1 k2'))
  have HO3 := Lib.hid (HO2.out.put2 (Value.slice A2 2 k2) (Value.slice A2' 1 k2'))
  clear hd2
  generalize hW : (w2.setCell ⟨w1.heap.size, 0, none⟩ (Value.slice A2 2 k2)).setCell ⟨w1.heap.size, 1, none⟩ (Value.slice A2' 1 k2') = W at HD2 HO3
  have hkW : Kept w W := by
    rw [← hW]
    exact (((hk1.alloc _).trans hk2).setCell (p := ⟨w1.heap.size, 0, none⟩) hk1.size _).setCell (p := ⟨w1.heap.size, 1, none⟩) hk1.size _
  clear HD1 HOd HO2 hk2
  obtain ⟨t1, t2, _, _⟩ := HO3.out.two
  go_wp2_with fail
  refine (read_any [w1.heap.size] _ 1 _ _ HD2.out (by omega)).mono ?_
  rw [read2]
  rintro e w3 ⟨rfl, hk3⟩
  obtain ⟨q1, q2, _, _⟩ := (HO3.out.kept hk3).two
  clear p1 p2 p3 p4 hW
  go_wp2_with fail
  refine (crash_any [w1.heap.size] _ [] _ _ _ (HD2.out.go hk3 (Ext.refl _ _)) (intsAt_nil _ _) (Old.cons (HO3.out.kept hk3).lt (fun _ h => by cases h)) (by simp)).mono ?_
  rw [crash2]
  rintro e w4 ⟨s4, c4, rfl, hd4, hk4⟩
  go_wp2_with fail
  refine (read_any [w1.heap.size] _ 1 _ _ hd4 (by omega)).mono ?_
  rw [read3]
  rintro e w5 ⟨rfl, hk5⟩
  clear hd4 HD2 HO3
  go_wp2
  go_ret
  exact ⟨rfl, ((hkW.trans hk3).trans hk4).trans hk5⟩
end Go.Proofs.Ytagpimahicgkmaa
