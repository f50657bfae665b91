/- Walk: wal.destination. -/
import Derived.Test.YtagpimahicgkmaaDoorWalS
namespace Go.Proofs.YtagpimahicgkmaaDoor
open Go.RowKit

/-- The sector of a destination: its first bytes. -/
def dstTo (at_ : Nat) : Nat → List UInt8
  | 0 => List.replicate 64 0
  | k + 1 => (dstTo at_ k).set k (byteOf at_ k)
theorem dstTo_len (at_ : Nat) : ∀ k, (dstTo at_ k).length = 64
  | 0 => by simp [dstTo]
  | k + 1 => by rw [dstTo, List.length_set, dstTo_len at_ k]
def dst (at_ : Nat) : ByteArray := ⟨(dstTo at_ 4).toArray⟩
theorem dst_size (at_ : Nat) : (dst at_).size = 64 := by
  show (dstTo at_ 4).toArray.size = 64
  rw [List.size_toArray, dstTo_len]
set_option maxRecDepth 100000 in
set_option maxHeartbeats 2000000 in
theorem dst_n (n : Nat) (w : World) (R : List UInt8) (m : Nat) (hm : m = 4) (F : Nat → List UInt8) (hF0 : F 0 = List.replicate 64 0) (hFs : ∀ k, F (k + 1) = (F k).set k (byteOf n k)) (hFl : ∀ k, (F k).length = 64) (hR : F m = R) :
    Calls Tryd.prog 43 #[.int .i64 (n : Int)] w fun e w' => e = .returned (.string ⟨R.toArray⟩) ∧ Kept w w' := by
  have hmk : ∀ w' : World, (Instr.makeSlice 85 (.int .i64 64) (.int .i64 64)).run Tryd.prog w' = .ok (.slice (some ⟨w'.heap.size, 0, none⟩) 64 64) (w'.alloc (.cells (Lib.byteCells (List.replicate 64 0)).toArray 5)) := fun _ => by kernel_rfl
  rw [← hF0] at hmk
  have HR := Lib.hid hR
  have HM := Lib.hid hm
  have HS := Lib.hid hFs
  have HL := Lib.hid hFl
  clear hF0 hFs hFl hR hm
  go_enter Tryd.func43, Tryd.ntmps43
  go_wp2
  have OT : Hid (Own (w.alloc (.cells (Lib.byteCells (F 0)).toArray 5)) w.heap.size 5 (Lib.byteCells (F 0))) := Own.new w _ _
  have K : Kept w (w.alloc (.cells (Lib.byteCells (F 0)).toArray 5)) := (Kept.refl w).alloc _
  generalize (w.alloc (.cells (Lib.byteCells (F 0)).toArray 5)) = w1 at *
  go_loopw [6] (fun iv wq => ∃ i : Nat, i ≤ 4 ∧ iv = .int .i64 i ∧ Own wq w.heap.size 5 (Lib.byteCells (F i)) ∧ Kept w wq) (fun iv _ => 4 - (intOf iv).toNat)
  case atStart => exact ⟨0, Nat.zero_le _, rfl, OT.out, K⟩
  case round =>
    clear OT K
    obtain ⟨i, hi, rfl, ot, K⟩ := hrel
    have OT := Lib.hid ot
    by_cases hlt : i < 4
    · obtain ⟨old2, ho⟩ : ∃ v, wr.cell? ⟨w.heap.size, i, none⟩ = some v := ⟨_, ot.cell (by rw [Lib.byteCells, List.length_map, HL.out]; omega)⟩
      have hf := ot.frozen i
      clear ot
      have i0 : (0 : Int) ≤ (i : Int) := by omega
      have i1 : (i : Int) < 4 := by omega
      have i2 : (i : Int) < 64 := by omega
      have i3 : (0 : Int) ≤ 8 * (i : Int) := by omega
      have q1 : IntKind.i64.wrap (8 * (i : Int)) = 8 * (i : Int) := IntWalk.i64_in _ (by omega)
      have q7 : min (8 * (i : Int)).toNat IntKind.i64.bits = 8 * i := by show min _ 64 = _; omega
      go_wp2
      go_roundw
      case rel =>
        rw [byte_of]
        refine ⟨i + 1, by omega, by go_num, ?_, K.setCell (Nat.le_refl _) _⟩
        rw [HS.out, bc_set]
        exact OT.out.set_ i _
      case measure => simp [intOf]; omega
    · obtain rfl : i = m := by rw [HM.out]; omega
      clear ot
      rw [HR.out] at OT
      have hRl : R.length = 64 := by rw [← HR.out]; exact HL.out _
      have hcv := run_convert_bytes_back (P := Tryd.prog) wr 85 9 5 ⟨w.heap.size, 0, none⟩ 64 R Tryd.underlying85 Tryd.underlying5 Tryd.underlying9 (fun j hj => by
        rw [Addr.add_mid, Nat.zero_add, OT.out.cell?, bc_at hj])
      rw [hRl] at hcv
      have i1 : ¬ (i : Int) < 4 := by have := HM.out; omega
      go_wp2
      go_ret
      exact ⟨rfl, K⟩
theorem dst_any (n : Nat) (w : World) :
    Calls Tryd.prog 43 #[.int .i64 (n : Int)] w fun e w' => e = .returned (.string (dst n)) ∧ Kept w w' := by
  unfold dst
  generalize hm : (4 : Nat) = m
  exact dst_n n w _ m hm.symm (dstTo n) rfl (fun _ => rfl) (dstTo_len n) rfl
end Go.Proofs.YtagpimahicgkmaaDoor
