/- Walk: sha.ending, sha.Sum. -/
import Derived.Test.YtagpimahicgkmaaDoorSha2
import Derived.Lib.BufferWrite
namespace Go.Proofs.YtagpimahicgkmaaDoor
open Go.RowKit

theorem wpList_copy_runW {P : Program} (w : World) {ops : Array Oper} {rest : List Oper} {o : Oper} {a : Act} {Q : Exit → Act → World → Prop} (hgd : o.guard = none) (d s : Operand) (t t' : TypeId)
    (ho : o.op = .call { callee := .builtin .copy, args := #[d, s], argTypes := #[t, t'] }) (v u : Value) (hd : a.eval d = v) (hs : a.eval s = u) {v' : Value} {w' : World}
    (hr : (Builtin.copy_ #[t, t'] o.type #[v, u]).run P w = .ok v' w') (h : wpList P ops Q rest (a.put o.dst v') w') : wpList P ops Q (o :: rest) a w :=
  wpList_plain hgd fun _ hK => by
    unfold Oper.wp execOp
    simp only [ho, resolve, invoke, builtin, Sem.run_bind, Sem.run_pure, Result.andThen_ok, List.map_toArray, List.map_cons, List.map_nil, hd, hs, hr]
    exact hK _ _ h

def byteOf (c i : Nat) : UInt8 := UInt8.ofNat (c / 2 ^ (8 * i))
/-- The last blocks, with the first bytes of the count. -/
def endTo (l : List UInt8) (c size : Nat) : Nat → List UInt8
  | 0 => (l ++ List.replicate (size - l.length) 0).set l.length 128
  | i + 1 => (endTo l c size i).set (size - 1 - i) (byteOf c i)
theorem endTo_len {l : List UInt8} {c size : Nat} (h : l.length ≤ size) : ∀ i, (endTo l c size i).length = size
  | 0 => by rw [endTo, List.length_set, List.length_append, List.length_replicate]; omega
  | i + 1 => by rw [endTo, List.length_set, endTo_len h]
theorem bc_set (l : List UInt8) (k : Nat) (x : UInt8) : Lib.byteCells (l.set k x) = (Lib.byteCells l).set k (.int .u8 (x.toNat : Int)) := by simp [Lib.byteCells, List.map_set]
theorem bc_at {l : List UInt8} {k : Nat} (h : k < l.length) : (Lib.byteCells l)[k]? = some (.int .u8 (l[k].toNat : Int)) := by simp [Lib.byteCells, h]
theorem byte_of (c i : Nat) : (c : Int) / 2 ^ (8 * i) % 256 = ((byteOf c i).toNat : Int) := by
  unfold byteOf
  rw [UInt8.toNat_ofNat']
  have e : ((2 : Int) ^ (8 * i)) = ((2 ^ (8 * i) : Nat) : Int) := by rw [Int.natCast_pow]; rfl
  rw [e, ← Int.natCast_ediv]
  generalize c / 2 ^ (8 * i) = m
  omega
set_option maxRecDepth 100000 in
set_option maxHeartbeats 2000000 in
theorem ending_64 (s : ByteArray) (c : Nat) (w : World) (hs : s.size < 64) (h9 : ¬ (64 : Int) < (s.size : Int) + 9) (hle : s.size < 64) (R : List UInt8) (m : Nat) (hm : m = 8) (hR : endTo s.data.toList c 64 m = R) :
    Calls Tryd.prog 102 #[.string s, .int .u64 (c : Int)] w fun e w' => e = .returned (.string ⟨R.toArray⟩) ∧ Kept w w' := by
  have hmk : ∀ w' : World, (Instr.makeSlice 85 (.int .i64 64) (.int .i64 64)).run Tryd.prog w' = .ok (.slice (some ⟨w'.heap.size, 0, none⟩) 64 64) (w'.alloc (.cells (Lib.byteCells (List.replicate 64 0)).toArray 5)) := fun _ => by kernel_rfl
  have HR := Lib.hid hR
  have HM := Lib.hid hm
  have hl : s.data.toList.length = s.size := by simp
  have hcp := Lib.run_copy_row_string (P := Tryd.prog) (w.alloc (.cells (Lib.byteCells (List.replicate 64 0)).toArray 5)) 85 9 3 5 w.heap.size 0 64 64 s (Lib.byteCells (List.replicate 64 0)).toArray 5 Tryd.underlying85 (by kernel_rfl) (heap_alloc_new w _) (by omega) (by simp [Lib.byteCells]; omega)
  have hrow : ((Lib.byteCells (List.replicate 64 0)).toArray.toList.take 0 ++ Lib.byteCells s.data.toList ++ (Lib.byteCells (List.replicate 64 0)).toArray.toList.drop (0 + s.size)) = Lib.byteCells (s.data.toList ++ List.replicate (64 - s.size) 0) := by
    simp only [List.take_zero, List.nil_append, Nat.zero_add, Lib.byteCells, List.map_append, List.map_replicate, List.drop_replicate]
  rw [hrow, setRow_alloc] at hcp
  have HCP := Lib.hid hcp
  have HE0 : Hid ((s.data.toList ++ List.replicate (64 - s.size) 0).set s.size 128 = endTo s.data.toList c 64 0) := by show _ = _; rw [endTo, hl]
  have HEL : Hid (∀ i, (endTo s.data.toList c 64 i).length = 64) := fun i => endTo_len (by omega) i
  have HST : Hid (∀ i, endTo s.data.toList c 64 (i + 1) = (endTo s.data.toList c 64 i).set (63 - i) (byteOf c i)) := fun i => rfl
  clear hcp hrow hR hm
  go_enter Tryd.func102, Tryd.ntmps102
  go_upto_region 6 with (refine wpList_copy_runW _ rfl (.tmp 14) (.tmp 15) 85 9 rfl (.slice (some ⟨w.heap.size, 0, none⟩) 64 64) (.string s) rfl rfl HCP.out ?_)
  go_frame
  have OT : Hid (Own (w.alloc (.cells (Lib.byteCells (s.data.toList ++ List.replicate (64 - s.size) 0)).toArray 5)) w.heap.size 5 (Lib.byteCells (s.data.toList ++ List.replicate (64 - s.size) 0))) := Own.new w _ _
  have K : Kept w (w.alloc (.cells (Lib.byteCells (s.data.toList ++ List.replicate (64 - s.size) 0)).toArray 5)) := (Kept.refl w).alloc _
  generalize (w.alloc (.cells (Lib.byteCells (s.data.toList ++ List.replicate (64 - s.size) 0)).toArray 5)) = w1 at *
  have hl0 : (Lib.byteCells (s.data.toList ++ List.replicate (64 - s.size) 0)).length = 64 := by simp [Lib.byteCells]; omega
  obtain ⟨old, ho⟩ : ∃ v, w1.cell? ⟨w.heap.size, s.size, none⟩ = some v := ⟨_, OT.out.cell (by rw [hl0]; exact hle)⟩
  have hf := OT.out.frozen s.size
  have b0 : (0 : Int) ≤ (s.size : Int) := by omega
  have b1 : (s.size : Int) < 64 := by omega
  clear hl0 hl
  go_wp2
  go_loopw [21] (fun iv wq => ∃ i : Nat, i ≤ 8 ∧ iv = .int .i64 i ∧ Own wq w.heap.size 5 (Lib.byteCells (endTo s.data.toList c 64 i)) ∧ Kept w wq) (fun iv _ => 8 - (intOf iv).toNat)
  case atStart =>
    refine ⟨0, Nat.zero_le _, rfl, ?_, K.setCell (Nat.le_refl _) _⟩
    rw [← HE0.out, bc_set]
    exact OT.out.set_ s.size _
  case round =>
    clear OT K ho hf b0 b1
    obtain ⟨i, hi, rfl, ot, K⟩ := hrel
    have OT := Lib.hid ot
    by_cases hlt : i < 8
    · obtain ⟨old2, ho⟩ : ∃ v, wr.cell? ⟨w.heap.size, 63 - i, none⟩ = some v := ⟨_, ot.cell (by rw [Lib.byteCells, List.length_map, HEL.out]; omega)⟩
      have hf := ot.frozen (63 - i)
      clear ot
      have i0 : (0 : Int) ≤ (i : Int) := by omega
      have i1 : (i : Int) < 8 := by omega
      have i3 : (0 : Int) ≤ 8 * (i : Int) := by omega
      have q1 : IntKind.i64.wrap (8 * (i : Int)) = 8 * (i : Int) := IntWalk.i64_in _ (by omega)
      have q2 : IntKind.i64.wrap (63 - (i : Int)) = 63 - (i : Int) := IntWalk.i64_in _ (by omega)
      have q3 : (63 - (i : Int)).toNat = 63 - i := by omega
      have q4 : (0 : Int) ≤ 63 - (i : Int) := by omega
      have q5 : (i : Int) ≤ 63 := by omega
      have q6 : 63 - (i : Int) < 64 := by omega
      have q7 : min (8 * (i : Int)).toNat IntKind.u64.bits = 8 * i := by show min _ 64 = _; omega
      go_wp2
      go_roundw
      case rel =>
        rw [byte_of]
        refine ⟨i + 1, by omega, by go_num, ?_, K.setCell (Nat.le_refl _) _⟩
        rw [HST.out, bc_set]
        exact OT.out.set_ (63 - i) _
      case measure => simp [intOf]; omega
    · obtain rfl : i = m := by rw [HM.out]; omega
      clear ot
      rw [HR.out] at OT
      have hRl : R.length = 64 := by rw [← HR.out]; exact HEL.out _
      have hcv := run_convert_bytes_back (P := Tryd.prog) wr 85 9 5 ⟨w.heap.size, 0, none⟩ 64 R Tryd.underlying85 Tryd.underlying5 Tryd.underlying9 (fun j hj => by
        rw [Addr.add_mid, Nat.zero_add, OT.out.cell?, bc_at hj])
      rw [hRl] at hcv
      go_wp2
      go_ret
      exact ⟨rfl, K⟩
set_option maxRecDepth 100000 in
set_option maxHeartbeats 2000000 in
theorem ending_128 (s : ByteArray) (c : Nat) (w : World) (hs : s.size < 64) (h9 : (64 : Int) < (s.size : Int) + 9) (hle : s.size < 128) (R : List UInt8) (m : Nat) (hm : m = 8) (hR : endTo s.data.toList c 128 m = R) :
    Calls Tryd.prog 102 #[.string s, .int .u64 (c : Int)] w fun e w' => e = .returned (.string ⟨R.toArray⟩) ∧ Kept w w' := by
  have hmk : ∀ w' : World, (Instr.makeSlice 85 (.int .i64 128) (.int .i64 128)).run Tryd.prog w' = .ok (.slice (some ⟨w'.heap.size, 0, none⟩) 128 128) (w'.alloc (.cells (Lib.byteCells (List.replicate 128 0)).toArray 5)) := fun _ => by kernel_rfl
  have HR := Lib.hid hR
  have HM := Lib.hid hm
  have hl : s.data.toList.length = s.size := by simp
  have hcp := Lib.run_copy_row_string (P := Tryd.prog) (w.alloc (.cells (Lib.byteCells (List.replicate 128 0)).toArray 5)) 85 9 3 5 w.heap.size 0 128 128 s (Lib.byteCells (List.replicate 128 0)).toArray 5 Tryd.underlying85 (by kernel_rfl) (heap_alloc_new w _) (by omega) (by simp [Lib.byteCells]; omega)
  have hrow : ((Lib.byteCells (List.replicate 128 0)).toArray.toList.take 0 ++ Lib.byteCells s.data.toList ++ (Lib.byteCells (List.replicate 128 0)).toArray.toList.drop (0 + s.size)) = Lib.byteCells (s.data.toList ++ List.replicate (128 - s.size) 0) := by
    simp only [List.take_zero, List.nil_append, Nat.zero_add, Lib.byteCells, List.map_append, List.map_replicate, List.drop_replicate]
  rw [hrow, setRow_alloc] at hcp
  have HCP := Lib.hid hcp
  have HE0 : Hid ((s.data.toList ++ List.replicate (128 - s.size) 0).set s.size 128 = endTo s.data.toList c 128 0) := by show _ = _; rw [endTo, hl]
  have HEL : Hid (∀ i, (endTo s.data.toList c 128 i).length = 128) := fun i => endTo_len (by omega) i
  have HST : Hid (∀ i, endTo s.data.toList c 128 (i + 1) = (endTo s.data.toList c 128 i).set (127 - i) (byteOf c i)) := fun i => rfl
  clear hcp hrow hR hm
  go_enter Tryd.func102, Tryd.ntmps102
  go_upto_region 6 with (refine wpList_copy_runW _ rfl (.tmp 14) (.tmp 15) 85 9 rfl (.slice (some ⟨w.heap.size, 0, none⟩) 128 128) (.string s) rfl rfl HCP.out ?_)
  go_frame
  have OT : Hid (Own (w.alloc (.cells (Lib.byteCells (s.data.toList ++ List.replicate (128 - s.size) 0)).toArray 5)) w.heap.size 5 (Lib.byteCells (s.data.toList ++ List.replicate (128 - s.size) 0))) := Own.new w _ _
  have K : Kept w (w.alloc (.cells (Lib.byteCells (s.data.toList ++ List.replicate (128 - s.size) 0)).toArray 5)) := (Kept.refl w).alloc _
  generalize (w.alloc (.cells (Lib.byteCells (s.data.toList ++ List.replicate (128 - s.size) 0)).toArray 5)) = w1 at *
  have hl0 : (Lib.byteCells (s.data.toList ++ List.replicate (128 - s.size) 0)).length = 128 := by simp [Lib.byteCells]; omega
  obtain ⟨old, ho⟩ : ∃ v, w1.cell? ⟨w.heap.size, s.size, none⟩ = some v := ⟨_, OT.out.cell (by rw [hl0]; exact hle)⟩
  have hf := OT.out.frozen s.size
  have b0 : (0 : Int) ≤ (s.size : Int) := by omega
  have b1 : (s.size : Int) < 128 := by omega
  clear hl0 hl
  go_wp2
  go_loopw [21] (fun iv wq => ∃ i : Nat, i ≤ 8 ∧ iv = .int .i64 i ∧ Own wq w.heap.size 5 (Lib.byteCells (endTo s.data.toList c 128 i)) ∧ Kept w wq) (fun iv _ => 8 - (intOf iv).toNat)
  case atStart =>
    refine ⟨0, Nat.zero_le _, rfl, ?_, K.setCell (Nat.le_refl _) _⟩
    rw [← HE0.out, bc_set]
    exact OT.out.set_ s.size _
  case round =>
    clear OT K ho hf b0 b1
    obtain ⟨i, hi, rfl, ot, K⟩ := hrel
    have OT := Lib.hid ot
    by_cases hlt : i < 8
    · obtain ⟨old2, ho⟩ : ∃ v, wr.cell? ⟨w.heap.size, 127 - i, none⟩ = some v := ⟨_, ot.cell (by rw [Lib.byteCells, List.length_map, HEL.out]; omega)⟩
      have hf := ot.frozen (127 - i)
      clear ot
      have i0 : (0 : Int) ≤ (i : Int) := by omega
      have i1 : (i : Int) < 8 := by omega
      have i3 : (0 : Int) ≤ 8 * (i : Int) := by omega
      have q1 : IntKind.i64.wrap (8 * (i : Int)) = 8 * (i : Int) := IntWalk.i64_in _ (by omega)
      have q2 : IntKind.i64.wrap (127 - (i : Int)) = 127 - (i : Int) := IntWalk.i64_in _ (by omega)
      have q3 : (127 - (i : Int)).toNat = 127 - i := by omega
      have q4 : (0 : Int) ≤ 127 - (i : Int) := by omega
      have q5 : (i : Int) ≤ 127 := by omega
      have q6 : 127 - (i : Int) < 128 := by omega
      have q7 : min (8 * (i : Int)).toNat IntKind.u64.bits = 8 * i := by show min _ 64 = _; omega
      go_wp2
      go_roundw
      case rel =>
        rw [byte_of]
        refine ⟨i + 1, by omega, by go_num, ?_, K.setCell (Nat.le_refl _) _⟩
        rw [HST.out, bc_set]
        exact OT.out.set_ (127 - i) _
      case measure => simp [intOf]; omega
    · obtain rfl : i = m := by rw [HM.out]; omega
      clear ot
      rw [HR.out] at OT
      have hRl : R.length = 128 := by rw [← HR.out]; exact HEL.out _
      have hcv := run_convert_bytes_back (P := Tryd.prog) wr 85 9 5 ⟨w.heap.size, 0, none⟩ 128 R Tryd.underlying85 Tryd.underlying5 Tryd.underlying9 (fun j hj => by
        rw [Addr.add_mid, Nat.zero_add, OT.out.cell?, bc_at hj])
      rw [hRl] at hcv
      go_wp2
      go_ret
      exact ⟨rfl, K⟩
end Go.Proofs.YtagpimahicgkmaaDoor
