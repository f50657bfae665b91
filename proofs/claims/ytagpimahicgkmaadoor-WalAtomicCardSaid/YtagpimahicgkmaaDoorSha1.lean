/- Walk: sha.schedule. -/
import Derived.Test.YtagpimahicgkmaaDoorShaP
import Derived.Test.YtagpimahicgkmaaDoorTail
import Derived.StillTailTactics
import Derived.Lib.Hide
import Derived.Outline
import Derived.WalkSpells
import Derived.Deep.Cut
import Derived.Deep.CutRange
import Derived.Deep.CutBlock
import Derived.Deep.RegionHeld3
import Derived.Deep.QuietTactic
import Derived.BigQuiet
namespace Go.Proofs.YtagpimahicgkmaaDoor
open Go.RowKit

def T189 : TypeId := 189
theorem byte_ext {s : ByteArray} {a b j : Nat} (hb : b ≤ s.size) (hj : a + j < b) : byteAt (s.extract a b) j = byteAt s (a + j) := by
  unfold byteAt
  rw [ByteArray.data_extract, Array.toList_extract]
  simp only [List.getD, List.extract_eq_take_drop]
  rw [List.getElem?_take, if_pos (by omega), List.getElem?_drop]
set_option maxRecDepth 100000 in
set_option maxHeartbeats 2000000 in
theorem sched_n (s : ByteArray) (L : List UInt32) (n : Nat) (w : World) (hs : s.size = 64) (hn : n = 64) (hL : schTo s n = L) :
    Calls Tryd.prog 125 #[.string s] w fun e w' => e = .returned (.agg (wv L).toArray) ∧ Kept w w' := by
  have HS := Lib.hid hs
  have HL := Lib.hid hL
  have HLL : Hid (L.length = 64) := by show _ = _; rw [← hL, schTo_len]
  have HN := Lib.hid hn
  clear hL hn
  go_enter Tryd.func125, Tryd.ntmps125
  go_wp2
  go_loopw [11] (fun iv wr => ∃ i : Nat, i ≤ 16 ∧ iv = .int .i64 i ∧ Own wr w.heap.size 189 (wv (List.replicate 64 0)) ∧ Own wr (w.heap.size + 1) 189 (wv (schTo s i)) ∧ Kept w wr) (fun iv _ => 16 - (intOf iv).toNat)
  case atStart =>
    exact ⟨0, Nat.zero_le _, rfl, (Own.new w 189 (wv (List.replicate 64 0))).alloc _, Own.new1 w _ 189 (wv (List.replicate 64 0)), ((Kept.refl w).alloc _).alloc _⟩
  case round =>
    obtain ⟨i, hi, rfl, oz, ow, K⟩ := hrel
    have OZ := Lib.hid oz
    have OW := Lib.hid ow
    by_cases hlt : i < 16
    · have hc := ow.cell? i
      rw [wv_at (by rw [schTo_len]; omega)] at hc
      have hf := ow.frozen i
      clear oz ow
      have i0 : (0 : Int) ≤ (i : Int) := by omega
      have i1 : (i : Int) < 64 := by omega
      have hs64 : s.size = 64 := HS.out
      have q1 : IntKind.i64.wrap (4 * (i : Int)) = 4 * (i : Int) := IntWalk.i64_in _ (by omega)
      have hsl : ∀ w' : World, (Instr.slice 9 (.string s) (some (.int .i64 (4 * (i : Int)))) (some (.int .i64 (4 * (i : Int) + 4))) none).run Tryd.prog w' = .ok (.string (s.extract (4 * i) (4 * i + 4))) w' := fun w' => by
        have := run_slice_string (P := Tryd.prog) w' 9 s .i64 .i64 (4 * (i : Int)) (4 * (i : Int) + 4) Tryd.underlying9 (by omega) (by omega) (by omega)
        rw [this, show (4 * (i : Int)).toNat = 4 * i by omega, show (4 * (i : Int) + 4).toNat = 4 * i + 4 by omega]
      go_upto_region 6 with fail
      have ht4 : (s.extract (4 * i) (4 * i + 4)).size = 4 := by rw [ByteArray.size_extract]; omega
      have HW : Hid (nextW s (schTo s i) i = word4 (byteAt (s.extract (4 * i) (4 * i + 4)) 0) (byteAt (s.extract (4 * i) (4 * i + 4)) 1) (byteAt (s.extract (4 * i) (4 * i + 4)) 2) (byteAt (s.extract (4 * i) (4 * i + 4)) 3)) := by
        show _ = _
        rw [nextW, if_pos hlt, wordAt, byte_ext (by omega) (by omega), byte_ext (by omega) (by omega), byte_ext (by omega) (by omega), byte_ext (by omega) (by omega)]; rfl
      generalize s.extract (4 * i) (4 * i + 4) = t at *
      refine region_tail 20 (by kernel_rfl) (by kernel_rfl) ?_
      simp only [List.take_succ_cons, List.take_zero, List.drop_succ_cons, List.drop_zero]
      repeat still_step
      refine wpStill_nil ?_
      have hB := word_bits t[0] t[1] t[2] t[3]
      have HB : Hid (word4 t[0] t[1] t[2] t[3] = nextW s (schTo s i) i) := by
        show _ = _
        rw [HW.out, byteAt_lt, byteAt_lt, byteAt_lt, byteAt_lt]
      rw [HB.out] at hB
      go_wp2
      go_roundw
      case rel =>
        refine ⟨i + 1, by omega, by go_num, (OZ.out.far (by simp) _).drew, ?_, (K.setCell (by simp) _).drew⟩
        rw [schTo, wv_set]
        exact (OW.out.set_ i _).drew
      case measure => simp [intOf]; omega
    · obtain rfl : i = 16 := by omega
      clear oz ow
      go_wp2
      go_loopw [6] (fun iv wq => ∃ k : Nat, 16 ≤ k ∧ k ≤ 64 ∧ iv = .int .i64 k ∧ Own wq w.heap.size 189 (wv (List.replicate 64 0)) ∧ Own wq (w.heap.size + 1) 189 (wv (schTo s k)) ∧ Kept w wq) (fun iv _ => 64 - (intOf iv).toNat)
      case atStart => exact ⟨16, by omega, by omega, rfl, OZ.out, OW.out, K⟩
      case round =>
        clear OZ OW K
        obtain ⟨k, hk16, hk, rfl, oz, ow, K⟩ := hrel
        have OZ := Lib.hid oz
        have OW := Lib.hid ow
        by_cases hlt2 : k < 64
        · have c15 := ow.cell? (k - 15)
          rw [wv_at (by rw [schTo_len]; omega)] at c15
          have c2 := ow.cell? (k - 2)
          rw [wv_at (by rw [schTo_len]; omega)] at c2
          have c16 := ow.cell? (k - 16)
          rw [wv_at (by rw [schTo_len]; omega)] at c16
          have c7 := ow.cell? (k - 7)
          rw [wv_at (by rw [schTo_len]; omega)] at c7
          have hc := ow.cell? k
          rw [wv_at (by rw [schTo_len]; omega)] at hc
          have hf := ow.frozen k
          have HW : Hid (nextW s (schTo s k) k = ((at32 (schTo s k) (k - 16) + sig0 (at32 (schTo s k) (k - 15))) + at32 (schTo s k) (k - 7)) + sig1 (at32 (schTo s k) (k - 2))) := by show _ = _; rw [nextW, if_neg (by omega)]
          clear oz ow
          generalize at32 (schTo s k) (k - 16) = a16 at *
          generalize at32 (schTo s k) (k - 15) = a15 at *
          generalize at32 (schTo s k) (k - 7) = a7 at *
          generalize at32 (schTo s k) (k - 2) = a2 at *
          have k0 : (0 : Int) ≤ (k : Int) := by omega
          have k1 : (k : Int) < 64 := by omega
          have k2 : (16 : Int) ≤ (k : Int) := by omega
          have k7 : (7 : Int) ≤ (k : Int) := by omega
          have k15 : (15 : Int) ≤ (k : Int) := by omega
          have k22 : (2 : Int) ≤ (k : Int) := by omega
          have u7 : (k : Int) < 71 := by omega
          have w15 : IntKind.i64.wrap ((k : Int) - 15) = (k : Int) - 15 := IntWalk.i64_in _ (by omega)
          have w2 : IntKind.i64.wrap ((k : Int) - 2) = (k : Int) - 2 := IntWalk.i64_in _ (by omega)
          have w16 : IntKind.i64.wrap ((k : Int) - 16) = (k : Int) - 16 := IntWalk.i64_in _ (by omega)
          have w7 : IntKind.i64.wrap ((k : Int) - 7) = (k : Int) - 7 := IntWalk.i64_in _ (by omega)
          have t15 : ((k : Int) - 15).toNat = k - 15 := by omega
          have t2 : ((k : Int) - 2).toNat = k - 2 := by omega
          have t16 : ((k : Int) - 16).toNat = k - 16 := by omega
          have t7 : ((k : Int) - 7).toNat = k - 7 := by omega
          have p15 : (0 : Int) ≤ (k : Int) - 15 := by omega
          have p2 : (0 : Int) ≤ (k : Int) - 2 := by omega
          have p16 : (0 : Int) ≤ (k : Int) - 16 := by omega
          have p7 : (0 : Int) ≤ (k : Int) - 7 := by omega
          have l15 : (k : Int) - 15 < 64 := by omega
          have l2 : (k : Int) - 2 < 64 := by omega
          have l16 : (k : Int) - 16 < 64 := by omega
          have l7 : (k : Int) - 7 < 64 := by omega
          go_upto_region 11 with fail
          go_quiet (fail)
          have hs0 := sig0_bits a15
          have hs1 := sig1_bits a2
          go_wp2_with fail
          refine (rot7 _ _).mono ?_
          rintro e _ ⟨rfl, rfl⟩
          go_wp2_with fail
          refine (rot18 _ _).mono ?_
          rintro e _ ⟨rfl, rfl⟩
          go_wp2_with fail
          refine (rot17 _ _).mono ?_
          rintro e _ ⟨rfl, rfl⟩
          go_wp2_with fail
          refine (rot19 _ _).mono ?_
          rintro e _ ⟨rfl, rfl⟩
          go_upto_region 14 with fail
          refine region_tail 15 (by kernel_rfl) (by kernel_rfl) ?_
          simp only [List.take_succ_cons, List.take_zero, List.drop_succ_cons, List.drop_zero]
          repeat still_step
          refine wpStill_nil ?_
          have HSC : Hid (schTo s (k + 1) = (schTo s k).set k (nextW s (schTo s k) k)) := rfl
          have HVAL : Hid (((a16.toNat : Int) + ((sig0 a15).toNat : Int) + (a7.toNat : Int) + ((sig1 a2).toNat : Int)) % 4294967296 = ((nextW s (schTo s k) k).toNat : Int)) := by show _ = _; rw [uadd4, HW.out]
          clear w15 w2 w16 w7 t15 t2 t16 t7 p15 p2 p16 p7 l15 l2 l16 l7 k7 k15 k22 u7 c15 c2 c16 c7 hs0 hs1
          have wk : IntKind.i64.wrap ((k : Int) + 1) = (k : Int) + 1 := IntWalk.i64_in _ (by omega)
          go_wp2
          go_roundw
          case rel =>
            have hv := HVAL.out
            have ho := (OW.out.drewN (nq + 1)).set_ k (u32v (nextW s (schTo s k) k))
            rw [← wv_set, ← HSC.out] at ho
            (repeat apply Exists.intro)
            exact ⟨⟨k + 1, by omega, by omega, by go_num, (OZ.out.drewN _).far (by simp) _, by rw [hv]; exact ho, (K.drewN _).setCell (by simp) _⟩, rfl⟩
          case measure => simp [intOf]; omega
        · obtain rfl : k = n := by rw [HN.out]; omega
          rw [HL.out] at OW
          clear oz ow
          have hz := OZ.out.there (n := (wv L).toArray.size) (by simp [wv_len, HLL.out])
          have HSZ : Hid ((Tryd.prog.info? 189).map (·.size) = some (wv L).toArray.size) := by
            show _ = _
            rw [show (wv L).toArray.size = 64 by simp [wv_len, HLL.out]]; kernel_rfl
          go_wp2_with (first
            | (refine wpList_load_row rfl 189 (.tmp 3) rfl (w.heap.size + 1) rfl 189 (wv L).toArray (0, 0) _ OW.out Tryd.underlying189 rfl HSZ.out ?_)
            | (refine wpList_store_mid rfl 189 (.tmp 2) (.tmp 85) rfl w.heap.size 0 (wv L).toArray rfl rfl hz HSZ.out (wv_one _) ?_))
          have oz' := OZ.out.setAll (vs := (wv L).toArray.toList) (by simp [wv_len, HLL.out])
          refine bodyPost_ret (v := .agg (wv L).toArray) ?_ rfl ?_
          · exact results_cell_row Tryd.results125 _ _ w.heap.size 189 (wv L).toArray (0, 0) _ (by rfl) oz' Tryd.underlying189 rfl HSZ.out
          exact ⟨rfl, Kept.setCells (Nat.le_refl _) _ _ K⟩
theorem sched_any (s : ByteArray) (w : World) (hs : s.size = 64) :
    Calls Tryd.prog 125 #[.string s] w fun e w' => e = .returned (.agg (wv (sched s)).toArray) ∧ Kept w w' := sched_n s _ 64 w hs rfl rfl
end Go.Proofs.YtagpimahicgkmaaDoor
