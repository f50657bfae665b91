/- Walk: sha.Sum. -/
import Derived.Test.YtagpimahicgkmaaDoorSha3
import Derived.Test.YtagpimahicgkmaaDoorElem
namespace Go.Proofs.YtagpimahicgkmaaDoor
open Go.RowKit

def blocksTo (s : ByteArray) (st : St) : Nat → St
  | 0 => st
  | k + 1 => blockSt (blocksTo s st k) (s.extract (64 * k) (64 * k + 64))
def tailS (r : ByteArray) (c : Nat) : ByteArray := if 64 < r.size + 9 then ⟨(endTo r.data.toList c 128 8).toArray⟩ else ⟨(endTo r.data.toList c 64 8).toArray⟩
def sumSt (s : ByteArray) : St := blocksTo (tailS (s.extract (64 * (s.size / 64)) s.size) (s.size * 8)) (blocksTo s st0 (s.size / 64)) ((tailS (s.extract (64 * (s.size / 64)) s.size) (s.size * 8)).size / 64)
def stL (s : St) : List UInt32 := [s.a, s.b, s.c, s.d, s.e, s.f, s.g, s.h]
def be4 (x : UInt32) : List UInt8 := [(x >>> 24).toUInt8, (x >>> 16).toUInt8, (x >>> 8).toUInt8, x.toUInt8]
def digTo (s : St) (k : Nat) : List UInt8 := ((stL s).take k).flatMap be4
/-- The digest. -/
def shaS (s : ByteArray) : ByteArray := ⟨(digTo (sumSt s) 8).toArray⟩
theorem digTo_len (s : St) (k : Nat) (h : k ≤ 8) : (digTo s k).length = 4 * k := by
  unfold digTo
  have : ∀ l : List UInt32, (l.flatMap be4).length = 4 * l.length := fun l => by
    induction l with
    | nil => rfl
    | cons a l ih => rw [List.flatMap_cons, List.length_append, ih, List.length_cons]; simp [be4]; omega
  rw [this, List.length_take]
  simp [stL]; omega
theorem shaS_size (s : ByteArray) : (shaS s).size = 32 := by
  show (digTo (sumSt s) 8).toArray.size = 32
  rw [List.size_toArray, digTo_len _ _ (by omega)]
theorem tailS_size {r : ByteArray} {c : Nat} (h : r.size < 64) : (tailS r c).size = if 64 < r.size + 9 then 128 else 64 := by
  unfold tailS
  have hl : r.data.toList.length = r.size := by simp
  split
  · show (endTo _ _ _ _).toArray.size = 128
    rw [List.size_toArray, endTo_len (by omega)]
  · show (endTo _ _ _ _).toArray.size = 64
    rw [List.size_toArray, endTo_len (by omega)]
theorem ending_any (s : ByteArray) (c : Nat) (w : World) (hs : s.size < 64) :
    Calls Tryd.prog 102 #[.string s, .int .u64 (c : Int)] w fun e w' => e = .returned (.string (tailS s c)) ∧ Kept w w' := by
  unfold tailS
  by_cases h : 64 < s.size + 9
  · rw [if_pos h]
    exact ending_128 s c w hs (by omega) (by omega) _ 8 rfl rfl
  · rw [if_neg h]
    exact ending_64 s c w hs (by omega) (by omega) _ 8 rfl rfl
theorem ext_head {s : ByteArray} {a b : Nat} (h : a + 64 ≤ b) (hb : b ≤ s.size) : (s.extract a b).extract 0 64 = s.extract a (a + 64) := by
  apply ByteArray.ext
  simp only [ByteArray.data_extract, Array.extract_extract]
  congr 1; omega
theorem ext_rest {s : ByteArray} {a b : Nat} (h : a + 64 ≤ b) (hb : b ≤ s.size) : (s.extract a b).extract 64 (s.extract a b).size = s.extract (a + 64) b := by
  apply ByteArray.ext
  simp only [ByteArray.data_extract, Array.extract_extract, ByteArray.size_extract]
  congr 1; omega
theorem byte24 (x : UInt32) : (x.toNat : Int) / (16777216 : Int) % (256 : Int) = ((x >>> 24).toUInt8.toNat : Int) := by
  have h : (x.toNat : Int) / (16777216 : Int) = ((x >>> 24).toNat : Int) := ushr x 24 (by decide)
  rw [UInt32.toNat_toUInt8, h]; omega
theorem byte16 (x : UInt32) : (x.toNat : Int) / (65536 : Int) % (256 : Int) = ((x >>> 16).toUInt8.toNat : Int) := by
  have h : (x.toNat : Int) / (65536 : Int) = ((x >>> 16).toNat : Int) := ushr x 16 (by decide)
  rw [UInt32.toNat_toUInt8, h]; omega
theorem byte8 (x : UInt32) : (x.toNat : Int) / (256 : Int) % (256 : Int) = ((x >>> 8).toUInt8.toNat : Int) := by
  have h : (x.toNat : Int) / (256 : Int) = ((x >>> 8).toNat : Int) := ushr x 8 (by decide)
  rw [UInt32.toNat_toUInt8, h]; omega
theorem byte0 (x : UInt32) : (x.toNat : Int) % (256 : Int) = (x.toUInt8.toNat : Int) := by
  rw [UInt32.toNat_toUInt8]; omega
def stv8 (s : St) : Array Value := #[u32v s.a, u32v s.b, u32v s.c, u32v s.d, u32v s.e, u32v s.f, u32v s.g, u32v s.h]
def bc1 (b : UInt8) : List Value := [.int .u8 (b.toNat : Int)]
theorem bc_flat (l : List UInt8) : l.flatMap bc1 = Lib.byteCells l := by
  induction l with
  | nil => rfl
  | cons a l ih => rw [List.flatMap_cons, ih]; rfl
theorem Tryd.elU : Elem Tryd.prog 85 5 1 1 bc1 :=
  Elem.of (z := .int .u8 0) (by kernel_rfl) (by kernel_rfl) rfl (by omega) (fun _ => rfl)
theorem bc_one (l : List UInt8) : ∀ u ∈ l.flatMap bc1, u.oneCell' = true := by
  intro u hu
  obtain ⟨b, _, hb⟩ := List.mem_flatMap.1 hu
  rw [List.mem_singleton.1 hb]; rfl
theorem wv_stL (s : St) : wv (stL s) = stv s := rfl
set_option maxRecDepth 100000 in
set_option maxHeartbeats 4000000 in
theorem sum_n (s tl : ByteArray) (sa sb : St) (n m : Nat) (F G : Nat → St) (w : World) (ht : Tabs w) (hs : s.size ≤ 1000000) (hn : s.size / 64 = n) (hF0 : F 0 = st0) (hF : F n = sa) (hFs : ∀ k, F (k + 1) = blockSt (F k) (s.extract (64 * k) (64 * k + 64)))
    (htl : tailS (s.extract (64 * n) s.size) (s.size * 8) = tl) (htn : tl.size = 64 * m) (htm : m ≤ 2) (hG0 : G 0 = sa) (hG : G m = sb) (hGs : ∀ k, G (k + 1) = blockSt (G k) (tl.extract (64 * k) (64 * k + 64))) (D : Nat → List UInt8) (q : Nat) (hq : q = 8) (hD0 : D 0 = []) (hD : ∀ j, j < 8 → D j ++ be4 (at32 (stL sb) j) = D (j + 1)) (hDL : ∀ j, j ≤ 8 → (D j).length = 4 * j) :
    Calls Tryd.prog 80 #[.string s] w fun e w' => e = .returned (.string ⟨(D q).toArray⟩) ∧ Kept w w' := by
  have HT := Lib.hid ht
  have HF0 := Lib.hid hF0
  have HF := Lib.hid hF
  have HFS := Lib.hid hFs
  have HTL := Lib.hid htl
  have HTN := Lib.hid htn
  have HG0 := Lib.hid hG0
  have HG := Lib.hid hG
  have HGS := Lib.hid hGs
  have HQ := Lib.hid hq
  have HD0 := Lib.hid hD0
  have HD := Lib.hid hD
  have HDL := Lib.hid hDL
  have HN : Hid (64 * n ≤ s.size ∧ s.size < 64 * n + 64) := by show _ ∧ _; omega
  have i0 : w.cell? ⟨0, 0, none⟩ = some (u32v st0.a) := ht.ini.cell? 0
  have i1 : w.cell? ⟨0, 1, none⟩ = some (u32v st0.b) := ht.ini.cell? 1
  have i2 : w.cell? ⟨0, 2, none⟩ = some (u32v st0.c) := ht.ini.cell? 2
  have i3 : w.cell? ⟨0, 3, none⟩ = some (u32v st0.d) := ht.ini.cell? 3
  have i4 : w.cell? ⟨0, 4, none⟩ = some (u32v st0.e) := ht.ini.cell? 4
  have i5 : w.cell? ⟨0, 5, none⟩ = some (u32v st0.f) := ht.ini.cell? 5
  have i6 : w.cell? ⟨0, 6, none⟩ = some (u32v st0.g) := ht.ini.cell? 6
  have i7 : w.cell? ⟨0, 7, none⟩ = some (u32v st0.h) := ht.ini.cell? 7
  clear ht hF0 hF hFs htl htn hG0 hG hGs hq hD0 hD hDL hn
  go_enter Tryd.func80, Tryd.ntmps80
  go_wp2
  clear i0 i1 i2 i3 i4 i5 i6 i7
  have OS : Hid (Own (w.alloc (.cells (stv8 st0) 164)) w.heap.size 164 (stv (F 0))) := by
    rw [HF0.out]; exact Own.new w _ (stv st0)
  have K : Kept w (w.alloc (.cells (stv8 st0) 164)) := (Kept.refl w).alloc _
  unfold stv8 at OS K
  generalize (w.alloc (.cells #[u32v st0.a, u32v st0.b, u32v st0.c, u32v st0.d, u32v st0.e, u32v st0.f, u32v st0.g, u32v st0.h] 164)) = w1 at *
  go_loopw [4] (fun rv wq => ∃ (k : Nat) (r : ByteArray), k ≤ n ∧ Hid (r = s.extract (64 * k) s.size) ∧ rv = .string r ∧ Own wq w.heap.size 164 (stv (F k)) ∧ Kept w wq) (fun rv _ => match rv with | .string r => r.size | _ => 0)
  case atStart => exact ⟨0, s, Nat.zero_le _, by show _ = _; apply ByteArray.ext; simp, rfl, OS.out, K⟩
  case round =>
    clear OS K
    obtain ⟨k, r, hk, HRR, rfl, os, K⟩ := hrel
    have OS := Lib.hid os
    clear os
    have hrs : r.size = s.size - 64 * k := by rw [HRR.out, ByteArray.size_extract]; omega
    by_cases hlt : k < n
    · have h64 : (64 : Int) ≤ (r.size : Int) := by have := HN.out; omega
      have HE1 : Hid (r.extract 0 64 = s.extract (64 * k) (64 * k + 64)) := by show _ = _; rw [HRR.out]; exact ext_head (by have := HN.out; omega) (Nat.le_refl _)
      have HE2 : Hid (r.extract 64 (s.size - 64 * k) = s.extract (64 * (k + 1)) s.size) := by
        show _ = _
        rw [← hrs, HRR.out, ext_rest (by have := HN.out; omega) (Nat.le_refl _)]
        congr 1
      have HS1 := Lib.hid (HFS.out k)
      have HSZ : Hid ((s.extract (64 * k) (64 * k + 64)).size = 64) := by show _ = _; rw [ByteArray.size_extract]; have := HN.out; omega
      have HRS : Hid (64 ≤ r.size) := by show _ ≤ _; omega
      have c0 : wr.cell? ⟨w.heap.size, 0, none⟩ = some (u32v (F k).a) := OS.out.cell? 0
      have c1 : wr.cell? ⟨w.heap.size, 1, none⟩ = some (u32v (F k).b) := OS.out.cell? 1
      have c2 : wr.cell? ⟨w.heap.size, 2, none⟩ = some (u32v (F k).c) := OS.out.cell? 2
      have c3 : wr.cell? ⟨w.heap.size, 3, none⟩ = some (u32v (F k).d) := OS.out.cell? 3
      have c4 : wr.cell? ⟨w.heap.size, 4, none⟩ = some (u32v (F k).e) := OS.out.cell? 4
      have c5 : wr.cell? ⟨w.heap.size, 5, none⟩ = some (u32v (F k).f) := OS.out.cell? 5
      have c6 : wr.cell? ⟨w.heap.size, 6, none⟩ = some (u32v (F k).g) := OS.out.cell? 6
      have c7 : wr.cell? ⟨w.heap.size, 7, none⟩ = some (u32v (F k).h) := OS.out.cell? 7
      have f0 := OS.out.frozen 0
      have f1 := OS.out.frozen 1
      have f2 := OS.out.frozen 2
      have f3 := OS.out.frozen 3
      have f4 := OS.out.frozen 4
      have f5 := OS.out.frozen 5
      have f6 := OS.out.frozen 6
      have f7 := OS.out.frozen 7
      go_upto_region 4 with fail
      refine region_tail 3 (by kernel_rfl) (by kernel_rfl) ?_
      simp only [List.take_succ_cons, List.take_zero, List.drop_succ_cons, List.drop_zero]
      repeat still_step
      refine wpStill_nil ?_
      go_wp2_with fail
      rw [HE1.out]
      refine (block_any _ (F k) _ HSZ.out (HT.out.kept K.drew)).mono ?_
      rintro e w2 ⟨rfl, hk2⟩
      replace hk2 : Kept wr w2 := ((Kept.refl wr).drew).trans hk2
      rw [← HS1.out]
      unfold stv
      replace OS := Lib.hid (OS.out.kept hk2)
      replace K := K.trans hk2
      clear hk2 c0 c1 c2 c3 c4 c5 c6 c7 f0 f1 f2 f3 f4 f5 f6 f7
      have c0 : w2.cell? ⟨w.heap.size, 0, none⟩ = some (u32v (F k).a) := OS.out.cell? 0
      have c1 : w2.cell? ⟨w.heap.size, 1, none⟩ = some (u32v (F k).b) := OS.out.cell? 1
      have c2 : w2.cell? ⟨w.heap.size, 2, none⟩ = some (u32v (F k).c) := OS.out.cell? 2
      have c3 : w2.cell? ⟨w.heap.size, 3, none⟩ = some (u32v (F k).d) := OS.out.cell? 3
      have c4 : w2.cell? ⟨w.heap.size, 4, none⟩ = some (u32v (F k).e) := OS.out.cell? 4
      have c5 : w2.cell? ⟨w.heap.size, 5, none⟩ = some (u32v (F k).f) := OS.out.cell? 5
      have c6 : w2.cell? ⟨w.heap.size, 6, none⟩ = some (u32v (F k).g) := OS.out.cell? 6
      have c7 : w2.cell? ⟨w.heap.size, 7, none⟩ = some (u32v (F k).h) := OS.out.cell? 7
      have f0 := OS.out.frozen 0
      have f1 := OS.out.frozen 1
      have f2 := OS.out.frozen 2
      have f3 := OS.out.frozen 3
      have f4 := OS.out.frozen 4
      have f5 := OS.out.frozen 5
      have f6 := OS.out.frozen 6
      have f7 := OS.out.frozen 7
      go_wp2
      go_roundw
      case rel => exact ⟨k + 1, r.extract 64 (s.size - 64 * k), by omega, HE2, rfl, ((((((((OS.out.set_ 0 (u32v (F (k + 1)).a)).set_ 1 (u32v (F (k + 1)).b)).set_ 2 (u32v (F (k + 1)).c)).set_ 3 (u32v (F (k + 1)).d)).set_ 4 (u32v (F (k + 1)).e)).set_ 5 (u32v (F (k + 1)).f)).set_ 6 (u32v (F (k + 1)).g)).set_ 7 (u32v (F (k + 1)).h)), ((((((((K.setCell (p := ⟨w.heap.size, 0, none⟩) (Nat.le_refl _) (u32v (F (k + 1)).a)).setCell (p := ⟨w.heap.size, 1, none⟩) (Nat.le_refl _) (u32v (F (k + 1)).b)).setCell (p := ⟨w.heap.size, 2, none⟩) (Nat.le_refl _) (u32v (F (k + 1)).c)).setCell (p := ⟨w.heap.size, 3, none⟩) (Nat.le_refl _) (u32v (F (k + 1)).d)).setCell (p := ⟨w.heap.size, 4, none⟩) (Nat.le_refl _) (u32v (F (k + 1)).e)).setCell (p := ⟨w.heap.size, 5, none⟩) (Nat.le_refl _) (u32v (F (k + 1)).f)).setCell (p := ⟨w.heap.size, 6, none⟩) (Nat.le_refl _) (u32v (F (k + 1)).g)).setCell (p := ⟨w.heap.size, 7, none⟩) (Nat.le_refl _) (u32v (F (k + 1)).h))⟩
      case measure => show (r.extract 64 (s.size - 64 * k)).size < r.size; rw [ByteArray.size_extract]; have := HRS.out; omega
    · obtain rfl : k = n := by omega
      have hr64 : ¬ (64 : Int) ≤ (r.size : Int) := by have := HN.out; omega
      have hsz : (s.size : Int) ≤ 1000000 := by omega
      have HE := ending_any r (s.size * 8) wr (by have := HN.out; omega)
      rw [show ((s.size * 8 : Nat) : Int) = (s.size : Int) * 8 by omega, HRR.out, HTL.out, ← HRR.out] at HE
      replace HE := Lib.hid HE
      go_wp2_with fail
      refine HE.out.mono ?_
      rintro e w2 ⟨rfl, hk2⟩
      replace OS := Lib.hid (OS.out.kept hk2)
      replace K := K.trans hk2
      rw [HF.out, ← HG0.out] at OS
      clear hk2 hr64 hsz HE HRR hrs hlt
      go_wp2
      go_loopw [5] (fun rv wq => ∃ (k : Nat) (r : ByteArray), k ≤ m ∧ Hid (r = tl.extract (64 * k) tl.size) ∧ rv = .string r ∧ Own wq w.heap.size 164 (stv (G k)) ∧ Kept w wq) (fun rv _ => match rv with | .string r => r.size | _ => 0)
      case atStart => exact ⟨0, tl, Nat.zero_le _, by show _ = _; apply ByteArray.ext; simp, rfl, OS.out, K⟩
      case round =>
        clear OS K
        obtain ⟨k, r, hk, HRR, rfl, os, K⟩ := hrel
        have OS := Lib.hid os
        clear os
        have hrs : r.size = tl.size - 64 * k := by rw [HRR.out, ByteArray.size_extract]; omega
        by_cases hlt : k < m
        · have h64 : (64 : Int) ≤ (r.size : Int) := by have := HTN.out; omega
          have HE1 : Hid (r.extract 0 64 = tl.extract (64 * k) (64 * k + 64)) := by show _ = _; rw [HRR.out]; exact ext_head (by have := HTN.out; omega) (Nat.le_refl _)
          have HE2 : Hid (r.extract 64 (tl.size - 64 * k) = tl.extract (64 * (k + 1)) tl.size) := by
            show _ = _
            rw [← hrs, HRR.out, ext_rest (by have := HTN.out; omega) (Nat.le_refl _)]
            congr 1
          have HS1 := Lib.hid (HGS.out k)
          have HSZ : Hid ((tl.extract (64 * k) (64 * k + 64)).size = 64) := by show _ = _; rw [ByteArray.size_extract]; have := HTN.out; omega
          have HRS : Hid (64 ≤ r.size) := by show _ ≤ _; omega
          have c0 : wr.cell? ⟨w.heap.size, 0, none⟩ = some (u32v (G k).a) := OS.out.cell? 0
          have c1 : wr.cell? ⟨w.heap.size, 1, none⟩ = some (u32v (G k).b) := OS.out.cell? 1
          have c2 : wr.cell? ⟨w.heap.size, 2, none⟩ = some (u32v (G k).c) := OS.out.cell? 2
          have c3 : wr.cell? ⟨w.heap.size, 3, none⟩ = some (u32v (G k).d) := OS.out.cell? 3
          have c4 : wr.cell? ⟨w.heap.size, 4, none⟩ = some (u32v (G k).e) := OS.out.cell? 4
          have c5 : wr.cell? ⟨w.heap.size, 5, none⟩ = some (u32v (G k).f) := OS.out.cell? 5
          have c6 : wr.cell? ⟨w.heap.size, 6, none⟩ = some (u32v (G k).g) := OS.out.cell? 6
          have c7 : wr.cell? ⟨w.heap.size, 7, none⟩ = some (u32v (G k).h) := OS.out.cell? 7
          have f0 := OS.out.frozen 0
          have f1 := OS.out.frozen 1
          have f2 := OS.out.frozen 2
          have f3 := OS.out.frozen 3
          have f4 := OS.out.frozen 4
          have f5 := OS.out.frozen 5
          have f6 := OS.out.frozen 6
          have f7 := OS.out.frozen 7
          go_upto_region 8 with fail
          refine region_tail 3 (by kernel_rfl) (by kernel_rfl) ?_
          simp only [List.take_succ_cons, List.take_zero, List.drop_succ_cons, List.drop_zero]
          repeat still_step
          refine wpStill_nil ?_
          go_wp2_with fail
          rw [HE1.out]
          refine (block_any _ (G k) _ HSZ.out (HT.out.kept K.drew)).mono ?_
          rintro e w2 ⟨rfl, hk2⟩
          replace hk2 : Kept wr w2 := ((Kept.refl wr).drew).trans hk2
          rw [← HS1.out]
          unfold stv
          replace OS := Lib.hid (OS.out.kept hk2)
          replace K := K.trans hk2
          clear hk2 c0 c1 c2 c3 c4 c5 c6 c7 f0 f1 f2 f3 f4 f5 f6 f7
          have c0 : w2.cell? ⟨w.heap.size, 0, none⟩ = some (u32v (G k).a) := OS.out.cell? 0
          have c1 : w2.cell? ⟨w.heap.size, 1, none⟩ = some (u32v (G k).b) := OS.out.cell? 1
          have c2 : w2.cell? ⟨w.heap.size, 2, none⟩ = some (u32v (G k).c) := OS.out.cell? 2
          have c3 : w2.cell? ⟨w.heap.size, 3, none⟩ = some (u32v (G k).d) := OS.out.cell? 3
          have c4 : w2.cell? ⟨w.heap.size, 4, none⟩ = some (u32v (G k).e) := OS.out.cell? 4
          have c5 : w2.cell? ⟨w.heap.size, 5, none⟩ = some (u32v (G k).f) := OS.out.cell? 5
          have c6 : w2.cell? ⟨w.heap.size, 6, none⟩ = some (u32v (G k).g) := OS.out.cell? 6
          have c7 : w2.cell? ⟨w.heap.size, 7, none⟩ = some (u32v (G k).h) := OS.out.cell? 7
          have f0 := OS.out.frozen 0
          have f1 := OS.out.frozen 1
          have f2 := OS.out.frozen 2
          have f3 := OS.out.frozen 3
          have f4 := OS.out.frozen 4
          have f5 := OS.out.frozen 5
          have f6 := OS.out.frozen 6
          have f7 := OS.out.frozen 7
          go_wp2
          go_roundw
          case rel => exact ⟨k + 1, r.extract 64 (tl.size - 64 * k), by omega, HE2, rfl, ((((((((OS.out.set_ 0 (u32v (G (k + 1)).a)).set_ 1 (u32v (G (k + 1)).b)).set_ 2 (u32v (G (k + 1)).c)).set_ 3 (u32v (G (k + 1)).d)).set_ 4 (u32v (G (k + 1)).e)).set_ 5 (u32v (G (k + 1)).f)).set_ 6 (u32v (G (k + 1)).g)).set_ 7 (u32v (G (k + 1)).h)), ((((((((K.setCell (p := ⟨w.heap.size, 0, none⟩) (Nat.le_refl _) (u32v (G (k + 1)).a)).setCell (p := ⟨w.heap.size, 1, none⟩) (Nat.le_refl _) (u32v (G (k + 1)).b)).setCell (p := ⟨w.heap.size, 2, none⟩) (Nat.le_refl _) (u32v (G (k + 1)).c)).setCell (p := ⟨w.heap.size, 3, none⟩) (Nat.le_refl _) (u32v (G (k + 1)).d)).setCell (p := ⟨w.heap.size, 4, none⟩) (Nat.le_refl _) (u32v (G (k + 1)).e)).setCell (p := ⟨w.heap.size, 5, none⟩) (Nat.le_refl _) (u32v (G (k + 1)).f)).setCell (p := ⟨w.heap.size, 6, none⟩) (Nat.le_refl _) (u32v (G (k + 1)).g)).setCell (p := ⟨w.heap.size, 7, none⟩) (Nat.le_refl _) (u32v (G (k + 1)).h))⟩
          case measure => show (r.extract 64 (tl.size - 64 * k)).size < r.size; rw [ByteArray.size_extract]; have := HRS.out; omega
        · obtain rfl : k = m := by omega
          have hr64 : ¬ (64 : Int) ≤ (r.size : Int) := by have := HTN.out; omega
          rw [HG.out] at OS
          clear hrs
          have c0 : wr.cell? ⟨w.heap.size, 0, none⟩ = some (u32v sb.a) := OS.out.cell? 0
          have c1 : wr.cell? ⟨w.heap.size, 1, none⟩ = some (u32v sb.b) := OS.out.cell? 1
          have c2 : wr.cell? ⟨w.heap.size, 2, none⟩ = some (u32v sb.c) := OS.out.cell? 2
          have c3 : wr.cell? ⟨w.heap.size, 3, none⟩ = some (u32v sb.d) := OS.out.cell? 3
          have c4 : wr.cell? ⟨w.heap.size, 4, none⟩ = some (u32v sb.e) := OS.out.cell? 4
          have c5 : wr.cell? ⟨w.heap.size, 5, none⟩ = some (u32v sb.f) := OS.out.cell? 5
          have c6 : wr.cell? ⟨w.heap.size, 6, none⟩ = some (u32v sb.g) := OS.out.cell? 6
          have c7 : wr.cell? ⟨w.heap.size, 7, none⟩ = some (u32v sb.h) := OS.out.cell? 7
          have zS := OS.out.lt
          have hmk : ∀ w' : World, (Instr.makeSlice 85 (.int .i64 0) (.int .i64 32)).run Tryd.prog w' = .ok (.slice (some ⟨w'.heap.size, 0, none⟩) 0 32) (w'.alloc (.cells (Lib.byteCells (List.replicate 32 0)).toArray 5)) := fun _ => by kernel_rfl
          obtain ⟨zs, hzs⟩ : ∃ z : Array Value, (Lib.byteCells (List.replicate 32 0)).toArray = z := ⟨_, rfl⟩
          have HZ : Hid (zs.size = 32) := by show _ = _; rw [← hzs]; simp [Lib.byteCells]
          rw [hzs] at hmk
          clear hzs
          have HOW : Hid ((wr.alloc (.cells zs 5)).ownsRow wr.heap.size 5 1 (.slice (some ⟨wr.heap.size, 0, none⟩) 0 32) (D 0).length ((D 0).flatMap bc1)) := by
            rw [HD0.out]
            exact ⟨rfl, .inr ⟨wr.heap.size, 32, _, rfl, Nat.le_refl _, heap_alloc_new wr _, by simp, by decide, by rw [HZ.out], by simp⟩⟩
          go_wp2
          have K1 := K.alloc (.cells zs 5)
          have hgw : wr.heap.size ≤ (wr.alloc (.cells zs 5)).heap.size := by simp
          generalize (wr.alloc (.cells zs 5)) = w5 at *
          generalize hgb : wr.heap.size = gB at *
          have HGB : Hid (w.heap.size ≤ gB ∧ gB ≤ w5.heap.size) := by show _ ∧ _; exact ⟨by omega, hgw⟩
          clear c0 c1 c2 c3 c4 c5 c6 c7 K OS hgb hgw
          go_loopw [6, 37] (fun ov iv wq => ∃ (j : Nat) (A : Option Addr) (c : Nat), j ≤ 8 ∧ iv = .int .i64 j ∧ ov = .slice A (D j).length c ∧ wq.ownsRow gB 5 1 (.slice A (D j).length c) (D j).length ((D j).flatMap bc1) ∧ Kept w wq ∧ gB ≤ wq.heap.size) (fun _ iv _ => 8 - (intOf iv).toNat)
          case atStart => exact ⟨0, some ⟨gB, 0, none⟩, 32, Nat.zero_le _, rfl, by rw [HD0.out]; rfl, by have := HOW.out; rw [HD0.out] at this ⊢; exact this, K1, HGB.out.2⟩
          case round =>
            clear K1 HOW
            obtain ⟨j, A, c, hj, rfl, rfl, how, K, hgq⟩ := hrel
            have HOW1 := Lib.hid how
            clear how
            by_cases hlt : j < 8
            · have hix := fun w' => run_index_arr (P := Tryd.prog) w' 164 163 8 (stL sb) j Tryd.underlying164 Tryd.isAgg163 Tryd.szU32 hlt hlt
              change ∀ w' : World, (Instr.index 164 (.agg #[u32v sb.a, u32v sb.b, u32v sb.c, u32v sb.d, u32v sb.e, u32v sb.f, u32v sb.g, u32v sb.h]) (.int .i64 (j : Int))).run Tryd.prog w' = .ok (u32v (at32 (stL sb) j)) w' at hix
              have HJ := Lib.hid (HD.out j hlt)
              have HL1 := Lib.hid (HDL.out j hj)
              generalize at32 (stL sb) j = x at hix HJ
              have E3 := Lib.hid (byte24 x)
              have E2 := Lib.hid (byte16 x)
              have E1 := Lib.hid (byte8 x)
              have E0 := Lib.hid (byte0 x)
              have hmax : (D j).length + 4 ≤ maxLen := by rw [HL1.out]; unfold maxLen; omega
              have hmax2 : ((D j).length + 4) * 1 ≤ 140737488355328 := by rw [HL1.out]; omega
              go_upto_region 14 with fail
              clear hix
              go_upto_region 15 with (at_builtin; go_must (refine Tryd.elU.wpList_app rfl (.tmp 40) (.tmp 52) rfl gB _ (D j) rfl (HOW1.out.alloc _) [] (some ⟨wr.heap.size, 0, none⟩) 4 (be4 x) rfl (by rw [E3.out, E2.out, E1.out, E0.out]; exact (Own.new wr _ ((be4 x).flatMap bc1)).row (by simp)) (bc_one _) hmax hmax2 (by simp; omega) ?_; intro v3 w3 hown3 hg3 hat3))
              rw [HJ.out] at hown3
              have hgk : ∀ k, (Value.slice A ((D j).length) c).ownBlock = some k → gB ≤ k := fun k hk => (ownBlock_of HOW1.out hk).1
              obtain ⟨A3, c3, rfl, hc3, hm3, hr3⟩ := own_form (V := []) hown3 (by simp)
              have K3 := (K.alloc _).grown hg3 (fun k hk => by have := hgk k hk; have := HGB.out.1; omega)
              have hg5 : gB ≤ w3.heap.size := Nat.le_trans hgq (Nat.le_trans (by simp) hg3.size)
              have HOW3 := Lib.hid hown3
              clear hown3 hg3 hr3 hat3 E3 E2 E1 E0
              go_wp2
              go_roundw
              case rel => exact ⟨j + 1, A3, c3, by omega, by go_num, rfl, HOW3.out, K3, hg5⟩
              case measure => simp [intOf]; omega
            · obtain rfl : j = q := by rw [HQ.out]; omega
              obtain ⟨A3, c3, hA, hc3, hm3, hr3⟩ := own_form (V := []) HOW1.out (by simp)
              injection hA with hA1 hA2 hA3
              subst hA1 hA3
              have hl32 : (D j).length = 32 := by rw [HDL.out j hj]; have := HQ.out; omega
              obtain ⟨b, o, rfl, hb, _, hcl⟩ := hr3 (by rw [Tryd.elU.cells_length]; omega)
              have hcv := run_convert_bytes_back (P := Tryd.prog) wr 85 9 5 ⟨b, o, none⟩ c (D j) Tryd.underlying85 Tryd.underlying5 Tryd.underlying9 (fun i hi => by
                rw [Addr.add_mid]
                exact hcl i _ (by rw [bc_flat]; exact bc_at hi))
              rw [hl32] at hcv
              have hj8 : ¬ (j : Int) < 8 := by omega
              go_wp2
              go_ret
              exact ⟨rfl, K⟩
theorem sum_any (s : ByteArray) (w : World) (ht : Tabs w) (hs : s.size ≤ 1000000) :
    Calls Tryd.prog 80 #[.string s] w fun e w' => e = .returned (.string (shaS s)) ∧ Kept w w' := by
  have hr : (s.extract (64 * (s.size / 64)) s.size).size < 64 := by rw [ByteArray.size_extract]; omega
  have htz := tailS_size (c := s.size * 8) hr
  generalize htl : tailS (s.extract (64 * (s.size / 64)) s.size) (s.size * 8) = tl at htz
  generalize hsa : blocksTo s st0 (s.size / 64) = sa
  generalize hm : tl.size / 64 = m
  generalize hsb : blocksTo tl sa m = sb
  have htm : m ≤ 2 ∧ tl.size = 64 * m := by
    split at htz
    · omega
    · omega
  have he : shaS s = ⟨(digTo sb 8).toArray⟩ := by
    unfold shaS sumSt
    rw [htl, hsa, hm, hsb]
  rw [he]
  generalize hq : (8 : Nat) = q
  refine sum_n s tl sa sb (s.size / 64) m (blocksTo s st0) (blocksTo tl sa) w ht hs rfl rfl hsa (fun _ => rfl) htl htm.2 htm.1 rfl hsb (fun _ => rfl) (digTo sb) q hq.symm rfl (fun j hj => ?_) (fun j hj => digTo_len sb j hj)
  unfold digTo
  rw [List.take_succ_eq_append_getElem (show j < (stL sb).length from hj), List.flatMap_append]
  have e : at32 (stL sb) j = (stL sb)[j]'(show j < (stL sb).length from hj) := by unfold at32; rw [List.getD_eq_getElem?_getD, List.getElem?_eq_getElem (show j < (stL sb).length from hj)]; rfl
  rw [e]; simp
end Go.Proofs.YtagpimahicgkmaaDoor
