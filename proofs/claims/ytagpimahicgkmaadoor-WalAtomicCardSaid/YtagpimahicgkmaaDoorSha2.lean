/- Walk: sha.Block. -/
import Derived.Test.YtagpimahicgkmaaDoorSha1
namespace Go.Proofs.YtagpimahicgkmaaDoor
open Go.RowKit

theorem sum1_bits (x : UInt32) : bits .xor .u32 (bits .xor .u32 ((rotr x 6).toNat : Int) ((rotr x 11).toNat : Int)) ((rotr x 25).toNat : Int) = ((sum1 x).toNat : Int) := by
  rw [uxor, uxor]; rfl
theorem sum0_bits (x : UInt32) : bits .xor .u32 (bits .xor .u32 ((rotr x 2).toNat : Int) ((rotr x 13).toNat : Int)) ((rotr x 22).toNat : Int) = ((sum0 x).toNat : Int) := by
  rw [uxor, uxor]; rfl
set_option maxRecDepth 100000 in
set_option maxHeartbeats 4000000 in
theorem block_n (s : ByteArray) (L : List UInt32) (n : Nat) (st : St) (w : World) (hs : s.size = 64) (hn : n = 64) (hll : L.length = 64) (hsc : ∀ w, Calls Tryd.prog 125 #[.string s] w fun e w' => e = .returned (.agg (wv L).toArray) ∧ Kept w w') (ht : Tabs w) :
    Calls Tryd.prog 101 #[.agg #[u32v st.a, u32v st.b, u32v st.c, u32v st.d, u32v st.e, u32v st.f, u32v st.g, u32v st.h], .string s] w fun e w' => e = .returned (.agg (stv (addSt st (rndTo L st n))).toArray) ∧ Kept w w' := by
  have HS := Lib.hid hs
  have HSC := Lib.hid hsc
  have HLL := Lib.hid hll
  have HN := Lib.hid hn
  have HT := Lib.hid ht
  clear hsc hll hn ht
  have hs64 : (s.size : Int) = 64 := by omega
  go_enter Tryd.func101, Tryd.ntmps101
  go_wp2_with fail
  have OX : Hid (Own ((w.alloc (.cells #[u32v st.a, u32v st.b, u32v st.c, u32v st.d, u32v st.e, u32v st.f, u32v st.g, u32v st.h] 164)).alloc (.cells #[.int .u32 0, .int .u32 0, .int .u32 0, .int .u32 0, .int .u32 0, .int .u32 0, .int .u32 0, .int .u32 0] 164)) w.heap.size 164 (stv st)) := (Own.newAt w w.heap.size 164 (stv st) rfl).alloc (.cells #[.int .u32 0, .int .u32 0, .int .u32 0, .int .u32 0, .int .u32 0, .int .u32 0, .int .u32 0, .int .u32 0] 164)
  have OR : Hid (Own ((w.alloc (.cells #[u32v st.a, u32v st.b, u32v st.c, u32v st.d, u32v st.e, u32v st.f, u32v st.g, u32v st.h] 164)).alloc (.cells #[.int .u32 0, .int .u32 0, .int .u32 0, .int .u32 0, .int .u32 0, .int .u32 0, .int .u32 0, .int .u32 0] 164)) (w.heap.size + 1) 164 [.int .u32 0, .int .u32 0, .int .u32 0, .int .u32 0, .int .u32 0, .int .u32 0, .int .u32 0, .int .u32 0]) := Own.new1 w (.cells #[u32v st.a, u32v st.b, u32v st.c, u32v st.d, u32v st.e, u32v st.f, u32v st.g, u32v st.h] 164) 164 [.int .u32 0, .int .u32 0, .int .u32 0, .int .u32 0, .int .u32 0, .int .u32 0, .int .u32 0, .int .u32 0]
  have K : Kept w ((w.alloc (.cells #[u32v st.a, u32v st.b, u32v st.c, u32v st.d, u32v st.e, u32v st.f, u32v st.g, u32v st.h] 164)).alloc (.cells #[.int .u32 0, .int .u32 0, .int .u32 0, .int .u32 0, .int .u32 0, .int .u32 0, .int .u32 0, .int .u32 0] 164)) := ((Kept.refl w).alloc (.cells #[u32v st.a, u32v st.b, u32v st.c, u32v st.d, u32v st.e, u32v st.f, u32v st.g, u32v st.h] 164)).alloc (.cells #[.int .u32 0, .int .u32 0, .int .u32 0, .int .u32 0, .int .u32 0, .int .u32 0, .int .u32 0, .int .u32 0] 164)
  generalize ((w.alloc (.cells #[u32v st.a, u32v st.b, u32v st.c, u32v st.d, u32v st.e, u32v st.f, u32v st.g, u32v st.h] 164)).alloc (.cells #[.int .u32 0, .int .u32 0, .int .u32 0, .int .u32 0, .int .u32 0, .int .u32 0, .int .u32 0, .int .u32 0] 164)) = w1 at *
  refine (HSC.out w1).mono ?_
  rintro e w2 ⟨rfl, hk⟩
  replace OX := Lib.hid (OX.out.kept hk)
  replace OR := Lib.hid (OR.out.kept hk)
  replace K := K.trans hk
  clear hk w1 hs hs64
  have HSZ : Hid ((Tryd.prog.info? 189).map (·.size) = some (wv L).toArray.size) := by
    show _ = _
    rw [show (wv L).toArray.size = 64 by simp [wv_len, HLL.out]]; kernel_rfl
  have ow : Own (w2.alloc (.cells #[.int .u32 0, .int .u32 0, .int .u32 0, .int .u32 0, .int .u32 0, .int .u32 0, .int .u32 0, .int .u32 0, .int .u32 0, .int .u32 0, .int .u32 0, .int .u32 0, .int .u32 0, .int .u32 0, .int .u32 0, .int .u32 0, .int .u32 0, .int .u32 0, .int .u32 0, .int .u32 0, .int .u32 0, .int .u32 0, .int .u32 0, .int .u32 0, .int .u32 0, .int .u32 0, .int .u32 0, .int .u32 0, .int .u32 0, .int .u32 0, .int .u32 0, .int .u32 0, .int .u32 0, .int .u32 0, .int .u32 0, .int .u32 0, .int .u32 0, .int .u32 0, .int .u32 0, .int .u32 0, .int .u32 0, .int .u32 0, .int .u32 0, .int .u32 0, .int .u32 0, .int .u32 0, .int .u32 0, .int .u32 0, .int .u32 0, .int .u32 0, .int .u32 0, .int .u32 0, .int .u32 0, .int .u32 0, .int .u32 0, .int .u32 0, .int .u32 0, .int .u32 0, .int .u32 0, .int .u32 0, .int .u32 0, .int .u32 0, .int .u32 0, .int .u32 0] 189)) w2.heap.size 189 (wv (List.replicate 64 0)) := Own.new w2 189 (wv (List.replicate 64 0))
  have hz := ow.there (n := (wv L).toArray.size) (by simp [wv_len, HLL.out])
  have OW : Hid (Own ((w2.alloc (.cells #[.int .u32 0, .int .u32 0, .int .u32 0, .int .u32 0, .int .u32 0, .int .u32 0, .int .u32 0, .int .u32 0, .int .u32 0, .int .u32 0, .int .u32 0, .int .u32 0, .int .u32 0, .int .u32 0, .int .u32 0, .int .u32 0, .int .u32 0, .int .u32 0, .int .u32 0, .int .u32 0, .int .u32 0, .int .u32 0, .int .u32 0, .int .u32 0, .int .u32 0, .int .u32 0, .int .u32 0, .int .u32 0, .int .u32 0, .int .u32 0, .int .u32 0, .int .u32 0, .int .u32 0, .int .u32 0, .int .u32 0, .int .u32 0, .int .u32 0, .int .u32 0, .int .u32 0, .int .u32 0, .int .u32 0, .int .u32 0, .int .u32 0, .int .u32 0, .int .u32 0, .int .u32 0, .int .u32 0, .int .u32 0, .int .u32 0, .int .u32 0, .int .u32 0, .int .u32 0, .int .u32 0, .int .u32 0, .int .u32 0, .int .u32 0, .int .u32 0, .int .u32 0, .int .u32 0, .int .u32 0, .int .u32 0, .int .u32 0, .int .u32 0, .int .u32 0] 189)).setCells w2.heap.size 0 (wv L).toArray.toList) w2.heap.size 189 (wv L)) := ow.setAll (vs := (wv L).toArray.toList) (by simp [wv_len, HLL.out])
  have zX := OX.out.lt
  have zR := OR.out.lt
  replace OX : Hid (Own ((w2.alloc (.cells #[.int .u32 0, .int .u32 0, .int .u32 0, .int .u32 0, .int .u32 0, .int .u32 0, .int .u32 0, .int .u32 0, .int .u32 0, .int .u32 0, .int .u32 0, .int .u32 0, .int .u32 0, .int .u32 0, .int .u32 0, .int .u32 0, .int .u32 0, .int .u32 0, .int .u32 0, .int .u32 0, .int .u32 0, .int .u32 0, .int .u32 0, .int .u32 0, .int .u32 0, .int .u32 0, .int .u32 0, .int .u32 0, .int .u32 0, .int .u32 0, .int .u32 0, .int .u32 0, .int .u32 0, .int .u32 0, .int .u32 0, .int .u32 0, .int .u32 0, .int .u32 0, .int .u32 0, .int .u32 0, .int .u32 0, .int .u32 0, .int .u32 0, .int .u32 0, .int .u32 0, .int .u32 0, .int .u32 0, .int .u32 0, .int .u32 0, .int .u32 0, .int .u32 0, .int .u32 0, .int .u32 0, .int .u32 0, .int .u32 0, .int .u32 0, .int .u32 0, .int .u32 0, .int .u32 0, .int .u32 0, .int .u32 0, .int .u32 0, .int .u32 0, .int .u32 0] 189)).setCells w2.heap.size 0 (wv L).toArray.toList) w.heap.size 164 (stv st)) := (OX.out.alloc _).farAll (by omega) _ _
  replace OR : Hid (Own ((w2.alloc (.cells #[.int .u32 0, .int .u32 0, .int .u32 0, .int .u32 0, .int .u32 0, .int .u32 0, .int .u32 0, .int .u32 0, .int .u32 0, .int .u32 0, .int .u32 0, .int .u32 0, .int .u32 0, .int .u32 0, .int .u32 0, .int .u32 0, .int .u32 0, .int .u32 0, .int .u32 0, .int .u32 0, .int .u32 0, .int .u32 0, .int .u32 0, .int .u32 0, .int .u32 0, .int .u32 0, .int .u32 0, .int .u32 0, .int .u32 0, .int .u32 0, .int .u32 0, .int .u32 0, .int .u32 0, .int .u32 0, .int .u32 0, .int .u32 0, .int .u32 0, .int .u32 0, .int .u32 0, .int .u32 0, .int .u32 0, .int .u32 0, .int .u32 0, .int .u32 0, .int .u32 0, .int .u32 0, .int .u32 0, .int .u32 0, .int .u32 0, .int .u32 0, .int .u32 0, .int .u32 0, .int .u32 0, .int .u32 0, .int .u32 0, .int .u32 0, .int .u32 0, .int .u32 0, .int .u32 0, .int .u32 0, .int .u32 0, .int .u32 0, .int .u32 0, .int .u32 0] 189)).setCells w2.heap.size 0 (wv L).toArray.toList) (w.heap.size + 1) 164 [.int .u32 0, .int .u32 0, .int .u32 0, .int .u32 0, .int .u32 0, .int .u32 0, .int .u32 0, .int .u32 0]) := (OR.out.alloc _).farAll (by omega) _ _
  replace K : Kept w ((w2.alloc (.cells #[.int .u32 0, .int .u32 0, .int .u32 0, .int .u32 0, .int .u32 0, .int .u32 0, .int .u32 0, .int .u32 0, .int .u32 0, .int .u32 0, .int .u32 0, .int .u32 0, .int .u32 0, .int .u32 0, .int .u32 0, .int .u32 0, .int .u32 0, .int .u32 0, .int .u32 0, .int .u32 0, .int .u32 0, .int .u32 0, .int .u32 0, .int .u32 0, .int .u32 0, .int .u32 0, .int .u32 0, .int .u32 0, .int .u32 0, .int .u32 0, .int .u32 0, .int .u32 0, .int .u32 0, .int .u32 0, .int .u32 0, .int .u32 0, .int .u32 0, .int .u32 0, .int .u32 0, .int .u32 0, .int .u32 0, .int .u32 0, .int .u32 0, .int .u32 0, .int .u32 0, .int .u32 0, .int .u32 0, .int .u32 0, .int .u32 0, .int .u32 0, .int .u32 0, .int .u32 0, .int .u32 0, .int .u32 0, .int .u32 0, .int .u32 0, .int .u32 0, .int .u32 0, .int .u32 0, .int .u32 0, .int .u32 0, .int .u32 0, .int .u32 0, .int .u32 0] 189)).setCells w2.heap.size 0 (wv L).toArray.toList) := Kept.setCells K.size _ _ (K.alloc _)
  clear ow
  go_upto_region 4 with (refine wpList_store_mid rfl 189 (.tmp 5) (.tmp 27) rfl w2.heap.size 0 (wv L).toArray rfl rfl hz HSZ.out (wv_one _) ?_)
  clear hz
  generalize ((w2.alloc (.cells #[.int .u32 0, .int .u32 0, .int .u32 0, .int .u32 0, .int .u32 0, .int .u32 0, .int .u32 0, .int .u32 0, .int .u32 0, .int .u32 0, .int .u32 0, .int .u32 0, .int .u32 0, .int .u32 0, .int .u32 0, .int .u32 0, .int .u32 0, .int .u32 0, .int .u32 0, .int .u32 0, .int .u32 0, .int .u32 0, .int .u32 0, .int .u32 0, .int .u32 0, .int .u32 0, .int .u32 0, .int .u32 0, .int .u32 0, .int .u32 0, .int .u32 0, .int .u32 0, .int .u32 0, .int .u32 0, .int .u32 0, .int .u32 0, .int .u32 0, .int .u32 0, .int .u32 0, .int .u32 0, .int .u32 0, .int .u32 0, .int .u32 0, .int .u32 0, .int .u32 0, .int .u32 0, .int .u32 0, .int .u32 0, .int .u32 0, .int .u32 0, .int .u32 0, .int .u32 0, .int .u32 0, .int .u32 0, .int .u32 0, .int .u32 0, .int .u32 0, .int .u32 0, .int .u32 0, .int .u32 0, .int .u32 0, .int .u32 0, .int .u32 0, .int .u32 0] 189)).setCells w2.heap.size 0 (wv L).toArray.toList) = w3 at *
  generalize w2.heap.size = gW at *
  go_frame
  have c0 : w3.cell? ⟨w.heap.size, 0, none⟩ = some (u32v st.a) := OX.out.cell? 0
  have c1 : w3.cell? ⟨w.heap.size, 1, none⟩ = some (u32v st.b) := OX.out.cell? 1
  have c2 : w3.cell? ⟨w.heap.size, 2, none⟩ = some (u32v st.c) := OX.out.cell? 2
  have c3 : w3.cell? ⟨w.heap.size, 3, none⟩ = some (u32v st.d) := OX.out.cell? 3
  have c4 : w3.cell? ⟨w.heap.size, 4, none⟩ = some (u32v st.e) := OX.out.cell? 4
  have c5 : w3.cell? ⟨w.heap.size, 5, none⟩ = some (u32v st.f) := OX.out.cell? 5
  have c6 : w3.cell? ⟨w.heap.size, 6, none⟩ = some (u32v st.g) := OX.out.cell? 6
  have c7 : w3.cell? ⟨w.heap.size, 7, none⟩ = some (u32v st.h) := OX.out.cell? 7
  go_quiet (fail)
  go_wp2_with fail
  go_quiet (fail)
  go_wp2_with (refine wpList_load_row rfl 189 (.tmp 5) rfl gW rfl 189 (wv L).toArray (0, 0) _ OW.out Tryd.underlying189 rfl HSZ.out ?_)
  go_loop [6, 7, 8, 9, 10, 11, 12, 13, 45] (fun va vb vc vd ve vf vg vh iv => ∃ i : Nat, i ≤ 64 ∧ iv = .int .i64 i ∧ va = u32v (rndTo L st i).a ∧ vb = u32v (rndTo L st i).b ∧ vc = u32v (rndTo L st i).c ∧ vd = u32v (rndTo L st i).d ∧ ve = u32v (rndTo L st i).e ∧ vf = u32v (rndTo L st i).f ∧ vg = u32v (rndTo L st i).g ∧ vh = u32v (rndTo L st i).h) (fun _ _ _ _ _ _ _ _ iv => 64 - (intOf iv).toNat)
  case atStart => exact ⟨0, Nat.zero_le _, rfl, rfl, rfl, rfl, rfl, rfl, rfl, rfl, rfl⟩
  case round =>
    obtain ⟨i, hi, rfl, rfl, rfl, rfl, rfl, rfl, rfl, rfl, rfl⟩ := hrel
    by_cases hlt : i < 64
    · have hx := fun w => run_index_arr (P := Tryd.prog) w 189 163 64 L i Tryd.underlying189 Tryd.isAgg163 Tryd.szU32 (by rw [HLL.out]; exact hlt) hlt
      have ck : w3.cell? ⟨1, i, none⟩ = some (u32v (at32 K64 i)) := by
        have := (HT.out.kept K).rou.cell? i
        rw [wv_at (by rw [K64_len]; exact hlt)] at this
        exact this
      have HR : Hid (rndTo L st (i + 1) = rnd (at32 K64 i) (at32 L i) (rndTo L st i)) := rfl
      generalize rndTo L st i = s1 at *
      generalize at32 L i = wi at *
      generalize at32 K64 i = ki at *
      obtain ⟨xa, xb, xc, xd, xe, xf, xg, xh⟩ := s1
      simp only
      have i0 : (0 : Int) ≤ (i : Int) := by omega
      have i1 : (i : Int) < 64 := by omega
      have b1 := sum1_bits xe
      have b0 := sum0_bits xa
      clear c0 c1 c2 c3 c4 c5 c6 c7
      go_wp2_with fail
      refine (rot6 _ _).mono ?_
      rintro e _ ⟨rfl, rfl⟩
      go_wp2_with fail
      refine (rot11 _ _).mono ?_
      rintro e _ ⟨rfl, rfl⟩
      go_wp2_with fail
      refine (rot25 _ _).mono ?_
      rintro e _ ⟨rfl, rfl⟩
      go_wp2_with fail
      refine (rot2 _ _).mono ?_
      rintro e _ ⟨rfl, rfl⟩
      go_wp2_with fail
      refine (rot13 _ _).mono ?_
      rintro e _ ⟨rfl, rfl⟩
      go_wp2_with fail
      refine (rot22 _ _).mono ?_
      rintro e _ ⟨rfl, rfl⟩
      go_wp2_with fail
      go_round
      case rel =>
        simp only [unot, uand, uxor, uadd5, uadd]
        refine ⟨i + 1, by omega, by go_num, ?_⟩
        rw [HR.out]
        exact ⟨rfl, rfl, rfl, rfl, rfl, rfl, rfl, rfl⟩
      case measure => simp [intOf]; omega
    · obtain rfl : i = n := by rw [HN.out]; omega
      obtain ⟨o0, o1, o2, o3, o4, o5, o6, o7⟩ : w3.cell? ⟨w.heap.size + 1, 0, none⟩ = some (.int .u32 0) ∧ w3.cell? ⟨w.heap.size + 1, 1, none⟩ = some (.int .u32 0) ∧ w3.cell? ⟨w.heap.size + 1, 2, none⟩ = some (.int .u32 0) ∧ w3.cell? ⟨w.heap.size + 1, 3, none⟩ = some (.int .u32 0) ∧ w3.cell? ⟨w.heap.size + 1, 4, none⟩ = some (.int .u32 0) ∧ w3.cell? ⟨w.heap.size + 1, 5, none⟩ = some (.int .u32 0) ∧ w3.cell? ⟨w.heap.size + 1, 6, none⟩ = some (.int .u32 0) ∧ w3.cell? ⟨w.heap.size + 1, 7, none⟩ = some (.int .u32 0) :=
        ⟨OR.out.cell? 0, OR.out.cell? 1, OR.out.cell? 2, OR.out.cell? 3, OR.out.cell? 4, OR.out.cell? 5, OR.out.cell? 6, OR.out.cell? 7⟩
      have r0 := OR.out.frozen 0
      have r1 := OR.out.frozen 1
      have r2 := OR.out.frozen 2
      have r3 := OR.out.frozen 3
      have r4 := OR.out.frozen 4
      have r5 := OR.out.frozen 5
      have r6 := OR.out.frozen 6
      have r7 := OR.out.frozen 7
      have HD : Hid (stv (addSt st (rndTo L st i)) = stv (addSt st (rndTo L st i))) := rfl
      generalize hs1 : rndTo L st i = s1 at *
      have HS1 := Lib.hid hs1
      clear hs1
      go_wp2
      simp only [uadd]
      refine bodyPost_ret (v := .agg (stv (addSt st s1)).toArray) ?_ rfl ?_
      · exact results_cell_row Tryd.results101 _ _ (w.heap.size + 1) 164 (stv (addSt st s1)).toArray (0, 0) _ (by rfl) (((((((((OR.out.drewN _).set_ 0 (u32v (st.a + s1.a))).set_ 1 (u32v (st.b + s1.b))).set_ 2 (u32v (st.c + s1.c))).set_ 3 (u32v (st.d + s1.d))).set_ 4 (u32v (st.e + s1.e))).set_ 5 (u32v (st.f + s1.f))).set_ 6 (u32v (st.g + s1.g))).set_ 7 (u32v (st.h + s1.h))) Tryd.underlying164 rfl (by kernel_rfl)
      · exact ⟨by rw [HS1.out], (((((((((K.drewN _).setCell (p := ⟨w.heap.size + 1, 0, none⟩) (by simp) (u32v (st.a + s1.a))).setCell (p := ⟨w.heap.size + 1, 1, none⟩) (by simp) (u32v (st.b + s1.b))).setCell (p := ⟨w.heap.size + 1, 2, none⟩) (by simp) (u32v (st.c + s1.c))).setCell (p := ⟨w.heap.size + 1, 3, none⟩) (by simp) (u32v (st.d + s1.d))).setCell (p := ⟨w.heap.size + 1, 4, none⟩) (by simp) (u32v (st.e + s1.e))).setCell (p := ⟨w.heap.size + 1, 5, none⟩) (by simp) (u32v (st.f + s1.f))).setCell (p := ⟨w.heap.size + 1, 6, none⟩) (by simp) (u32v (st.g + s1.g))).setCell (p := ⟨w.heap.size + 1, 7, none⟩) (by simp) (u32v (st.h + s1.h)))⟩
theorem block_any (s : ByteArray) (st : St) (w : World) (hs : s.size = 64) (ht : Tabs w) :
    Calls Tryd.prog 101 #[.agg (stv st).toArray, .string s] w fun e w' => e = .returned (.agg (stv (blockSt st s)).toArray) ∧ Kept w w' :=
  block_n s (sched s) 64 st w hs rfl (sched_len s) (fun w => sched_any s w hs) ht
end Go.Proofs.YtagpimahicgkmaaDoor
