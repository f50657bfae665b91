/- Walk: mailsacklaw09.DiskFlushed. -/
import Derived.Test.YtagpimahicgkmaaL9Awake
import Derived.Test.YtagpimahicgkmaaL9Plain
import Derived.Test.YtagpimahicgkmaaRfSmall
import Derived.Test.YtagpimahicgkmaaRf
import Derived.Test.YtagpimahicgkmaaRfEqual
import Derived.Test.YtagpimahicgkmaaTail
import Derived.Deep.RegionHeld3
import Derived.Deep.DrawnRows
namespace Go.Proofs.Ytagpimahicgkmaa
open Go.RowKit
attribute [local go_sem ↓] Go.wp_at_zero Go.wp_at_succ

set_option maxRecDepth 100000 in
set_option maxHeartbeats 2000000 in
theorem diskFlushed_main (d : Dk) (keep : List Int) (n : Nat) (v u : Value) (w : World) (h : DkAt [] w v d) (hu : IntsAt [] w u keep) (hreach : d.cache.length * 24 ≤ 140737488351232)
    (hsm : smallB d = true) (hr : rightB d = true) (hn : n < d.sec.length) (hk2 : keep.length ≤ 200) :
    Calls Try.prog 6 #[v, .int .i64 n, u] w fun e w' => e = .returned (.bool true) ∧ Kept w w' := by
  have H := Lib.hid h
  have HU := Lib.hid hu
  obtain ⟨s, c, rfl, hs, hc⟩ := h
  obtain ⟨B, bc, rfl, bl, bm, _⟩ := hu
  unfold maxLen at bm
  clear hs hc
  obtain ⟨A0, k0, A1, k1, rfl, rfl⟩ := H.out.form
  obtain ⟨hs6, hs2⟩ := small_parts hsm
  have i0 : (0 : Int) ≤ (n : Int) := by omega
  have i1 : (n : Int) < (d.sec.length : Int) := by omega
  have HR1 : Hid (readR d n = (readD d n, 0)) := by show _ = _; simp [readR, hr, hn]
  have HF : Hid (flushD d = perf d fun _ => true) := by show _ = _; simp only [flushD, hr, if_true]
  have hrf := right_perf (fun _ => true) hr
  have hlf : (perf d fun _ => true).sec.length = d.sec.length := perfTo_length _ _ _ _
  have HR2 : Hid (readR (perf d fun _ => true) n = (readD d n, 0)) := by
    show _ = _
    have : n < (perf d fun _ => true).sec.length := by rw [hlf]; exact hn
    simp [readR, hrf, this, read_flush hr hn]
  have HC2 : Hid (readR (crashD d keep) n = (rcAt d.sec[n] d.cache (fun (i : Nat) => keep.contains (i : Int)) n d.cache.length, 0)) := by
    show _ = _
    have e1 : crashD d keep = perf d (fun (i : Nat) => keep.contains (i : Int)) := by simp only [crashD, hr, if_true]
    rw [e1]
    exact read_perf hr _ hn
  have HFROM := Lib.hid (rcAt_from d.sec[n] d.cache (fun (i : Nat) => keep.contains (i : Int)) n d.cache.length (Nat.le_refl _))
  generalize rcAt d.sec[n] d.cache (fun (i : Nat) => keep.contains (i : Int)) n d.cache.length = cc at *
  have HX1 := Lib.hid (crash_flushed hrf rfl keep)
  have HX2 := Lib.hid (crash_all hr)
  have hcf : (perf d fun _ => true).cache.length = 0 := rfl
  have HLF := Lib.hid hlf
  have HRF := Lib.hid hrf
  clear hlf hrf
  generalize (perf d fun _ => true) = D1 at *
  have HCF := Lib.hid hcf
  clear hcf
  go_enter Try.func6, Try.ntmps6
  go_wp2_with fail
  refine (ref_any [] d _ _ (H.out.go ((Kept.refl w).alloc _) (Ext.refl _ _)) (fun _ h => by cases h) (by omega)).mono ?_
  rintro e w1 ⟨s1, c1, rfl, hd1, hk1⟩
  go_wp2_with fail
  refine (small_any [] d _ _ hd1).mono ?_
  rw [hsm]
  rintro e w2 ⟨rfl, hk2'⟩
  have HO1 := Lib.hid ((Own.new w _ [Value.slice A0 d.sec.length k0, Value.slice A1 d.cache.length k1]).kept (hk1.trans hk2'))
  have hkw2 : Kept w w2 := ((Kept.refl w).alloc _).trans (hk1.trans hk2')
  clear hd1 hk1 hk2'
  obtain ⟨q1, q2, _, _⟩ := HO1.out.two
  go_wp2_with fail
  refine (right_any [] d _ _ (H.out.go hkw2 (Ext.refl _ _))).mono ?_
  rw [hr]
  rintro e w3 ⟨rfl, hk3⟩
  have HO1' := Lib.hid (HO1.out.kept hk3)
  have hkw3 := hkw2.trans hk3
  clear HO1 q1 q2 hk3 hkw2
  obtain ⟨q1, q2, _, _⟩ := HO1'.out.two
  go_wp2_with fail
  refine (flush_any [] d _ _ (H.out.go hkw3 (Ext.refl _ _)) (fun _ h => by cases h)).mono ?_
  rw [HF.out]
  rintro e w4 ⟨s4, c4, rfl, hd4, hk4⟩
  obtain ⟨A4, k4, A4', k4', rfl, rfl⟩ := hd4.form
  rw [HLF.out, HCF.out] at hd4 ⊢
  have HO1 := Lib.hid (HO1'.out.kept hk4)
  have hkw4 := hkw3.trans hk4
  have HD4 := Lib.hid hd4
  clear HO1' q1 q2 hk4 hkw3 hd4
  obtain ⟨q1, q2, _, _⟩ := HO1.out.two
  have hz1 : w.heap.size < w4.heap.size := HO1.out.lt
  go_wp2_with fail
  refine (read_any [] d n _ _ (H.out.go (hkw4.alloc _) (Ext.refl _ _)) (by omega)).mono ?_
  rw [HR1.out]
  rintro e w5 ⟨rfl, hk5⟩
  have HO2 := Lib.hid ((Own.new w4 25 [Value.slice A4 d.sec.length k4, Value.slice A4' 0 k4']).kept hk5)
  have HO1' := Lib.hid ((HO1.out.alloc (.cells #[Value.slice A4 d.sec.length k4, Value.slice A4' 0 k4'] 25)).kept hk5)
  have HD5 := Lib.hid (HD4.out.go (((Kept.refl w4).alloc (.cells #[Value.slice A4 d.sec.length k4, Value.slice A4' 0 k4'] 25)).trans hk5) (Ext.refl _ _))
  have hkw5 := (hkw4.alloc _).trans hk5
  clear HO1 q1 q2 hk5 hkw4 HD4
  obtain ⟨q1, q2, _, _⟩ := HO1'.out.two
  obtain ⟨q3, q4, _, _⟩ := HO2.out.two
  go_wp2_with fail
  refine (read_any [] D1 n _ _ HD5.out (by omega)).mono ?_
  rw [HR2.out]
  rintro e w6 ⟨rfl, hk6⟩
  have HO1 := Lib.hid (HO1'.out.kept hk6)
  have HO2' := Lib.hid (HO2.out.kept hk6)
  have hkw6 := hkw5.trans hk6
  have hD6 := HD5.out.go hk6 (Ext.refl _ _)
  clear HO1' HO2 q1 q2 q3 q4 hkw5 HD5 hk6
  obtain ⟨q1, q2, _, _⟩ := HO1.out.two
  obtain ⟨q3, q4, _, _⟩ := HO2'.out.two
  have hz1 : w.heap.size < w6.heap.size := HO1.out.lt
  have hz2 : w4.heap.size < w6.heap.size := HO2'.out.lt
  have C1 : ∀ W', Kept w6 W' → W'.cell? ⟨w.heap.size, 0, none⟩ = some (Value.slice A0 d.sec.length k0) := fun W' hk => (hk.cell (p := ⟨w.heap.size, 0, none⟩) hz1).trans q1
  have C2 : ∀ W', Kept w6 W' → W'.cell? ⟨w.heap.size, 1, none⟩ = some (Value.slice A1 d.cache.length k1) := fun W' hk => (hk.cell (p := ⟨w.heap.size, 1, none⟩) hz1).trans q2
  have C3 : ∀ W', Kept w6 W' → W'.cell? ⟨w4.heap.size, 0, none⟩ = some (Value.slice A4 d.sec.length k4) := fun W' hk => (hk.cell (p := ⟨w4.heap.size, 0, none⟩) hz2).trans q3
  have C4 : ∀ W', Kept w6 W' → W'.cell? ⟨w4.heap.size, 1, none⟩ = some (Value.slice A4' 0 k4') := fun W' hk => (hk.cell (p := ⟨w4.heap.size, 1, none⟩) hz2).trans q4
  have PD : Hid (∀ W', Kept w6 W' → DkAt [] W' (.agg #[Value.slice A0 d.sec.length k0, Value.slice A1 d.cache.length k1]) d) := fun W' hk => H.out.go (hkw6.trans hk) (Ext.refl _ _)
  have PF : Hid (∀ W', Kept w6 W' → DkAt [] W' (.agg #[Value.slice A4 d.sec.length k4, Value.slice A4' 0 k4']) D1) := fun W' hk => hD6.go hk (Ext.refl _ _)
  have PK : Hid (∀ W', Kept w6 W' → IntsAt [] W' (.slice B keep.length bc) keep) := fun W' hk => HU.out.go (hkw6.trans hk) (Ext.refl _ _)
  clear q1 q2 q3 q4 hD6
  generalize readD d n = rd at *
  have t1 : True := trivial
  have t2 : True := trivial
  have t3 : True := trivial
  have t4 : True := trivial
  have t5 : True := trivial
  have t6 : True := trivial
  have t7 : True := trivial
  have t8 : True := trivial
  have t9 : True := trivial
  go_wp2_with fail
  go_region_held3 (fun w' => Kept w6 w')
    (first | exact (Kept.refl _).drew | assumption)
    (first
      | (have _t := t1; clear t1; go_at_call 14; refine (crash_any [] D1 keep _ _ _ (PF.out _ (Kept.refl _).drew) (PK.out _ (Kept.refl _).drew) (fun _ h => by cases h) (by rw [HCF.out]; omega)).mono ?_; rw [HX1.out]; rintro e x1 ⟨y1, z1, rfl, f1, g1⟩; have K1 : Kept w6 x1 := (Kept.refl _).drew.trans g1)
      | (have _t := t2; clear t2; go_at_call 11; refine (ref_any [] D1 _ _ f1 (fun _ h => by cases h) (by rw [HCF.out]; omega)).mono ?_; rintro e x2 ⟨y2, z2, rfl, f2, g2⟩; have K2 : Kept w6 x2 := K1.trans g2)
      | (have _t := t3; clear t3; go_at_call 11; refine (ref_any [] D1 _ _ (PF.out _ K2) (fun _ h => by cases h) (by rw [HCF.out]; omega)).mono ?_; rintro e x3 ⟨y3, z3, rfl, f3, g3⟩; have K3 : Kept w6 x3 := K2.trans g3)
      | (have _t := t4; clear t4; go_at_call 18; refine (equal_any [] [] D1 _ _ _ (f2.go g3 (Ext.refl _ _)) f3).mono ?_; rintro e x4 ⟨rfl, g4⟩; have K4 : Kept w6 x4 := K3.trans g4)
      | (have _t := t5; clear t5; go_at_call 21; refine (all_any [] _ _ (fun _ h => by cases h) (by omega)).mono ?_; rintro e x5 ⟨A5, c5, rfl, f5, g5⟩; have K5 : Kept w6 x5 := K4.trans g5)
      | (have _t := t6; clear t6; go_at_call 14; refine (crash_any [] d _ _ _ _ (PD.out _ K5) f5 (fun _ h => by cases h) (by omega)).mono ?_; rw [HX2.out]; rintro e x6 ⟨y6, z6, rfl, f6, g6⟩; have K6 : Kept w6 x6 := K5.trans g6)
      | (have _t := t7; clear t7; go_at_call 11; refine (ref_any [] D1 _ _ f6 (fun _ h => by cases h) (by rw [HCF.out]; omega)).mono ?_; rintro e x7 ⟨y7, z7, rfl, f7, g7⟩; have K7 : Kept w6 x7 := K6.trans g7)
      | (have _t := t8; clear t8; go_at_call 11; refine (ref_any [] D1 _ _ (PF.out _ K7) (fun _ h => by cases h) (by rw [HCF.out]; omega)).mono ?_; rintro e x8 ⟨y8, z8, rfl, f8, g8⟩; have K8 : Kept w6 x8 := K7.trans g8)
      | (have _t := t9; clear t9; go_at_call 18; refine (equal_any [] [] D1 _ _ _ (f7.go g8 (Ext.refl _ _)) f8).mono ?_; rintro e x9 ⟨rfl, g9⟩; have K9 : Kept w6 x9 := K8.trans g9))
  clear f1 f2 f3 f5 f6 f7 f8 g1 g2 g3 g4 g5 g6 g7 g8 g9 K1 K2 K3 K4 K5 K6 K7 K8
  have q1 := C1 x9 K9
  have q2 := C2 x9 K9
  have hkw9 := hkw6.trans K9
  have hz9 : w.heap.size < x9.heap.size := Nat.lt_of_lt_of_le hz1 K9.size
  have HO9 := Lib.hid (HO1.out.kept K9)
  clear C1 C2 C3 C4
  go_wp2_with fail
  refine (crash_any [] d keep _ _ _ (PD.out _ K9) (PK.out _ K9) (fun _ h => by cases h) (by omega)).mono ?_
  rintro e v1 ⟨a1, b1, rfl, r1, r2⟩
  go_wp2_with fail
  refine (read_any [] _ n _ _ r1 (by omega)).mono ?_
  rw [HC2.out]
  rintro e v2 ⟨rfl, r3⟩
  have HO10 := Lib.hid ((HO9.out.kept r2).kept r3)
  have hkv := (hkw9.trans r2).trans r3
  clear q1 q2 r1 r2 r3
  obtain ⟨q1, q2, _, _⟩ := HO10.out.two
  obtain ⟨_, _, _, _, _, hm1, hrow0, hrow1⟩ := H.out.rows
  unfold maxLen at hm1
  obtain ⟨b0, o0, rfl, hb0, _, hc0⟩ := hrow0.kept hkv (by rw [strs_length]; omega)
  have g0 : v2.cell? ⟨b0, o0 + n, none⟩ = some (.string d.sec[n]) := hc0 _ _ (strs_at hn)
  have HROW := Lib.hid hrow1
  clear hc0 hrow0 hrow1
  generalize d.sec[n] = sn at *
  go_wp2_with fail
  go_loopw [14, 109] (fun b i wr => ∃ (k : Nat) (t : Bool), k ≤ d.cache.length ∧ i = .int .i64 k ∧ b = .bool t ∧ Hid (t = thereTo cc sn n d.cache k) ∧ Kept w wr) (fun _ i _ => d.cache.length - (intOf i).toNat)
  case atStart => exact ⟨0, _, Nat.zero_le _, rfl, rfl, by simp [Hid, thereTo], hkv⟩
  case round =>
    obtain ⟨k, t, hk, rfl, rfl, HT, hkr⟩ := hrel
    by_cases hlt : k < d.cache.length
    · obtain ⟨b', o', rfl, hb', _, hc'⟩ := HROW.out.kept hkr (by rw [wrs_length]; omega)
      have g1 : wr.cell? ⟨b', o' + k * 2, none⟩ = some (.int .i64 d.cache[k].at_) := hc' _ _ (wrs_at hlt).1
      have g2 : wr.cell? ⟨b', o' + k * 2 + 1, none⟩ = some (.string d.cache[k].data) := hc' _ _ (wrs_at hlt).2
      clear hc'
      have HS := Lib.hid (thereTo_succ cc sn n d.cache k hlt)
      generalize d.cache[k].at_ = xa at *
      generalize d.cache[k].data = xd at *
      cases t with
      | true =>
        go_wp2
        go_roundw
        case rel => exact ⟨k + 1, true, by omega, by go_num, rfl, by show _ = _; rw [HS.out, ← HT.out]; rfl, hkr.alloc _⟩
        case measure => simp [intOf]; omega
      | false =>
        by_cases hq : xa = n
        · subst hq
          go_wp2
          go_roundw
          case rel => exact ⟨k + 1, _, by omega, by go_num, rfl, by show _ = _; rw [HS.out, ← HT.out]; simp, hkr.alloc _⟩
          case measure => simp [intOf]; omega
        · have e1 := beq_f hq
          clear hq
          go_wp2
          go_roundw
          case rel => exact ⟨k + 1, false, by omega, by go_num, rfl, by show _ = _; rw [HS.out, ← HT.out, e1]; rfl, hkr.alloc _⟩
          case measure => simp [intOf]; omega
    · have ht : t = true := by rw [HT.out]; exact thereTo_end HFROM.out (by omega)
      subst ht
      go_wp2_with fail
      refine (awake9 _).mono ?_
      rintro e v3 ⟨rfl, r4⟩
      go_wp2
      go_ret
      exact ⟨rfl, hkr.trans r4⟩
end Go.Proofs.Ytagpimahicgkmaa
