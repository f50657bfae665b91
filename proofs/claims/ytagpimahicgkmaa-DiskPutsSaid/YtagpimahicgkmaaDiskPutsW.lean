/- Walk: mailsacklaw09.DiskPuts. -/
import Derived.Test.YtagpimahicgkmaaL9Awake
import Derived.Test.YtagpimahicgkmaaRfSmall
import Derived.Test.YtagpimahicgkmaaRf
import Derived.Test.YtagpimahicgkmaaRowEnd
import Derived.Test.YtagpimahicgkmaaOpen
import Derived.OpenShut
import Derived.Test.YtagpimahicgkmaaTail
namespace Go.Proofs.Ytagpimahicgkmaa
open Go.ChangeShapes Go.WideShapes Go.ChangeAt Go.RowKit

theorem perfTo_none (l : List ByteArray) (ws : List Wr) (p : Nat → Bool) (hp : ∀ i, p i = false) (k : Nat) : perfTo l ws p k = l := by
  induction k with
  | zero => rfl
  | succ k ih =>
    simp only [perfTo, hp]
    split
    · simpa using ih
    · exact ih
theorem crash_none (d : Dk) (h : rightB d = true) : crashD d [] = ⟨d.sec, []⟩ := by
  simp only [crashD, h, if_true, perf]
  rw [perfTo_none _ _ _ (fun i => by simp)]
theorem right_put {d : Dk} {x : Wr} (h : rightB d = true) (hx : fitsB x d.sec.length = true) : rightB ⟨d.sec, d.cache ++ [x]⟩ = true := by
  simp only [rightB, Bool.and_eq_true, List.all_append, List.all_cons, List.all_nil] at *
  exact ⟨h.1, h.2, hx, trivial⟩
theorem read_put (d : Dk) (x : Wr) (n : Nat) : readD ⟨d.sec, d.cache ++ [x]⟩ n = if x.at_ = n then x.data else readD d n := by
  simp only [readD, readTo, List.foldl_append, List.foldl_cons, List.foldl_nil]

set_option maxRecDepth 100000 in
set_option maxHeartbeats 1000000 in
theorem diskPuts_walk (d : Dk) (x : Wr) (at_ : Int) (v : Value) (w : World) (h : DkAt [] w v d) (hreach : d.cache.length * 24 ≤ 140737488351232) (hat : at_ ≤ 9223372036854775807) :
    Calls Try.prog 4 #[v, .agg #[.int .i64 x.at_, .string x.data], .int .i64 at_] w fun e w' => e = .returned (.bool true) ∧ Kept w w' := by
  have H := Lib.hid h
  obtain ⟨s, c, rfl, hs, hc⟩ := h
  clear hs hc
  obtain ⟨A0, k0, A1, k1, rfl, rfl⟩ := H.out.form
  rcases Bool.eq_false_or_eq_true (smallB d) with hsm | hsm
  · obtain ⟨hs6, hs2⟩ := small_parts hsm
    rcases Bool.eq_false_or_eq_true (rightB d) with hr | hr
    · by_cases h0 : 0 ≤ at_
      · by_cases h1 : at_ < d.sec.length
        · obtain ⟨n, rfl⟩ := Int.eq_ofNat_of_zero_le h0
          have HR1 : Hid (readR d n = (readD d n, 0)) := by show _ = _; simp [readR, hr, h1]
          go_enter Try.func4, Try.ntmps4
          go_wp2_with fail
          refine (ref_any [] d _ _ (H.out.go (((Kept.refl w).alloc _).alloc _) (Ext.refl _ _)) (fun _ h => by cases h) (by omega)).mono ?_
          rintro e w1 ⟨s1, c1, rfl, hd1, hk1⟩
          go_wp2_with fail
          refine (small_any [] d _ _ hd1).mono ?_
          rw [hsm]
          rintro e w2 ⟨rfl, hk2⟩
          have HO1 := Lib.hid (((Own.new w _ [Value.slice A0 d.sec.length k0, Value.slice A1 d.cache.length k1]).alloc _).kept (hk1.trans hk2))
          have HO2 := Lib.hid ((Own.new1 w _ _ [Value.int .i64 x.at_, .string x.data]).kept (hk1.trans hk2))
          have hkw2 : Kept w w2 := (((Kept.refl w).alloc _).alloc _).trans (hk1.trans hk2)
          clear hd1 hk1 hk2
          obtain ⟨q1, q2, _, _⟩ := HO1.out.two
          obtain ⟨q3, q4, _, _⟩ := HO2.out.two
          go_wp2_with fail
          refine (right_any [] d _ _ (H.out.go hkw2 (Ext.refl _ _))).mono ?_
          rw [hr]
          rintro e w3 ⟨rfl, hk3⟩
          have HO1' := Lib.hid (HO1.out.kept hk3)
          have HO2' := Lib.hid (HO2.out.kept hk3)
          have hkw3 := hkw2.trans hk3
          clear HO1 HO2 q1 q2 q3 q4 hk3 hkw2
          obtain ⟨q1, q2, _, _⟩ := HO1'.out.two
          obtain ⟨q3, q4, _, _⟩ := HO2'.out.two
          rcases Bool.eq_false_or_eq_true (fitsB x d.sec.length) with hf | hf
          · have HP : Hid (putR d x = (⟨d.sec, d.cache ++ [x]⟩, 0)) := by show _ = _; simp [putR, hr, hf]
            go_wp2_with fail
            refine (put_any [] d x _ _ (H.out.go hkw3 (Ext.refl _ _)) (fun _ h => by cases h) (by omega)).mono ?_
            rw [HP.out]
            rintro e w4 ⟨s4, c4, rfl, hd4, hk4⟩
            obtain ⟨A4, k4, A4', k4', rfl, rfl⟩ := hd4.form
            have HO1 := Lib.hid (HO1'.out.kept hk4)
            have HO2 := Lib.hid (HO2'.out.kept hk4)
            have hkw4 := hkw3.trans hk4
            have HD4 := Lib.hid hd4
            clear HO1' HO2' q1 q2 q3 q4 hk4 hkw3 hd4
            obtain ⟨q1, q2, _, _⟩ := HO1.out.two
            obtain ⟨q3, q4, _, _⟩ := HO2.out.two
            have hz1 : w.heap.size < w4.heap.size := HO1.out.lt
            have hz2 : w.heap.size + 1 < w4.heap.size := HO2.out.lt
            simp only [List.length_append, List.length_cons, List.length_nil, Nat.zero_add]
            go_wp2_with fail
            refine (read_any [] d n _ _ (H.out.go (hkw4.alloc _) (Ext.refl _ _)) (by omega)).mono ?_
            rw [HR1.out]
            rintro e w5 ⟨rfl, hk5⟩
            have HO3 := Lib.hid ((Own.new w4 25 [Value.slice A4 d.sec.length k4, Value.slice A4' (d.cache.length + 1) k4']).kept hk5)
            have HO1' := Lib.hid ((HO1.out.alloc (.cells #[Value.slice A4 d.sec.length k4, Value.slice A4' (d.cache.length + 1) k4'] 25)).kept hk5)
            have HO2' := Lib.hid ((HO2.out.alloc (.cells #[Value.slice A4 d.sec.length k4, Value.slice A4' (d.cache.length + 1) k4'] 25)).kept hk5)
            have HD5 : Hid (DkAt [] w5 (.agg #[Value.slice A4 d.sec.length k4, Value.slice A4' (d.cache.length + 1) k4']) ⟨d.sec, d.cache ++ [x]⟩) := by
              have := HD4.out.go (((Kept.refl w4).alloc (Obj.cells #[Value.slice A4 d.sec.length k4, Value.slice A4' (d.cache.length + 1) k4'] 25)).trans hk5) (Ext.refl _ _)
              refine Lib.hid ?_
              simpa using this
            have hr' := right_put hr hf
            have HR2 : Hid (readR ⟨d.sec, d.cache ++ [x]⟩ n = (if x.at_ = n then x.data else readD d n, 0)) := by
              show _ = _
              simp only [readR, hr', h1, decide_true, Bool.true_and, Bool.and_true]
              rw [if_pos (by simp), show ((n : Int).toNat) = n from rfl, read_put]
            have HCr := Lib.hid (crash_none _ hr')
            clear hr'
            have hkw5 := (hkw4.alloc _).trans hk5
            clear HO1 HO2 q1 q2 q3 q4 hk5 hkw4 HD4
            obtain ⟨q1, q2, _, _⟩ := HO1'.out.two
            obtain ⟨q3, q4, _, _⟩ := HO2'.out.two
            obtain ⟨q5, q6, _, _⟩ := HO3.out.two
            go_wp2_with fail
            refine (read_any [] _ n _ _ HD5.out (by omega)).mono ?_
            rw [HR2.out]
            rintro e w6 ⟨rfl, hk6⟩
            have HO1 := Lib.hid (HO1'.out.kept hk6)
            have HO2 := Lib.hid (HO2'.out.kept hk6)
            have HO3' := Lib.hid (HO3.out.kept hk6)
            have HD6 := Lib.hid (HD5.out.go hk6 (Ext.refl _ _))
            have hkw6 := hkw5.trans hk6
            clear HO1' HO2' HO3 q1 q2 q3 q4 q5 q6 hk6 hkw5 HD5
            obtain ⟨q1, q2, _, _⟩ := HO1.out.two
            obtain ⟨q3, q4, _, _⟩ := HO2.out.two
            obtain ⟨q5, q6, _, _⟩ := HO3'.out.two
            have hz1 : w.heap.size < w6.heap.size := HO1.out.lt
            have hz3 : w4.heap.size < w6.heap.size := HO3'.out.lt
            generalize readD d n = rd at *
            generalize hy : (if x.at_ = n then x.data else rd) = y at *
            by_cases hxa : x.at_ = n
            · rw [if_pos hxa] at hy
              have t1 := beq_t hxa
              subst hy
              go_wp2_with fail
              refine (crash_any [] _ [] _ _ _ HD6.out (intsAt_nil _ _) (fun _ h => by cases h) (by simp; omega)).mono ?_
              rw [HCr.out]
              rintro e w7 ⟨s7, c7, rfl, hd7, hk7⟩
              obtain ⟨A7, k7, A7', k7', rfl, rfl⟩ := hd7.form
              simp only [List.length_nil] at hd7 ⊢
              obtain ⟨_, _, _, _, _, _, hrow7, _⟩ := hd7.rows
              obtain ⟨b7, o7, rfl, hb7, _, hc7⟩ := hrow7 (by rw [strs_length]; show 0 < d.sec.length; omega)
              have hn : n < d.sec.length := by omega
              have g7 : w7.cell? ⟨b7, o7 + n, none⟩ = some (.string d.sec[n]) := hc7 _ _ (strs_at (l := d.sec) hn)
              have hkw7 := hkw6.trans hk7
              obtain ⟨_, _, _, _, _, _, hrow0, _⟩ := H.out.rows
              obtain ⟨b0, o0, rfl, hb0, _, hc0⟩ := hrow0.kept hkw7 (by rw [strs_length]; omega)
              have g0 : w7.cell? ⟨b0, o0 + n, none⟩ = some (.string d.sec[n]) := hc0 _ _ (strs_at hn)
              have HO1' := Lib.hid (HO1.out.kept hk7)
              clear hc7 hc0 hrow7 hrow0 q1 q2 q3 q4 q5 q6 hd7 hk7
              obtain ⟨q1, q2, _, _⟩ := HO1'.out.two
              have hz7 : w.heap.size < w7.heap.size := HO1'.out.lt
              generalize d.sec[n] = sn at *
              go_wp2_with fail
              refine region_tail 25 (by kernel_rfl) (by kernel_rfl) ?_
              simp only [List.take_succ_cons, List.take_zero, List.drop_succ_cons, List.drop_zero]
              repeat still_step
              refine wpStill_nil ?_
              go_wp2_with fail
              refine (awake9 _).mono ?_
              rintro e w8 ⟨rfl, hk8⟩
              go_wp2
              go_ret
              exact ⟨rfl, ((hkw7.alloc _).drew).trans hk8⟩
            · rw [if_neg hxa] at hy
              have t1 := beq_f hxa
              subst hy
              go_wp2_with fail
              refine (crash_any [] _ [] _ _ _ HD6.out (intsAt_nil _ _) (fun _ h => by cases h) (by simp; omega)).mono ?_
              rw [HCr.out]
              rintro e w7 ⟨s7, c7, rfl, hd7, hk7⟩
              obtain ⟨A7, k7, A7', k7', rfl, rfl⟩ := hd7.form
              simp only [List.length_nil] at hd7 ⊢
              obtain ⟨_, _, _, _, _, _, hrow7, _⟩ := hd7.rows
              obtain ⟨b7, o7, rfl, hb7, _, hc7⟩ := hrow7 (by rw [strs_length]; show 0 < d.sec.length; omega)
              have hn : n < d.sec.length := by omega
              have g7 : w7.cell? ⟨b7, o7 + n, none⟩ = some (.string d.sec[n]) := hc7 _ _ (strs_at (l := d.sec) hn)
              have hkw7 := hkw6.trans hk7
              obtain ⟨_, _, _, _, _, _, hrow0, _⟩ := H.out.rows
              obtain ⟨b0, o0, rfl, hb0, _, hc0⟩ := hrow0.kept hkw7 (by rw [strs_length]; omega)
              have g0 : w7.cell? ⟨b0, o0 + n, none⟩ = some (.string d.sec[n]) := hc0 _ _ (strs_at hn)
              have HO1' := Lib.hid (HO1.out.kept hk7)
              clear hc7 hc0 hrow7 hrow0 q1 q2 q3 q4 q5 q6 hd7 hk7
              obtain ⟨q1, q2, _, _⟩ := HO1'.out.two
              have hz7 : w.heap.size < w7.heap.size := HO1'.out.lt
              generalize d.sec[n] = sn at *
              go_wp2_with fail
              refine region_tail 25 (by kernel_rfl) (by kernel_rfl) ?_
              simp only [List.take_succ_cons, List.take_zero, List.drop_succ_cons, List.drop_zero]
              repeat still_step
              refine wpStill_nil ?_
              go_wp2_with fail
              refine (awake9 _).mono ?_
              rintro e w8 ⟨rfl, hk8⟩
              go_wp2
              go_ret
              exact ⟨rfl, ((hkw7.alloc _).drew).trans hk8⟩
          · have HP : Hid (putR d x = (⟨[], []⟩, 1)) := by show _ = _; simp [putR, hf]
            go_wp2_with fail
            refine (put_any [] d x _ _ (H.out.go hkw3 (Ext.refl _ _)) (fun _ h => by cases h) (by omega)).mono ?_
            rw [HP.out]
            rintro e w4 ⟨s4, c4, rfl, hd4, hk4⟩
            obtain ⟨A4, k4, A4', k4', rfl, rfl⟩ := hd4.form
            clear hd4 q1 q2 q3 q4
            simp only [List.length_nil]
            go_wp2_with fail
            refine (awake9 _).mono ?_
            rintro e w9 ⟨rfl, hk9⟩
            go_wp2
            go_ret
            exact ⟨rfl, ((hkw3.trans hk4).alloc _).trans hk9⟩
        · have h1' : (d.sec.length : Int) ≤ at_ := by omega
          go_enter Try.func4, Try.ntmps4
          go_wp2_with fail
          refine (ref_any [] d _ _ (H.out.go (((Kept.refl w).alloc _).alloc _) (Ext.refl _ _)) (fun _ h => by cases h) (by omega)).mono ?_
          rintro e w1 ⟨s1, c1, rfl, hd1, hk1⟩
          go_wp2_with fail
          refine (small_any [] d _ _ hd1).mono ?_
          rw [hsm]
          rintro e w2 ⟨rfl, hk2⟩
          have HO1 := Lib.hid (((Own.new w _ [Value.slice A0 d.sec.length k0, Value.slice A1 d.cache.length k1]).alloc _).kept (hk1.trans hk2))
          have HO2 := Lib.hid ((Own.new1 w _ _ [Value.int .i64 x.at_, .string x.data]).kept (hk1.trans hk2))
          have hkw2 : Kept w w2 := (((Kept.refl w).alloc _).alloc _).trans (hk1.trans hk2)
          clear hd1 hk1 hk2
          obtain ⟨q1, q2, _, _⟩ := HO1.out.two
          obtain ⟨q3, q4, _, _⟩ := HO2.out.two
          go_wp2_with fail
          refine (right_any [] d _ _ (H.out.go hkw2 (Ext.refl _ _))).mono ?_
          rw [hr]
          rintro e w3 ⟨rfl, hk3⟩
          have HO1' := Lib.hid (HO1.out.kept hk3)
          have HO2' := Lib.hid (HO2.out.kept hk3)
          have hkw3 := hkw2.trans hk3
          clear HO1 HO2 q1 q2 q3 q4 hk3 hkw2
          obtain ⟨q1, q2, _, _⟩ := HO1'.out.two
          obtain ⟨q3, q4, _, _⟩ := HO2'.out.two
          go_wp2_with fail
          refine (awake9 _).mono ?_
          rintro e w9 ⟨rfl, hk9⟩
          go_wp2
          go_ret
          exact ⟨rfl, hkw3.trans hk9⟩
      · have h0' : at_ < 0 := by omega
        go_enter Try.func4, Try.ntmps4
        go_wp2_with fail
        refine (ref_any [] d _ _ (H.out.go (((Kept.refl w).alloc _).alloc _) (Ext.refl _ _)) (fun _ h => by cases h) (by omega)).mono ?_
        rintro e w1 ⟨s1, c1, rfl, hd1, hk1⟩
        go_wp2_with fail
        refine (small_any [] d _ _ hd1).mono ?_
        rw [hsm]
        rintro e w2 ⟨rfl, hk2⟩
        have HO1 := Lib.hid (((Own.new w _ [Value.slice A0 d.sec.length k0, Value.slice A1 d.cache.length k1]).alloc _).kept (hk1.trans hk2))
        have HO2 := Lib.hid ((Own.new1 w _ _ [Value.int .i64 x.at_, .string x.data]).kept (hk1.trans hk2))
        have hkw2 : Kept w w2 := (((Kept.refl w).alloc _).alloc _).trans (hk1.trans hk2)
        clear hd1 hk1 hk2
        obtain ⟨q1, q2, _, _⟩ := HO1.out.two
        obtain ⟨q3, q4, _, _⟩ := HO2.out.two
        go_wp2_with fail
        refine (right_any [] d _ _ (H.out.go hkw2 (Ext.refl _ _))).mono ?_
        rw [hr]
        rintro e w3 ⟨rfl, hk3⟩
        have HO1' := Lib.hid (HO1.out.kept hk3)
        have HO2' := Lib.hid (HO2.out.kept hk3)
        have hkw3 := hkw2.trans hk3
        clear HO1 HO2 q1 q2 q3 q4 hk3 hkw2
        obtain ⟨q1, q2, _, _⟩ := HO1'.out.two
        obtain ⟨q3, q4, _, _⟩ := HO2'.out.two
        go_wp2_with fail
        refine (awake9 _).mono ?_
        rintro e w9 ⟨rfl, hk9⟩
        go_wp2
        go_ret
        exact ⟨rfl, hkw3.trans hk9⟩
    · go_enter Try.func4, Try.ntmps4
      go_wp2_with fail
      refine (ref_any [] d _ _ (H.out.go (((Kept.refl w).alloc _).alloc _) (Ext.refl _ _)) (fun _ h => by cases h) (by omega)).mono ?_
      rintro e w1 ⟨s1, c1, rfl, hd1, hk1⟩
      go_wp2_with fail
      refine (small_any [] d _ _ hd1).mono ?_
      rw [hsm]
      rintro e w2 ⟨rfl, hk2⟩
      have HO1 := Lib.hid (((Own.new w _ [Value.slice A0 d.sec.length k0, Value.slice A1 d.cache.length k1]).alloc _).kept (hk1.trans hk2))
      have HO2 := Lib.hid ((Own.new1 w _ _ [Value.int .i64 x.at_, .string x.data]).kept (hk1.trans hk2))
      have hkw2 : Kept w w2 := (((Kept.refl w).alloc _).alloc _).trans (hk1.trans hk2)
      clear hd1 hk1 hk2
      obtain ⟨q1, q2, _, _⟩ := HO1.out.two
      obtain ⟨q3, q4, _, _⟩ := HO2.out.two
      go_wp2_with fail
      refine (right_any [] d _ _ (H.out.go hkw2 (Ext.refl _ _))).mono ?_
      rw [hr]
      rintro e w3 ⟨rfl, hk3⟩
      have HO1' := Lib.hid (HO1.out.kept hk3)
      have HO2' := Lib.hid (HO2.out.kept hk3)
      have hkw3 := hkw2.trans hk3
      clear HO1 HO2 q1 q2 q3 q4 hk3 hkw2
      obtain ⟨q1, q2, _, _⟩ := HO1'.out.two
      obtain ⟨q3, q4, _, _⟩ := HO2'.out.two
      go_wp2_with fail
      refine (awake9 _).mono ?_
      rintro e w9 ⟨rfl, hk9⟩
      go_wp2
      go_ret
      exact ⟨rfl, hkw3.trans hk9⟩
  · go_enter Try.func4, Try.ntmps4
    go_wp2_with fail
    refine (ref_any [] d _ _ (H.out.go (((Kept.refl w).alloc _).alloc _) (Ext.refl _ _)) (fun _ h => by cases h) (by omega)).mono ?_
    rintro e w1 ⟨s1, c1, rfl, hd1, hk1⟩
    go_wp2_with fail
    refine (small_any [] d _ _ hd1).mono ?_
    rw [hsm]
    rintro e w2 ⟨rfl, hk2⟩
    have HO1 := Lib.hid (((Own.new w _ [Value.slice A0 d.sec.length k0, Value.slice A1 d.cache.length k1]).alloc _).kept (hk1.trans hk2))
    have HO2 := Lib.hid ((Own.new1 w _ _ [Value.int .i64 x.at_, .string x.data]).kept (hk1.trans hk2))
    have hkw2 : Kept w w2 := (((Kept.refl w).alloc _).alloc _).trans (hk1.trans hk2)
    clear hd1 hk1 hk2
    obtain ⟨q1, q2, _, _⟩ := HO1.out.two
    obtain ⟨q3, q4, _, _⟩ := HO2.out.two
    go_wp2_with fail
    refine (awake9 _).mono ?_
    rintro e w9 ⟨rfl, hk9⟩
    go_wp2
    go_ret
    exact ⟨rfl, hkw2.trans hk9⟩
end Go.Proofs.Ytagpimahicgkmaa
