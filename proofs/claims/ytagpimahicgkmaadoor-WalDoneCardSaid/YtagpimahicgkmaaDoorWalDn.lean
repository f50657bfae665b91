/- Walk: mailsacklaw10.WalDone. -/
import Derived.Test.YtagpimahicgkmaaDoorWalCt
import Derived.Test.YtagpimahicgkmaaDoorRfEqual
namespace Go.Proofs.YtagpimahicgkmaaDoor
open Go.RowKit

/-- A world is kept since another one. -/
def KF (a : World) (_V : List Nat) (w : World) : Prop := Kept a w
theorem KF.go {a : World} {V U : List Nat} {w w' : World} (h : KF a V w) (k : Kept w w') (_hU : Ext U w V) : KF a U w' := Kept.trans h k
theorem rec_cache (d : Dk) : (recD d).cache.length ≤ d.cache.length + 100 := by
  unfold recD
  have := run_cache d (repOps d) (repOps d).length
  have := repOps_len d
  omega
theorem readR_yes {d : Dk} (hr : rightB d = true) {i : Nat} (hi : i < d.sec.length) : readR d i = (readD d i, 0) := by
  unfold readR
  rw [hr, Int.toNat_natCast]
  simp [hi]
theorem readTo_succ {at_ : Int} {s : ByteArray} {l : List Wr} {k : Nat} (h : k < l.length) : readTo at_ s (l.take (k + 1)) = if l[k].at_ = at_ then l[k].data else readTo at_ s (l.take k) := by
  rw [List.take_succ_eq_append_getElem h, readTo_app]; rfl

set_option maxRecDepth 100000 in
set_option maxHeartbeats 4000000 in
theorem done_any (d : Dk) (l : List Wr) (v u : Value) (w : World) (ht : Tabs w) (h : DkAt [] w v d) (hu : WrsAt [] w u l) (hreach : d.cache.length * 24 ≤ 140737488355328) :
    Calls Tryd.prog 5 #[v, u] w fun e w' => e = .returned (.bool true) ∧ Kept w w' := by
  have HT := Lib.hid ht
  have HD := Lib.hid h
  have HW := Lib.hid hu
  have HRE := Lib.hid hreach
  obtain ⟨_, _, rfl, _, _⟩ := h
  obtain ⟨A0, c0, B0, e0, rfl, rfl⟩ := HD.out.form
  obtain ⟨WA, wc, rfl, hw1, hw2, _⟩ := hu
  unfold maxLen at hw2
  clear ht hreach
  generalize hn0 : d.sec.length = n0 at *
  generalize hm0 : d.cache.length = m0 at *
  have HN0 := Lib.hid hn0
  have HM0 := Lib.hid hm0
  clear hn0 hm0
  go_enter Tryd.func5, Tryd.ntmps5
  go_wp2_with fail
  have OD := Lib.hid (Own.newAt w w.heap.size 25 [.slice A0 n0 c0, .slice B0 m0 e0] (by simp))
  have K := ((Kept.refl w).alloc (.cells #[.slice A0 n0 c0, .slice B0 m0 e0] 25))
  generalize (w.alloc (.cells #[.slice A0 n0 c0, .slice B0 m0 e0] 25)) = w1 at *
  obtain ⟨cD0, cD1, fD0, fD1⟩ := OD.out.two
  replace HD := Lib.hid (HD.out.go K (Ext.refl _ _))
  replace HW := Lib.hid (HW.out.go K (Ext.refl _ _))
  refine (ref10_any [] d _ _ HD.out (fun _ h => by cases h) (by rw [HM0.out]; exact HRE.out)).mono ?_
  rintro e w2 ⟨s1, c1, rfl, hd, hk⟩
  clear cD0 cD1 fD0 fD1
  replace OD := Lib.hid (OD.out.kept hk)
  replace HD := Lib.hid (HD.out.go hk (Ext.refl _ _))
  replace HW := Lib.hid (HW.out.go hk (Ext.refl _ _))
  replace K := K.trans hk
  have HD1 := Lib.hid hd
  obtain ⟨A1, c1, B1, e1, rfl, rfl⟩ := hd.form
  clear hd
  rw [HN0.out, HM0.out] at HD1 ⊢
  clear hk
  obtain ⟨cD0, cD1, fD0, fD1⟩ := OD.out.two
  go_wp2_with fail
  refine (small_any [] d _ _ HD1.out).mono ?_
  rintro e w3 ⟨rfl, hk⟩
  clear cD0 cD1 fD0 fD1
  replace OD := Lib.hid (OD.out.kept hk)
  replace HD := Lib.hid (HD.out.go hk (Ext.refl _ _))
  replace HW := Lib.hid (HW.out.go hk (Ext.refl _ _))
  replace HD1 := Lib.hid (HD1.out.go hk (Ext.refl _ _))
  replace K := K.trans hk
  clear hk
  clear HD1
  rcases Bool.eq_false_or_eq_true (smallB d) with hs | hs
  · skip
    rw [hs]
    obtain ⟨hs1, hs2⟩ := small_parts hs
    rw [HM0.out] at hs2
    rw [HN0.out] at hs1
    clear hs
    obtain ⟨cD0, cD1, fD0, fD1⟩ := OD.out.two
    go_wp2_with fail
    refine (few_any l _ _ HW.out).mono ?_
    rintro e w4 ⟨rfl, hk⟩
    clear cD0 cD1 fD0 fD1
    replace OD := Lib.hid (OD.out.kept hk)
    replace HD := Lib.hid (HD.out.go hk (Ext.refl _ _))
    replace HW := Lib.hid (HW.out.go hk (Ext.refl _ _))
    replace K := K.trans hk
    clear hk
    rcases Bool.eq_false_or_eq_true (fewB l) with hf | hf
    · skip
      rw [hf]
      have hl40 := few_len hf
      clear hf
      have HRC : Hid ((recD d).cache.length ≤ 300) := by have := rec_cache d; have := HM0.out; show _ ≤ _; omega
      have HTW := Lib.hid (rec_twice d)
      obtain ⟨cD0, cD1, fD0, fD1⟩ := OD.out.two
      go_wp2_with fail
      refine (recover_any [] d _ _ (HT.out.kept K) HD.out (fun _ h => by cases h) (by rw [HM0.out]; omega)).mono ?_
      rintro e w5 ⟨s2, c2, rfl, hd, hk⟩
      clear cD0 cD1 fD0 fD1
      replace OD := Lib.hid (OD.out.kept hk)
      replace HD := Lib.hid (HD.out.go hk (Ext.refl _ _))
      replace HW := Lib.hid (HW.out.go hk (Ext.refl _ _))
      replace K := K.trans hk
      generalize recD d = rr at *
      have HD2 := Lib.hid hd
      obtain ⟨A2, c2, B2, e2, rfl, rfl⟩ := hd.form
      clear hd
      have HRR : Hid (rr.cache.length ≤ 300) := HRC.out
      generalize rr.sec.length = n2 at HD2 ⊢
      generalize rr.cache.length = m2 at HD2 ⊢
      clear hk
      obtain ⟨cD0, cD1, fD0, fD1⟩ := OD.out.two
      go_upto_region 4 with fail
      clear cD0 cD1 fD0 fD1
      replace OD := Lib.hid (OD.out.alloc (.cells #[.slice A2 n2 c2, .slice B2 m2 e2] 25))
      have OS := Lib.hid (Own.new w5 25 [.slice A2 n2 c2, .slice B2 m2 e2])
      replace HD := Lib.hid (HD.out.go ((Kept.refl w5).alloc (.cells #[.slice A2 n2 c2, .slice B2 m2 e2] 25)) (Ext.refl _ _))
      replace HW := Lib.hid (HW.out.go ((Kept.refl w5).alloc (.cells #[.slice A2 n2 c2, .slice B2 m2 e2] 25)) (Ext.refl _ _))
      replace HD2 := Lib.hid (HD2.out.go ((Kept.refl w5).alloc (.cells #[.slice A2 n2 c2, .slice B2 m2 e2] 25)) (Ext.refl _ _))
      replace K := K.alloc (.cells #[.slice A2 n2 c2, .slice B2 m2 e2] 25)
      generalize (w5.alloc (.cells #[.slice A2 n2 c2, .slice B2 m2 e2] 25)) = w6 at *
      have CD0 : ∀ W', Kept w6 W' → W'.cell? ⟨w.heap.size, 0, none⟩ = some (.slice A0 n0 c0) := fun W' hk => (OD.out.kept hk).cell? 0
      have CD1 : ∀ W', Kept w6 W' → W'.cell? ⟨w.heap.size, 1, none⟩ = some (.slice B0 m0 e0) := fun W' hk => (OD.out.kept hk).cell? 1
      have CS0 : ∀ W', Kept w6 W' → W'.cell? ⟨w5.heap.size, 0, none⟩ = some (.slice A2 n2 c2) := fun W' hk => (OS.out.kept hk).cell? 0
      have CS1 : ∀ W', Kept w6 W' → W'.cell? ⟨w5.heap.size, 1, none⟩ = some (.slice B2 m2 e2) := fun W' hk => (OS.out.kept hk).cell? 1
      refine wp_region_Z (S := fun W' => Kept w6 W') (Z := []) (by kernel_rfl) ((Kept.refl _).drew) (fun hHeld => ?_)
      have kr := (Kept.refl w6).drew
      have Kr := K
      have zr := K.size
      have ODr := OD
      have OSr := OS
      have HDr := HD
      have HWr := HW
      have HD2r := HD2
      replace OD := Lib.hid (ODr.out.kept kr)
      replace OS := Lib.hid (OSr.out.kept kr)
      replace HD := Lib.hid (HDr.out.go kr (Ext.refl _ _))
      replace HW := Lib.hid (HWr.out.go kr (Ext.refl _ _))
      replace HD2 := Lib.hid (HD2r.out.go kr (Ext.refl _ _))
      replace K := Kr.trans kr
      generalize w6.drew = w7 at *
      refine wpAnyZ_take (i := 0) (oi := { dst := some 27, op := Op.load 25 (Operand.tmp 5), type := 25, pos := "law.go:126", after := #[], guard := none }) (v := ?_) rfl (by kernel_rfl) (fun _ _ _ h => h) (Or.inl ⟨by rfl, ?_⟩) (by assumption) ?_
      rotate_left
      · (intro wz hSw; (try dsimp only at hSw); go_simp; (try with_reducible rfl))
      (try simp only [Act.put, List.setIfInBounds_toArray, List.set_cons_zero, List.set_cons_succ])
      refine wpAnyZ_take (i := 3) (oi := { dst := some 30, op := Op.load 25 (Operand.tmp 5), type := 25, pos := "law.go:126", after := #[], guard := none }) (v := ?_) rfl (by kernel_rfl) (fun _ _ _ h => h) (Or.inl ⟨by rfl, ?_⟩) (by assumption) ?_
      rotate_left
      · (intro wz hSw; (try dsimp only at hSw); go_simp; (try with_reducible rfl))
      (try simp only [Act.put, List.setIfInBounds_toArray, List.set_cons_zero, List.set_cons_succ])
      refine wpAnyZ_ready (rs := [1]) (by kernel_rfl) (by simp) ?_
      refine AllReadyZ.cons (o := { dst := some 28, op := Op.call { callee := Callee.value (Operand.func 21), args := #[Operand.tmp 27], argTypes := #[25] }, type := 25, pos := "law.go:126", after := #[{ on := 0, ground := Ground.data }], guard := none }) rfl (fun KK hKK => ?_) AllReadyZ.nil
      go_simp
      refine (recover_any [] rr _ w7 (HT.out.kept K) HD2.out (fun _ h => by cases h) (by have := HRC.out; omega)).mono ?_
      rintro e w8 ⟨s3, c3, rfl, hd, hk⟩
      clear hHeld
      replace kr := kr.trans hk
      replace OD := Lib.hid (ODr.out.kept kr)
      replace OS := Lib.hid (OSr.out.kept kr)
      replace HD := Lib.hid (HDr.out.go kr (Ext.refl _ _))
      replace HW := Lib.hid (HWr.out.go kr (Ext.refl _ _))
      replace HD2 := Lib.hid (HD2r.out.go kr (Ext.refl _ _))
      replace K := Kr.trans kr
      rw [HTW.out] at hd
      have HD3 := Lib.hid hd
      obtain ⟨A3, c3, B3, e3, rfl, rfl⟩ := hd.form
      clear hd
      generalize rr.sec.length = n3 at HD3 ⊢
      generalize rr.cache.length = m3 at HD3 ⊢
      clear hk
      go_simp
      refine hKK.out _ _ ?_ (fun hHeld => ?_)
      · exact kr
      clear hKK KK
      (try simp only [Act.put, List.setIfInBounds_toArray, List.set_cons_zero, List.set_cons_succ])
      refine wpAnyZ_ready (rs := [2]) (by kernel_rfl) (by simp) ?_
      refine AllReadyZ.cons (o := { dst := some 29, op := Op.call { callee := Callee.value (Operand.func 11), args := #[Operand.tmp 28], argTypes := #[25] }, type := 29, pos := "law.go:126", after := #[{ on := 1, ground := Ground.data }, { on := 1, ground := Ground.chain }], guard := none }) rfl (fun KK hKK => ?_) AllReadyZ.nil
      go_simp
      refine (ref10_any [] rr _ w8 HD3.out (fun _ h => by cases h) (by have := HRC.out; omega)).mono ?_
      rintro e w9 ⟨s4, c4, rfl, hd, hk⟩
      clear hHeld
      replace kr := kr.trans hk
      replace OD := Lib.hid (ODr.out.kept kr)
      replace OS := Lib.hid (OSr.out.kept kr)
      replace HD := Lib.hid (HDr.out.go kr (Ext.refl _ _))
      replace HW := Lib.hid (HWr.out.go kr (Ext.refl _ _))
      replace HD2 := Lib.hid (HD2r.out.go kr (Ext.refl _ _))
      replace K := Kr.trans kr
      have HD4 := Lib.hid hd
      obtain ⟨A4, c4, B4, e4, rfl, rfl⟩ := hd.form
      clear hd
      generalize rr.sec.length = n4 at HD4 ⊢
      generalize rr.cache.length = m4 at HD4 ⊢
      clear hk
      go_simp
      refine hKK.out _ _ ?_ (fun hHeld => ?_)
      · exact kr
      clear hKK KK
      (try simp only [Act.put, List.setIfInBounds_toArray, List.set_cons_zero, List.set_cons_succ])
      refine wpAnyZ_ready (rs := [4]) (by kernel_rfl) (by simp) ?_
      refine AllReadyZ.cons (o := { dst := some 31, op := Op.call { callee := Callee.value (Operand.func 11), args := #[Operand.tmp 30], argTypes := #[25] }, type := 29, pos := "law.go:126", after := #[{ on := 3, ground := Ground.data }, { on := 2, ground := Ground.chain }], guard := none }) rfl (fun KK hKK => ?_) AllReadyZ.nil
      go_simp
      refine (ref10_any [] rr _ w9 HD2.out (fun _ h => by cases h) (by have := HRC.out; omega)).mono ?_
      rintro e w10 ⟨s5, c5, rfl, hd, hk⟩
      clear hHeld
      replace kr := kr.trans hk
      replace OD := Lib.hid (ODr.out.kept kr)
      replace OS := Lib.hid (OSr.out.kept kr)
      replace HD := Lib.hid (HDr.out.go kr (Ext.refl _ _))
      replace HW := Lib.hid (HWr.out.go kr (Ext.refl _ _))
      replace HD2 := Lib.hid (HD2r.out.go kr (Ext.refl _ _))
      replace K := Kr.trans kr
      have HD5 := Lib.hid hd
      obtain ⟨A5, c5, B5, e5, rfl, rfl⟩ := hd.form
      clear hd
      generalize rr.sec.length = n5 at HD5 ⊢
      generalize rr.cache.length = m5 at HD5 ⊢
      have hk45 := hk
      clear hk
      go_simp
      refine hKK.out _ _ ?_ (fun hHeld => ?_)
      · exact kr
      clear hKK KK
      (try simp only [Act.put, List.setIfInBounds_toArray, List.set_cons_zero, List.set_cons_succ])
      refine wpAnyZ_ready (rs := [5]) (by kernel_rfl) (by simp) ?_
      refine AllReadyZ.cons (o := { dst := some 32, op := Op.call { callee := Callee.value (Operand.func 20), args := #[Operand.tmp 29, Operand.tmp 31], argTypes := #[29, 29] }, type := 4, pos := "law.go:126", after := #[{ on := 2, ground := Ground.data }, { on := 4, ground := Ground.data }, { on := 4, ground := Ground.chain }], guard := none }) rfl (fun KK hKK => ?_) AllReadyZ.nil
      go_simp
      refine (equal_any [] [] rr _ _ w10 (HD4.out.go hk45 (Ext.refl _ _)) HD5.out).mono ?_
      rintro e w11 ⟨rfl, hk⟩
      clear hHeld
      replace kr := kr.trans hk
      replace OD := Lib.hid (ODr.out.kept kr)
      replace OS := Lib.hid (OSr.out.kept kr)
      replace HD := Lib.hid (HDr.out.go kr (Ext.refl _ _))
      replace HW := Lib.hid (HWr.out.go kr (Ext.refl _ _))
      replace HD2 := Lib.hid (HD2r.out.go kr (Ext.refl _ _))
      replace K := Kr.trans kr
      clear hk
      go_simp
      refine hKK.out _ _ ?_ (fun hHeld => ?_)
      · exact kr
      clear hKK KK
      (try simp only [Act.put, List.setIfInBounds_toArray, List.set_cons_zero, List.set_cons_succ])
      refine wpAnyZ_take (i := 6) (oi := { dst := some 33, op := Op.unOp UnOp.not 4 (Operand.tmp 32), type := 4, pos := "law.go:126", after := #[{ on := 5, ground := Ground.data }], guard := none }) (v := ?_) rfl (by kernel_rfl) (fun _ _ _ h => h) (Or.inl ⟨by rfl, ?_⟩) (by assumption) ?_
      rotate_left
      · (intro wz hSw; (try dsimp only at hSw); go_simp; (try with_reducible rfl))
      (try simp only [Act.put, List.setIfInBounds_toArray, List.set_cons_zero, List.set_cons_succ])
      refine wpAnyZ_done (by kernel_rfl) ?_ _
      clear CD0 CD1 CS0 CS1 ODr OSr HDr HWr HD2r Kr zr hHeld kr
      clear hk45
      obtain ⟨cD0, cD1, fD0, fD1⟩ := OD.out.two
      go_wp2_with fail
      refine (commit_any [] d l _ _ _ (HT.out.kept K) HD.out HW.out (fun _ h => by cases h) (by rw [HM0.out]; omega)).mono ?_
      rintro e w12 ⟨s6, c6, rfl, hd, hk⟩
      clear cD0 cD1 fD0 fD1
      replace OD := Lib.hid (OD.out.kept hk)
      replace HD := Lib.hid (HD.out.go hk (Ext.refl _ _))
      replace HW := Lib.hid (HW.out.go hk (Ext.refl _ _))
      replace K := K.trans hk
      clear hk
      by_cases he : planErr d l = 0
      · have hok := ok_of he
        have hcr : commitR d l = (doneD d l, 0) := by unfold commitR; rw [if_pos he]
        rw [hcr] at hd ⊢
        dsimp only at hd ⊢
        have HDX := Lib.hid hd
        obtain ⟨A6, c6, B6, e6, rfl, rfl⟩ := hd.form
        clear hd hcr
        rw [done_len, HN0.out] at HDX ⊢
        have HRD : Hid (∀ i, i < n0 → readR d (i : Int) = (readD d i, 0)) := fun i hi => readR_yes hok.right (by rw [HN0.out]; exact hi)
        have HRX : Hid (∀ i, 61 ≤ i → i < n0 → readR (doneD d l) (i : Int) = (readTo (i : Int) (readD d i) l, 0)) := fun i h1 h2 => done_read hok h1 (by rw [HN0.out]; exact h2)
        have HRN := Lib.hid (rec_done hok)
        have hn61 : 61 < n0 := by have := hok.len; rw [HN0.out] at this; exact this
        have hmx : (doneD d l).cache.length = 0 := rfl
        rw [hmx] at HDX ⊢
        have HMX := Lib.hid hmx
        clear hok he hmx
        generalize doneD d l = dn at *
        obtain ⟨cD0, cD1, fD0, fD1⟩ := OD.out.two
        go_wp2_with fail
        clear cD0 cD1 fD0 fD1
        replace OD := Lib.hid (OD.out.alloc (.cells #[.slice A6 n0 c6, .slice B6 0 e6] 25))
        have OX := Lib.hid (Own.new w12 25 [.slice A6 n0 c6, .slice B6 0 e6])
        replace HD := Lib.hid (HD.out.go ((Kept.refl w12).alloc (.cells #[.slice A6 n0 c6, .slice B6 0 e6] 25)) (Ext.refl _ _))
        replace HW := Lib.hid (HW.out.go ((Kept.refl w12).alloc (.cells #[.slice A6 n0 c6, .slice B6 0 e6] 25)) (Ext.refl _ _))
        replace HDX := Lib.hid (HDX.out.go ((Kept.refl w12).alloc (.cells #[.slice A6 n0 c6, .slice B6 0 e6] 25)) (Ext.refl _ _))
        replace K := K.alloc (.cells #[.slice A6 n0 c6, .slice B6 0 e6] 25)
        generalize (w12.alloc (.cells #[.slice A6 n0 c6, .slice B6 0 e6] 25)) = w13 at *
        go_loopw [8] (fun iv wq => ∃ (i : Nat), 61 ≤ i ∧ i ≤ n0 ∧ iv = .int .i64 i ∧ Kept w13 wq) (fun iv _ => n0 - (intOf iv).toNat)
        case atStart => exact ⟨61, Nat.le_refl _, by omega, rfl, Kept.refl _⟩
        case round =>
          have KK := Lib.hid K
          obtain ⟨i, hi1, hi2, rfl, K9⟩ := hrel
          replace OD := Lib.hid (OD.out.kept K9)
          replace OX := Lib.hid (OX.out.kept K9)
          replace HD := Lib.hid (HD.out.go K9 (Ext.refl _ _))
          replace HW := Lib.hid (HW.out.go K9 (Ext.refl _ _))
          replace HDX := Lib.hid (HDX.out.go K9 (Ext.refl _ _))
          replace K := K.trans K9
          have HKF : Hid (KF w13 [] wr) := K9
          clear K9
          have i0 : (0 : Int) ≤ (i : Int) := by omega
          by_cases hlt : i < n0
          · have hlt' : (i : Int) < (n0 : Int) := by omega
            have HRDi := Lib.hid (HRD.out i hlt)
            have HRXi := Lib.hid (HRX.out i hi1 hlt)
            obtain ⟨cD0, cD1, fD0, fD1⟩ := OD.out.two
            obtain ⟨cX0, cX1, fX0, fX1⟩ := OX.out.two
            go_wp2_with fail
            refine (read_any [] d i _ _ HD.out (by omega)).mono ?_
            rintro e w14 ⟨rfl, hk⟩
            clear cD0 cD1 fD0 fD1 cX0 cX1 fX0 fX1
            replace OD := Lib.hid (OD.out.kept hk)
            replace OX := Lib.hid (OX.out.kept hk)
            replace HD := Lib.hid (HD.out.go hk (Ext.refl _ _))
            replace HW := Lib.hid (HW.out.go hk (Ext.refl _ _))
            replace HDX := Lib.hid (HDX.out.go hk (Ext.refl _ _))
            replace HKF := Lib.hid (HKF.out.go hk (Ext.refl _ _))
            replace K := K.trans hk
            rw [HRDi.out]
            clear hk
            dsimp only
            generalize readD d i = s0 at *
            obtain ⟨cD0, cD1, fD0, fD1⟩ := OD.out.two
            obtain ⟨cX0, cX1, fX0, fX1⟩ := OX.out.two
            go_wp2_with fail
            clear cD0 cD1 fD0 fD1 cX0 cX1 fX0 fX1
            go_loopw [9, 58] (fun sv kv wq => ∃ (k : Nat), k ≤ l.length ∧ kv = .int .i64 k ∧ sv = .string (readTo (i : Int) s0 (l.take k)) ∧ Kept w14 wq) (fun _ kv _ => l.length - (intOf kv).toNat)
            case atStart => exact ⟨0, Nat.zero_le _, rfl, rfl, Kept.refl _⟩
            case round =>
              obtain ⟨k, hk, rfl, rfl, K10⟩ := hrel
              replace OD := Lib.hid (OD.out.kept K10)
              replace OX := Lib.hid (OX.out.kept K10)
              replace HD := Lib.hid (HD.out.go K10 (Ext.refl _ _))
              replace HW := Lib.hid (HW.out.go K10 (Ext.refl _ _))
              replace HDX := Lib.hid (HDX.out.go K10 (Ext.refl _ _))
              replace HKF := Lib.hid (HKF.out.go K10 (Ext.refl _ _))
              replace K := K.trans K10
              by_cases hlk : k < l.length
              · skip
                obtain ⟨_, _, e9, hq1, hq2, hq3⟩ := HW.out
                cases e9
                obtain ⟨b2, o2, rfl, hb2, _, hcs2⟩ := hq3 (by rw [wrs_length]; omega)
                have g1 : wr.cell? ⟨b2, o2 + k * 2, none⟩ = some (.int .i64 l[k].at_) := hcs2 _ _ (wrs_at hlk).1
                have g2 : wr.cell? ⟨b2, o2 + k * 2 + 1, none⟩ = some (.string l[k].data) := hcs2 _ _ (wrs_at hlk).2
                have zb2 := hb2
                have HST := Lib.hid (readTo_succ (at_ := (i : Int)) (s := s0) hlk)
                clear hcs2 hq3
                generalize readTo (i : Int) s0 (l.take k) = sk at *
                generalize l[k] = x at *
                obtain ⟨xa, xd⟩ := x
                simp only at g1 g2
                by_cases hx : xa = (i : Int)
                · have HSV : Hid (readTo (i : Int) s0 (l.take (k + 1)) = xd) := by show _ = _; rw [HST.out, if_pos hx]
                  subst hx
                  go_wp2
                  go_roundw
                  case rel => exact ⟨k + 1, by omega, by go_num, by rw [HSV.out], K10.alloc _⟩
                  case measure => simp [intOf]; omega
                · have HSV : Hid (readTo (i : Int) s0 (l.take (k + 1)) = sk) := by show _ = _; rw [HST.out, if_neg hx]
                  have t1 := beq_f hx
                  go_wp2
                  go_roundw
                  case rel => exact ⟨k + 1, by omega, by go_num, by rw [HSV.out], K10.alloc _⟩
                  case measure => simp [intOf]; omega
              · obtain rfl : k = l.length := by omega
                rw [List.take_length]
                clear K10
                obtain ⟨cD0, cD1, fD0, fD1⟩ := OD.out.two
                obtain ⟨cX0, cX1, fX0, fX1⟩ := OX.out.two
                go_wp2_with fail
                refine (read_any [] dn i _ _ HDX.out (by omega)).mono ?_
                rintro e wy15 ⟨rfl, hk⟩
                clear cD0 cD1 fD0 fD1 cX0 cX1 fX0 fX1
                replace OD := Lib.hid (OD.out.kept hk)
                replace OX := Lib.hid (OX.out.kept hk)
                replace HD := Lib.hid (HD.out.go hk (Ext.refl _ _))
                replace HW := Lib.hid (HW.out.go hk (Ext.refl _ _))
                replace HDX := Lib.hid (HDX.out.go hk (Ext.refl _ _))
                replace HKF := Lib.hid (HKF.out.go hk (Ext.refl _ _))
                replace K := K.trans hk
                rw [HRXi.out]
                clear hk
                dsimp only
                generalize readTo (i : Int) s0 l = s1 at *
                go_wp2
                go_roundw
                case rel => exact ⟨i + 1, by omega, by omega, by go_num, HKF.out⟩
                case measure => simp [intOf]; omega
          · have hlt' : ¬ (i : Int) < (n0 : Int) := by omega
            clear HKF
            obtain ⟨cD0, cD1, fD0, fD1⟩ := OD.out.two
            obtain ⟨cX0, cX1, fX0, fX1⟩ := OX.out.two
            go_upto_region 22 with fail
            clear cD0 cD1 fD0 fD1 cX0 cX1 fX0 fX1
            have CD0 : ∀ W', Kept wr W' → W'.cell? ⟨w.heap.size, 0, none⟩ = some (.slice A0 n0 c0) := fun W' hk => (OD.out.kept hk).cell? 0
            have CD1 : ∀ W', Kept wr W' → W'.cell? ⟨w.heap.size, 1, none⟩ = some (.slice B0 m0 e0) := fun W' hk => (OD.out.kept hk).cell? 1
            have CX0 : ∀ W', Kept wr W' → W'.cell? ⟨w12.heap.size, 0, none⟩ = some (.slice A6 n0 c6) := fun W' hk => (OX.out.kept hk).cell? 0
            have CX1 : ∀ W', Kept wr W' → W'.cell? ⟨w12.heap.size, 1, none⟩ = some (.slice B6 0 e6) := fun W' hk => (OX.out.kept hk).cell? 1
            refine wp_region_Z (S := fun W' => Kept wr W') (Z := []) (by kernel_rfl) ((Kept.refl _).drew) (fun hHeld => ?_)
            have kr := (Kept.refl wr).drew
            have Kr := K
            have zr := K.size
            have ODr := OD
            have OXr := OX
            have HDr := HD
            have HWr := HW
            have HDXr := HDX
            replace OD := Lib.hid (ODr.out.kept kr)
            replace OX := Lib.hid (OXr.out.kept kr)
            replace HD := Lib.hid (HDr.out.go kr (Ext.refl _ _))
            replace HW := Lib.hid (HWr.out.go kr (Ext.refl _ _))
            replace HDX := Lib.hid (HDXr.out.go kr (Ext.refl _ _))
            replace K := Kr.trans kr
            generalize wr.drew = w14 at *
            refine wpAnyZ_take (i := 0) (oi := { dst := some 82, op := Op.fieldAddr 25 (Operand.tmp 6) 1, type := 0, pos := "law.go:144", after := #[], guard := none }) (v := ?_) rfl (by kernel_rfl) (fun _ _ _ h => h) (Or.inl ⟨by rfl, ?_⟩) (by assumption) ?_
            rotate_left
            · (intro wz hSw; (try dsimp only at hSw); go_simp; (try with_reducible rfl))
            (try simp only [Act.put, List.setIfInBounds_toArray, List.set_cons_zero, List.set_cons_succ])
            refine wpAnyZ_take (i := 1) (oi := { dst := some 83, op := Op.load 23 (Operand.tmp 82), type := 23, pos := "law.go:144", after := #[{ on := 0, ground := Ground.data }], guard := none }) (v := ?_) rfl (by kernel_rfl) (fun _ _ _ h => h) (Or.inl ⟨by rfl, ?_⟩) (by assumption) ?_
            rotate_left
            · (intro wz hSw; (try dsimp only at hSw); go_simp; (try with_reducible rfl))
            (try simp only [Act.put, List.setIfInBounds_toArray, List.set_cons_zero, List.set_cons_succ])
            refine wpAnyZ_take (i := 2) (oi := { dst := some 84, op := Op.call { callee := Callee.builtin Builtin.len, args := #[Operand.tmp 83], argTypes := #[23] }, type := 3, pos := "law.go:144", after := #[{ on := 1, ground := Ground.data }], guard := none }) (v := ?_) rfl (by kernel_rfl) (fun _ _ _ h => h) (Or.inl ⟨by rfl, ?_⟩) (by assumption) ?_
            rotate_left
            · (intro wz hSw; (try dsimp only at hSw); go_simp; (try with_reducible rfl))
            (try simp only [Act.put, List.setIfInBounds_toArray, List.set_cons_zero, List.set_cons_succ])
            refine wpAnyZ_take (i := 3) (oi := { dst := some 85, op := Op.binOp BinOp.eql 3 (Operand.tmp 84) (Operand.const (Value.int IntKind.i64 0)) 3, type := 4, pos := "law.go:144", after := #[{ on := 2, ground := Ground.data }], guard := none }) (v := ?_) rfl (by kernel_rfl) (fun _ _ _ h => h) (Or.inl ⟨by rfl, ?_⟩) (by assumption) ?_
            rotate_left
            · (intro wz hSw; (try dsimp only at hSw); go_simp; (try with_reducible rfl))
            (try simp only [Act.put, List.setIfInBounds_toArray, List.set_cons_zero, List.set_cons_succ])
            refine wpAnyZ_take (i := 4) (oi := { dst := some 86, op := Op.move (Operand.tmp 85), type := 4, pos := "law.go:144", after := #[{ on := 3, ground := Ground.data }], guard := none }) (v := ?_) rfl (by kernel_rfl) (fun _ _ _ h => h) (Or.inl ⟨by rfl, ?_⟩) (by assumption) ?_
            rotate_left
            · (intro wz hSw; (try dsimp only at hSw); go_simp; (try with_reducible rfl))
            (try simp only [Act.put, List.setIfInBounds_toArray, List.set_cons_zero, List.set_cons_succ])
            refine wpAnyZ_take (i := 5) (oi := { dst := some 87, op := Op.load 25 (Operand.tmp 6), type := 25, pos := "law.go:144", after := #[{ on := 4, ground := Ground.guard }], guard := some (4, true) }) (v := ?_) rfl (by kernel_rfl) (fun _ _ _ h => h) (Or.inl ⟨by rfl, ?_⟩) (by assumption) ?_
            rotate_left
            · (intro wz hSw; (try dsimp only at hSw); go_simp; (try with_reducible rfl))
            (try simp only [Act.put, List.setIfInBounds_toArray, List.set_cons_zero, List.set_cons_succ])
            refine wpAnyZ_take (i := 8) (oi := { dst := some 90, op := Op.load 25 (Operand.tmp 6), type := 25, pos := "law.go:144", after := #[{ on := 4, ground := Ground.guard }], guard := some (4, true) }) (v := ?_) rfl (by kernel_rfl) (fun _ _ _ h => h) (Or.inl ⟨by rfl, ?_⟩) (by assumption) ?_
            rotate_left
            · (intro wz hSw; (try dsimp only at hSw); go_simp; (try with_reducible rfl))
            (try simp only [Act.put, List.setIfInBounds_toArray, List.set_cons_zero, List.set_cons_succ])
            refine wpAnyZ_ready (rs := [6]) (by kernel_rfl) (by simp) ?_
            refine AllReadyZ.cons (o := { dst := some 88, op := Op.call { callee := Callee.value (Operand.func 21), args := #[Operand.tmp 87], argTypes := #[25] }, type := 25, pos := "law.go:144", after := #[{ on := 5, ground := Ground.data }, { on := 4, ground := Ground.chain }, { on := 4, ground := Ground.guard }], guard := some (4, true) }) rfl (fun KK hKK => ?_) AllReadyZ.nil
            go_simp
            refine (recover_any [] dn _ w14 (HT.out.kept K) HDX.out (fun _ h => by cases h) (by rw [HMX.out]; exact Nat.zero_le _)).mono ?_
            rintro e w15 ⟨s7, c7, rfl, hd, hk⟩
            clear hHeld
            replace kr := kr.trans hk
            replace OD := Lib.hid (ODr.out.kept kr)
            replace OX := Lib.hid (OXr.out.kept kr)
            replace HD := Lib.hid (HDr.out.go kr (Ext.refl _ _))
            replace HW := Lib.hid (HWr.out.go kr (Ext.refl _ _))
            replace HDX := Lib.hid (HDXr.out.go kr (Ext.refl _ _))
            replace K := Kr.trans kr
            rw [HRN.out] at hd
            have HD7 := Lib.hid hd
            obtain ⟨A7, c7, B7, e7, rfl, rfl⟩ := hd.form
            clear hd
            generalize dn.sec.length = n7 at HD7 ⊢
            generalize dn.cache.length = m7 at HD7 ⊢
            clear hk
            go_simp
            refine hKK.out _ _ ?_ (fun hHeld => ?_)
            · exact kr
            clear hKK KK
            (try simp only [Act.put, List.setIfInBounds_toArray, List.set_cons_zero, List.set_cons_succ])
            refine wpAnyZ_ready (rs := [7]) (by kernel_rfl) (by simp) ?_
            refine AllReadyZ.cons (o := { dst := some 89, op := Op.call { callee := Callee.value (Operand.func 11), args := #[Operand.tmp 88], argTypes := #[25] }, type := 29, pos := "law.go:144", after := #[{ on := 6, ground := Ground.data }, { on := 6, ground := Ground.chain }, { on := 4, ground := Ground.guard }], guard := some (4, true) }) rfl (fun KK hKK => ?_) AllReadyZ.nil
            go_simp
            refine (ref10_any [] dn _ w15 HD7.out (fun _ h => by cases h) (by rw [HMX.out]; exact Nat.zero_le _)).mono ?_
            rintro e w16 ⟨s8, c8, rfl, hd, hk⟩
            clear hHeld
            replace kr := kr.trans hk
            replace OD := Lib.hid (ODr.out.kept kr)
            replace OX := Lib.hid (OXr.out.kept kr)
            replace HD := Lib.hid (HDr.out.go kr (Ext.refl _ _))
            replace HW := Lib.hid (HWr.out.go kr (Ext.refl _ _))
            replace HDX := Lib.hid (HDXr.out.go kr (Ext.refl _ _))
            replace K := Kr.trans kr
            have HD8 := Lib.hid hd
            obtain ⟨A8, c8, B8, e8, rfl, rfl⟩ := hd.form
            clear hd
            generalize dn.sec.length = n8 at HD8 ⊢
            generalize dn.cache.length = m8 at HD8 ⊢
            clear hk
            go_simp
            refine hKK.out _ _ ?_ (fun hHeld => ?_)
            · exact kr
            clear hKK KK
            (try simp only [Act.put, List.setIfInBounds_toArray, List.set_cons_zero, List.set_cons_succ])
            refine wpAnyZ_ready (rs := [9]) (by kernel_rfl) (by simp) ?_
            refine AllReadyZ.cons (o := { dst := some 91, op := Op.call { callee := Callee.value (Operand.func 11), args := #[Operand.tmp 90], argTypes := #[25] }, type := 29, pos := "law.go:144", after := #[{ on := 8, ground := Ground.data }, { on := 7, ground := Ground.chain }, { on := 4, ground := Ground.guard }], guard := some (4, true) }) rfl (fun KK hKK => ?_) AllReadyZ.nil
            go_simp
            refine (ref10_any [] dn _ w16 HDX.out (fun _ h => by cases h) (by rw [HMX.out]; exact Nat.zero_le _)).mono ?_
            rintro e w17 ⟨s9, c9, rfl, hd, hk⟩
            clear hHeld
            replace kr := kr.trans hk
            replace OD := Lib.hid (ODr.out.kept kr)
            replace OX := Lib.hid (OXr.out.kept kr)
            replace HD := Lib.hid (HDr.out.go kr (Ext.refl _ _))
            replace HW := Lib.hid (HWr.out.go kr (Ext.refl _ _))
            replace HDX := Lib.hid (HDXr.out.go kr (Ext.refl _ _))
            replace K := Kr.trans kr
            have HD9 := Lib.hid hd
            obtain ⟨A9, c9, B9, e9, rfl, rfl⟩ := hd.form
            clear hd
            generalize dn.sec.length = n9 at HD9 ⊢
            generalize dn.cache.length = m9 at HD9 ⊢
            have hk89 := hk
            clear hk
            go_simp
            refine hKK.out _ _ ?_ (fun hHeld => ?_)
            · exact kr
            clear hKK KK
            (try simp only [Act.put, List.setIfInBounds_toArray, List.set_cons_zero, List.set_cons_succ])
            refine wpAnyZ_ready (rs := [10]) (by kernel_rfl) (by simp) ?_
            refine AllReadyZ.cons (o := { dst := some 92, op := Op.call { callee := Callee.value (Operand.func 20), args := #[Operand.tmp 89, Operand.tmp 91], argTypes := #[29, 29] }, type := 4, pos := "law.go:144", after := #[{ on := 7, ground := Ground.data }, { on := 9, ground := Ground.data }, { on := 9, ground := Ground.chain }, { on := 4, ground := Ground.guard }], guard := some (4, true) }) rfl (fun KK hKK => ?_) AllReadyZ.nil
            go_simp
            refine (equal_any [] [] dn _ _ w17 (HD8.out.go hk89 (Ext.refl _ _)) HD9.out).mono ?_
            rintro e w18 ⟨rfl, hk⟩
            clear hHeld
            replace kr := kr.trans hk
            replace OD := Lib.hid (ODr.out.kept kr)
            replace OX := Lib.hid (OXr.out.kept kr)
            replace HD := Lib.hid (HDr.out.go kr (Ext.refl _ _))
            replace HW := Lib.hid (HWr.out.go kr (Ext.refl _ _))
            replace HDX := Lib.hid (HDXr.out.go kr (Ext.refl _ _))
            replace K := Kr.trans kr
            clear hk
            go_simp
            refine hKK.out _ _ ?_ (fun hHeld => ?_)
            · exact kr
            clear hKK KK
            (try simp only [Act.put, List.setIfInBounds_toArray, List.set_cons_zero, List.set_cons_succ])
            refine wpAnyZ_take (i := 11) (oi := { dst := some 93, op := Op.pick (Operand.tmp 86) (Operand.tmp 92) (Operand.const (Value.bool false)), type := 4, pos := "law.go:144", after := #[{ on := 4, ground := Ground.data }, { on := 10, ground := Ground.data }], guard := none }) (v := ?_) rfl (by kernel_rfl) (fun _ _ _ h => h) (Or.inl ⟨by rfl, ?_⟩) (by assumption) ?_
            rotate_left
            · (intro wz hSw; (try dsimp only at hSw); go_simp; (try with_reducible rfl))
            (try simp only [Act.put, List.setIfInBounds_toArray, List.set_cons_zero, List.set_cons_succ])
            refine wpAnyZ_take (i := 12) (oi := { dst := some 94, op := Op.move (Operand.tmp 93), type := 4, pos := "law.go:144", after := #[{ on := 11, ground := Ground.data }, { on := 10, ground := Ground.chain }], guard := none }) (v := ?_) rfl (by kernel_rfl) (fun _ _ _ h => h) (Or.inl ⟨by rfl, ?_⟩) (by assumption) ?_
            rotate_left
            · (intro wz hSw; (try dsimp only at hSw); go_simp; (try with_reducible rfl))
            (try simp only [Act.put, List.setIfInBounds_toArray, List.set_cons_zero, List.set_cons_succ])
            refine wpAnyZ_ready (rs := [13]) (by kernel_rfl) (by simp) ?_
            refine AllReadyZ.cons (o := { dst := some 95, op := Op.call { callee := Callee.value (Operand.func 13), args := #[], argTypes := #[] }, type := 4, pos := "law.go:144", after := #[{ on := 12, ground := Ground.chain }, { on := 12, ground := Ground.guard }], guard := some (12, true) }) rfl (fun KK hKK => ?_) AllReadyZ.nil
            go_simp
            refine (awake10 w18 (HT.out.kept K)).mono ?_
            rintro e w19 ⟨rfl, hk⟩
            clear hHeld
            replace kr := kr.trans hk
            replace OD := Lib.hid (ODr.out.kept kr)
            replace OX := Lib.hid (OXr.out.kept kr)
            replace HD := Lib.hid (HDr.out.go kr (Ext.refl _ _))
            replace HW := Lib.hid (HWr.out.go kr (Ext.refl _ _))
            replace HDX := Lib.hid (HDXr.out.go kr (Ext.refl _ _))
            replace K := Kr.trans kr
            clear hk
            go_simp
            refine hKK.out _ _ ?_ (fun hHeld => ?_)
            · exact kr
            clear hKK KK
            (try simp only [Act.put, List.setIfInBounds_toArray, List.set_cons_zero, List.set_cons_succ])
            refine wpAnyZ_take (i := 14) (oi := { dst := some 96, op := Op.pick (Operand.tmp 94) (Operand.tmp 95) (Operand.const (Value.bool false)), type := 4, pos := "law.go:144", after := #[{ on := 12, ground := Ground.data }, { on := 13, ground := Ground.data }], guard := none }) (v := ?_) rfl (by kernel_rfl) (fun _ _ _ h => h) (Or.inl ⟨by rfl, ?_⟩) (by assumption) ?_
            rotate_left
            · (intro wz hSw; (try dsimp only at hSw); go_simp; (try with_reducible rfl))
            (try simp only [Act.put, List.setIfInBounds_toArray, List.set_cons_zero, List.set_cons_succ])
            refine wpAnyZ_take (i := 15) (oi := { dst := some 4, op := Op.assign (Operand.tmp 96), type := 4, pos := "law.go:144", after := #[{ on := 14, ground := Ground.data }, { on := 13, ground := Ground.chain }, { on := 0, ground := Ground.phase }, { on := 1, ground := Ground.phase }, { on := 2, ground := Ground.phase }, { on := 3, ground := Ground.phase }, { on := 4, ground := Ground.phase }, { on := 5, ground := Ground.phase }, { on := 6, ground := Ground.phase }, { on := 7, ground := Ground.phase }, { on := 8, ground := Ground.phase }, { on := 9, ground := Ground.phase }, { on := 10, ground := Ground.phase }, { on := 11, ground := Ground.phase }, { on := 12, ground := Ground.phase }, { on := 13, ground := Ground.phase }, { on := 14, ground := Ground.phase }], guard := none }) (v := ?_) rfl (by kernel_rfl) (fun _ _ _ h => h) (Or.inl ⟨by rfl, ?_⟩) (by assumption) ?_
            rotate_left
            · (intro wz hSw; (try dsimp only at hSw); go_simp; (try with_reducible rfl))
            (try simp only [Act.put, List.setIfInBounds_toArray, List.set_cons_zero, List.set_cons_succ])
            refine wpAnyZ_done (by kernel_rfl) ?_ _
            clear CD0 CD1 CX0 CX1 ODr OXr HDr HWr HDXr Kr zr hHeld kr
            go_wp2
            go_ret
            exact ⟨rfl, K⟩
      · have t1 := bne_t he
        have hcr : commitR d l = (⟨[], []⟩, planErr d l) := by unfold commitR; rw [if_neg he]
        rw [hcr] at hd ⊢
        dsimp only at hd ⊢
        obtain ⟨A6, c6, B6, e6, rfl, rfl⟩ := hd.form
        dsimp only [List.length_nil] at hd ⊢
        clear hd hcr
        have HEE := Lib.hid he
        clear he
        generalize planErr d l = pe at *
        obtain ⟨cD0, cD1, fD0, fD1⟩ := OD.out.two
        go_wp2_with fail
        clear cD0 cD1 fD0 fD1
        replace OD := Lib.hid (OD.out.alloc (.cells #[.slice A6 0 c6, .slice B6 0 e6] 25))
        have OX := Lib.hid (Own.new w12 25 [.slice A6 0 c6, .slice B6 0 e6])
        replace HD := Lib.hid (HD.out.go ((Kept.refl w12).alloc (.cells #[.slice A6 0 c6, .slice B6 0 e6] 25)) (Ext.refl _ _))
        replace HW := Lib.hid (HW.out.go ((Kept.refl w12).alloc (.cells #[.slice A6 0 c6, .slice B6 0 e6] 25)) (Ext.refl _ _))
        replace K := K.alloc (.cells #[.slice A6 0 c6, .slice B6 0 e6] 25)
        generalize (w12.alloc (.cells #[.slice A6 0 c6, .slice B6 0 e6] 25)) = w13 at *
        obtain ⟨cD0, cD1, fD0, fD1⟩ := OD.out.two
        obtain ⟨cX0, cX1, fX0, fX1⟩ := OX.out.two
        refine (awake10 _ (HT.out.kept K)).mono ?_
        rintro e w14 ⟨rfl, hk⟩
        clear cD0 cD1 fD0 fD1 cX0 cX1 fX0 fX1
        replace OD := Lib.hid (OD.out.kept hk)
        replace OX := Lib.hid (OX.out.kept hk)
        replace HD := Lib.hid (HD.out.go hk (Ext.refl _ _))
        replace HW := Lib.hid (HW.out.go hk (Ext.refl _ _))
        replace K := K.trans hk
        clear hk
        go_wp2
        go_ret
        exact ⟨rfl, K⟩
    · rw [hf]
      clear hf
      obtain ⟨cD0, cD1, fD0, fD1⟩ := OD.out.two
      go_wp2_with fail
      refine (awake10 _ (HT.out.kept K)).mono ?_
      rintro e w5 ⟨rfl, hk⟩
      clear cD0 cD1 fD0 fD1
      replace OD := Lib.hid (OD.out.kept hk)
      replace HD := Lib.hid (HD.out.go hk (Ext.refl _ _))
      replace HW := Lib.hid (HW.out.go hk (Ext.refl _ _))
      replace K := K.trans hk
      clear hk
      go_wp2
      go_ret
      exact ⟨rfl, K⟩
  · rw [hs]
    clear hs
    obtain ⟨cD0, cD1, fD0, fD1⟩ := OD.out.two
    go_wp2_with fail
    refine (awake10 _ (HT.out.kept K)).mono ?_
    rintro e w4 ⟨rfl, hk⟩
    clear cD0 cD1 fD0 fD1
    replace OD := Lib.hid (OD.out.kept hk)
    replace HD := Lib.hid (HD.out.go hk (Ext.refl _ _))
    replace HW := Lib.hid (HW.out.go hk (Ext.refl _ _))
    replace K := K.trans hk
    clear hk
    go_wp2
    go_ret
    exact ⟨rfl, K⟩
end Go.Proofs.YtagpimahicgkmaaDoor
