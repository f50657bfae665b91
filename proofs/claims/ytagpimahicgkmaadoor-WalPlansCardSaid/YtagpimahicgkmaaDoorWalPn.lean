/- Walk: mailsacklaw10.WalPlans. -/
import Derived.Test.YtagpimahicgkmaaDoorR10T
import Derived.Test.YtagpimahicgkmaaDoorR10R
import Derived.Test.YtagpimahicgkmaaDoorR10E
import Derived.Test.YtagpimahicgkmaaDoorRfEqual
import Derived.Test.YtagpimahicgkmaaDoorAw10
import Derived.Test.YtagpimahicgkmaaDoorL10S
import Derived.Test.YtagpimahicgkmaaDoorWalC
namespace Go.Proofs.YtagpimahicgkmaaDoor
open Go.RowKit

theorem commit_code (d : Dk) (l : List Wr) : (commitR d l).2 = planErr d l := by
  unfold commitR
  split
  · rename_i h; rw [h]
  · rfl
theorem commit_no {d : Dk} {l : List Wr} (h : planErr d l ≠ 0) : (commitR d l).1 = ⟨[], []⟩ := by unfold commitR; rw [if_neg h]
theorem commit_yes {d : Dk} {l : List Wr} (h : planErr d l = 0) : (commitR d l).1 = doneD d l := by unfold commitR; rw [if_pos h]
theorem rep_right (d : Dk) : rightB d = true ∨ (repOps d).length = 0 := by
  rcases Bool.eq_false_or_eq_true (suitsB d) with h | h
  · exact .inl (suits_parts h).2
  · right; rw [rep_no h]; rfl
theorem run_cache3 (d : Dk) (l : List WOp) (k : Nat) : (runO d l k).cache.length ≤ d.cache.length + l.length := by
  rcases Nat.lt_or_ge l.length k with h | h
  · rw [run_over d l (by omega), ← run_all]; exact run_cache d l _
  · have := run_cache d l k; omega

set_option maxRecDepth 100000 in
set_option maxHeartbeats 8000000 in
theorem plans_any (d : Dk) (l : List Wr) (v u : Value) (w : World) (ht : Tabs w) (h : DkAt [] w v d) (hu : WrsAt [] w u l) (hreach : d.cache.length * 24 ≤ 140737488355328) :
    Calls Tryd.prog 4 #[v, u] w fun e w' => e = .returned (.bool true) ∧ Kept w w' := by
  have HT := Lib.hid ht
  have HD := Lib.hid h
  have HW := Lib.hid hu
  have HRE := Lib.hid hreach
  have HPP : Hid (∀ (u : Value) (w : World), WrsAt [] w u l → (∀ x ∈ l, 0 ≤ x.at_ ∧ x.at_ < 4294967296) → (∀ x ∈ l, x.data.size ≤ 100) → l.length ≤ 100 → Calls Tryd.prog 25 #[u] w fun e w' => ∃ r, e = .returned r ∧ ROps w w' r (planOps l) ∧ Kept w w') := fun u w h1 h2 h3 h4 => rplan_any l u w h1 h2 h3 h4
  obtain ⟨_, _, rfl, _, _⟩ := h
  obtain ⟨A0, c0, B0, e0, rfl, rfl⟩ := HD.out.form
  obtain ⟨WA, wc, rfl, hw1, hw2, _⟩ := hu
  unfold maxLen at hw2
  clear ht hreach
  generalize hn0 : d.sec.length = n0 at *
  generalize hm0 : d.cache.length = m0 at *
  have HN0 := Lib.hid hn0
  have HM0 := Lib.hid hm0
  clear hn0 hm0
  go_enter Tryd.func4, Tryd.ntmps4
  go_wp2_with fail
  have OD := Lib.hid (Own.newAt w w.heap.size 25 [.slice A0 n0 c0, .slice B0 m0 e0] (by simp))
  have K := ((Kept.refl w).alloc (.cells #[.slice A0 n0 c0, .slice B0 m0 e0] 25))
  generalize (w.alloc (.cells #[.slice A0 n0 c0, .slice B0 m0 e0] 25)) = w1 at *
  obtain ⟨cD0, cD1, fD0, fD1⟩ := OD.out.two
  replace HD := Lib.hid (HD.out.go K (Ext.refl _ _))
  replace HW := Lib.hid (HW.out.go K (Ext.refl _ _))
  refine (ref10_any [] d _ _ HD.out (fun _ h => by cases h) (by rw [HM0.out]; exact HRE.out)).mono ?_
  rintro e w2 ⟨s1, c1, rfl, hd1, hk⟩
  clear cD0 cD1 fD0 fD1
  replace OD := Lib.hid (OD.out.kept hk)
  replace HD := Lib.hid (HD.out.go hk (Ext.refl _ _))
  replace HW := Lib.hid (HW.out.go hk (Ext.refl _ _))
  replace K := K.trans hk
  have HD1 := Lib.hid hd1
  obtain ⟨A1, c1, B1, e1, rfl, rfl⟩ := hd1.form
  clear hd1
  rw [HN0.out, HM0.out] at HD1 ⊢
  clear hk
  go_upto_region 2 with fail
  replace OD := Lib.hid (OD.out.alloc (.cells #[.slice A1 n0 c1, .slice B1 m0 e1] 29))
  have OX := Lib.hid (Own.new w2 29 [.slice A1 n0 c1, .slice B1 m0 e1])
  replace HD := Lib.hid (HD.out.go ((Kept.refl w2).alloc (.cells #[.slice A1 n0 c1, .slice B1 m0 e1] 29)) (Ext.refl _ _))
  replace HW := Lib.hid (HW.out.go ((Kept.refl w2).alloc (.cells #[.slice A1 n0 c1, .slice B1 m0 e1] 29)) (Ext.refl _ _))
  replace HD1 := Lib.hid (HD1.out.go ((Kept.refl w2).alloc (.cells #[.slice A1 n0 c1, .slice B1 m0 e1] 29)) (Ext.refl _ _))
  replace K := K.alloc (.cells #[.slice A1 n0 c1, .slice B1 m0 e1] 29)
  generalize (w2.alloc (.cells #[.slice A1 n0 c1, .slice B1 m0 e1] 29)) = w3 at *
  obtain ⟨cD0, cD1, fD0, fD1⟩ := OD.out.two
  obtain ⟨cX0, cX1, fX0, fX1⟩ := OX.out.two
  go_wp2_with fail
  refine (small_any [] d _ _ HD1.out).mono ?_
  rintro e w4 ⟨rfl, hk⟩
  clear cD0 cD1 fD0 fD1 cX0 cX1 fX0 fX1
  replace OD := Lib.hid (OD.out.kept hk)
  replace OX := Lib.hid (OX.out.kept hk)
  replace HD := Lib.hid (HD.out.go hk (Ext.refl _ _))
  replace HW := Lib.hid (HW.out.go hk (Ext.refl _ _))
  replace HD1 := Lib.hid (HD1.out.go hk (Ext.refl _ _))
  replace K := K.trans hk
  clear hk
  rcases Bool.eq_false_or_eq_true (smallB d) with hs | hs
  · skip
    rw [hs]
    obtain ⟨hs1, hs2⟩ := small_parts hs
    have HS1 := Lib.hid hs1
    have HS2 := Lib.hid hs2
    clear hs hs1 hs2
    obtain ⟨cD0, cD1, fD0, fD1⟩ := OD.out.two
    obtain ⟨cX0, cX1, fX0, fX1⟩ := OX.out.two
    go_wp2_with fail
    refine (few_any l _ _ HW.out).mono ?_
    rintro e w5 ⟨rfl, hk⟩
    clear cD0 cD1 fD0 fD1 cX0 cX1 fX0 fX1
    replace OD := Lib.hid (OD.out.kept hk)
    replace OX := Lib.hid (OX.out.kept hk)
    replace HD := Lib.hid (HD.out.go hk (Ext.refl _ _))
    replace HW := Lib.hid (HW.out.go hk (Ext.refl _ _))
    replace HD1 := Lib.hid (HD1.out.go hk (Ext.refl _ _))
    replace K := K.trans hk
    clear hk
    rcases Bool.eq_false_or_eq_true (fewB l) with hf | hf
    · skip
      rw [hf]
      have hl40 := few_len hf
      have HFS : Hid (∀ x ∈ l, x.data.size ≤ 100) := fun x hx => by
        unfold fewB at hf
        simp only [Bool.and_eq_true, List.all_eq_true, decide_eq_true_eq] at hf
        exact hf.1 x hx
      clear hf
      obtain ⟨cD0, cD1, fD0, fD1⟩ := OD.out.two
      obtain ⟨cX0, cX1, fX0, fX1⟩ := OX.out.two
      go_wp2_with fail
      refine (plan_any [] d l _ _ _ (HT.out.kept K) HD.out HW.out (fun _ h => by cases h)).mono ?_
      rintro e w6 ⟨r1, rfl, hr1, hk⟩
      clear cD0 cD1 fD0 fD1 cX0 cX1 fX0 fX1
      replace OD := Lib.hid (OD.out.kept hk)
      replace OX := Lib.hid (OX.out.kept hk)
      replace HD := Lib.hid (HD.out.go hk (Ext.refl _ _))
      replace HW := Lib.hid (HW.out.go hk (Ext.refl _ _))
      replace HD1 := Lib.hid (HD1.out.go hk (Ext.refl _ _))
      replace K := K.trans hk
      have HR1 := Lib.hid hr1
      clear hr1
      obtain ⟨QA, qc, rfl, hq1, hq2, _⟩ := HR1.out
      unfold maxLen at hq2
      clear hk
      obtain ⟨cD0, cD1, fD0, fD1⟩ := OD.out.two
      obtain ⟨cX0, cX1, fX0, fX1⟩ := OX.out.two
      go_wp2_with fail
      refine (commit_any [] d l _ _ _ (HT.out.kept K) HD.out HW.out (fun _ h => by cases h) (by rw [HM0.out]; have := HS2.out; have := HM0.out; omega)).mono ?_
      rintro e w7 ⟨s2, c2, rfl, hd2, hk⟩
      clear cD0 cD1 fD0 fD1 cX0 cX1 fX0 fX1
      replace OD := Lib.hid (OD.out.kept hk)
      replace OX := Lib.hid (OX.out.kept hk)
      replace HD := Lib.hid (HD.out.go hk (Ext.refl _ _))
      replace HW := Lib.hid (HW.out.go hk (Ext.refl _ _))
      replace HD1 := Lib.hid (HD1.out.go hk (Ext.refl _ _))
      replace HR1 := Lib.hid (HR1.out.go hk (Ext.refl _ _))
      replace K := K.trans hk
      rw [commit_code]
      have HCN : Hid (planErr d l ≠ 0 → (commitR d l).1 = ⟨[], []⟩) := fun h => commit_no h
      have HCY : Hid (planErr d l = 0 → (commitR d l).1 = doneD d l) := fun h => commit_yes h
      generalize (commitR d l).1 = cd at *
      have HD2 := Lib.hid hd2
      obtain ⟨A2, c2, B2, e2, rfl, rfl⟩ := hd2.form
      clear hd2
      generalize hn2 : cd.sec.length = n2 at *
      generalize hm2 : cd.cache.length = m2 at *
      have HN2 := Lib.hid hn2
      have HM2 := Lib.hid hm2
      clear hn2 hm2
      generalize hpe : planErr d l = pe at *
      have HPE := Lib.hid hpe
      clear hpe
      clear hk
      go_upto_region 6 with fail
      replace OD := Lib.hid (OD.out.alloc (.cells #[.slice A2 n2 c2, .slice B2 m2 e2] 25))
      replace OX := Lib.hid (OX.out.alloc (.cells #[.slice A2 n2 c2, .slice B2 m2 e2] 25))
      have OC := Lib.hid (Own.new w7 25 [.slice A2 n2 c2, .slice B2 m2 e2])
      replace HD := Lib.hid (HD.out.go ((Kept.refl w7).alloc (.cells #[.slice A2 n2 c2, .slice B2 m2 e2] 25)) (Ext.refl _ _))
      replace HW := Lib.hid (HW.out.go ((Kept.refl w7).alloc (.cells #[.slice A2 n2 c2, .slice B2 m2 e2] 25)) (Ext.refl _ _))
      replace HD1 := Lib.hid (HD1.out.go ((Kept.refl w7).alloc (.cells #[.slice A2 n2 c2, .slice B2 m2 e2] 25)) (Ext.refl _ _))
      replace HR1 := Lib.hid (HR1.out.go ((Kept.refl w7).alloc (.cells #[.slice A2 n2 c2, .slice B2 m2 e2] 25)) (Ext.refl _ _))
      replace HD2 := Lib.hid (HD2.out.go ((Kept.refl w7).alloc (.cells #[.slice A2 n2 c2, .slice B2 m2 e2] 25)) (Ext.refl _ _))
      replace K := K.alloc (.cells #[.slice A2 n2 c2, .slice B2 m2 e2] 25)
      generalize (w7.alloc (.cells #[.slice A2 n2 c2, .slice B2 m2 e2] 25)) = w8 at *
      obtain ⟨cD0, cD1, fD0, fD1⟩ := OD.out.two
      obtain ⟨cX0, cX1, fX0, fX1⟩ := OX.out.two
      obtain ⟨cC0, cC1, fC0, fC1⟩ := OC.out.two
      go_wp2_with fail
      refine (repair_any [] d _ _ (HT.out.kept K) HD.out (fun _ h => by cases h)).mono ?_
      rintro e w9 ⟨r3, rfl, hr3, hk⟩
      clear cD0 cD1 fD0 fD1 cX0 cX1 fX0 fX1 cC0 cC1 fC0 fC1
      replace OD := Lib.hid (OD.out.kept hk)
      replace OX := Lib.hid (OX.out.kept hk)
      replace OC := Lib.hid (OC.out.kept hk)
      replace HD := Lib.hid (HD.out.go hk (Ext.refl _ _))
      replace HW := Lib.hid (HW.out.go hk (Ext.refl _ _))
      replace HD1 := Lib.hid (HD1.out.go hk (Ext.refl _ _))
      replace HR1 := Lib.hid (HR1.out.go hk (Ext.refl _ _))
      replace HD2 := Lib.hid (HD2.out.go hk (Ext.refl _ _))
      replace K := K.trans hk
      have HRP := Lib.hid hr3
      clear hr3
      obtain ⟨RA, rc, rfl, hr31, hr32, _⟩ := HRP.out
      unfold maxLen at hr32
      clear hk
      obtain ⟨cD0, cD1, fD0, fD1⟩ := OD.out.two
      obtain ⟨cX0, cX1, fX0, fX1⟩ := OX.out.two
      obtain ⟨cC0, cC1, fC0, fC1⟩ := OC.out.two
      go_wp2_with fail
      refine (rrepair_any d _ _ HD1.out).mono ?_
      rintro e w10 ⟨r4, rfl, hr4, hk⟩
      clear cD0 cD1 fD0 fD1 cX0 cX1 fX0 fX1 cC0 cC1 fC0 fC1
      replace OD := Lib.hid (OD.out.kept hk)
      replace OX := Lib.hid (OX.out.kept hk)
      replace OC := Lib.hid (OC.out.kept hk)
      replace HD := Lib.hid (HD.out.go hk (Ext.refl _ _))
      replace HW := Lib.hid (HW.out.go hk (Ext.refl _ _))
      replace HD1 := Lib.hid (HD1.out.go hk (Ext.refl _ _))
      replace HR1 := Lib.hid (HR1.out.go hk (Ext.refl _ _))
      replace HD2 := Lib.hid (HD2.out.go hk (Ext.refl _ _))
      replace HRP := Lib.hid (HRP.out.go hk (Ext.refl _ _))
      replace K := K.trans hk
      have HWN := Lib.hid (hr4.at_ (V := []) (fun _ h => by cases h))
      clear hr4
      obtain ⟨NA, nc, rfl, hr41, hr42, _⟩ := HWN.out
      unfold maxLen at hr42
      clear hk
      have hrl := repOps_len d
      have HRR := Lib.hid (rep_right d)
      have HREC : Hid (recD d = runO d (repOps d) (repOps d).length) := rfl
      have hrcc := run_cache3 d (repOps d) (repOps d).length
      have HRCC : Hid ((recD d).cache.length ≤ 300) := by show _ ≤ _; rw [HREC.out]; have := HS2.out; omega
      clear hrcc
      generalize repOps d = RP at *
      generalize hrdd : recD d = rd at *
      have HRDD := Lib.hid hrdd
      clear hrdd
      go_upto_region 8 with fail
      have CD0 : ∀ W', Kept w10 W' → W'.cell? ⟨w.heap.size, 0, none⟩ = some (.slice A0 n0 c0) := fun W' hk => (OD.out.kept hk).cell? 0
      have CD1 : ∀ W', Kept w10 W' → W'.cell? ⟨w.heap.size, 1, none⟩ = some (.slice B0 m0 e0) := fun W' hk => (OD.out.kept hk).cell? 1
      have CX0 : ∀ W', Kept w10 W' → W'.cell? ⟨w2.heap.size, 0, none⟩ = some (.slice A1 n0 c1) := fun W' hk => (OX.out.kept hk).cell? 0
      have CX1 : ∀ W', Kept w10 W' → W'.cell? ⟨w2.heap.size, 1, none⟩ = some (.slice B1 m0 e1) := fun W' hk => (OX.out.kept hk).cell? 1
      refine wp_region_Z (S := fun W' => Kept w10 W') (Z := []) (by kernel_rfl) ((Kept.refl w10).drew) (fun hHeld => ?_)
      have kr := (Kept.refl w10).drew
      have Kr := K
      have zr := K.size
      have ODr := OD
      have OXr := OX
      have OCr := OC
      have HDr := HD
      have HWr := HW
      have HD1r := HD1
      have HR1r := HR1
      have HD2r := HD2
      have HRPr := HRP
      have HWNr := HWN
      replace OD := Lib.hid (ODr.out.kept kr)
      replace OX := Lib.hid (OXr.out.kept kr)
      replace OC := Lib.hid (OCr.out.kept kr)
      replace HD := Lib.hid (HDr.out.go kr (Ext.refl _ _))
      replace HW := Lib.hid (HWr.out.go kr (Ext.refl _ _))
      replace HD1 := Lib.hid (HD1r.out.go kr (Ext.refl _ _))
      replace HR1 := Lib.hid (HR1r.out.go kr (Ext.refl _ _))
      replace HD2 := Lib.hid (HD2r.out.go kr (Ext.refl _ _))
      replace HRP := Lib.hid (HRPr.out.go kr (Ext.refl _ _))
      replace HWN := Lib.hid (HWNr.out.go kr (Ext.refl _ _))
      replace K := Kr.trans kr
      generalize w10.drew = w11 at *
      refine wpAnyZ_take (i := 0) (oi := { dst := some 41, op := Op.move (Operand.tmp 10), type := 33, pos := "law.go:65", after := #[], guard := none }) (v := ?_) rfl (by kernel_rfl) (fun _ _ _ h => h) (Or.inl ⟨by rfl, ?_⟩) (by assumption) ?_
      rotate_left
      · (intro wz hSw; (try dsimp only at hSw); go_simp; (try with_reducible rfl))
      (try simp only [Act.put, List.setIfInBounds_toArray, List.set_cons_zero, List.set_cons_succ])
      refine wpAnyZ_take (i := 2) (oi := { dst := some 43, op := Op.move (Operand.tmp 11), type := 45, pos := "law.go:65", after := #[], guard := none }) (v := ?_) rfl (by kernel_rfl) (fun _ _ _ h => h) (Or.inl ⟨by rfl, ?_⟩) (by assumption) ?_
      rotate_left
      · (intro wz hSw; (try dsimp only at hSw); go_simp; (try with_reducible rfl))
      (try simp only [Act.put, List.setIfInBounds_toArray, List.set_cons_zero, List.set_cons_succ])
      refine wpAnyZ_ready (rs := [1]) (by kernel_rfl) (by simp) ?_
      refine AllReadyZ.cons (o := { dst := some 42, op := Op.call { callee := Callee.value (Operand.func 19), args := #[Operand.tmp 41], argTypes := #[33] }, type := 45, pos := "law.go:65", after := #[{ on := 0, ground := Ground.data }], guard := none }) rfl (fun KK hKK => ?_) AllReadyZ.nil
      go_simp
      refine (rops_any [] RP _ w11 HRP.out (fun _ h => by cases h) (by omega)).mono ?_
      rintro e w12 ⟨r5, rfl, hr5, hk⟩
      clear hHeld
      replace kr := kr.trans hk
      replace OD := Lib.hid (ODr.out.kept kr)
      replace OX := Lib.hid (OXr.out.kept kr)
      replace OC := Lib.hid (OCr.out.kept kr)
      replace HD := Lib.hid (HDr.out.go kr (Ext.refl _ _))
      replace HW := Lib.hid (HWr.out.go kr (Ext.refl _ _))
      replace HD1 := Lib.hid (HD1r.out.go kr (Ext.refl _ _))
      replace HR1 := Lib.hid (HR1r.out.go kr (Ext.refl _ _))
      replace HD2 := Lib.hid (HD2r.out.go kr (Ext.refl _ _))
      replace HRP := Lib.hid (HRPr.out.go kr (Ext.refl _ _))
      replace HWN := Lib.hid (HWNr.out.go kr (Ext.refl _ _))
      replace K := Kr.trans kr
      have HO1 := Lib.hid hr5
      obtain ⟨OA, oc, rfl, _, _, _⟩ := hr5
      clear hk
      go_simp
      refine hKK.out _ _ ?_ (fun hHeld => ?_)
      · exact kr
      clear hKK KK
      (try simp only [Act.put, List.setIfInBounds_toArray, List.set_cons_zero, List.set_cons_succ])
      refine wpAnyZ_ready (rs := [3]) (by kernel_rfl) (by simp) ?_
      refine AllReadyZ.cons (o := { dst := some 44, op := Op.call { callee := Callee.value (Operand.func 18), args := #[Operand.tmp 42, Operand.tmp 43], argTypes := #[45, 45] }, type := 4, pos := "law.go:65", after := #[{ on := 1, ground := Ground.data }, { on := 2, ground := Ground.data }, { on := 1, ground := Ground.chain }], guard := none }) rfl (fun KK hKK => ?_) AllReadyZ.nil
      go_simp
      refine (rsame_any RP _ _ w12 HO1.out HWN.out).mono ?_
      rintro e w13 ⟨rfl, hk⟩
      clear hHeld
      replace kr := kr.trans hk
      replace OD := Lib.hid (ODr.out.kept kr)
      replace OX := Lib.hid (OXr.out.kept kr)
      replace OC := Lib.hid (OCr.out.kept kr)
      replace HD := Lib.hid (HDr.out.go kr (Ext.refl _ _))
      replace HW := Lib.hid (HWr.out.go kr (Ext.refl _ _))
      replace HD1 := Lib.hid (HD1r.out.go kr (Ext.refl _ _))
      replace HR1 := Lib.hid (HR1r.out.go kr (Ext.refl _ _))
      replace HD2 := Lib.hid (HD2r.out.go kr (Ext.refl _ _))
      replace HRP := Lib.hid (HRPr.out.go kr (Ext.refl _ _))
      replace HWN := Lib.hid (HWNr.out.go kr (Ext.refl _ _))
      replace K := Kr.trans kr
      clear HO1
      clear hk
      go_simp
      refine hKK.out _ _ ?_ (fun hHeld => ?_)
      · exact kr
      clear hKK KK
      (try simp only [Act.put, List.setIfInBounds_toArray, List.set_cons_zero, List.set_cons_succ])
      refine wpAnyZ_take (i := 4) (oi := { dst := some 45, op := Op.unOp UnOp.not 4 (Operand.tmp 44), type := 4, pos := "law.go:65", after := #[{ on := 3, ground := Ground.data }], guard := none }) (v := ?_) rfl (by kernel_rfl) (fun _ _ _ h => h) (Or.inl ⟨by rfl, ?_⟩) (by assumption) ?_
      rotate_left
      · (intro wz hSw; (try dsimp only at hSw); go_simp; (try with_reducible rfl))
      (try simp only [Act.put, List.setIfInBounds_toArray, List.set_cons_zero, List.set_cons_succ])
      refine wpAnyZ_take (i := 5) (oi := { dst := some 46, op := Op.move (Operand.tmp 45), type := 4, pos := "law.go:65", after := #[{ on := 4, ground := Ground.data }, { on := 3, ground := Ground.chain }], guard := none }) (v := ?_) rfl (by kernel_rfl) (fun _ _ _ h => h) (Or.inl ⟨by rfl, ?_⟩) (by assumption) ?_
      rotate_left
      · (intro wz hSw; (try dsimp only at hSw); go_simp; (try with_reducible rfl))
      (try simp only [Act.put, List.setIfInBounds_toArray, List.set_cons_zero, List.set_cons_succ])
      refine wpAnyZ_take (i := 6) (oi := { dst := some 47, op := Op.load 25 (Operand.tmp 2), type := 25, pos := "law.go:65", after := #[{ on := 5, ground := Ground.guard }], guard := some (5, false) }) (v := ?_) rfl (by kernel_rfl) (fun _ _ _ h => h) (Or.inl ⟨by rfl, ?_⟩) (by assumption) ?_
      rotate_left
      · (intro wz hSw; (try dsimp only at hSw); go_simp; (try with_reducible rfl))
      (try simp only [Act.put, List.setIfInBounds_toArray, List.set_cons_zero, List.set_cons_succ])
      refine wpAnyZ_take (i := 9) (oi := { dst := some 50, op := Op.load 29 (Operand.tmp 5), type := 29, pos := "law.go:65", after := #[{ on := 5, ground := Ground.guard }], guard := some (5, false) }) (v := ?_) rfl (by kernel_rfl) (fun _ _ _ h => h) (Or.inl ⟨by rfl, ?_⟩) (by assumption) ?_
      rotate_left
      · (intro wz hSw; (try dsimp only at hSw); go_simp; (try with_reducible rfl))
      (try simp only [Act.put, List.setIfInBounds_toArray, List.set_cons_zero, List.set_cons_succ])
      refine wpAnyZ_take (i := 10) (oi := { dst := some 51, op := Op.move (Operand.tmp 11), type := 45, pos := "law.go:65", after := #[{ on := 5, ground := Ground.guard }], guard := some (5, false) }) (v := ?_) rfl (by kernel_rfl) (fun _ _ _ h => h) (Or.inl ⟨by rfl, ?_⟩) (by assumption) ?_
      rotate_left
      · (intro wz hSw; (try dsimp only at hSw); go_simp; (try with_reducible rfl))
      (try simp only [Act.put, List.setIfInBounds_toArray, List.set_cons_zero, List.set_cons_succ])
      refine wpAnyZ_take (i := 11) (oi := { dst := some 52, op := Op.move (Operand.tmp 11), type := 45, pos := "law.go:65", after := #[{ on := 5, ground := Ground.guard }], guard := some (5, false) }) (v := ?_) rfl (by kernel_rfl) (fun _ _ _ h => h) (Or.inl ⟨by rfl, ?_⟩) (by assumption) ?_
      rotate_left
      · (intro wz hSw; (try dsimp only at hSw); go_simp; (try with_reducible rfl))
      (try simp only [Act.put, List.setIfInBounds_toArray, List.set_cons_zero, List.set_cons_succ])
      refine wpAnyZ_take (i := 12) (oi := { dst := some 53, op := Op.call { callee := Callee.builtin Builtin.len, args := #[Operand.tmp 52], argTypes := #[45] }, type := 3, pos := "law.go:65", after := #[{ on := 11, ground := Ground.data }, { on := 5, ground := Ground.guard }], guard := some (5, false) }) (v := ?_) rfl (by kernel_rfl) (fun _ _ _ h => h) (Or.inl ⟨by rfl, ?_⟩) (by assumption) ?_
      rotate_left
      · (intro wz hSw; (try dsimp only at hSw); go_simp; (try with_reducible rfl))
      (try simp only [Act.put, List.setIfInBounds_toArray, List.set_cons_zero, List.set_cons_succ])
      refine wpAnyZ_ready (rs := [7]) (by kernel_rfl) (by simp) ?_
      refine AllReadyZ.cons (o := { dst := some 48, op := Op.call { callee := Callee.value (Operand.func 21), args := #[Operand.tmp 47], argTypes := #[25] }, type := 25, pos := "law.go:65", after := #[{ on := 6, ground := Ground.data }, { on := 5, ground := Ground.chain }, { on := 5, ground := Ground.guard }], guard := some (5, false) }) rfl (fun KK hKK => ?_) AllReadyZ.nil
      go_simp
      refine (recover_any [] d _ w13 (HT.out.kept K) HD.out (fun _ h => by cases h) (by have := HS2.out; omega)).mono ?_
      rintro e w14 ⟨s6, c6, rfl, hd, hk⟩
      clear hHeld
      replace kr := kr.trans hk
      replace OD := Lib.hid (ODr.out.kept kr)
      replace OX := Lib.hid (OXr.out.kept kr)
      replace OC := Lib.hid (OCr.out.kept kr)
      replace HD := Lib.hid (HDr.out.go kr (Ext.refl _ _))
      replace HW := Lib.hid (HWr.out.go kr (Ext.refl _ _))
      replace HD1 := Lib.hid (HD1r.out.go kr (Ext.refl _ _))
      replace HR1 := Lib.hid (HR1r.out.go kr (Ext.refl _ _))
      replace HD2 := Lib.hid (HD2r.out.go kr (Ext.refl _ _))
      replace HRP := Lib.hid (HRPr.out.go kr (Ext.refl _ _))
      replace HWN := Lib.hid (HWNr.out.go kr (Ext.refl _ _))
      replace K := Kr.trans kr
      rw [HRDD.out] at hd
      have HD6 := Lib.hid hd
      obtain ⟨A6, c6, B6, e6, rfl, rfl⟩ := hd.form
      clear hd
      clear hk
      go_simp
      refine hKK.out _ _ ?_ (fun hHeld => ?_)
      · exact kr
      clear hKK KK
      (try simp only [Act.put, List.setIfInBounds_toArray, List.set_cons_zero, List.set_cons_succ])
      refine wpAnyZ_ready (rs := [8]) (by kernel_rfl) (by simp) ?_
      refine AllReadyZ.cons (o := { dst := some 49, op := Op.call { callee := Callee.value (Operand.func 11), args := #[Operand.tmp 48], argTypes := #[25] }, type := 29, pos := "law.go:65", after := #[{ on := 7, ground := Ground.data }, { on := 7, ground := Ground.chain }, { on := 5, ground := Ground.guard }], guard := some (5, false) }) rfl (fun KK hKK => ?_) AllReadyZ.nil
      go_simp
      refine (ref10_any [] rd _ w14 HD6.out (fun _ h => by cases h) (by have := HRCC.out; omega)).mono ?_
      rintro e w15 ⟨s7, c7, rfl, hd, hk⟩
      clear hHeld
      replace kr := kr.trans hk
      replace OD := Lib.hid (ODr.out.kept kr)
      replace OX := Lib.hid (OXr.out.kept kr)
      replace OC := Lib.hid (OCr.out.kept kr)
      replace HD := Lib.hid (HDr.out.go kr (Ext.refl _ _))
      replace HW := Lib.hid (HWr.out.go kr (Ext.refl _ _))
      replace HD1 := Lib.hid (HD1r.out.go kr (Ext.refl _ _))
      replace HR1 := Lib.hid (HR1r.out.go kr (Ext.refl _ _))
      replace HD2 := Lib.hid (HD2r.out.go kr (Ext.refl _ _))
      replace HRP := Lib.hid (HRPr.out.go kr (Ext.refl _ _))
      replace HWN := Lib.hid (HWNr.out.go kr (Ext.refl _ _))
      replace K := Kr.trans kr
      clear HD6
      have HD7 := Lib.hid hd
      obtain ⟨A7, c7, B7, e7, rfl, rfl⟩ := hd.form
      clear hd
      clear hk
      go_simp
      refine hKK.out _ _ ?_ (fun hHeld => ?_)
      · exact kr
      clear hKK KK
      (try simp only [Act.put, List.setIfInBounds_toArray, List.set_cons_zero, List.set_cons_succ])
      refine wpAnyZ_ready (rs := [13]) (by kernel_rfl) (by simp) ?_
      refine AllReadyZ.cons (o := { dst := some 54, op := Op.call { callee := Callee.value (Operand.func 22), args := #[Operand.tmp 50, Operand.tmp 51, Operand.tmp 53], argTypes := #[29, 45, 3] }, type := 29, pos := "law.go:65", after := #[{ on := 9, ground := Ground.data }, { on := 10, ground := Ground.data }, { on := 12, ground := Ground.data }, { on := 8, ground := Ground.chain }, { on := 5, ground := Ground.guard }], guard := some (5, false) }) rfl (fun KK hKK => ?_) AllReadyZ.nil
      go_simp
      refine (rrun_any d RP _ _ w15 HD1.out HWN.out HRR.out (by have := HS1.out; omega) (by have := HS2.out; omega) (by omega)).mono ?_
      rintro e w16 ⟨s8, c8, rfl, hd, hk⟩
      clear hHeld
      replace kr := kr.trans hk
      replace OD := Lib.hid (ODr.out.kept kr)
      replace OX := Lib.hid (OXr.out.kept kr)
      replace OC := Lib.hid (OCr.out.kept kr)
      replace HD := Lib.hid (HDr.out.go kr (Ext.refl _ _))
      replace HW := Lib.hid (HWr.out.go kr (Ext.refl _ _))
      replace HD1 := Lib.hid (HD1r.out.go kr (Ext.refl _ _))
      replace HR1 := Lib.hid (HR1r.out.go kr (Ext.refl _ _))
      replace HD2 := Lib.hid (HD2r.out.go kr (Ext.refl _ _))
      replace HRP := Lib.hid (HRPr.out.go kr (Ext.refl _ _))
      replace HWN := Lib.hid (HWNr.out.go kr (Ext.refl _ _))
      replace K := Kr.trans kr
      replace HD7 := Lib.hid (HD7.out.go hk (Ext.refl _ _))
      rw [← HREC.out] at hd
      have HD8 := Lib.hid hd
      obtain ⟨A8, c8, B8, e8, rfl, rfl⟩ := hd.form
      clear hd
      clear hk
      go_simp
      refine hKK.out _ _ ?_ (fun hHeld => ?_)
      · exact kr
      clear hKK KK
      (try simp only [Act.put, List.setIfInBounds_toArray, List.set_cons_zero, List.set_cons_succ])
      refine wpAnyZ_ready (rs := [14]) (by kernel_rfl) (by simp) ?_
      refine AllReadyZ.cons (o := { dst := some 55, op := Op.call { callee := Callee.value (Operand.func 20), args := #[Operand.tmp 49, Operand.tmp 54], argTypes := #[29, 29] }, type := 4, pos := "law.go:65", after := #[{ on := 8, ground := Ground.data }, { on := 13, ground := Ground.data }, { on := 13, ground := Ground.chain }, { on := 5, ground := Ground.guard }], guard := some (5, false) }) rfl (fun KK hKK => ?_) AllReadyZ.nil
      go_simp
      refine (equal_any [] [] rd _ _ w16 HD7.out HD8.out).mono ?_
      rintro e w17 ⟨rfl, hk⟩
      clear hHeld
      replace kr := kr.trans hk
      replace OD := Lib.hid (ODr.out.kept kr)
      replace OX := Lib.hid (OXr.out.kept kr)
      replace OC := Lib.hid (OCr.out.kept kr)
      replace HD := Lib.hid (HDr.out.go kr (Ext.refl _ _))
      replace HW := Lib.hid (HWr.out.go kr (Ext.refl _ _))
      replace HD1 := Lib.hid (HD1r.out.go kr (Ext.refl _ _))
      replace HR1 := Lib.hid (HR1r.out.go kr (Ext.refl _ _))
      replace HD2 := Lib.hid (HD2r.out.go kr (Ext.refl _ _))
      replace HRP := Lib.hid (HRPr.out.go kr (Ext.refl _ _))
      replace HWN := Lib.hid (HWNr.out.go kr (Ext.refl _ _))
      replace K := Kr.trans kr
      clear HD7 HD8
      clear hk
      go_simp
      refine hKK.out _ _ ?_ (fun hHeld => ?_)
      · exact kr
      clear hKK KK
      (try simp only [Act.put, List.setIfInBounds_toArray, List.set_cons_zero, List.set_cons_succ])
      refine wpAnyZ_take (i := 15) (oi := { dst := some 56, op := Op.unOp UnOp.not 4 (Operand.tmp 55), type := 4, pos := "law.go:65", after := #[{ on := 14, ground := Ground.data }, { on := 5, ground := Ground.guard }], guard := some (5, false) }) (v := ?_) rfl (by kernel_rfl) (fun _ _ _ h => h) (Or.inl ⟨by rfl, ?_⟩) (by assumption) ?_
      rotate_left
      · (intro wz hSw; (try dsimp only at hSw); go_simp; (try with_reducible rfl))
      (try simp only [Act.put, List.setIfInBounds_toArray, List.set_cons_zero, List.set_cons_succ])
      refine wpAnyZ_take (i := 16) (oi := { dst := some 57, op := Op.pick (Operand.tmp 46) (Operand.const (Value.bool true)) (Operand.tmp 56), type := 4, pos := "law.go:65", after := #[{ on := 5, ground := Ground.data }, { on := 15, ground := Ground.data }], guard := none }) (v := ?_) rfl (by kernel_rfl) (fun _ _ _ h => h) (Or.inl ⟨by rfl, ?_⟩) (by assumption) ?_
      rotate_left
      · (intro wz hSw; (try dsimp only at hSw); go_simp; (try with_reducible rfl))
      (try simp only [Act.put, List.setIfInBounds_toArray, List.set_cons_zero, List.set_cons_succ])
      refine wpAnyZ_take (i := 17) (oi := { dst := some 58, op := Op.move (Operand.tmp 57), type := 4, pos := "law.go:65", after := #[{ on := 16, ground := Ground.data }, { on := 14, ground := Ground.chain }], guard := none }) (v := ?_) rfl (by kernel_rfl) (fun _ _ _ h => h) (Or.inl ⟨by rfl, ?_⟩) (by assumption) ?_
      rotate_left
      · (intro wz hSw; (try dsimp only at hSw); go_simp; (try with_reducible rfl))
      (try simp only [Act.put, List.setIfInBounds_toArray, List.set_cons_zero, List.set_cons_succ])
      refine wpAnyZ_take (i := 18) (oi := { dst := some 59, op := Op.move (Operand.tmp 9), type := 34, pos := "law.go:65", after := #[{ on := 17, ground := Ground.guard }], guard := some (17, false) }) (v := ?_) rfl (by kernel_rfl) (fun _ _ _ h => h) (Or.inl ⟨by rfl, ?_⟩) (by assumption) ?_
      rotate_left
      · (intro wz hSw; (try dsimp only at hSw); go_simp; (try with_reducible rfl))
      (try simp only [Act.put, List.setIfInBounds_toArray, List.set_cons_zero, List.set_cons_succ])
      refine wpAnyZ_take (i := 19) (oi := { dst := some 60, op := Op.move (Operand.tmp 7), type := 34, pos := "law.go:65", after := #[{ on := 17, ground := Ground.guard }], guard := some (17, false) }) (v := ?_) rfl (by kernel_rfl) (fun _ _ _ h => h) (Or.inl ⟨by rfl, ?_⟩) (by assumption) ?_
      rotate_left
      · (intro wz hSw; (try dsimp only at hSw); go_simp; (try with_reducible rfl))
      (try simp only [Act.put, List.setIfInBounds_toArray, List.set_cons_zero, List.set_cons_succ])
      refine wpAnyZ_take (i := 20) (oi := { dst := some 61, op := Op.binOp BinOp.neq 34 (Operand.tmp 59) (Operand.tmp 60) 34, type := 4, pos := "law.go:65", after := #[{ on := 18, ground := Ground.data }, { on := 19, ground := Ground.data }, { on := 17, ground := Ground.guard }], guard := some (17, false) }) (v := ?_) rfl (by kernel_rfl) (fun _ _ _ h => h) (Or.inl ⟨by rfl, ?_⟩) (by assumption) ?_
      rotate_left
      · (intro wz hSw; (try dsimp only at hSw); go_simp; (try with_reducible rfl))
      (try simp only [Act.put, List.setIfInBounds_toArray, List.set_cons_zero, List.set_cons_succ])
      refine wpAnyZ_take (i := 21) (oi := { dst := some 62, op := Op.pick (Operand.tmp 58) (Operand.const (Value.bool true)) (Operand.tmp 61), type := 4, pos := "law.go:65", after := #[{ on := 17, ground := Ground.data }, { on := 20, ground := Ground.data }], guard := none }) (v := ?_) rfl (by kernel_rfl) (fun _ _ _ h => h) (Or.inl ⟨by rfl, ?_⟩) (by assumption) ?_
      rotate_left
      · (intro wz hSw; (try dsimp only at hSw); go_simp; (try with_reducible rfl))
      (try simp only [Act.put, List.setIfInBounds_toArray, List.set_cons_zero, List.set_cons_succ])
      refine wpAnyZ_done (by kernel_rfl) ?_ _
      clear CD0 CD1 CX0 CX1 ODr OXr OCr HDr HWr HD1r HR1r HD2r HRPr HWNr Kr zr hHeld kr
      go_upto_region 10 with fail
      have CX0 : ∀ W', Kept w17 W' → W'.cell? ⟨w2.heap.size, 0, none⟩ = some (.slice A1 n0 c1) := fun W' hk => (OX.out.kept hk).cell? 0
      have CX1 : ∀ W', Kept w17 W' → W'.cell? ⟨w2.heap.size, 1, none⟩ = some (.slice B1 m0 e1) := fun W' hk => (OX.out.kept hk).cell? 1
      refine wp_region_Z (S := fun W' => Kept w17 W') (Z := []) (by kernel_rfl) ((Kept.refl w17).drew) (fun hHeld => ?_)
      have kr := (Kept.refl w17).drew
      have Kr := K
      have zr := K.size
      have ODr := OD
      have OXr := OX
      have OCr := OC
      have HDr := HD
      have HWr := HW
      have HD1r := HD1
      have HR1r := HR1
      have HD2r := HD2
      have HRPr := HRP
      have HWNr := HWN
      replace OD := Lib.hid (ODr.out.kept kr)
      replace OX := Lib.hid (OXr.out.kept kr)
      replace OC := Lib.hid (OCr.out.kept kr)
      replace HD := Lib.hid (HDr.out.go kr (Ext.refl _ _))
      replace HW := Lib.hid (HWr.out.go kr (Ext.refl _ _))
      replace HD1 := Lib.hid (HD1r.out.go kr (Ext.refl _ _))
      replace HR1 := Lib.hid (HR1r.out.go kr (Ext.refl _ _))
      replace HD2 := Lib.hid (HD2r.out.go kr (Ext.refl _ _))
      replace HRP := Lib.hid (HRPr.out.go kr (Ext.refl _ _))
      replace HWN := Lib.hid (HWNr.out.go kr (Ext.refl _ _))
      replace K := Kr.trans kr
      generalize w17.drew = w18 at *
      refine wpAnyZ_take (i := 0) (oi := { dst := some 63, op := Op.load 29 (Operand.tmp 5), type := 29, pos := "law.go:68", after := #[], guard := none }) (v := ?_) rfl (by kernel_rfl) (fun _ _ _ h => h) (Or.inl ⟨by rfl, ?_⟩) (by assumption) ?_
      rotate_left
      · (intro wz hSw; (try dsimp only at hSw); go_simp; (try with_reducible rfl))
      (try simp only [Act.put, List.setIfInBounds_toArray, List.set_cons_zero, List.set_cons_succ])
      refine wpAnyZ_take (i := 1) (oi := { dst := some 64, op := Op.move (Operand.tmp 1), type := 23, pos := "law.go:68", after := #[], guard := none }) (v := ?_) rfl (by kernel_rfl) (fun _ _ _ h => h) (Or.inl ⟨by rfl, ?_⟩) (by assumption) ?_
      rotate_left
      · (intro wz hSw; (try dsimp only at hSw); go_simp; (try with_reducible rfl))
      (try simp only [Act.put, List.setIfInBounds_toArray, List.set_cons_zero, List.set_cons_succ])
      refine wpAnyZ_ready (rs := [2]) (by kernel_rfl) (by simp) ?_
      refine AllReadyZ.cons (o := { dst := some 65, op := Op.call { callee := Callee.value (Operand.func 24), args := #[Operand.tmp 64], argTypes := #[23] }, type := 27, pos := "law.go:68", after := #[{ on := 1, ground := Ground.data }], guard := none }) rfl (fun KK hKK => ?_) AllReadyZ.nil
      go_simp
      refine (refs_any [] l _ w18 HW.out (fun _ h => by cases h) (by omega)).mono ?_
      rintro e w19 ⟨r9, rfl, hr9, hk⟩
      clear hHeld
      replace kr := kr.trans hk
      replace OD := Lib.hid (ODr.out.kept kr)
      replace OX := Lib.hid (OXr.out.kept kr)
      replace OC := Lib.hid (OCr.out.kept kr)
      replace HD := Lib.hid (HDr.out.go kr (Ext.refl _ _))
      replace HW := Lib.hid (HWr.out.go kr (Ext.refl _ _))
      replace HD1 := Lib.hid (HD1r.out.go kr (Ext.refl _ _))
      replace HR1 := Lib.hid (HR1r.out.go kr (Ext.refl _ _))
      replace HD2 := Lib.hid (HD2r.out.go kr (Ext.refl _ _))
      replace HRP := Lib.hid (HRPr.out.go kr (Ext.refl _ _))
      replace HWN := Lib.hid (HWNr.out.go kr (Ext.refl _ _))
      replace K := Kr.trans kr
      have HL1 := Lib.hid hr9
      obtain ⟨LA1, lc1, rfl, _, _, _⟩ := hr9
      clear hk
      go_simp
      refine hKK.out _ _ ?_ (fun hHeld => ?_)
      · exact kr
      clear hKK KK
      (try simp only [Act.put, List.setIfInBounds_toArray, List.set_cons_zero, List.set_cons_succ])
      refine wpAnyZ_ready (rs := [3]) (by kernel_rfl) (by simp) ?_
      refine AllReadyZ.cons (o := { dst := some 66, op := Op.call { callee := Callee.value (Operand.func 23), args := #[Operand.tmp 63, Operand.tmp 65], argTypes := #[29, 27] }, type := 3, pos := "law.go:68", after := #[{ on := 0, ground := Ground.data }, { on := 2, ground := Ground.data }, { on := 2, ground := Ground.chain }], guard := none }) rfl (fun KK hKK => ?_) AllReadyZ.nil
      go_simp
      refine (rerror_any d l _ _ w19 HD1.out HL1.out).mono ?_
      rintro e w20 ⟨rfl, hk⟩
      clear hHeld
      replace kr := kr.trans hk
      replace OD := Lib.hid (ODr.out.kept kr)
      replace OX := Lib.hid (OXr.out.kept kr)
      replace OC := Lib.hid (OCr.out.kept kr)
      replace HD := Lib.hid (HDr.out.go kr (Ext.refl _ _))
      replace HW := Lib.hid (HWr.out.go kr (Ext.refl _ _))
      replace HD1 := Lib.hid (HD1r.out.go kr (Ext.refl _ _))
      replace HR1 := Lib.hid (HR1r.out.go kr (Ext.refl _ _))
      replace HD2 := Lib.hid (HD2r.out.go kr (Ext.refl _ _))
      replace HRP := Lib.hid (HRPr.out.go kr (Ext.refl _ _))
      replace HWN := Lib.hid (HWNr.out.go kr (Ext.refl _ _))
      replace K := Kr.trans kr
      rw [HPE.out]
      clear HL1
      clear hk
      go_simp
      refine hKK.out _ _ ?_ (fun hHeld => ?_)
      · exact kr
      clear hKK KK
      (try simp only [Act.put, List.setIfInBounds_toArray, List.set_cons_zero, List.set_cons_succ])
      refine wpAnyZ_take (i := 4) (oi := { dst := some 12, op := Op.assign (Operand.tmp 66), type := 3, pos := "law.go:68", after := #[{ on := 3, ground := Ground.data }, { on := 3, ground := Ground.chain }, { on := 0, ground := Ground.phase }, { on := 1, ground := Ground.phase }, { on := 2, ground := Ground.phase }, { on := 3, ground := Ground.phase }], guard := none }) (v := ?_) rfl (by kernel_rfl) (fun _ _ _ h => h) (Or.inl ⟨by rfl, ?_⟩) (by assumption) ?_
      rotate_left
      · (intro wz hSw; (try dsimp only at hSw); go_simp; (try with_reducible rfl))
      (try simp only [Act.put, List.setIfInBounds_toArray, List.set_cons_zero, List.set_cons_succ])
      refine wpAnyZ_done (by kernel_rfl) ?_ _
      clear CX0 CX1 ODr OXr OCr HDr HWr HD1r HR1r HD2r HRPr HWNr Kr zr hHeld kr
      by_cases he : pe = 0
      · subst he
        have hok := ok_of HPE.out
        have hcd := HCY.out rfl
        have HPL := Lib.hid (planL_yes HPE.out)
        have HRN := Lib.hid (commit_run hok)
        have HAT : Hid (∀ x ∈ l, 0 ≤ x.at_ ∧ x.at_ < 4294967296) := fun x hx => by
          have h1 := hok.all x hx
          have h2 := HS1.out
          exact ⟨by omega, by omega⟩
        have HRT : Hid (rightB d = true) := hok.right
        have hpl := planOps_len l
        clear hok HCN HCY
        subst hcd
        rw [HPL.out] at HR1 hq1 ⊢
        clear HPL
        have HPLL : Hid ((planOps l).length ≤ 200) := by show _ ≤ _; omega
        have HDC : Hid ((doneD d l).cache.length = 0) := rfl
        clear hpl
        generalize planOps l = PO at *
        generalize doneD d l = dd at *
        obtain ⟨cD0, cD1, fD0, fD1⟩ := OD.out.two
        obtain ⟨cX0, cX1, fX0, fX1⟩ := OX.out.two
        obtain ⟨cC0, cC1, fC0, fC1⟩ := OC.out.two
        go_wp2_with fail
        refine (refs_any [] l _ _ HW.out (fun _ h => by cases h) (by omega)).mono ?_
        rintro e w21 ⟨r10, rfl, hr10, hk⟩
        clear cD0 cD1 fD0 fD1 cX0 cX1 fX0 fX1 cC0 cC1 fC0 fC1
        replace OD := Lib.hid (OD.out.kept hk)
        replace OX := Lib.hid (OX.out.kept hk)
        replace OC := Lib.hid (OC.out.kept hk)
        replace HD := Lib.hid (HD.out.go hk (Ext.refl _ _))
        replace HW := Lib.hid (HW.out.go hk (Ext.refl _ _))
        replace HD1 := Lib.hid (HD1.out.go hk (Ext.refl _ _))
        replace HR1 := Lib.hid (HR1.out.go hk (Ext.refl _ _))
        replace HD2 := Lib.hid (HD2.out.go hk (Ext.refl _ _))
        replace HRP := Lib.hid (HRP.out.go hk (Ext.refl _ _))
        replace HWN := Lib.hid (HWN.out.go hk (Ext.refl _ _))
        replace K := K.trans hk
        have HL2 := Lib.hid hr10
        obtain ⟨LA2, lc2, rfl, _, _, _⟩ := hr10
        clear hk
        go_wp2_with fail
        refine (HPP.out _ w21 HL2.out HAT.out HFS.out (by omega)).mono ?_
        rintro e w22 ⟨r11, rfl, hr11, hk⟩
        replace OD := Lib.hid (OD.out.kept hk)
        replace OX := Lib.hid (OX.out.kept hk)
        replace OC := Lib.hid (OC.out.kept hk)
        replace HD := Lib.hid (HD.out.go hk (Ext.refl _ _))
        replace HW := Lib.hid (HW.out.go hk (Ext.refl _ _))
        replace HD1 := Lib.hid (HD1.out.go hk (Ext.refl _ _))
        replace HR1 := Lib.hid (HR1.out.go hk (Ext.refl _ _))
        replace HD2 := Lib.hid (HD2.out.go hk (Ext.refl _ _))
        replace HRP := Lib.hid (HRP.out.go hk (Ext.refl _ _))
        replace HWN := Lib.hid (HWN.out.go hk (Ext.refl _ _))
        replace HL2 := Lib.hid (HL2.out.go hk (Ext.refl _ _))
        replace K := K.trans hk
        have HPN := Lib.hid (hr11.at_ (V := []) (fun _ h => by cases h))
        clear hr11 hk
        obtain ⟨PA, pc, rfl, hp1, hp2, _⟩ := HPN.out
        unfold maxLen at hp2
        clear HL2
        go_upto_region 14 with fail
        have CX0 : ∀ W', Kept w22 W' → W'.cell? ⟨w2.heap.size, 0, none⟩ = some (.slice A1 n0 c1) := fun W' hk => (OX.out.kept hk).cell? 0
        have CX1 : ∀ W', Kept w22 W' → W'.cell? ⟨w2.heap.size, 1, none⟩ = some (.slice B1 m0 e1) := fun W' hk => (OX.out.kept hk).cell? 1
        have CC0 : ∀ W', Kept w22 W' → W'.cell? ⟨w7.heap.size, 0, none⟩ = some (.slice A2 n2 c2) := fun W' hk => (OC.out.kept hk).cell? 0
        have CC1 : ∀ W', Kept w22 W' → W'.cell? ⟨w7.heap.size, 1, none⟩ = some (.slice B2 m2 e2) := fun W' hk => (OC.out.kept hk).cell? 1
        refine wp_region_Z (S := fun W' => Kept w22 W') (Z := []) (by kernel_rfl) ((Kept.refl w22).drew) (fun hHeld => ?_)
        have kr := (Kept.refl w22).drew
        have Kr := K
        have zr := K.size
        have ODr := OD
        have OXr := OX
        have OCr := OC
        have HDr := HD
        have HWr := HW
        have HD1r := HD1
        have HR1r := HR1
        have HD2r := HD2
        have HRPr := HRP
        have HWNr := HWN
        have HPNr := HPN
        replace OD := Lib.hid (ODr.out.kept kr)
        replace OX := Lib.hid (OXr.out.kept kr)
        replace OC := Lib.hid (OCr.out.kept kr)
        replace HD := Lib.hid (HDr.out.go kr (Ext.refl _ _))
        replace HW := Lib.hid (HWr.out.go kr (Ext.refl _ _))
        replace HD1 := Lib.hid (HD1r.out.go kr (Ext.refl _ _))
        replace HR1 := Lib.hid (HR1r.out.go kr (Ext.refl _ _))
        replace HD2 := Lib.hid (HD2r.out.go kr (Ext.refl _ _))
        replace HRP := Lib.hid (HRPr.out.go kr (Ext.refl _ _))
        replace HWN := Lib.hid (HWNr.out.go kr (Ext.refl _ _))
        replace HPN := Lib.hid (HPNr.out.go kr (Ext.refl _ _))
        replace K := Kr.trans kr
        generalize w22.drew = w23 at *
        refine wpAnyZ_take (i := 0) (oi := { dst := some 89, op := Op.move (Operand.tmp 7), type := 34, pos := "law.go:72", after := #[], guard := none }) (v := ?_) rfl (by kernel_rfl) (fun _ _ _ h => h) (Or.inl ⟨by rfl, ?_⟩) (by assumption) ?_
        rotate_left
        · (intro wz hSw; (try dsimp only at hSw); go_simp; (try with_reducible rfl))
        (try simp only [Act.put, List.setIfInBounds_toArray, List.set_cons_zero, List.set_cons_succ])
        refine wpAnyZ_take (i := 1) (oi := { dst := some 90, op := Op.binOp BinOp.eql 34 (Operand.tmp 89) (Operand.const (Value.int IntKind.i64 0)) 34, type := 4, pos := "law.go:72", after := #[{ on := 0, ground := Ground.data }], guard := none }) (v := ?_) rfl (by kernel_rfl) (fun _ _ _ h => h) (Or.inl ⟨by rfl, ?_⟩) (by assumption) ?_
        rotate_left
        · (intro wz hSw; (try dsimp only at hSw); go_simp; (try with_reducible rfl))
        (try simp only [Act.put, List.setIfInBounds_toArray, List.set_cons_zero, List.set_cons_succ])
        refine wpAnyZ_take (i := 2) (oi := { dst := some 91, op := Op.move (Operand.tmp 90), type := 4, pos := "law.go:72", after := #[{ on := 1, ground := Ground.data }], guard := none }) (v := ?_) rfl (by kernel_rfl) (fun _ _ _ h => h) (Or.inl ⟨by rfl, ?_⟩) (by assumption) ?_
        rotate_left
        · (intro wz hSw; (try dsimp only at hSw); go_simp; (try with_reducible rfl))
        (try simp only [Act.put, List.setIfInBounds_toArray, List.set_cons_zero, List.set_cons_succ])
        refine wpAnyZ_take (i := 3) (oi := { dst := some 92, op := Op.move (Operand.tmp 6), type := 33, pos := "law.go:72", after := #[{ on := 2, ground := Ground.guard }], guard := some (2, true) }) (v := ?_) rfl (by kernel_rfl) (fun _ _ _ h => h) (Or.inl ⟨by rfl, ?_⟩) (by assumption) ?_
        rotate_left
        · (intro wz hSw; (try dsimp only at hSw); go_simp; (try with_reducible rfl))
        (try simp only [Act.put, List.setIfInBounds_toArray, List.set_cons_zero, List.set_cons_succ])
        refine wpAnyZ_take (i := 5) (oi := { dst := some 94, op := Op.move (Operand.tmp 13), type := 45, pos := "law.go:72", after := #[{ on := 2, ground := Ground.guard }], guard := some (2, true) }) (v := ?_) rfl (by kernel_rfl) (fun _ _ _ h => h) (Or.inl ⟨by rfl, ?_⟩) (by assumption) ?_
        rotate_left
        · (intro wz hSw; (try dsimp only at hSw); go_simp; (try with_reducible rfl))
        (try simp only [Act.put, List.setIfInBounds_toArray, List.set_cons_zero, List.set_cons_succ])
        refine wpAnyZ_ready (rs := [4]) (by kernel_rfl) (by simp) ?_
        refine AllReadyZ.cons (o := { dst := some 93, op := Op.call { callee := Callee.value (Operand.func 19), args := #[Operand.tmp 92], argTypes := #[33] }, type := 45, pos := "law.go:72", after := #[{ on := 3, ground := Ground.data }, { on := 2, ground := Ground.chain }, { on := 2, ground := Ground.guard }], guard := some (2, true) }) rfl (fun KK hKK => ?_) AllReadyZ.nil
        go_simp
        refine (rops_any [] PO _ w23 HR1.out (fun _ h => by cases h) (by have := HPLL.out; omega)).mono ?_
        rintro e w24 ⟨r12, rfl, hr12, hk⟩
        clear hHeld
        replace kr := kr.trans hk
        replace OD := Lib.hid (ODr.out.kept kr)
        replace OX := Lib.hid (OXr.out.kept kr)
        replace OC := Lib.hid (OCr.out.kept kr)
        replace HD := Lib.hid (HDr.out.go kr (Ext.refl _ _))
        replace HW := Lib.hid (HWr.out.go kr (Ext.refl _ _))
        replace HD1 := Lib.hid (HD1r.out.go kr (Ext.refl _ _))
        replace HR1 := Lib.hid (HR1r.out.go kr (Ext.refl _ _))
        replace HD2 := Lib.hid (HD2r.out.go kr (Ext.refl _ _))
        replace HRP := Lib.hid (HRPr.out.go kr (Ext.refl _ _))
        replace HWN := Lib.hid (HWNr.out.go kr (Ext.refl _ _))
        replace HPN := Lib.hid (HPNr.out.go kr (Ext.refl _ _))
        replace K := Kr.trans kr
        have HO1 := Lib.hid hr12
        obtain ⟨OA2, oc2, rfl, _, _, _⟩ := hr12
        clear hk
        go_simp
        refine hKK.out _ _ ?_ (fun hHeld => ?_)
        · exact kr
        clear hKK KK
        (try simp only [Act.put, List.setIfInBounds_toArray, List.set_cons_zero, List.set_cons_succ])
        refine wpAnyZ_ready (rs := [6]) (by kernel_rfl) (by simp) ?_
        refine AllReadyZ.cons (o := { dst := some 95, op := Op.call { callee := Callee.value (Operand.func 18), args := #[Operand.tmp 93, Operand.tmp 94], argTypes := #[45, 45] }, type := 4, pos := "law.go:72", after := #[{ on := 4, ground := Ground.data }, { on := 5, ground := Ground.data }, { on := 4, ground := Ground.chain }, { on := 2, ground := Ground.guard }], guard := some (2, true) }) rfl (fun KK hKK => ?_) AllReadyZ.nil
        go_simp
        refine (rsame_any PO _ _ w24 HO1.out HPN.out).mono ?_
        rintro e w25 ⟨rfl, hk⟩
        clear hHeld
        replace kr := kr.trans hk
        replace OD := Lib.hid (ODr.out.kept kr)
        replace OX := Lib.hid (OXr.out.kept kr)
        replace OC := Lib.hid (OCr.out.kept kr)
        replace HD := Lib.hid (HDr.out.go kr (Ext.refl _ _))
        replace HW := Lib.hid (HWr.out.go kr (Ext.refl _ _))
        replace HD1 := Lib.hid (HD1r.out.go kr (Ext.refl _ _))
        replace HR1 := Lib.hid (HR1r.out.go kr (Ext.refl _ _))
        replace HD2 := Lib.hid (HD2r.out.go kr (Ext.refl _ _))
        replace HRP := Lib.hid (HRPr.out.go kr (Ext.refl _ _))
        replace HWN := Lib.hid (HWNr.out.go kr (Ext.refl _ _))
        replace HPN := Lib.hid (HPNr.out.go kr (Ext.refl _ _))
        replace K := Kr.trans kr
        clear HO1
        clear hk
        go_simp
        refine hKK.out _ _ ?_ (fun hHeld => ?_)
        · exact kr
        clear hKK KK
        (try simp only [Act.put, List.setIfInBounds_toArray, List.set_cons_zero, List.set_cons_succ])
        refine wpAnyZ_take (i := 7) (oi := { dst := some 96, op := Op.pick (Operand.tmp 91) (Operand.tmp 95) (Operand.const (Value.bool false)), type := 4, pos := "law.go:72", after := #[{ on := 2, ground := Ground.data }, { on := 6, ground := Ground.data }], guard := none }) (v := ?_) rfl (by kernel_rfl) (fun _ _ _ h => h) (Or.inl ⟨by rfl, ?_⟩) (by assumption) ?_
        rotate_left
        · (intro wz hSw; (try dsimp only at hSw); go_simp; (try with_reducible rfl))
        (try simp only [Act.put, List.setIfInBounds_toArray, List.set_cons_zero, List.set_cons_succ])
        refine wpAnyZ_take (i := 8) (oi := { dst := some 97, op := Op.move (Operand.tmp 96), type := 4, pos := "law.go:72", after := #[{ on := 7, ground := Ground.data }, { on := 6, ground := Ground.chain }], guard := none }) (v := ?_) rfl (by kernel_rfl) (fun _ _ _ h => h) (Or.inl ⟨by rfl, ?_⟩) (by assumption) ?_
        rotate_left
        · (intro wz hSw; (try dsimp only at hSw); go_simp; (try with_reducible rfl))
        (try simp only [Act.put, List.setIfInBounds_toArray, List.set_cons_zero, List.set_cons_succ])
        refine wpAnyZ_take (i := 9) (oi := { dst := some 98, op := Op.load 25 (Operand.tmp 8), type := 25, pos := "law.go:72", after := #[{ on := 8, ground := Ground.guard }], guard := some (8, true) }) (v := ?_) rfl (by kernel_rfl) (fun _ _ _ h => h) (Or.inl ⟨by rfl, ?_⟩) (by assumption) ?_
        rotate_left
        · (intro wz hSw; (try dsimp only at hSw); go_simp; (try with_reducible rfl))
        (try simp only [Act.put, List.setIfInBounds_toArray, List.set_cons_zero, List.set_cons_succ])
        refine wpAnyZ_take (i := 11) (oi := { dst := some 100, op := Op.load 29 (Operand.tmp 5), type := 29, pos := "law.go:72", after := #[{ on := 8, ground := Ground.guard }], guard := some (8, true) }) (v := ?_) rfl (by kernel_rfl) (fun _ _ _ h => h) (Or.inl ⟨by rfl, ?_⟩) (by assumption) ?_
        rotate_left
        · (intro wz hSw; (try dsimp only at hSw); go_simp; (try with_reducible rfl))
        (try simp only [Act.put, List.setIfInBounds_toArray, List.set_cons_zero, List.set_cons_succ])
        refine wpAnyZ_take (i := 12) (oi := { dst := some 101, op := Op.move (Operand.tmp 13), type := 45, pos := "law.go:72", after := #[{ on := 8, ground := Ground.guard }], guard := some (8, true) }) (v := ?_) rfl (by kernel_rfl) (fun _ _ _ h => h) (Or.inl ⟨by rfl, ?_⟩) (by assumption) ?_
        rotate_left
        · (intro wz hSw; (try dsimp only at hSw); go_simp; (try with_reducible rfl))
        (try simp only [Act.put, List.setIfInBounds_toArray, List.set_cons_zero, List.set_cons_succ])
        refine wpAnyZ_take (i := 13) (oi := { dst := some 102, op := Op.move (Operand.tmp 13), type := 45, pos := "law.go:72", after := #[{ on := 8, ground := Ground.guard }], guard := some (8, true) }) (v := ?_) rfl (by kernel_rfl) (fun _ _ _ h => h) (Or.inl ⟨by rfl, ?_⟩) (by assumption) ?_
        rotate_left
        · (intro wz hSw; (try dsimp only at hSw); go_simp; (try with_reducible rfl))
        (try simp only [Act.put, List.setIfInBounds_toArray, List.set_cons_zero, List.set_cons_succ])
        refine wpAnyZ_take (i := 14) (oi := { dst := some 103, op := Op.call { callee := Callee.builtin Builtin.len, args := #[Operand.tmp 102], argTypes := #[45] }, type := 3, pos := "law.go:72", after := #[{ on := 13, ground := Ground.data }, { on := 8, ground := Ground.guard }], guard := some (8, true) }) (v := ?_) rfl (by kernel_rfl) (fun _ _ _ h => h) (Or.inl ⟨by rfl, ?_⟩) (by assumption) ?_
        rotate_left
        · (intro wz hSw; (try dsimp only at hSw); go_simp; (try with_reducible rfl))
        (try simp only [Act.put, List.setIfInBounds_toArray, List.set_cons_zero, List.set_cons_succ])
        refine wpAnyZ_ready (rs := [10]) (by kernel_rfl) (by simp) ?_
        refine AllReadyZ.cons (o := { dst := some 99, op := Op.call { callee := Callee.value (Operand.func 11), args := #[Operand.tmp 98], argTypes := #[25] }, type := 29, pos := "law.go:72", after := #[{ on := 9, ground := Ground.data }, { on := 8, ground := Ground.chain }, { on := 8, ground := Ground.guard }], guard := some (8, true) }) rfl (fun KK hKK => ?_) AllReadyZ.nil
        go_simp
        refine (ref10_any [] dd _ w25 HD2.out (fun _ h => by cases h) (by rw [HDC.out]; omega)).mono ?_
        rintro e w26 ⟨s13, c13, rfl, hd, hk⟩
        clear hHeld
        replace kr := kr.trans hk
        replace OD := Lib.hid (ODr.out.kept kr)
        replace OX := Lib.hid (OXr.out.kept kr)
        replace OC := Lib.hid (OCr.out.kept kr)
        replace HD := Lib.hid (HDr.out.go kr (Ext.refl _ _))
        replace HW := Lib.hid (HWr.out.go kr (Ext.refl _ _))
        replace HD1 := Lib.hid (HD1r.out.go kr (Ext.refl _ _))
        replace HR1 := Lib.hid (HR1r.out.go kr (Ext.refl _ _))
        replace HD2 := Lib.hid (HD2r.out.go kr (Ext.refl _ _))
        replace HRP := Lib.hid (HRPr.out.go kr (Ext.refl _ _))
        replace HWN := Lib.hid (HWNr.out.go kr (Ext.refl _ _))
        replace HPN := Lib.hid (HPNr.out.go kr (Ext.refl _ _))
        replace K := Kr.trans kr
        have HD13 := Lib.hid hd
        obtain ⟨A13, c13, B13, e13, rfl, rfl⟩ := hd.form
        clear hd
        clear hk
        go_simp
        refine hKK.out _ _ ?_ (fun hHeld => ?_)
        · exact kr
        clear hKK KK
        (try simp only [Act.put, List.setIfInBounds_toArray, List.set_cons_zero, List.set_cons_succ])
        refine wpAnyZ_ready (rs := [15]) (by kernel_rfl) (by simp) ?_
        refine AllReadyZ.cons (o := { dst := some 104, op := Op.call { callee := Callee.value (Operand.func 22), args := #[Operand.tmp 100, Operand.tmp 101, Operand.tmp 103], argTypes := #[29, 45, 3] }, type := 29, pos := "law.go:72", after := #[{ on := 11, ground := Ground.data }, { on := 12, ground := Ground.data }, { on := 14, ground := Ground.data }, { on := 10, ground := Ground.chain }, { on := 8, ground := Ground.guard }], guard := some (8, true) }) rfl (fun KK hKK => ?_) AllReadyZ.nil
        go_simp
        refine (rrun_any d PO _ _ w26 HD1.out HPN.out (.inl HRT.out) (by have := HS1.out; omega) (by have := HS2.out; omega) (by have := HPLL.out; omega)).mono ?_
        rintro e w27 ⟨s14, c14, rfl, hd, hk⟩
        clear hHeld
        replace kr := kr.trans hk
        replace OD := Lib.hid (ODr.out.kept kr)
        replace OX := Lib.hid (OXr.out.kept kr)
        replace OC := Lib.hid (OCr.out.kept kr)
        replace HD := Lib.hid (HDr.out.go kr (Ext.refl _ _))
        replace HW := Lib.hid (HWr.out.go kr (Ext.refl _ _))
        replace HD1 := Lib.hid (HD1r.out.go kr (Ext.refl _ _))
        replace HR1 := Lib.hid (HR1r.out.go kr (Ext.refl _ _))
        replace HD2 := Lib.hid (HD2r.out.go kr (Ext.refl _ _))
        replace HRP := Lib.hid (HRPr.out.go kr (Ext.refl _ _))
        replace HWN := Lib.hid (HWNr.out.go kr (Ext.refl _ _))
        replace HPN := Lib.hid (HPNr.out.go kr (Ext.refl _ _))
        replace K := Kr.trans kr
        replace HD13 := Lib.hid (HD13.out.go hk (Ext.refl _ _))
        rw [HRN.out] at hd
        have HD14 := Lib.hid hd
        obtain ⟨A14, c14, B14, e14, rfl, rfl⟩ := hd.form
        clear hd
        clear hk
        go_simp
        refine hKK.out _ _ ?_ (fun hHeld => ?_)
        · exact kr
        clear hKK KK
        (try simp only [Act.put, List.setIfInBounds_toArray, List.set_cons_zero, List.set_cons_succ])
        refine wpAnyZ_ready (rs := [16]) (by kernel_rfl) (by simp) ?_
        refine AllReadyZ.cons (o := { dst := some 105, op := Op.call { callee := Callee.value (Operand.func 20), args := #[Operand.tmp 99, Operand.tmp 104], argTypes := #[29, 29] }, type := 4, pos := "law.go:72", after := #[{ on := 10, ground := Ground.data }, { on := 15, ground := Ground.data }, { on := 15, ground := Ground.chain }, { on := 8, ground := Ground.guard }], guard := some (8, true) }) rfl (fun KK hKK => ?_) AllReadyZ.nil
        go_simp
        refine (equal_any [] [] dd _ _ w27 HD13.out HD14.out).mono ?_
        rintro e w28 ⟨rfl, hk⟩
        clear hHeld
        replace kr := kr.trans hk
        replace OD := Lib.hid (ODr.out.kept kr)
        replace OX := Lib.hid (OXr.out.kept kr)
        replace OC := Lib.hid (OCr.out.kept kr)
        replace HD := Lib.hid (HDr.out.go kr (Ext.refl _ _))
        replace HW := Lib.hid (HWr.out.go kr (Ext.refl _ _))
        replace HD1 := Lib.hid (HD1r.out.go kr (Ext.refl _ _))
        replace HR1 := Lib.hid (HR1r.out.go kr (Ext.refl _ _))
        replace HD2 := Lib.hid (HD2r.out.go kr (Ext.refl _ _))
        replace HRP := Lib.hid (HRPr.out.go kr (Ext.refl _ _))
        replace HWN := Lib.hid (HWNr.out.go kr (Ext.refl _ _))
        replace HPN := Lib.hid (HPNr.out.go kr (Ext.refl _ _))
        replace K := Kr.trans kr
        clear HD13 HD14
        clear hk
        go_simp
        refine hKK.out _ _ ?_ (fun hHeld => ?_)
        · exact kr
        clear hKK KK
        (try simp only [Act.put, List.setIfInBounds_toArray, List.set_cons_zero, List.set_cons_succ])
        refine wpAnyZ_take (i := 17) (oi := { dst := some 106, op := Op.pick (Operand.tmp 97) (Operand.tmp 105) (Operand.const (Value.bool false)), type := 4, pos := "law.go:72", after := #[{ on := 8, ground := Ground.data }, { on := 16, ground := Ground.data }], guard := none }) (v := ?_) rfl (by kernel_rfl) (fun _ _ _ h => h) (Or.inl ⟨by rfl, ?_⟩) (by assumption) ?_
        rotate_left
        · (intro wz hSw; (try dsimp only at hSw); go_simp; (try with_reducible rfl))
        (try simp only [Act.put, List.setIfInBounds_toArray, List.set_cons_zero, List.set_cons_succ])
        refine wpAnyZ_take (i := 18) (oi := { dst := some 107, op := Op.move (Operand.tmp 106), type := 4, pos := "law.go:72", after := #[{ on := 17, ground := Ground.data }, { on := 16, ground := Ground.chain }], guard := none }) (v := ?_) rfl (by kernel_rfl) (fun _ _ _ h => h) (Or.inl ⟨by rfl, ?_⟩) (by assumption) ?_
        rotate_left
        · (intro wz hSw; (try dsimp only at hSw); go_simp; (try with_reducible rfl))
        (try simp only [Act.put, List.setIfInBounds_toArray, List.set_cons_zero, List.set_cons_succ])
        refine wpAnyZ_ready (rs := [19]) (by kernel_rfl) (by simp) ?_
        refine AllReadyZ.cons (o := { dst := some 108, op := Op.call { callee := Callee.value (Operand.func 13), args := #[], argTypes := #[] }, type := 4, pos := "law.go:72", after := #[{ on := 18, ground := Ground.chain }, { on := 18, ground := Ground.guard }], guard := some (18, true) }) rfl (fun KK hKK => ?_) AllReadyZ.nil
        go_simp
        refine (awake10 w28 (HT.out.kept K)).mono ?_
        rintro e w29 ⟨rfl, hk⟩
        clear hHeld
        replace kr := kr.trans hk
        replace OD := Lib.hid (ODr.out.kept kr)
        replace OX := Lib.hid (OXr.out.kept kr)
        replace OC := Lib.hid (OCr.out.kept kr)
        replace HD := Lib.hid (HDr.out.go kr (Ext.refl _ _))
        replace HW := Lib.hid (HWr.out.go kr (Ext.refl _ _))
        replace HD1 := Lib.hid (HD1r.out.go kr (Ext.refl _ _))
        replace HR1 := Lib.hid (HR1r.out.go kr (Ext.refl _ _))
        replace HD2 := Lib.hid (HD2r.out.go kr (Ext.refl _ _))
        replace HRP := Lib.hid (HRPr.out.go kr (Ext.refl _ _))
        replace HWN := Lib.hid (HWNr.out.go kr (Ext.refl _ _))
        replace HPN := Lib.hid (HPNr.out.go kr (Ext.refl _ _))
        replace K := Kr.trans kr
        clear hk
        go_simp
        refine hKK.out _ _ ?_ (fun hHeld => ?_)
        · exact kr
        clear hKK KK
        (try simp only [Act.put, List.setIfInBounds_toArray, List.set_cons_zero, List.set_cons_succ])
        refine wpAnyZ_take (i := 20) (oi := { dst := some 109, op := Op.pick (Operand.tmp 107) (Operand.tmp 108) (Operand.const (Value.bool false)), type := 4, pos := "law.go:72", after := #[{ on := 18, ground := Ground.data }, { on := 19, ground := Ground.data }], guard := none }) (v := ?_) rfl (by kernel_rfl) (fun _ _ _ h => h) (Or.inl ⟨by rfl, ?_⟩) (by assumption) ?_
        rotate_left
        · (intro wz hSw; (try dsimp only at hSw); go_simp; (try with_reducible rfl))
        (try simp only [Act.put, List.setIfInBounds_toArray, List.set_cons_zero, List.set_cons_succ])
        refine wpAnyZ_take (i := 21) (oi := { dst := some 4, op := Op.assign (Operand.tmp 109), type := 4, pos := "law.go:72", after := #[{ on := 20, ground := Ground.data }, { on := 19, ground := Ground.chain }, { on := 0, ground := Ground.phase }, { on := 1, ground := Ground.phase }, { on := 2, ground := Ground.phase }, { on := 3, ground := Ground.phase }, { on := 4, ground := Ground.phase }, { on := 5, ground := Ground.phase }, { on := 6, ground := Ground.phase }, { on := 7, ground := Ground.phase }, { on := 8, ground := Ground.phase }, { on := 9, ground := Ground.phase }, { on := 10, ground := Ground.phase }, { on := 11, ground := Ground.phase }, { on := 12, ground := Ground.phase }, { on := 13, ground := Ground.phase }, { on := 14, ground := Ground.phase }, { on := 15, ground := Ground.phase }, { on := 16, ground := Ground.phase }, { on := 17, ground := Ground.phase }, { on := 18, ground := Ground.phase }, { on := 19, ground := Ground.phase }, { on := 20, ground := Ground.phase }], guard := none }) (v := ?_) rfl (by kernel_rfl) (fun _ _ _ h => h) (Or.inl ⟨by rfl, ?_⟩) (by assumption) ?_
        rotate_left
        · (intro wz hSw; (try dsimp only at hSw); go_simp; (try with_reducible rfl))
        (try simp only [Act.put, List.setIfInBounds_toArray, List.set_cons_zero, List.set_cons_succ])
        refine wpAnyZ_done (by kernel_rfl) ?_ _
        clear CX0 CX1 CC0 CC1 ODr OXr OCr HDr HWr HD1r HR1r HD2r HRPr HWNr HPNr Kr zr hHeld kr
        go_wp2
        go_ret
        exact ⟨rfl, K⟩
      · have t9 := bne_t he
        have hcd := HCN.out he
        have hpn := planL_no HPE.out he
        rw [hpn] at HR1 hq1 ⊢
        subst hcd
        have hn2 : n2 = 0 := HN2.out.symm
        subst hn2
        clear HCN HCY he hpn HM2
        have hl0 : (([] : List WOp).length : Int) = 0 := rfl
        obtain ⟨cD0, cD1, fD0, fD1⟩ := OD.out.two
        obtain ⟨cX0, cX1, fX0, fX1⟩ := OX.out.two
        obtain ⟨cC0, cC1, fC0, fC1⟩ := OC.out.two
        go_wp2_with fail
        refine (awake10 _ (HT.out.kept K)).mono ?_
        rintro e w21 ⟨rfl, hk⟩
        clear cD0 cD1 fD0 fD1 cX0 cX1 fX0 fX1 cC0 cC1 fC0 fC1
        replace OD := Lib.hid (OD.out.kept hk)
        replace OX := Lib.hid (OX.out.kept hk)
        replace OC := Lib.hid (OC.out.kept hk)
        replace HD := Lib.hid (HD.out.go hk (Ext.refl _ _))
        replace HW := Lib.hid (HW.out.go hk (Ext.refl _ _))
        replace HD1 := Lib.hid (HD1.out.go hk (Ext.refl _ _))
        replace HR1 := Lib.hid (HR1.out.go hk (Ext.refl _ _))
        replace HD2 := Lib.hid (HD2.out.go hk (Ext.refl _ _))
        replace HRP := Lib.hid (HRP.out.go hk (Ext.refl _ _))
        replace HWN := Lib.hid (HWN.out.go hk (Ext.refl _ _))
        replace K := K.trans hk
        clear hk
        go_wp2
        go_ret
        exact ⟨rfl, K⟩
    · rw [hf]
      clear hf
      obtain ⟨cD0, cD1, fD0, fD1⟩ := OD.out.two
      obtain ⟨cX0, cX1, fX0, fX1⟩ := OX.out.two
      go_wp2_with fail
      refine (awake10 _ (HT.out.kept K)).mono ?_
      rintro e w6 ⟨rfl, hk⟩
      clear cD0 cD1 fD0 fD1 cX0 cX1 fX0 fX1
      replace OD := Lib.hid (OD.out.kept hk)
      replace OX := Lib.hid (OX.out.kept hk)
      replace HD := Lib.hid (HD.out.go hk (Ext.refl _ _))
      replace HW := Lib.hid (HW.out.go hk (Ext.refl _ _))
      replace HD1 := Lib.hid (HD1.out.go hk (Ext.refl _ _))
      replace K := K.trans hk
      clear hk
      go_wp2
      go_ret
      exact ⟨rfl, K⟩
  · rw [hs]
    clear hs
    obtain ⟨cD0, cD1, fD0, fD1⟩ := OD.out.two
    obtain ⟨cX0, cX1, fX0, fX1⟩ := OX.out.two
    go_wp2_with fail
    refine (awake10 _ (HT.out.kept K)).mono ?_
    rintro e w5 ⟨rfl, hk⟩
    clear cD0 cD1 fD0 fD1 cX0 cX1 fX0 fX1
    replace OD := Lib.hid (OD.out.kept hk)
    replace OX := Lib.hid (OX.out.kept hk)
    replace HD := Lib.hid (HD.out.go hk (Ext.refl _ _))
    replace HW := Lib.hid (HW.out.go hk (Ext.refl _ _))
    replace HD1 := Lib.hid (HD1.out.go hk (Ext.refl _ _))
    replace K := K.trans hk
    clear hk
    go_wp2
    go_ret
    exact ⟨rfl, K⟩
end Go.Proofs.YtagpimahicgkmaaDoor
