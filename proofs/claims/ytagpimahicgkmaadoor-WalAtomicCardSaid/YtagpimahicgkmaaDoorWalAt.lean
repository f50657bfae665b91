/- Walk: mailsacklaw10.WalAtomic. -/
import Derived.Test.YtagpimahicgkmaaDoorWalCt
import Derived.Test.YtagpimahicgkmaaDoorWalBl
import Derived.Test.YtagpimahicgkmaaDoorDkCrash
namespace Go.Proofs.YtagpimahicgkmaaDoor
open Go.RowKit

theorem run_cache2 (d : Dk) (l : List WOp) (k : Nat) : (runO d l k).cache.length ≤ d.cache.length + l.length := by
  rcases Nat.lt_or_ge l.length k with h | h
  · rw [run_over d l (by omega), ← run_all]; exact run_cache d l _
  · have := run_cache d l k; omega
theorem three_nil {d s : Dk} {l : List Wr} (t : Three d l s) : s.cache = [] := t.elim (·.nil) (·.elim (·.nil) (·.nil))
theorem three_right {d s : Dk} {l : List Wr} (t : Three d l s) : rightB s = true := t.elim (·.right) (·.elim (·.right) (·.right))
theorem below_like {d s : Dk} (k : Like d s) : belowTo s.sec d.sec s.sec.length = true := below_yes fun i h1 h2 => by
  rw [k.rest i h1 (by rw [← k.len]; exact h2)]; simp
/-- What the last part of WalAtomic asks of the disk behind the repairs. -/
structure Last (d e y : Dk) : Prop where
  right : rightB y = true
  nil : y.cache = []
  len : y.sec.length = d.sec.length
  no : byteAt (atS y.sec 0) 0 ≠ 74
  below : belowTo y.sec d.sec y.sec.length = true ∨ belowTo y.sec e.sec y.sec.length = true
theorem last_of {d y : Dk} {l : List Wr} (h : Like d y ∨ Like (doneD d l) y) : Last d (doneD d l) y := by
  rcases h with h | h
  · exact ⟨h.right, h.nil, h.len, h.no, .inl (below_like h)⟩
  · exact ⟨h.right, h.nil, h.len.trans (done_len d l), h.no, .inr (below_like h)⟩
def x1D (d : Dk) (l : List Wr) (part : Int) (keep : List Int) : Dk := crashD (runO d (planL d l) part.toNat) keep
def x2D (x : Dk) (more : Int) (kept : List Int) : Dk := crashD (runO x (repOps x) more.toNat) kept
theorem at_chain {d : Dk} {l : List Wr} (he : planErr d l = 0) (hd : d.cache = []) (hn : byteAt (atS d.sec 0) 0 ≠ 74) (part more : Int) (keep kept : List Int) :
    (x1D d l part keep).cache = [] ∧ (x2D (x1D d l part keep) more kept).cache = [] ∧ Last d (doneD d l) (recD (x2D (x1D d l part keep) more kept)) := by
  have hok := ok_of he
  have t1 : Three d l (x1D d l part keep) := by unfold x1D; rw [planL_yes he]; exact three_plan hok hd hn _ _
  have t2 : Three d l (x2D (x1D d l part keep) more kept) := three_rep hok hd t1 _ _
  exact ⟨three_nil t1, three_nil t2, last_of (three_rec hok hd t2)⟩
theorem WrsAt.len_ {V : List Nat} {w : World} {A : Option Addr} {n c : Nat} {l : List Wr} (h : WrsAt V w (.slice A n c) l) : n = l.length := by
  obtain ⟨_, _, e, _⟩ := h; injection e

set_option maxRecDepth 100000 in
set_option maxHeartbeats 8000000 in
theorem atomic_any (d : Dk) (l : List Wr) (part more : Int) (keep kept : List Int) (v u ka kb : Value) (w : World) (ht : Tabs w) (h : DkAt [] w v d) (hu : WrsAt [] w u l) (hka : IntsAt [] w ka keep) (hkb : IntsAt [] w kb kept) (hreach : d.cache.length * 24 ≤ 140737488355328) (hk1 : keep.length ≤ 140737488355328) (hk2 : kept.length ≤ 140737488355328) :
    Calls Tryd.prog 6 #[v, u, .int .i64 part, .int .i64 more, ka, kb] w fun e w' => e = .returned (.bool true) ∧ Kept w w' := by
  have HT := Lib.hid ht
  have HD := Lib.hid h
  have HW := Lib.hid hu
  have HKA := Lib.hid hka
  have HKB := Lib.hid hkb
  have HRE := Lib.hid hreach
  obtain ⟨_, _, rfl, _, _⟩ := h
  obtain ⟨A0, c0, B0, e0, rfl, rfl⟩ := HD.out.form
  obtain ⟨WA, wc, rfl, hw1, hw2, _⟩ := hu
  obtain ⟨KA, ka, rfl, hka1, hka2, _⟩ := hka
  obtain ⟨KB, kb, rfl, hkb1, hkb2, _⟩ := hkb
  unfold maxLen at hw2 hka2 hkb2
  clear ht hreach
  generalize hn0 : d.sec.length = n0 at *
  generalize hm0 : d.cache.length = m0 at *
  have HN0 := Lib.hid hn0
  have HM0 := Lib.hid hm0
  clear hn0 hm0
  go_enter Tryd.func6, Tryd.ntmps6
  go_wp2_with fail
  have OD := Lib.hid (Own.newAt w w.heap.size 25 [.slice A0 n0 c0, .slice B0 m0 e0] (by simp))
  have K := ((Kept.refl w).alloc (.cells #[.slice A0 n0 c0, .slice B0 m0 e0] 25))
  generalize (w.alloc (.cells #[.slice A0 n0 c0, .slice B0 m0 e0] 25)) = w1 at *
  obtain ⟨cD0, cD1, fD0, fD1⟩ := OD.out.two
  replace HD := Lib.hid (HD.out.go K (Ext.refl _ _))
  replace HW := Lib.hid (HW.out.go K (Ext.refl _ _))
  replace HKA := Lib.hid (HKA.out.go K (Ext.refl _ _))
  replace HKB := Lib.hid (HKB.out.go K (Ext.refl _ _))
  refine (ref10_any [] d _ _ HD.out (fun _ h => by cases h) (by rw [HM0.out]; exact HRE.out)).mono ?_
  rintro e w2 ⟨s1, c1, rfl, hd, hk⟩
  clear cD0 cD1 fD0 fD1
  replace OD := Lib.hid (OD.out.kept hk)
  replace HD := Lib.hid (HD.out.go hk (Ext.refl _ _))
  replace HW := Lib.hid (HW.out.go hk (Ext.refl _ _))
  replace HKA := Lib.hid (HKA.out.go hk (Ext.refl _ _))
  replace HKB := Lib.hid (HKB.out.go hk (Ext.refl _ _))
  replace K := K.trans hk
  have HD1 := Lib.hid hd
  obtain ⟨A1, c1, B1, e1, rfl, rfl⟩ := hd.form
  clear hd
  rw [HN0.out, HM0.out] at HD1 ⊢
  clear hk
  obtain ⟨cD0, cD1, fD0, fD1⟩ := OD.out.two
  go_wp2_with fail
  refine (small_any [] d _ _ HD1.out).mono ?_
  rintro e w3 ⟨rfl, hk⟩
  clear cD0 cD1 fD0 fD1
  replace OD := Lib.hid (OD.out.kept hk)
  replace HD := Lib.hid (HD.out.go hk (Ext.refl _ _))
  replace HW := Lib.hid (HW.out.go hk (Ext.refl _ _))
  replace HKA := Lib.hid (HKA.out.go hk (Ext.refl _ _))
  replace HKB := Lib.hid (HKB.out.go hk (Ext.refl _ _))
  replace HD1 := Lib.hid (HD1.out.go hk (Ext.refl _ _))
  replace K := K.trans hk
  clear hk
  clear HD1
  rcases Bool.eq_false_or_eq_true (smallB d) with hs | hs
  · skip
    rw [hs]
    obtain ⟨hs1, hs2⟩ := small_parts hs
    rw [HM0.out] at hs2
    rw [HN0.out] at hs1
    clear hs
    obtain ⟨cD0, cD1, fD0, fD1⟩ := OD.out.two
    go_wp2_with fail
    refine (few_any l _ _ HW.out).mono ?_
    rintro e w4 ⟨rfl, hk⟩
    clear cD0 cD1 fD0 fD1
    replace OD := Lib.hid (OD.out.kept hk)
    replace HD := Lib.hid (HD.out.go hk (Ext.refl _ _))
    replace HW := Lib.hid (HW.out.go hk (Ext.refl _ _))
    replace HKA := Lib.hid (HKA.out.go hk (Ext.refl _ _))
    replace HKB := Lib.hid (HKB.out.go hk (Ext.refl _ _))
    replace K := K.trans hk
    clear hk
    rcases Bool.eq_false_or_eq_true (fewB l) with hf | hf
    · skip
      rw [hf]
      have hl40 := few_len hf
      clear hf
      obtain ⟨cD0, cD1, fD0, fD1⟩ := OD.out.two
      go_wp2_with fail
      refine (right_any [] d _ _ HD.out).mono ?_
      rintro e w5 ⟨rfl, hk⟩
      clear cD0 cD1 fD0 fD1
      replace OD := Lib.hid (OD.out.kept hk)
      replace HD := Lib.hid (HD.out.go hk (Ext.refl _ _))
      replace HW := Lib.hid (HW.out.go hk (Ext.refl _ _))
      replace HKA := Lib.hid (HKA.out.go hk (Ext.refl _ _))
      replace HKB := Lib.hid (HKB.out.go hk (Ext.refl _ _))
      replace K := K.trans hk
      clear hk
      rcases Bool.eq_false_or_eq_true (rightB d) with hr | hr
      · skip
        rw [hr]
        have HRI := Lib.hid hr
        clear hr
        by_cases hm : 0 < m0
        · have hm' : (0 : Int) < (m0 : Int) := by omega
          obtain ⟨cD0, cD1, fD0, fD1⟩ := OD.out.two
          go_wp2_with fail
          refine (awake10 _ (HT.out.kept K)).mono ?_
          rintro e w6 ⟨rfl, hk⟩
          clear cD0 cD1 fD0 fD1
          replace OD := Lib.hid (OD.out.kept hk)
          replace HD := Lib.hid (HD.out.go hk (Ext.refl _ _))
          replace HW := Lib.hid (HW.out.go hk (Ext.refl _ _))
          replace HKA := Lib.hid (HKA.out.go hk (Ext.refl _ _))
          replace HKB := Lib.hid (HKB.out.go hk (Ext.refl _ _))
          replace K := K.trans hk
          clear hk
          go_wp2
          go_ret
          exact ⟨rfl, K⟩
        obtain rfl : m0 = 0 := by omega
        by_cases h62 : n0 < 62
        · have h62' : (n0 : Int) < 62 := by omega
          obtain ⟨cD0, cD1, fD0, fD1⟩ := OD.out.two
          go_wp2_with fail
          refine (awake10 _ (HT.out.kept K)).mono ?_
          rintro e w6 ⟨rfl, hk⟩
          clear cD0 cD1 fD0 fD1
          replace OD := Lib.hid (OD.out.kept hk)
          replace HD := Lib.hid (HD.out.go hk (Ext.refl _ _))
          replace HW := Lib.hid (HW.out.go hk (Ext.refl _ _))
          replace HKA := Lib.hid (HKA.out.go hk (Ext.refl _ _))
          replace HKB := Lib.hid (HKB.out.go hk (Ext.refl _ _))
          replace K := K.trans hk
          clear hk
          go_wp2
          go_ret
          exact ⟨rfl, K⟩
        have h62' : ¬ (n0 : Int) < 62 := by omega
        have hnil : d.cache = [] := List.eq_nil_of_length_eq_zero HM0.out
        have HNIL := Lib.hid hnil
        clear hnil
        have hrow := HD.out.rows.2.2.2.2.2.2.1
        obtain ⟨b, o, rfl, hb, _, hcs⟩ := hrow (by rw [strs_length, HN0.out]; omega)
        have g0 := hcs 0 _ (strs_atS (n := 0) (by rw [HN0.out]; omega))
        rw [Nat.add_zero] at g0
        have hsz : (atS d.sec 0).size = 64 := (right_parts HRI.out).2.2.1 _ (atS_mem (by rw [HN0.out]; omega))
        obtain ⟨s0, hse⟩ : ∃ s0, atS d.sec 0 = s0 := ⟨_, rfl⟩
        rw [hse] at g0 hsz
        have hbb : byteAt (atS d.sec 0) 0 = s0[0] := by rw [hse]; exact byteAt_lt (by omega)
        have HBB := Lib.hid hbb
        have i1 : 0 < n0 := by omega
        have i2 : (0 : Int) < (n0 : Int) := by omega
        clear hcs hrow hbb hse
        by_cases h74 : s0[0].toNat = 74
        · have t1 : ((s0[0].toNat : Int) == 74) = true := beq_t (by omega)
          obtain ⟨cD0, cD1, fD0, fD1⟩ := OD.out.two
          go_wp2_with fail
          refine (awake10 _ (HT.out.kept K)).mono ?_
          rintro e w6 ⟨rfl, hk⟩
          clear cD0 cD1 fD0 fD1
          replace OD := Lib.hid (OD.out.kept hk)
          replace HD := Lib.hid (HD.out.go hk (Ext.refl _ _))
          replace HW := Lib.hid (HW.out.go hk (Ext.refl _ _))
          replace HKA := Lib.hid (HKA.out.go hk (Ext.refl _ _))
          replace HKB := Lib.hid (HKB.out.go hk (Ext.refl _ _))
          replace K := K.trans hk
          clear hk
          go_wp2
          go_ret
          exact ⟨rfl, K⟩
        have t1 := beq_f (a := (s0[0].toNat : Int)) (b := 74) (by omega)
        have HNO : Hid (byteAt (atS d.sec 0) 0 ≠ 74) := by show _ ≠ _; rw [HBB.out]; intro e; exact h74 (by rw [e]; rfl)
        by_cases hk300 : 300 < keep.length + kept.length
        · have hk300' : (300 : Int) < (keep.length : Int) + (kept.length : Int) := by omega
          obtain ⟨cD0, cD1, fD0, fD1⟩ := OD.out.two
          go_wp2_with fail
          refine (awake10 _ (HT.out.kept K)).mono ?_
          rintro e w6 ⟨rfl, hk⟩
          clear cD0 cD1 fD0 fD1
          replace OD := Lib.hid (OD.out.kept hk)
          replace HD := Lib.hid (HD.out.go hk (Ext.refl _ _))
          replace HW := Lib.hid (HW.out.go hk (Ext.refl _ _))
          replace HKA := Lib.hid (HKA.out.go hk (Ext.refl _ _))
          replace HKB := Lib.hid (HKB.out.go hk (Ext.refl _ _))
          replace K := K.trans hk
          clear hk
          go_wp2
          go_ret
          exact ⟨rfl, K⟩
        have hk300' : ¬ (300 : Int) < (keep.length : Int) + (kept.length : Int) := by omega
        obtain ⟨cD0, cD1, fD0, fD1⟩ := OD.out.two
        go_wp2_with fail
        refine (plan_any [] d l _ _ _ (HT.out.kept K) HD.out HW.out (fun _ h => by cases h)).mono ?_
        rintro e w6 ⟨r1, rfl, hr1, hk⟩
        clear cD0 cD1 fD0 fD1
        replace OD := Lib.hid (OD.out.kept hk)
        replace HD := Lib.hid (HD.out.go hk (Ext.refl _ _))
        replace HW := Lib.hid (HW.out.go hk (Ext.refl _ _))
        replace HKA := Lib.hid (HKA.out.go hk (Ext.refl _ _))
        replace HKB := Lib.hid (HKB.out.go hk (Ext.refl _ _))
        replace K := K.trans hk
        have HR1 := Lib.hid hr1
        clear hr1 g0 hb t1
        obtain ⟨QA, qc, rfl, hq1, hq2, _⟩ := HR1.out
        unfold maxLen at hq2
        have HPL := Lib.hid (planL_len d l)
        clear hk
        obtain ⟨cD0, cD1, fD0, fD1⟩ := OD.out.two
        go_wp2_with fail
        refine (commit_any [] d l _ _ _ (HT.out.kept K) HD.out HW.out (fun _ h => by cases h) (by rw [HM0.out]; omega)).mono ?_
        rintro e w7 ⟨s6, c6, rfl, hd, hk⟩
        clear cD0 cD1 fD0 fD1
        replace OD := Lib.hid (OD.out.kept hk)
        replace HD := Lib.hid (HD.out.go hk (Ext.refl _ _))
        replace HW := Lib.hid (HW.out.go hk (Ext.refl _ _))
        replace HKA := Lib.hid (HKA.out.go hk (Ext.refl _ _))
        replace HKB := Lib.hid (HKB.out.go hk (Ext.refl _ _))
        replace HR1 := Lib.hid (HR1.out.go hk (Ext.refl _ _))
        replace K := K.trans hk
        clear hk
        by_cases he : planErr d l = 0
        · skip
          have hcr : commitR d l = (doneD d l, 0) := by unfold commitR; rw [if_pos he]
          rw [hcr] at hd ⊢
          dsimp only at hd ⊢
          have HDX := Lib.hid hd
          obtain ⟨A6, c6, B6, e6, rfl, rfl⟩ := hd.form
          clear hd hcr
          have hmx : (doneD d l).cache.length = 0 := rfl
          rw [done_len, HN0.out, hmx] at HDX ⊢
          have HXL : Hid ((doneD d l).sec.length = d.sec.length) := done_len d l
          have HXC : Hid ((doneD d l).cache = []) := rfl
          obtain ⟨hx1, hx2, hx3⟩ := at_chain he HNIL.out HNO.out part more keep kept
          have HX1 := Lib.hid hx1
          have HX2 := Lib.hid hx2
          have HX3 := Lib.hid hx3
          have HC1 : Hid ((runO d (planL d l) part.toNat).cache.length ≤ 300) := by
            have := run_cache2 d (planL d l) part.toNat
            have := HPL.out; have := HM0.out; show _ ≤ _; omega
          have HC2 : Hid ((runO (x1D d l part keep) (repOps (x1D d l part keep)) more.toNat).cache.length ≤ 300) := by
            have := run_cache2 (x1D d l part keep) (repOps (x1D d l part keep)) more.toNat
            have := repOps_len (x1D d l part keep)
            have : (x1D d l part keep).cache.length = 0 := by rw [hx1]; rfl
            show _ ≤ _; omega
          rw [he]
          have HRUN : Hid (crashD (runO d (planL d l) part.toNat) keep = x1D d l part keep) := rfl
          have HRUN2 : Hid (crashD (runO (x1D d l part keep) (repOps (x1D d l part keep)) more.toNat) kept = x2D (x1D d l part keep) more kept) := rfl
          clear hmx he hx1 hx2 hx3
          generalize x2D (x1D d l part keep) more kept = x2 at *
          generalize x1D d l part keep = x1 at *
          generalize doneD d l = dn at *
          obtain ⟨cD0, cD1, fD0, fD1⟩ := OD.out.two
          have zD7 := OD.out.lt
          have zK7 := K.size
          go_wp2_with fail
          clear cD0 cD1 fD0 fD1
          replace OD := Lib.hid (OD.out.alloc (.cells #[.slice A6 n0 c6, .slice B6 0 e6] 25))
          have OE := Lib.hid (Own.new w7 25 [.slice A6 n0 c6, .slice B6 0 e6])
          replace HD := Lib.hid (HD.out.go ((Kept.refl w7).alloc (.cells #[.slice A6 n0 c6, .slice B6 0 e6] 25)) (Ext.refl _ _))
          replace HW := Lib.hid (HW.out.go ((Kept.refl w7).alloc (.cells #[.slice A6 n0 c6, .slice B6 0 e6] 25)) (Ext.refl _ _))
          replace HKA := Lib.hid (HKA.out.go ((Kept.refl w7).alloc (.cells #[.slice A6 n0 c6, .slice B6 0 e6] 25)) (Ext.refl _ _))
          replace HKB := Lib.hid (HKB.out.go ((Kept.refl w7).alloc (.cells #[.slice A6 n0 c6, .slice B6 0 e6] 25)) (Ext.refl _ _))
          replace HR1 := Lib.hid (HR1.out.go ((Kept.refl w7).alloc (.cells #[.slice A6 n0 c6, .slice B6 0 e6] 25)) (Ext.refl _ _))
          replace HDX := Lib.hid (HDX.out.go ((Kept.refl w7).alloc (.cells #[.slice A6 n0 c6, .slice B6 0 e6] 25)) (Ext.refl _ _))
          replace K := K.alloc (.cells #[.slice A6 n0 c6, .slice B6 0 e6] 25)
          generalize (w7.alloc (.cells #[.slice A6 n0 c6, .slice B6 0 e6] 25)) = w8 at *
          obtain ⟨cD0, cD1, fD0, fD1⟩ := OD.out.two
          obtain ⟨cE0, cE1, fE0, fE1⟩ := OE.out.two
          refine (run_any [] d (planL d l) part _ _ _ HD.out (by have := HR1.out; exact this) (fun _ h => by cases h) (by rw [HM0.out]; omega) (by have := HPL.out; omega)).mono ?_
          rintro e w9 ⟨s7, c7, rfl, hd, hk⟩
          clear cD0 cD1 fD0 fD1 cE0 cE1 fE0 fE1
          replace OD := Lib.hid (OD.out.kept hk)
          replace OE := Lib.hid (OE.out.kept hk)
          replace HD := Lib.hid (HD.out.go hk (Ext.refl _ _))
          replace HW := Lib.hid (HW.out.go hk (Ext.refl _ _))
          replace HKA := Lib.hid (HKA.out.go hk (Ext.refl _ _))
          replace HKB := Lib.hid (HKB.out.go hk (Ext.refl _ _))
          replace HR1 := Lib.hid (HR1.out.go hk (Ext.refl _ _))
          replace HDX := Lib.hid (HDX.out.go hk (Ext.refl _ _))
          replace K := K.trans hk
          generalize hR1 : runO d (planL d l) part.toNat = r1 at *
          clear hR1
          have HD7 := Lib.hid hd
          obtain ⟨A7, c7, B7, e7, rfl, rfl⟩ := hd.form
          clear hd
          generalize r1.sec.length = n7 at HD7 ⊢
          generalize r1.cache.length = m7 at HD7 ⊢
          clear hk
          obtain ⟨cD0, cD1, fD0, fD1⟩ := OD.out.two
          obtain ⟨cE0, cE1, fE0, fE1⟩ := OE.out.two
          go_wp2_with fail
          refine (crash_any [] r1 keep _ _ _ HD7.out HKA.out (fun _ h => by cases h) (by have := HC1.out; omega)).mono ?_
          rintro e w10 ⟨s8, c8, rfl, hd, hk⟩
          clear cD0 cD1 fD0 fD1 cE0 cE1 fE0 fE1
          replace OD := Lib.hid (OD.out.kept hk)
          replace OE := Lib.hid (OE.out.kept hk)
          replace HD := Lib.hid (HD.out.go hk (Ext.refl _ _))
          replace HW := Lib.hid (HW.out.go hk (Ext.refl _ _))
          replace HKA := Lib.hid (HKA.out.go hk (Ext.refl _ _))
          replace HKB := Lib.hid (HKB.out.go hk (Ext.refl _ _))
          replace HR1 := Lib.hid (HR1.out.go hk (Ext.refl _ _))
          replace HDX := Lib.hid (HDX.out.go hk (Ext.refl _ _))
          replace HD7 := Lib.hid (HD7.out.go hk (Ext.refl _ _))
          replace K := K.trans hk
          rw [HRUN.out] at hd
          have HD8 := Lib.hid hd
          obtain ⟨A8, c8, B8, e8, rfl, rfl⟩ := hd.form
          clear hd
          generalize x1.sec.length = n8 at HD8 ⊢
          generalize x1.cache.length = m8 at HD8 ⊢
          clear hk
          clear HD7
          go_upto_region 8 with fail
          have HXB : Hid (w.heap.size ≤ w10.heap.size) := K.size
          replace HD8 := Lib.hid (HD8.out.go (Kept.refl _) (Ext.cons (k := w10.heap.size) (Nat.le_refl _) (Ext.refl _ _)))
          replace HD := Lib.hid (HD.out.go (Kept.refl _) (Ext.cons (k := w10.heap.size) (Nat.le_refl _) (Ext.refl _ _)))
          replace HDX := Lib.hid (HDX.out.go (Kept.refl _) (Ext.cons (k := w10.heap.size) (Nat.le_refl _) (Ext.refl _ _)))
          have hDX : w.heap.size < w10.heap.size := OD.out.lt
          have hEX := OE.out.lt
          replace OD := Lib.hid (OD.out.alloc (.cells #[.slice A8 n8 c8, .slice B8 m8 e8] 25))
          replace OE := Lib.hid (OE.out.alloc (.cells #[.slice A8 n8 c8, .slice B8 m8 e8] 25))
          have OX := Lib.hid (Own.new w10 25 [.slice A8 n8 c8, .slice B8 m8 e8])
          replace HD := Lib.hid (HD.out.go ((Kept.refl w10).alloc (.cells #[.slice A8 n8 c8, .slice B8 m8 e8] 25)) (Ext.refl _ _))
          replace HW := Lib.hid (HW.out.go ((Kept.refl w10).alloc (.cells #[.slice A8 n8 c8, .slice B8 m8 e8] 25)) (Ext.refl _ _))
          replace HKA := Lib.hid (HKA.out.go ((Kept.refl w10).alloc (.cells #[.slice A8 n8 c8, .slice B8 m8 e8] 25)) (Ext.refl _ _))
          replace HKB := Lib.hid (HKB.out.go ((Kept.refl w10).alloc (.cells #[.slice A8 n8 c8, .slice B8 m8 e8] 25)) (Ext.refl _ _))
          replace HR1 := Lib.hid (HR1.out.go ((Kept.refl w10).alloc (.cells #[.slice A8 n8 c8, .slice B8 m8 e8] 25)) (Ext.refl _ _))
          replace HDX := Lib.hid (HDX.out.go ((Kept.refl w10).alloc (.cells #[.slice A8 n8 c8, .slice B8 m8 e8] 25)) (Ext.refl _ _))
          replace HD8 := Lib.hid (HD8.out.go ((Kept.refl w10).alloc (.cells #[.slice A8 n8 c8, .slice B8 m8 e8] 25)) (Ext.refl _ _))
          replace K := K.alloc (.cells #[.slice A8 n8 c8, .slice B8 m8 e8] 25)
          generalize (w10.alloc (.cells #[.slice A8 n8 c8, .slice B8 m8 e8] 25)) = w11 at *
          have CD0 : ∀ W', Kept w11 W' → W'.cell? ⟨w.heap.size, 0, none⟩ = some (.slice (some ⟨b, o, none⟩) n0 c0) := fun W' hk => (OD.out.kept hk).cell? 0
          have CD1 : ∀ W', Kept w11 W' → W'.cell? ⟨w.heap.size, 1, none⟩ = some (.slice B0 0 e0) := fun W' hk => (OD.out.kept hk).cell? 1
          have CE0 : ∀ W', Kept w11 W' → W'.cell? ⟨w7.heap.size, 0, none⟩ = some (.slice A6 n0 c6) := fun W' hk => (OE.out.kept hk).cell? 0
          have CE1 : ∀ W', Kept w11 W' → W'.cell? ⟨w7.heap.size, 1, none⟩ = some (.slice B6 0 e6) := fun W' hk => (OE.out.kept hk).cell? 1
          have CX0 : ∀ W', Kept w11 W' → W'.cell? ⟨w10.heap.size, 0, none⟩ = some (.slice A8 n8 c8) := fun W' hk => (OX.out.kept hk).cell? 0
          have CX1 : ∀ W', Kept w11 W' → W'.cell? ⟨w10.heap.size, 1, none⟩ = some (.slice B8 m8 e8) := fun W' hk => (OX.out.kept hk).cell? 1
          refine wp_region_Z (S := fun W' => Kept w11 W') (Z := [7]) (by kernel_rfl) ((Kept.refl _).drew) (fun hHeld => ?_)
          have kr := (Kept.refl w11).drew
          have Kr := K
          have zr := K.size
          have ODr := OD
          have OEr := OE
          have OXr := OX
          have HDr := HD
          have HWr := HW
          have HKAr := HKA
          have HKBr := HKB
          have HR1r := HR1
          have HDXr := HDX
          have HD8r := HD8
          replace OD := Lib.hid (ODr.out.kept kr)
          replace OE := Lib.hid (OEr.out.kept kr)
          replace OX := Lib.hid (OXr.out.kept kr)
          replace HD := Lib.hid (HDr.out.go kr (Ext.refl _ _))
          replace HW := Lib.hid (HWr.out.go kr (Ext.refl _ _))
          replace HKA := Lib.hid (HKAr.out.go kr (Ext.refl _ _))
          replace HKB := Lib.hid (HKBr.out.go kr (Ext.refl _ _))
          replace HR1 := Lib.hid (HR1r.out.go kr (Ext.refl _ _))
          replace HDX := Lib.hid (HDXr.out.go kr (Ext.refl _ _))
          replace HD8 := Lib.hid (HD8r.out.go kr (Ext.refl _ _))
          replace K := Kr.trans kr
          generalize w11.drew = w12 at *
          refine wpAnyZ_take (i := 0) (oi := { dst := some 87, op := Op.load 25 (Operand.tmp 17), type := 25, pos := "law.go:112", after := #[], guard := none }) (v := ?_) rfl (by kernel_rfl) (fun _ _ _ h => h) (Or.inl ⟨by rfl, ?_⟩) (by assumption) ?_
          rotate_left
          · (intro wz hSw; (try dsimp only at hSw); go_simp; (try with_reducible rfl))
          (try simp only [Act.put, List.setIfInBounds_toArray, List.set_cons_zero, List.set_cons_succ])
          refine wpAnyZ_take (i := 1) (oi := { dst := some 88, op := Op.load 25 (Operand.tmp 17), type := 25, pos := "law.go:112", after := #[], guard := none }) (v := ?_) rfl (by kernel_rfl) (fun _ _ _ h => h) (Or.inl ⟨by rfl, ?_⟩) (by assumption) ?_
          rotate_left
          · (intro wz hSw; (try dsimp only at hSw); go_simp; (try with_reducible rfl))
          (try simp only [Act.put, List.setIfInBounds_toArray, List.set_cons_zero, List.set_cons_succ])
          refine wpAnyZ_take (i := 3) (oi := { dst := some 90, op := Op.move (Operand.tmp 3), type := 3, pos := "law.go:112", after := #[], guard := none }) (v := ?_) rfl (by kernel_rfl) (fun _ _ _ h => h) (Or.inl ⟨by rfl, ?_⟩) (by assumption) ?_
          rotate_left
          · (intro wz hSw; (try dsimp only at hSw); go_simp; (try with_reducible rfl))
          (try simp only [Act.put, List.setIfInBounds_toArray, List.set_cons_zero, List.set_cons_succ])
          refine wpAnyZ_take (i := 5) (oi := { dst := some 92, op := Op.move (Operand.tmp 5), type := 57, pos := "law.go:112", after := #[], guard := none }) (v := ?_) rfl (by kernel_rfl) (fun _ _ _ h => h) (Or.inl ⟨by rfl, ?_⟩) (by assumption) ?_
          rotate_left
          · (intro wz hSw; (try dsimp only at hSw); go_simp; (try with_reducible rfl))
          (try simp only [Act.put, List.setIfInBounds_toArray, List.set_cons_zero, List.set_cons_succ])
          refine wpAnyZ_ready (rs := [2]) (by kernel_rfl) (by simp) ?_
          refine AllReadyZ.cons (o := { dst := some 89, op := Op.call { callee := Callee.value (Operand.func 16), args := #[Operand.tmp 88], argTypes := #[25] }, type := 33, pos := "law.go:112", after := #[{ on := 1, ground := Ground.data }], guard := none }) rfl (fun KK hKK => ?_) AllReadyZ.nil
          go_simp
          refine (repair_any [] x1 _ w12 (HT.out.kept K) (HD8.out.weak (fun _ hk => by cases hk)) (fun _ h => by cases h)).mono ?_
          rintro e w13 ⟨r9, rfl, hr9, hk⟩
          clear hHeld
          replace kr := kr.trans hk
          replace OD := Lib.hid (ODr.out.kept kr)
          replace OE := Lib.hid (OEr.out.kept kr)
          replace OX := Lib.hid (OXr.out.kept kr)
          replace HD := Lib.hid (HDr.out.go kr (Ext.refl _ _))
          replace HW := Lib.hid (HWr.out.go kr (Ext.refl _ _))
          replace HKA := Lib.hid (HKAr.out.go kr (Ext.refl _ _))
          replace HKB := Lib.hid (HKBr.out.go kr (Ext.refl _ _))
          replace HR1 := Lib.hid (HR1r.out.go kr (Ext.refl _ _))
          replace HDX := Lib.hid (HDXr.out.go kr (Ext.refl _ _))
          replace HD8 := Lib.hid (HD8r.out.go kr (Ext.refl _ _))
          replace K := Kr.trans kr
          have HR9 := Lib.hid hr9
          clear hr9
          obtain ⟨QB, qb, rfl, hq3, hq4, _⟩ := HR9.out
          unfold maxLen at hq4
          have HRL := Lib.hid (repOps_len x1)
          clear hk
          go_simp
          refine hKK.out _ _ ?_ (fun hHeld => ?_)
          · exact kr
          clear hKK KK
          (try simp only [Act.put, List.setIfInBounds_toArray, List.set_cons_zero, List.set_cons_succ])
          refine wpAnyZ_ready (rs := [4]) (by kernel_rfl) (by simp) ?_
          refine AllReadyZ.cons (o := { dst := some 91, op := Op.call { callee := Callee.value (Operand.func 29), args := #[Operand.tmp 87, Operand.tmp 89, Operand.tmp 90], argTypes := #[25, 33, 3] }, type := 25, pos := "law.go:112", after := #[{ on := 0, ground := Ground.data }, { on := 2, ground := Ground.data }, { on := 3, ground := Ground.data }, { on := 2, ground := Ground.chain }], guard := none }) rfl (fun KK hKK => ?_) AllReadyZ.nil
          go_simp
          refine (run_any [w10.heap.size] x1 (repOps x1) more _ _ w13 HD8.out HR9.out (Old.cons OX.out.lt (fun _ h => by cases h)) (by rw [HX1.out]; exact Nat.zero_le _) (by have := HRL.out; omega)).mono ?_
          rintro e w14 ⟨s10, c10, rfl, hd, hk⟩
          clear hHeld
          replace kr := kr.trans hk
          replace OD := Lib.hid (ODr.out.kept kr)
          replace OE := Lib.hid (OEr.out.kept kr)
          replace OX := Lib.hid (OXr.out.kept kr)
          replace HD := Lib.hid (HDr.out.go kr (Ext.refl _ _))
          replace HW := Lib.hid (HWr.out.go kr (Ext.refl _ _))
          replace HKA := Lib.hid (HKAr.out.go kr (Ext.refl _ _))
          replace HKB := Lib.hid (HKBr.out.go kr (Ext.refl _ _))
          replace HR1 := Lib.hid (HR1r.out.go kr (Ext.refl _ _))
          replace HDX := Lib.hid (HDXr.out.go kr (Ext.refl _ _))
          replace HD8 := Lib.hid (HD8r.out.go kr (Ext.refl _ _))
          replace K := Kr.trans kr
          generalize hR2 : runO x1 (repOps x1) more.toNat = r2 at *
          clear hR2
          have HD10 := Lib.hid hd
          obtain ⟨A10, c10, B10, e10, rfl, rfl⟩ := hd.form
          clear hd
          generalize r2.sec.length = n10 at HD10 ⊢
          generalize r2.cache.length = m10 at HD10 ⊢
          clear hk
          go_simp
          refine hKK.out _ _ ?_ (fun hHeld => ?_)
          · exact kr
          clear hKK KK
          (try simp only [Act.put, List.setIfInBounds_toArray, List.set_cons_zero, List.set_cons_succ])
          refine wpAnyZ_ready (rs := [6]) (by kernel_rfl) (by simp) ?_
          refine AllReadyZ.cons (o := { dst := some 93, op := Op.call { callee := Callee.value (Operand.func 28), args := #[Operand.tmp 91, Operand.tmp 92], argTypes := #[25, 57] }, type := 25, pos := "law.go:112", after := #[{ on := 4, ground := Ground.data }, { on := 5, ground := Ground.data }, { on := 4, ground := Ground.chain }], guard := none }) rfl (fun KK hKK => ?_) AllReadyZ.nil
          go_simp
          refine (crash_any [w10.heap.size] r2 kept _ _ w14 HD10.out (HKB.out) (Old.cons OX.out.lt (fun _ h => by cases h)) (by have := HC2.out; omega)).mono ?_
          rintro e w15 ⟨s11, c11, rfl, hd, hk⟩
          clear hHeld
          replace kr := kr.trans hk
          replace OD := Lib.hid (ODr.out.kept kr)
          replace OE := Lib.hid (OEr.out.kept kr)
          replace OX := Lib.hid (OXr.out.kept kr)
          replace HD := Lib.hid (HDr.out.go kr (Ext.refl _ _))
          replace HW := Lib.hid (HWr.out.go kr (Ext.refl _ _))
          replace HKA := Lib.hid (HKAr.out.go kr (Ext.refl _ _))
          replace HKB := Lib.hid (HKBr.out.go kr (Ext.refl _ _))
          replace HR1 := Lib.hid (HR1r.out.go kr (Ext.refl _ _))
          replace HDX := Lib.hid (HDXr.out.go kr (Ext.refl _ _))
          replace HD8 := Lib.hid (HD8r.out.go kr (Ext.refl _ _))
          replace K := Kr.trans kr
          rw [HRUN2.out] at hd
          have HD11 := Lib.hid hd
          obtain ⟨A11, c11, B11, e11, rfl, rfl⟩ := hd.form
          clear hd
          generalize x2.sec.length = n11 at HD11 ⊢
          generalize x2.cache.length = m11 at HD11 ⊢
          clear hk
          go_simp
          refine hKK.out _ _ ?_ (fun hHeld => ?_)
          · exact kr
          clear hKK KK
          (try simp only [Act.put, List.setIfInBounds_toArray, List.set_cons_zero, List.set_cons_succ])
          refine wpAnyZ_ready (rs := [7]) (by kernel_rfl) (by simp) ?_
          refine AllReadyZ.late (o := { dst := none, op := Op.store 25 (Operand.tmp 17) (Operand.tmp 93), type := 0, pos := "law.go:112", after := #[{ on := 6, ground := Ground.data }, { on := 6, ground := Ground.chain }, { on := 0, ground := Ground.phase }, { on := 1, ground := Ground.phase }, { on := 2, ground := Ground.phase }, { on := 3, ground := Ground.phase }, { on := 4, ground := Ground.phase }, { on := 5, ground := Ground.phase }, { on := 6, ground := Ground.phase }], guard := none }) rfl (by simp) (fun KK hKK => ?_) AllReadyZ.nil
          obtain ⟨cX0, cX1, fX0, fX1⟩ := OX.out.two
          go_simp
          have hxb := HXB.out
          clear cX0 cX1 fX0 fX1
          replace OD : Hid (Own ((w15.setCell ⟨w10.heap.size, 0, none⟩ (.slice A11 n11 c11)).setCell ⟨w10.heap.size, 1, none⟩ (.slice B11 m11 e11)) w.heap.size 25 [.slice (some ⟨b, o, none⟩) n0 c0, .slice B0 0 e0]) := Lib.hid ((OD.out.far (p := ⟨w10.heap.size, 0, none⟩) (by first | omega | (simp; omega) | simp) (.slice A11 n11 c11)).far (p := ⟨w10.heap.size, 1, none⟩) (by first | omega | (simp; omega) | simp) (.slice B11 m11 e11))
          replace OE : Hid (Own ((w15.setCell ⟨w10.heap.size, 0, none⟩ (.slice A11 n11 c11)).setCell ⟨w10.heap.size, 1, none⟩ (.slice B11 m11 e11)) w7.heap.size 25 [.slice A6 n0 c6, .slice B6 0 e6]) := Lib.hid ((OE.out.far (p := ⟨w10.heap.size, 0, none⟩) (by first | omega | (simp; omega) | simp) (.slice A11 n11 c11)).far (p := ⟨w10.heap.size, 1, none⟩) (by first | omega | (simp; omega) | simp) (.slice B11 m11 e11))
          replace OX : Hid (Own ((w15.setCell ⟨w10.heap.size, 0, none⟩ (.slice A11 n11 c11)).setCell ⟨w10.heap.size, 1, none⟩ (.slice B11 m11 e11)) w10.heap.size 25 [.slice A11 n11 c11, .slice B11 m11 e11]) := Lib.hid ((OX.out.set_ 0 (.slice A11 n11 c11)).set_ 1 (.slice B11 m11 e11))
          replace HD := Lib.hid ((HD.out.put (p := ⟨w10.heap.size, 0, none⟩) (by simp) (.slice A11 n11 c11)).put (p := ⟨w10.heap.size, 1, none⟩) (by simp) (.slice B11 m11 e11))
          replace HDX := Lib.hid ((HDX.out.put (p := ⟨w10.heap.size, 0, none⟩) (by simp) (.slice A11 n11 c11)).put (p := ⟨w10.heap.size, 1, none⟩) (by simp) (.slice B11 m11 e11))
          replace HD11 := Lib.hid ((HD11.out.put (p := ⟨w10.heap.size, 0, none⟩) (by simp) (.slice A11 n11 c11)).put (p := ⟨w10.heap.size, 1, none⟩) (by simp) (.slice B11 m11 e11))
          replace K := ((K.setCell (p := ⟨w10.heap.size, 0, none⟩) (by first | exact Nat.le_refl _ | (simp only []; omega) | simp) (.slice A11 n11 c11)).setCell (p := ⟨w10.heap.size, 1, none⟩) (by first | exact Nat.le_refl _ | (simp only []; omega) | simp) (.slice B11 m11 e11))
          generalize ((w15.setCell ⟨w10.heap.size, 0, none⟩ (.slice A11 n11 c11)).setCell ⟨w10.heap.size, 1, none⟩ (.slice B11 m11 e11)) = w16 at *
          refine hKK.out _ _ ?_
          clear hKK KK
          (try simp only [Act.put, List.setIfInBounds_toArray, List.set_cons_zero, List.set_cons_succ])
          refine wpAnyZ_done (by kernel_rfl) ?_ _
          clear CD0 CD1 CE0 CE1 CX0 CX1 ODr OEr OXr HDr HWr HKAr HKBr HR1r HDXr HD8r Kr zr hHeld kr
          clear HD8
          obtain ⟨cD0, cD1, fD0, fD1⟩ := OD.out.two
          obtain ⟨cE0, cE1, fE0, fE1⟩ := OE.out.two
          obtain ⟨cX0, cX1, fX0, fX1⟩ := OX.out.two
          go_wp2_with fail
          refine (recover_any [w10.heap.size] x2 _ _ (HT.out.kept K) HD11.out (Old.cons OX.out.lt (fun _ h => by cases h)) (by rw [HX2.out]; exact Nat.zero_le _)).mono ?_
          rintro e w17 ⟨s12, c12, rfl, hd, hk⟩
          clear cD0 cD1 fD0 fD1 cE0 cE1 fE0 fE1 cX0 cX1 fX0 fX1
          replace OD := Lib.hid (OD.out.kept hk)
          replace OE := Lib.hid (OE.out.kept hk)
          replace OX := Lib.hid (OX.out.kept hk)
          replace HD := Lib.hid (HD.out.go hk (Ext.refl _ _))
          replace HDX := Lib.hid (HDX.out.go hk (Ext.refl _ _))
          replace HD11 := Lib.hid (HD11.out.go hk (Ext.refl _ _))
          replace K := K.trans hk
          generalize recD x2 = y at *
          have HD12 := Lib.hid hd
          obtain ⟨A12, c12, B12, e12, rfl, rfl⟩ := hd.form
          clear hd
          rw [HX3.out.len, HX3.out.nil, HN0.out] at HD12 ⊢
          dsimp only [List.length_nil] at HD12 ⊢
          clear hk
          clear HD11
          have hrow := HD12.out.rows.2.2.2.2.2.2.1
          obtain ⟨b3, o3, rfl, hb3, hv3, hcs3⟩ := hrow (by rw [strs_length, HX3.out.len, HN0.out]; omega)
          have g3 := hcs3 0 _ (strs_atS (n := 0) (by rw [HX3.out.len, HN0.out]; omega))
          rw [Nat.add_zero] at g3
          have hs3 : (atS y.sec 0).size = 64 := (right_parts HX3.out.right).2.2.1 _ (atS_mem (by rw [HX3.out.len, HN0.out]; omega))
          obtain ⟨s3, hse⟩ : ∃ s3, atS y.sec 0 = s3 := ⟨_, rfl⟩
          rw [hse] at g3 hs3
          have t3 : ((s3[0].toNat : Int) == 74) = false := beq_f (fun e => HX3.out.no (by rw [hse, byteAt_lt (show 0 < s3.size by omega)]; exact UInt8.toNat_inj.1 (by show s3[0].toNat = 74; omega)))
          have t4 : s3.toList.isEmpty = false := by rw [ByteArray.toList_eq, List.isEmpty_eq_false_iff]; intro e; have : s3.size = 0 := by show s3.data.size = 0; rw [← Array.length_toList, e]; rfl
                                                    omega
          have hb3n : ¬ b3 = w10.heap.size := fun e => hv3 (by rw [e]; exact List.mem_cons_self)
          have hb3m : ¬ w10.heap.size = b3 := fun e => hb3n e.symm
          clear hcs3 hrow hse hv3
          have i3 : 0 < n0 := by omega
          have HLB := Lib.hid HX3.out.below
          have hxb := HXB.out
          obtain ⟨cD0, cD1, fD0, fD1⟩ := OD.out.two
          obtain ⟨cE0, cE1, fE0, fE1⟩ := OE.out.two
          obtain ⟨cX0, cX1, fX0, fX1⟩ := OX.out.two
          go_wp2_with fail
          clear cD0 cD1 fD0 fD1 cE0 cE1 fE0 fE1 cX0 cX1 fX0 fX1
          replace OD : Hid (Own ((w17.setCell ⟨w10.heap.size, 0, none⟩ (.slice (some ⟨b3, o3, none⟩) n0 c12)).setCell ⟨w10.heap.size, 1, none⟩ (.slice B12 0 e12)) w.heap.size 25 [.slice (some ⟨b, o, none⟩) n0 c0, .slice B0 0 e0]) := Lib.hid ((OD.out.far (p := ⟨w10.heap.size, 0, none⟩) (by first | omega | (simp; omega) | simp) (.slice (some ⟨b3, o3, none⟩) n0 c12)).far (p := ⟨w10.heap.size, 1, none⟩) (by first | omega | (simp; omega) | simp) (.slice B12 0 e12))
          replace OE : Hid (Own ((w17.setCell ⟨w10.heap.size, 0, none⟩ (.slice (some ⟨b3, o3, none⟩) n0 c12)).setCell ⟨w10.heap.size, 1, none⟩ (.slice B12 0 e12)) w7.heap.size 25 [.slice A6 n0 c6, .slice B6 0 e6]) := Lib.hid ((OE.out.far (p := ⟨w10.heap.size, 0, none⟩) (by first | omega | (simp; omega) | simp) (.slice (some ⟨b3, o3, none⟩) n0 c12)).far (p := ⟨w10.heap.size, 1, none⟩) (by first | omega | (simp; omega) | simp) (.slice B12 0 e12))
          replace OX : Hid (Own ((w17.setCell ⟨w10.heap.size, 0, none⟩ (.slice (some ⟨b3, o3, none⟩) n0 c12)).setCell ⟨w10.heap.size, 1, none⟩ (.slice B12 0 e12)) w10.heap.size 25 [.slice (some ⟨b3, o3, none⟩) n0 c12, .slice B12 0 e12]) := Lib.hid ((OX.out.set_ 0 (.slice (some ⟨b3, o3, none⟩) n0 c12)).set_ 1 (.slice B12 0 e12))
          replace HD := Lib.hid ((HD.out.put (p := ⟨w10.heap.size, 0, none⟩) (by simp) (.slice (some ⟨b3, o3, none⟩) n0 c12)).put (p := ⟨w10.heap.size, 1, none⟩) (by simp) (.slice B12 0 e12))
          replace HDX := Lib.hid ((HDX.out.put (p := ⟨w10.heap.size, 0, none⟩) (by simp) (.slice (some ⟨b3, o3, none⟩) n0 c12)).put (p := ⟨w10.heap.size, 1, none⟩) (by simp) (.slice B12 0 e12))
          replace HD12 := Lib.hid ((HD12.out.put (p := ⟨w10.heap.size, 0, none⟩) (by simp) (.slice (some ⟨b3, o3, none⟩) n0 c12)).put (p := ⟨w10.heap.size, 1, none⟩) (by simp) (.slice B12 0 e12))
          replace K := ((K.setCell (p := ⟨w10.heap.size, 0, none⟩) (by first | exact Nat.le_refl _ | (simp only []; omega) | simp) (.slice (some ⟨b3, o3, none⟩) n0 c12)).setCell (p := ⟨w10.heap.size, 1, none⟩) (by first | exact Nat.le_refl _ | (simp only []; omega) | simp) (.slice B12 0 e12))
          generalize ((w17.setCell ⟨w10.heap.size, 0, none⟩ (.slice (some ⟨b3, o3, none⟩) n0 c12)).setCell ⟨w10.heap.size, 1, none⟩ (.slice B12 0 e12)) = w18 at *
          refine (below_any y d _ _ _ (HD12.out.weak (U := []) (fun _ hk => by cases hk)) (HD.out.weak (U := []) (fun _ hk => by cases hk)) HX3.out.len.symm HX3.out.nil HNIL.out).mono ?_
          rintro e w19 ⟨rfl, hk⟩
          replace OD := Lib.hid (OD.out.kept hk)
          replace OE := Lib.hid (OE.out.kept hk)
          replace OX := Lib.hid (OX.out.kept hk)
          replace HD := Lib.hid (HD.out.go hk (Ext.refl _ _))
          replace HDX := Lib.hid (HDX.out.go hk (Ext.refl _ _))
          replace HD12 := Lib.hid (HD12.out.go hk (Ext.refl _ _))
          replace K := K.trans hk
          clear hk
          rcases Bool.eq_false_or_eq_true (belowTo y.sec d.sec y.sec.length) with hq | hq
          · rw [hq]
            clear hq
            obtain ⟨cD0, cD1, fD0, fD1⟩ := OD.out.two
            obtain ⟨cE0, cE1, fE0, fE1⟩ := OE.out.two
            obtain ⟨cX0, cX1, fX0, fX1⟩ := OX.out.two
            go_wp2_with fail
            refine (awake10 _ (HT.out.kept K)).mono ?_
            rintro e w20 ⟨rfl, hk⟩
            clear cD0 cD1 fD0 fD1 cE0 cE1 fE0 fE1 cX0 cX1 fX0 fX1
            replace OD := Lib.hid (OD.out.kept hk)
            replace OE := Lib.hid (OE.out.kept hk)
            replace OX := Lib.hid (OX.out.kept hk)
            replace HD := Lib.hid (HD.out.go hk (Ext.refl _ _))
            replace HDX := Lib.hid (HDX.out.go hk (Ext.refl _ _))
            replace HD12 := Lib.hid (HD12.out.go hk (Ext.refl _ _))
            replace K := K.trans hk
            clear hk
            go_wp2
            go_ret
            exact ⟨rfl, K⟩
          · rw [hq]
            have HQ2 := Lib.hid (HLB.out.resolve_left (by rw [hq]; simp))
            clear hq
            obtain ⟨cD0, cD1, fD0, fD1⟩ := OD.out.two
            obtain ⟨cE0, cE1, fE0, fE1⟩ := OE.out.two
            obtain ⟨cX0, cX1, fX0, fX1⟩ := OX.out.two
            go_wp2_with fail
            refine (below_any y dn _ _ _ (HD12.out.weak (U := []) (fun _ hk => by cases hk)) (HDX.out.weak (U := []) (fun _ hk => by cases hk)) (HXL.out.trans HX3.out.len.symm) HX3.out.nil HXC.out).mono ?_
            rintro e w20 ⟨rfl, hk⟩
            clear cD0 cD1 fD0 fD1 cE0 cE1 fE0 fE1 cX0 cX1 fX0 fX1
            replace OD := Lib.hid (OD.out.kept hk)
            replace OE := Lib.hid (OE.out.kept hk)
            replace OX := Lib.hid (OX.out.kept hk)
            replace HD := Lib.hid (HD.out.go hk (Ext.refl _ _))
            replace HDX := Lib.hid (HDX.out.go hk (Ext.refl _ _))
            replace HD12 := Lib.hid (HD12.out.go hk (Ext.refl _ _))
            replace K := K.trans hk
            rw [HQ2.out]
            clear hk
            obtain ⟨cD0, cD1, fD0, fD1⟩ := OD.out.two
            obtain ⟨cE0, cE1, fE0, fE1⟩ := OE.out.two
            obtain ⟨cX0, cX1, fX0, fX1⟩ := OX.out.two
            go_wp2_with fail
            refine (awake10 _ (HT.out.kept K)).mono ?_
            rintro e w21 ⟨rfl, hk⟩
            clear cD0 cD1 fD0 fD1 cE0 cE1 fE0 fE1 cX0 cX1 fX0 fX1
            replace OD := Lib.hid (OD.out.kept hk)
            replace OE := Lib.hid (OE.out.kept hk)
            replace OX := Lib.hid (OX.out.kept hk)
            replace HD := Lib.hid (HD.out.go hk (Ext.refl _ _))
            replace HDX := Lib.hid (HDX.out.go hk (Ext.refl _ _))
            replace HD12 := Lib.hid (HD12.out.go hk (Ext.refl _ _))
            replace K := K.trans hk
            clear hk
            go_wp2
            go_ret
            exact ⟨rfl, K⟩
        · have t2 := bne_t he
          have hcr : commitR d l = (⟨[], []⟩, planErr d l) := by unfold commitR; rw [if_neg he]
          rw [hcr] at hd ⊢
          dsimp only at hd ⊢
          obtain ⟨A6, c6, B6, e6, rfl, rfl⟩ := hd.form
          dsimp only [List.length_nil] at hd ⊢
          clear hd hcr
          have HEE := Lib.hid he
          clear he HPL
          generalize planErr d l = pe at *
          have t3 := beq_t (rfl : pe = pe)
          obtain ⟨cD0, cD1, fD0, fD1⟩ := OD.out.two
          go_wp2_with fail
          clear cD0 cD1 fD0 fD1
          replace OD := Lib.hid (OD.out.alloc (.cells #[.slice A6 0 c6, .slice B6 0 e6] 25))
          have OE := Lib.hid (Own.new w7 25 [.slice A6 0 c6, .slice B6 0 e6])
          replace HD := Lib.hid (HD.out.go ((Kept.refl w7).alloc (.cells #[.slice A6 0 c6, .slice B6 0 e6] 25)) (Ext.refl _ _))
          replace HW := Lib.hid (HW.out.go ((Kept.refl w7).alloc (.cells #[.slice A6 0 c6, .slice B6 0 e6] 25)) (Ext.refl _ _))
          replace HKA := Lib.hid (HKA.out.go ((Kept.refl w7).alloc (.cells #[.slice A6 0 c6, .slice B6 0 e6] 25)) (Ext.refl _ _))
          replace HKB := Lib.hid (HKB.out.go ((Kept.refl w7).alloc (.cells #[.slice A6 0 c6, .slice B6 0 e6] 25)) (Ext.refl _ _))
          replace HR1 := Lib.hid (HR1.out.go ((Kept.refl w7).alloc (.cells #[.slice A6 0 c6, .slice B6 0 e6] 25)) (Ext.refl _ _))
          replace K := K.alloc (.cells #[.slice A6 0 c6, .slice B6 0 e6] 25)
          generalize (w7.alloc (.cells #[.slice A6 0 c6, .slice B6 0 e6] 25)) = w8 at *
          obtain ⟨cD0, cD1, fD0, fD1⟩ := OD.out.two
          obtain ⟨cE0, cE1, fE0, fE1⟩ := OE.out.two
          refine (awake10 _ (HT.out.kept K)).mono ?_
          rintro e w9 ⟨rfl, hk⟩
          clear cD0 cD1 fD0 fD1 cE0 cE1 fE0 fE1
          replace OD := Lib.hid (OD.out.kept hk)
          replace OE := Lib.hid (OE.out.kept hk)
          replace HD := Lib.hid (HD.out.go hk (Ext.refl _ _))
          replace HW := Lib.hid (HW.out.go hk (Ext.refl _ _))
          replace HKA := Lib.hid (HKA.out.go hk (Ext.refl _ _))
          replace HKB := Lib.hid (HKB.out.go hk (Ext.refl _ _))
          replace HR1 := Lib.hid (HR1.out.go hk (Ext.refl _ _))
          replace K := K.trans hk
          clear hk
          go_wp2
          go_ret
          exact ⟨rfl, K⟩
      · rw [hr]
        clear hr
        obtain ⟨cD0, cD1, fD0, fD1⟩ := OD.out.two
        go_wp2_with fail
        refine (awake10 _ (HT.out.kept K)).mono ?_
        rintro e w6 ⟨rfl, hk⟩
        clear cD0 cD1 fD0 fD1
        replace OD := Lib.hid (OD.out.kept hk)
        replace HD := Lib.hid (HD.out.go hk (Ext.refl _ _))
        replace HW := Lib.hid (HW.out.go hk (Ext.refl _ _))
        replace HKA := Lib.hid (HKA.out.go hk (Ext.refl _ _))
        replace HKB := Lib.hid (HKB.out.go hk (Ext.refl _ _))
        replace K := K.trans hk
        clear hk
        go_wp2
        go_ret
        exact ⟨rfl, K⟩
    · rw [hf]
      clear hf
      obtain ⟨cD0, cD1, fD0, fD1⟩ := OD.out.two
      go_wp2_with fail
      refine (awake10 _ (HT.out.kept K)).mono ?_
      rintro e w5 ⟨rfl, hk⟩
      clear cD0 cD1 fD0 fD1
      replace OD := Lib.hid (OD.out.kept hk)
      replace HD := Lib.hid (HD.out.go hk (Ext.refl _ _))
      replace HW := Lib.hid (HW.out.go hk (Ext.refl _ _))
      replace HKA := Lib.hid (HKA.out.go hk (Ext.refl _ _))
      replace HKB := Lib.hid (HKB.out.go hk (Ext.refl _ _))
      replace K := K.trans hk
      clear hk
      go_wp2
      go_ret
      exact ⟨rfl, K⟩
  · rw [hs]
    clear hs
    obtain ⟨cD0, cD1, fD0, fD1⟩ := OD.out.two
    go_wp2_with fail
    refine (awake10 _ (HT.out.kept K)).mono ?_
    rintro e w4 ⟨rfl, hk⟩
    clear cD0 cD1 fD0 fD1
    replace OD := Lib.hid (OD.out.kept hk)
    replace HD := Lib.hid (HD.out.go hk (Ext.refl _ _))
    replace HW := Lib.hid (HW.out.go hk (Ext.refl _ _))
    replace HKA := Lib.hid (HKA.out.go hk (Ext.refl _ _))
    replace HKB := Lib.hid (HKB.out.go hk (Ext.refl _ _))
    replace K := K.trans hk
    clear hk
    go_wp2
    go_ret
    exact ⟨rfl, K⟩
end Go.Proofs.YtagpimahicgkmaaDoor
