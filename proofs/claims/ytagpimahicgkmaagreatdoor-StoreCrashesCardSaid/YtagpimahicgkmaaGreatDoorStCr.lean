/- Walk: mailsacklaw12.StoreCrashes. -/
import Derived.Test.YtagpimahicgkmaaGreatDoorAw12
import Derived.Test.YtagpimahicgkmaaGreatDoorStSm
import Derived.Test.YtagpimahicgkmaaGreatDoorMa
namespace Go.Proofs.YtagpimahicgkmaaGreatDoor
open Go.RowKit

theorem refs_len {l : List Chg} (h : refsB l = true) : l.length ≤ 21 := by
  unfold refsB at h
  simp only [Bool.and_eq_true, decide_eq_true_eq] at h
  exact h.1
def sC (s : ByteArray) : List Value := [.string s]
theorem strs_sC (l : List ByteArray) : strs l = l.flatMap sC := by
  induction l with
  | nil => rfl
  | cons a l ih => show _ :: strs l = _; rw [ih]; rfl
theorem Tryz.elS : Elem Tryz.prog 28 9 1 16 sC :=
  Elem.of (z := .string ⟨#[]⟩) (by kernel_rfl) (by kernel_rfl) rfl (by omega) (fun _ => rfl)
theorem sC_one (l : List ByteArray) : ∀ u ∈ l.flatMap sC, u.oneCell' = true := by
  intro u hu
  obtain ⟨x, _, hx⟩ := List.mem_flatMap.1 hu
  simp only [sC, List.mem_cons, List.not_mem_nil, or_false] at hx
  subst hx; rfl
theorem own_low {w : World} {b b2 size n : Nat} {e : TypeId} {v : Value} {xs : List Value} (h : w.ownsRow b2 e size v n xs) (hb : b ≤ b2) : w.ownsRow b e size v n xs := by
  refine ⟨h.1, h.2.imp id fun ⟨g, cap, cur, hv, hg, r⟩ => ⟨g, cap, cur, hv, Nat.le_trans hb hg, r⟩⟩
theorem own_grown {w w' : World} {g : Nat} {t : TypeId} {cs : List Value} {v : Value} (h : Own w g t cs) (hg : w.grownBy w' v.ownBlock) (hne : ∀ k, v.ownBlock = some k → k ≠ g) : Own w' g t cs := by
  have := hg.block g h.lt (fun e => hne g e.symm rfl)
  unfold Own at *
  rw [this]; exact h
theorem own_ne {w : World} {v v' : Value} {g : Nat} (h : v'.ownBlock = v.ownBlock ∨ v'.ownBlock = some w.heap.size) (hne : ∀ k, v.ownBlock = some k → k ≠ g) (hg : g < w.heap.size) : ∀ k, v'.ownBlock = some k → k ≠ g := fun k e => by
  rcases h with h | h
  · exact hne k (by rw [← h]; exact e)
  · rw [h] at e; injection e with e; omega

theorem run_cache2 (d : Dk) (l : List WOp) (k : Nat) : (runO d l k).cache.length ≤ d.cache.length + l.length := by
  rcases Nat.lt_or_ge l.length k with h | h
  · rw [run_over d l (by omega), ← run_all]; exact run_cache d l _
  · have := run_cache d l k; omega
/-- A transaction of changes, cut off, and repaired. -/
theorem crash_law {dd : Dk} {l : List Chg} (hg : Good dd) (he : (writesR dd l).2 = 0) (h0 : (writesR dd l).1.length ≠ 0) : planErr dd (writesR dd l).1 = 0 ∧ (planL dd (writesR dd l).1).length ≤ 96 ∧ Good (applyR dd l).1 ∧ ∀ (part : Int) (keep : List Int), Like dd (recD (crashD (runO dd (planL dd (writesR dd l).1) part.toNat) keep)) ∨ Like (applyR dd l).1 (recD (crashD (runO dd (planL dd (writesR dd l).1) part.toNat) keep)) := by
  obtain ⟨q, hq, hqw, h30, hi, hw, hz, ht⟩ := writes_ok hg he
  have hk := hg.ok (by omega) h30 hw
  have hp := ok_plan hk
  have ea : (applyR dd l).1 = doneD dd (writesR dd l).1 := by
    unfold applyR
    rw [if_pos he, if_neg h0]
    unfold commitR
    rw [if_pos hp]
  have e2 : (applyR dd l).2 = 0 := by rw [applyR_code hg, he]
  refine ⟨hp, ?_, (apply_good hg e2).1, fun part keep => ?_⟩
  · rw [planL_yes hp, planOps_len]; omega
  · rw [ea]; exact crash_like hg hk part keep

set_option maxRecDepth 100000 in
set_option maxHeartbeats 8000000 in
theorem stCrashes_any (fs l : List Chg) (part : Int) (keep : List Int) (v u kv : Value) (w : World) (ht : Tabs w) (hfs : ChgsAt [] w v fs) (hls : ChgsAt [] w u l) (hka : IntsAt [] w kv keep) :
    Calls Tryz.prog 3 #[v, u, .int .i64 part, kv] w fun e w' => e = .returned (.bool true) ∧ Kept w w' := by
  have HKA := Lib.hid hka
  obtain ⟨KA, kc, rfl, hka1, hka2, _⟩ := hka
  unfold maxLen at hka2
  have HT := Lib.hid ht
  have HFS := Lib.hid hfs
  have HLS := Lib.hid hls
  have HFL := Lib.hid formD_len
  obtain ⟨FA, fc, rfl, hf1, hf2, hfr⟩ := hfs
  obtain ⟨LA, lc, rfl, hl1, hl2, hlr⟩ := hls
  unfold maxLen at hf2 hl2
  have HFR := Lib.hid hfr
  have HLR := Lib.hid hlr
  clear ht hfr hlr
  go_enter Tryz.func3, Tryz.ntmps3
  have K := Kept.refl w
  go_wp2_with fail
  refine (refs12_any fs _ _ (HFS.out.go K (Ext.refl _ _))).mono ?_
  rintro e w1 ⟨rw1, rfl, hk⟩
  replace K := K.trans hk
  clear hk
  rcases Bool.eq_false_or_eq_true (refsB fs) with hf | hf
  · rw [hf]
    by_cases hkl : 200 < keep.length
    · have t0 : (keep.length : Int) > 200 := by omega
      clear hf hkl
      go_wp2_with fail
      refine (awake12 _ (HT.out.kept K)).mono ?_
      rintro e w2 ⟨rfl, hk⟩
      replace K := K.trans hk
      clear hk
      go_wp2
      go_ret
      exact ⟨rfl, K⟩
    · have t0 : ¬ (keep.length : Int) > 200 := by omega
      go_wp2_with fail
      refine (refs12_any l _ _ (HLS.out.go K (Ext.refl _ _))).mono ?_
      rintro e w2 ⟨rw2, rfl, hk⟩
      replace K := K.trans hk
      clear hk
      rcases Bool.eq_false_or_eq_true (refsB l) with hl | hl
      · rw [hl]
        have HLL := Lib.hid (refs_len hl)
        clear hf hl
        go_wp2_with fail
        refine (format_any [] _ (fun _ h => by cases h)).mono ?_
        rintro e w3 ⟨s1, c1, rfl, hd1, hk⟩
        replace K := K.trans hk
        obtain ⟨A0, k0, B0, e0, rfl, rfl⟩ := hd1.form
        rw [HFL.out.1, HFL.out.2] at hd1 ⊢
        have HD := Lib.hid hd1
        clear hd1
        have hwk := K.size
        generalize hf0 : formD = d0 at *
        have HD0 := Lib.hid hf0
        clear hf0
        clear hk
        replace HD := Lib.hid (HD.out.go (Kept.refl _) (Ext.cons (Nat.le_refl _) (Ext.nil _ _)))
        go_upto_region 8 with fail
        have OD := Lib.hid (Own.new w3 31 [.slice A0 381 k0, .slice B0 0 e0])
        replace HD := Lib.hid (HD.out.go ((Kept.refl w3).alloc (.cells #[.slice A0 381 k0, .slice B0 0 e0] 31)) (Ext.refl _ _))
        replace K := K.alloc (.cells #[.slice A0 381 k0, .slice B0 0 e0] 31)
        generalize (w3.alloc (.cells #[.slice A0 381 k0, .slice B0 0 e0] 31)) = w4 at *
        generalize hgd : w3.heap.size = gd at *
        have HGD : Hid (w.heap.size ≤ gd) := by show _ ≤ _; omega
        clear hgd hwk
        go_wp2_with fail
        go_loopw [60] (fun iv wq => ∃ (k : Nat), k ≤ fs.length ∧ iv = .int .i64 k ∧ ∃ (A : Option Addr) (c : Nat) (B : Option Addr) (e : Nat), Own wq gd 31 [.slice A 381 c, .slice B 0 e] ∧ DkAt [gd] wq (.agg #[.slice A 381 c, .slice B 0 e]) (madeTo fs k) ∧ Kept w wq) (fun iv _ => fs.length - (intOf iv).toNat)
        case atStart => exact ⟨0, Nat.zero_le _, rfl, A0, k0, B0, e0, OD.out, (by show DkAt _ _ _ formD; rw [HD0.out]; exact HD.out), K⟩
        case round =>
          clear OD HD K
          obtain ⟨k, hk, rfl, A1, c1, B1, e1, hod, hhd, K⟩ := hrel
          have OD := Lib.hid hod
          have HD := Lib.hid hhd
          clear hod hhd
          by_cases hlt : k < fs.length
          · skip
            obtain ⟨cb, co, rfl, hcb, _, hcc⟩ := HFR.out (by rw [chg_len]; omega)
            have g0 := (K.cell (p := ⟨cb, co + k * 3, none⟩) hcb).trans (hcc (k * 3) _ ((chg_at hlt 0 (by omega)).trans rfl))
            have g1 := (K.cell (p := ⟨cb, co + k * 3 + 1, none⟩) hcb).trans (hcc (k * 3 + 1) _ ((chg_at hlt 1 (by omega)).trans rfl))
            have g2 := (K.cell (p := ⟨cb, co + k * 3 + 2, none⟩) hcb).trans (hcc (k * 3 + 2) _ ((chg_at hlt 2 (by omega)).trans rfl))
            clear hcc
            have HMS : Hid (madeTo fs (k + 1) = if (applyR (madeTo fs k) [fs[k]]).2 = 0 then (applyR (madeTo fs k) [fs[k]]).1 else madeTo fs k) := by
              show madeTo fs (k + 1) = _
              rw [madeTo, List.getElem?_eq_getElem hlt]
            have HGO := Lib.hid (made_good fs k)
            have HGN := Lib.hid (made_good fs (k + 1))
            generalize hdn : madeTo fs (k + 1) = dn at *
            have HDN := Lib.hid hdn
            clear hdn
            generalize madeTo fs k = dk at *
            generalize fs[k] = ch at *
            obtain ⟨nm, x, rm⟩ := ch
            simp only at g0 g1 g2
            generalize hcl : [(⟨nm, x, rm⟩ : Chg)] = cl at *
            have HCL := Lib.hid hcl
            clear hcl
            obtain ⟨cD0, cD1, fD0, fD1⟩ := OD.out.two
            have zd := OD.out.lt
            go_wp2_with fail
            clear cD0 cD1 fD0 fD1
            clear g0 g1 g2
            have OX := Lib.hid (Own.new1 wr (.cells #[.string nm, .string x, .bool rm] 34) 34 [.string nm, .string x, .bool rm])
            replace OD := Lib.hid ((OD.out.alloc (.cells #[.string nm, .string x, .bool rm] 34)).alloc (.cells #[.string nm, .string x, .bool rm] 34))
            replace HD := Lib.hid (HD.out.go (((Kept.refl wr).alloc (.cells #[.string nm, .string x, .bool rm] 34)).alloc (.cells #[.string nm, .string x, .bool rm] 34)) (Ext.refl _ _))
            replace K := (K.alloc (.cells #[.string nm, .string x, .bool rm] 34)).alloc (.cells #[.string nm, .string x, .bool rm] 34)
            generalize wr.heap.size + 1 = bx at *
            generalize ((wr.alloc (.cells #[.string nm, .string x, .bool rm] 34)).alloc (.cells #[.string nm, .string x, .bool rm] 34)) = wv at *
            have HCX : Hid (ChgsAt [] wv (.slice (some ⟨bx, 0, none⟩) 1 1) cl) := by rw [← HCL.out]; exact ⟨_, _, rfl, Nat.le_refl _, by decide, OX.out.row (by simp)⟩
            have hcn : cl.length ≤ 100 := by rw [← HCL.out]; simp
            clear OX
            refine (apply_any [gd] dk cl _ _ _ (HT.out.kept K) HD.out HCX.out (Old.cons OD.out.lt (fun _ h => by cases h)) (by rw [HGO.out.nil]; exact Nat.zero_le _) hcn).mono ?_
            rintro e w5 ⟨s2, c2, rfl, hd2, hk⟩
            replace OD := Lib.hid (OD.out.kept hk)
            replace HD := Lib.hid (HD.out.go hk (Ext.refl _ _))
            replace K := K.trans hk
            clear hcn HCX HCL
            clear hk
            by_cases he : (applyR dk cl).2 = 0
            · rw [if_pos he] at HMS
              rw [← HMS.out] at hd2
              rw [he]
              clear he
              obtain ⟨A2, k2, B2, e2, rfl, rfl⟩ := hd2.form
              rw [HGN.out.len, HGN.out.nil] at hd2 ⊢
              dsimp only [List.length_nil] at hd2 ⊢
              have HD2 := Lib.hid hd2
              clear hd2 HD HMS HGO HGN
              go_upto_region 12 with fail
              replace OD := Lib.hid (OD.out.alloc (.cells #[.slice A2 381 k2, .slice B2 0 e2] 31))
              have OY := Lib.hid (Own.new w5 31 [.slice A2 381 k2, .slice B2 0 e2])
              replace HD2 := Lib.hid (HD2.out.go ((Kept.refl w5).alloc (.cells #[.slice A2 381 k2, .slice B2 0 e2] 31)) (Ext.refl _ _))
              replace K := K.alloc (.cells #[.slice A2 381 k2, .slice B2 0 e2] 31)
              generalize (w5.alloc (.cells #[.slice A2 381 k2, .slice B2 0 e2] 31)) = w6 at *
              have zy := OY.out.lt
              have zg := OD.out.lt
              obtain ⟨cD0, cD1, fD0, fD1⟩ := OD.out.two
              obtain ⟨cY0, cY1, fY0, fY1⟩ := OY.out.two
              go_wp2
              clear OY
              clear cD0 cD1 fD0 fD1 cY0 cY1 fY0 fY1
              go_roundw
              case rel => exact ⟨k + 1, by omega, by go_num, A2, k2, B2, e2, (OD.out.set_ 0 _).set_ 1 _, (by rw [HDN.out]; exact (HD2.out.put (p := ⟨gd, 0, none⟩) (by simp) _).put (p := ⟨gd, 1, none⟩) (by simp) _), (K.setCell (p := ⟨gd, 0, none⟩) HGD.out _).setCell (p := ⟨gd, 1, none⟩) HGD.out _⟩
              case measure => simp [intOf]; omega
            · rw [if_neg he] at HMS
              clear HGN
              have t1 := beq_f he
              generalize (applyR dk cl).2 = code at *
              clear he
              obtain ⟨A2, k2, B2, e2, rfl, rfl⟩ := hd2.form
              generalize (applyR dk cl).1.sec.length = n2 at *
              generalize (applyR dk cl).1.cache.length = m2 at *
              clear hd2
              obtain ⟨cD0, cD1, fD0, fD1⟩ := OD.out.two
              have zg := OD.out.lt
              go_wp2
              clear cD0 cD1 fD0 fD1
              go_roundw
              case rel => exact ⟨k + 1, by omega, by go_num, A1, c1, B1, e1, OD.out.alloc _, (by rw [HDN.out, HMS.out]; exact HD.out.go ((Kept.refl _).alloc _) (Ext.refl _ _)), K.alloc _⟩
              case measure => simp [intOf]; omega
          · obtain rfl : k = fs.length := by omega
            have HG := Lib.hid (made_good fs fs.length)
            generalize madeTo fs fs.length = dd at *
            obtain ⟨cD0, cD1, fD0, fD1⟩ := OD.out.two
            go_wp2_with fail
            refine (writes_any dd l _ _ _ (HD.out.weak (fun _ hk => by cases hk)) (HLS.out.go K (Ext.refl _ _)) (by have := HLL.out; omega)).mono ?_
            rintro e w5 ⟨r5, rfl, hr5, hk⟩
            clear cD0 cD1 fD0 fD1
            replace OD := Lib.hid (OD.out.kept hk)
            replace HD := Lib.hid (HD.out.go hk (Ext.refl _ _))
            replace K := K.trans hk
            have HCD := Lib.hid (applyR_code HG.out l)
            have hcw := fun he h0 => crash_law (l := l) HG.out he h0
            have HCW := Lib.hid hcw
            clear hcw
            generalize writesR dd l = wr9 at *
            obtain ⟨ws, code⟩ := wr9
            dsimp only at hr5 HCD HCW ⊢
            have HWS := Lib.hid hr5
            obtain ⟨QA, qc, rfl, hq1, hq2, _⟩ := hr5
            unfold maxLen at hq2
            clear hk
            obtain ⟨cD0, cD1, fD0, fD1⟩ := OD.out.two
            go_wp2_with fail
            refine (apply_any [] dd l _ _ _ (HT.out.kept K) (HD.out.weak (fun _ hk => by cases hk)) (HLS.out.go K (Ext.refl _ _)) (fun _ h => by cases h) (by rw [HG.out.nil]; exact Nat.zero_le _) (by have := HLL.out; omega)).mono ?_
            rintro e w6 ⟨s6, c6, rfl, hd6, hk⟩
            clear cD0 cD1 fD0 fD1
            replace OD := Lib.hid (OD.out.kept hk)
            replace HD := Lib.hid (HD.out.go hk (Ext.refl _ _))
            replace HWS := Lib.hid (HWS.out.go hk (Ext.refl _ _))
            replace K := K.trans hk
            rw [HCD.out]
            generalize (applyR dd l).1 = dn at *
            obtain ⟨A6, k6, B6, e6, rfl, rfl⟩ := hd6.form
            clear hk
            by_cases he : code = 0
            · subst he
              by_cases h0 : ws.length = 0
              · have t1 : ((ws.length : Nat) : Int) = 0 := by omega
                clear hd6 HCW HCD
                generalize dn.sec.length = n6 at *
                generalize dn.cache.length = m6 at *
                obtain ⟨cD0, cD1, fD0, fD1⟩ := OD.out.two
                go_wp2_with fail
                clear cD0 cD1 fD0 fD1
                replace K := K.alloc (.cells #[.slice A6 n6 k6, .slice B6 m6 e6] 31)
                refine (awake12 _ (HT.out.kept K)).mono ?_
                rintro e w7 ⟨rfl, hk⟩
                replace K := K.trans hk
                clear hk
                go_wp2
                go_ret
                exact ⟨rfl, K⟩
              · have t1 := beq_f (show ((ws.length : Nat) : Int) ≠ 0 by omega)
                obtain ⟨hpe, hpl, hgn, hlk⟩ := HCW.out rfl h0
                replace hlk := hlk part keep
                have HPE := Lib.hid hpe
                have HPL := Lib.hid hpl
                have HGN := Lib.hid hgn
                have HLK := Lib.hid hlk
                have hr1 := run_cache2 dd (planL dd ws) part.toNat
                rw [HG.out.nil] at hr1
                have hr2 : rightB (runO dd (planL dd ws) part.toNat) = true := (fold_right _ HG.out.right).1
                have hr3 := (crash_right hr2 keep).2.1
                rw [hgn.len, hgn.nil] at hd6 ⊢
                dsimp only [List.length_nil] at hd6 hr1 ⊢
                rw [Nat.zero_add] at hr1
                have HDN := Lib.hid hd6
                clear hd6 hpe hgn hlk HCW HCD h0
                have HR1 : Hid ((runO dd (planL dd ws) part.toNat).cache.length ≤ 96) := Nat.le_trans hr1 hpl
                have HR3 := Lib.hid hr3
                clear hr1 hr2 hr3 hpl
                go_upto_region 19 with fail
                replace OD := Lib.hid (OD.out.alloc (.cells #[.slice A6 381 k6, .slice B6 0 e6] 31))
                have OE := Lib.hid (Own.new w6 31 [.slice A6 381 k6, .slice B6 0 e6])
                replace HD := Lib.hid (HD.out.go ((Kept.refl w6).alloc (.cells #[.slice A6 381 k6, .slice B6 0 e6] 31)) (Ext.refl _ _))
                replace HWS := Lib.hid (HWS.out.go ((Kept.refl w6).alloc (.cells #[.slice A6 381 k6, .slice B6 0 e6] 31)) (Ext.refl _ _))
                replace HDN := Lib.hid (HDN.out.go ((Kept.refl w6).alloc (.cells #[.slice A6 381 k6, .slice B6 0 e6] 31)) (Ext.refl _ _))
                replace K := K.alloc (.cells #[.slice A6 381 k6, .slice B6 0 e6] 31)
                generalize (w6.alloc (.cells #[.slice A6 381 k6, .slice B6 0 e6] 31)) = w7 at *
                obtain ⟨cD0, cD1, fD0, fD1⟩ := OD.out.two
                obtain ⟨cE0, cE1, fE0, fE1⟩ := OE.out.two
                go_wp2_with fail
                refine (plan_any [] dd ws _ _ _ (HT.out.kept K) (HD.out.weak (fun _ hk => by cases hk)) HWS.out (fun _ h => by cases h)).mono ?_
                rintro e w8 ⟨r7, rfl, hr7, hk⟩
                clear cD0 cD1 fD0 fD1 cE0 cE1 fE0 fE1
                replace OD := Lib.hid (OD.out.kept hk)
                replace OE := Lib.hid (OE.out.kept hk)
                replace HD := Lib.hid (HD.out.go hk (Ext.refl _ _))
                replace HWS := Lib.hid (HWS.out.go hk (Ext.refl _ _))
                replace HDN := Lib.hid (HDN.out.go hk (Ext.refl _ _))
                replace K := K.trans hk
                rw [HPE.out]
                have HOP := Lib.hid hr7
                obtain ⟨PA, pc, rfl, hp1, hp2, _⟩ := hr7
                unfold maxLen at hp2
                clear hk
                clear HWS
                obtain ⟨cD0, cD1, fD0, fD1⟩ := OD.out.two
                obtain ⟨cE0, cE1, fE0, fE1⟩ := OE.out.two
                go_wp2_with fail
                refine (run_any [] dd (planL dd ws) part _ _ _ (HD.out.weak (fun _ hk => by cases hk)) HOP.out (fun _ h => by cases h) (by rw [HG.out.nil]; exact Nat.zero_le _) (by have := HPL.out; omega)).mono ?_
                rintro e w9 ⟨s8, c8, rfl, hd8, hk⟩
                clear cD0 cD1 fD0 fD1 cE0 cE1 fE0 fE1
                replace OD := Lib.hid (OD.out.kept hk)
                replace OE := Lib.hid (OE.out.kept hk)
                replace HD := Lib.hid (HD.out.go hk (Ext.refl _ _))
                replace HDN := Lib.hid (HDN.out.go hk (Ext.refl _ _))
                replace HOP := Lib.hid (HOP.out.go hk (Ext.refl _ _))
                replace K := K.trans hk
                generalize runO dd (planL dd ws) part.toNat = r1 at *
                have HD8 := Lib.hid hd8
                obtain ⟨A8, k8, B8, e8, rfl, rfl⟩ := hd8.form
                clear hd8
                generalize r1.sec.length = n8 at *
                generalize hm8 : r1.cache.length = m8 at *
                have HM8 := Lib.hid hm8
                clear hm8
                clear hk
                obtain ⟨cD0, cD1, fD0, fD1⟩ := OD.out.two
                obtain ⟨cE0, cE1, fE0, fE1⟩ := OE.out.two
                go_wp2_with fail
                refine (crash_any [] r1 keep _ _ _ HD8.out (HKA.out.go K (Ext.refl _ _)) (fun _ h => by cases h) (by have h1 := HR1.out; have h2 := HM8.out; omega)).mono ?_
                rintro e w10 ⟨s9, c9, rfl, hd9, hk⟩
                clear cD0 cD1 fD0 fD1 cE0 cE1 fE0 fE1
                replace OD := Lib.hid (OD.out.kept hk)
                replace OE := Lib.hid (OE.out.kept hk)
                replace HD := Lib.hid (HD.out.go hk (Ext.refl _ _))
                replace HDN := Lib.hid (HDN.out.go hk (Ext.refl _ _))
                replace HOP := Lib.hid (HOP.out.go hk (Ext.refl _ _))
                replace HD8 := Lib.hid (HD8.out.go hk (Ext.refl _ _))
                replace K := K.trans hk
                generalize crashD r1 keep = x1 at *
                have HD9 := Lib.hid hd9
                obtain ⟨A9, k9, B9, e9, rfl, rfl⟩ := hd9.form
                clear hd9
                generalize x1.sec.length = n9 at *
                rw [HR3.out] at HD9 ⊢
                dsimp only [List.length_nil] at HD9 ⊢
                clear hk
                clear HD8
                obtain ⟨cD0, cD1, fD0, fD1⟩ := OD.out.two
                obtain ⟨cE0, cE1, fE0, fE1⟩ := OE.out.two
                go_wp2_with fail
                refine (recover_any [] x1 _ _ (HT.out.kept K) HD9.out (fun _ h => by cases h) (by rw [HR3.out]; exact Nat.zero_le _)).mono ?_
                rintro e w11 ⟨s10, c10, rfl, hd10, hk⟩
                clear cD0 cD1 fD0 fD1 cE0 cE1 fE0 fE1
                replace OD := Lib.hid (OD.out.kept hk)
                replace OE := Lib.hid (OE.out.kept hk)
                replace HD := Lib.hid (HD.out.go hk (Ext.refl _ _))
                replace HDN := Lib.hid (HDN.out.go hk (Ext.refl _ _))
                replace HOP := Lib.hid (HOP.out.go hk (Ext.refl _ _))
                replace HD9 := Lib.hid (HD9.out.go hk (Ext.refl _ _))
                replace K := K.trans hk
                generalize recD x1 = xx at *
                have HDX := Lib.hid hd10
                obtain ⟨A10, k10, B10, e10, rfl, rfl⟩ := hd10.form
                clear hd10
                generalize xx.sec.length = n10 at *
                generalize xx.cache.length = m10 at *
                clear hk
                clear HD9
                clear HOP
                obtain ⟨cD0, cD1, fD0, fD1⟩ := OD.out.two
                obtain ⟨cE0, cE1, fE0, fE1⟩ := OE.out.two
                go_upto_region 23 with fail
                clear cD0 cD1 fD0 fD1 cE0 cE1 fE0 fE1
                replace OD := Lib.hid (OD.out.alloc (.cells #[.slice A10 n10 k10, .slice B10 m10 e10] 31))
                replace OE := Lib.hid (OE.out.alloc (.cells #[.slice A10 n10 k10, .slice B10 m10 e10] 31))
                have OX := Lib.hid (Own.new w11 31 [.slice A10 n10 k10, .slice B10 m10 e10])
                replace HD := Lib.hid (HD.out.go ((Kept.refl w11).alloc (.cells #[.slice A10 n10 k10, .slice B10 m10 e10] 31)) (Ext.refl _ _))
                replace HDN := Lib.hid (HDN.out.go ((Kept.refl w11).alloc (.cells #[.slice A10 n10 k10, .slice B10 m10 e10] 31)) (Ext.refl _ _))
                replace HDX := Lib.hid (HDX.out.go ((Kept.refl w11).alloc (.cells #[.slice A10 n10 k10, .slice B10 m10 e10] 31)) (Ext.refl _ _))
                replace K := K.alloc (.cells #[.slice A10 n10 k10, .slice B10 m10 e10] 31)
                generalize (w11.alloc (.cells #[.slice A10 n10 k10, .slice B10 m10 e10] 31)) = w12 at *
                have hn1 := names_le dd
                have hn2 := names_le dn
                have HLA : Hid (Like dd xx → namesR xx = namesR dd) := fun k => like_names HG.out k
                have HLB : Hid (Like dn xx → namesR xx = namesR dn) := fun k => like_names HGN.out k
                generalize hN1 : namesR dd = N1 at *
                generalize hN2 : namesR dn = N2 at *
                generalize hN3 : namesR xx = N3 at *
                have HN1 := Lib.hid hN1
                have HN2 := Lib.hid hN2
                have HN3 := Lib.hid hN3
                clear hN1 hN2 hN3
                have CD0 : ∀ W', Kept w12 W' → W'.cell? ⟨gd, 0, none⟩ = some (.slice A1 381 c1) := fun W' hk => (OD.out.kept hk).cell? 0
                have CD1 : ∀ W', Kept w12 W' → W'.cell? ⟨gd, 1, none⟩ = some (.slice B1 0 e1) := fun W' hk => (OD.out.kept hk).cell? 1
                have CE0 : ∀ W', Kept w12 W' → W'.cell? ⟨w6.heap.size, 0, none⟩ = some (.slice A6 381 k6) := fun W' hk => (OE.out.kept hk).cell? 0
                have CE1 : ∀ W', Kept w12 W' → W'.cell? ⟨w6.heap.size, 1, none⟩ = some (.slice B6 0 e6) := fun W' hk => (OE.out.kept hk).cell? 1
                have CX0 : ∀ W', Kept w12 W' → W'.cell? ⟨w11.heap.size, 0, none⟩ = some (.slice A10 n10 k10) := fun W' hk => (OX.out.kept hk).cell? 0
                have CX1 : ∀ W', Kept w12 W' → W'.cell? ⟨w11.heap.size, 1, none⟩ = some (.slice B10 m10 e10) := fun W' hk => (OX.out.kept hk).cell? 1
                refine wp_region_Z (S := fun W' => Kept w12 W') (Z := []) (by kernel_rfl) ((Kept.refl w12).drew) (fun hHeld => ?_)
                have kr := (Kept.refl w12).drew
                have Kr := K
                have zr := K.size
                have ODr := OD
                have OEr := OE
                have OXr := OX
                have HDr := HD
                have HDNr := HDN
                have HDXr := HDX
                replace OD := Lib.hid (ODr.out.kept kr)
                replace OE := Lib.hid (OEr.out.kept kr)
                replace OX := Lib.hid (OXr.out.kept kr)
                replace HD := Lib.hid (HDr.out.go kr (Ext.refl _ _))
                replace HDN := Lib.hid (HDNr.out.go kr (Ext.refl _ _))
                replace HDX := Lib.hid (HDXr.out.go kr (Ext.refl _ _))
                replace K := Kr.trans kr
                generalize w12.drew = w13 at *
                refine wpAnyZ_take (i := 0) (oi := { dst := some 115, op := Op.load 31 (Operand.tmp 13), type := 31, pos := "law.go:181", after := #[], guard := none }) (v := ?_) rfl (by kernel_rfl) (fun _ _ _ h => h) (Or.inl ⟨by rfl, ?_⟩) (by assumption) ?_
                rotate_left
                · (intro wz hSw; (try dsimp only at hSw); go_simp; (try with_reducible rfl))
                (try simp only [Act.put, List.setIfInBounds_toArray, List.set_cons_zero, List.set_cons_succ])
                refine wpAnyZ_take (i := 2) (oi := { dst := some 117, op := Op.load 31 (Operand.tmp 20), type := 31, pos := "law.go:181", after := #[], guard := none }) (v := ?_) rfl (by kernel_rfl) (fun _ _ _ h => h) (Or.inl ⟨by rfl, ?_⟩) (by assumption) ?_
                rotate_left
                · (intro wz hSw; (try dsimp only at hSw); go_simp; (try with_reducible rfl))
                (try simp only [Act.put, List.setIfInBounds_toArray, List.set_cons_zero, List.set_cons_succ])
                refine wpAnyZ_ready (rs := [1]) (by kernel_rfl) (by simp) ?_
                refine AllReadyZ.cons (o := { dst := some 116, op := Op.call { callee := Callee.value (Operand.func 13), args := #[Operand.tmp 115], argTypes := #[31] }, type := 28, pos := "law.go:181", after := #[{ on := 0, ground := Ground.data }], guard := none }) rfl (fun KK hKK => ?_) AllReadyZ.nil
                go_simp
                refine (names_own dd _ _ (HD.out.weak (fun _ hk => by cases hk))).mono ?_
                rintro e w14 ⟨rA, rfl, hr1, hk⟩
                clear hHeld
                rw [HN1.out] at hr1
                have HA : Hid (World.ownsRow w14 w12.heap.size 9 1 rA N1.length (N1.flatMap sC)) := by show World.ownsRow _ _ _ _ _ _ _; rw [← strs_sC]; exact own_low hr1 kr.size
                clear hr1
                replace kr := kr.trans hk
                replace OD := Lib.hid (ODr.out.kept kr)
                replace OE := Lib.hid (OEr.out.kept kr)
                replace OX := Lib.hid (OXr.out.kept kr)
                replace HD := Lib.hid (HDr.out.go kr (Ext.refl _ _))
                replace HDN := Lib.hid (HDNr.out.go kr (Ext.refl _ _))
                replace HDX := Lib.hid (HDXr.out.go kr (Ext.refl _ _))
                replace K := Kr.trans kr
                clear hk
                go_wp2_with fail
                refine hKK.out _ _ ?_ (fun hHeld => ?_)
                · exact kr
                clear hKK KK
                (try simp only [Act.put, List.setIfInBounds_toArray, List.set_cons_zero, List.set_cons_succ])
                refine wpAnyZ_ready (rs := [3]) (by kernel_rfl) (by simp) ?_
                refine AllReadyZ.cons (o := { dst := some 118, op := Op.call { callee := Callee.value (Operand.func 13), args := #[Operand.tmp 117], argTypes := #[31] }, type := 28, pos := "law.go:181", after := #[{ on := 2, ground := Ground.data }, { on := 1, ground := Ground.chain }], guard := none }) rfl (fun KK hKK => ?_) AllReadyZ.nil
                go_simp
                refine (names_own dn _ _ HDN.out).mono ?_
                rintro e w15 ⟨rB, rfl, hr2, hk⟩
                clear hHeld
                rw [HN2.out] at hr2
                have HB := Lib.hid (strsAt_row (V := []) hr2 (fun _ h => by cases h))
                clear hr2
                obtain ⟨QB, qb, rfl, _, _, _⟩ := HB.out
                replace HA := Lib.hid (ownsRow_kept HA.out hk)
                replace kr := kr.trans hk
                replace OD := Lib.hid (ODr.out.kept kr)
                replace OE := Lib.hid (OEr.out.kept kr)
                replace OX := Lib.hid (OXr.out.kept kr)
                replace HD := Lib.hid (HDr.out.go kr (Ext.refl _ _))
                replace HDN := Lib.hid (HDNr.out.go kr (Ext.refl _ _))
                replace HDX := Lib.hid (HDXr.out.go kr (Ext.refl _ _))
                replace K := Kr.trans kr
                clear hk
                go_wp2_with fail
                refine hKK.out _ _ ?_ (fun hHeld => ?_)
                · exact kr
                clear hKK KK
                (try simp only [Act.put, List.setIfInBounds_toArray, List.set_cons_zero, List.set_cons_succ])
                refine wpAnyZ_ready (rs := [4]) (by kernel_rfl) (by simp) ?_
                refine AllReadyZ.cons (o := { dst := some 119, op := Op.call { callee := Callee.builtin Builtin.append, args := #[Operand.tmp 116, Operand.tmp 118], argTypes := #[28, 28] }, type := 28, pos := "law.go:181", after := #[{ on := 1, ground := Ground.data }, { on := 3, ground := Ground.data }, { on := 3, ground := Ground.chain }], guard := none }) rfl (fun KK hKK => ?_) AllReadyZ.nil
                refine Tryz.elS.step_app rfl _ _ rfl w12.heap.size rA N1 rfl HA.out [] QB qb N2 rfl (by obtain ⟨_, _, e9, _, _, h9⟩ := HB.out; cases e9; rw [← strs_sC]; exact h9) (sC_one _) (by unfold maxLen; omega) (by omega) kr.size ?_
                intro vA w16 hap hgr hat
                replace kr := kr.grown hgr (fun k e => (HA.out.lt k e).1)
                clear hHeld
                replace OD := Lib.hid (ODr.out.kept kr)
                replace OE := Lib.hid (OEr.out.kept kr)
                replace OX := Lib.hid (OXr.out.kept kr)
                replace HD := Lib.hid (HDr.out.go kr (Ext.refl _ _))
                replace HDN := Lib.hid (HDNr.out.go kr (Ext.refl _ _))
                replace HDX := Lib.hid (HDXr.out.go kr (Ext.refl _ _))
                replace K := Kr.trans kr
                clear HA HB
                have HA := Lib.hid hap
                obtain ⟨AA, cA, rfl, _, hA2, _⟩ := own_form (V := []) hap (by simp)
                unfold maxLen at hA2
                clear hap hgr hat
                have hnA : (N1 ++ N2).length ≤ 64 := by rw [List.length_append]; omega
                generalize N1 ++ N2 = NN at *
                refine hKK.out _ _ ?_ (fun hHeld => ?_)
                · exact kr
                clear hKK KK
                (try simp only [Act.put, List.setIfInBounds_toArray, List.set_cons_zero, List.set_cons_succ])
                refine wpAnyZ_take (i := 5) (oi := { dst := some 25, op := Op.assign (Operand.tmp 119), type := 28, pos := "law.go:181", after := #[{ on := 4, ground := Ground.data }, { on := 4, ground := Ground.chain }, { on := 0, ground := Ground.phase }, { on := 1, ground := Ground.phase }, { on := 2, ground := Ground.phase }, { on := 3, ground := Ground.phase }, { on := 4, ground := Ground.phase }], guard := none }) (v := ?_) rfl (by kernel_rfl) (fun _ _ _ h => h) (Or.inl ⟨by rfl, ?_⟩) (by assumption) ?_
                rotate_left
                · (intro wz hSw; (try dsimp only at hSw); go_simp; (try with_reducible rfl))
                (try simp only [Act.put, List.setIfInBounds_toArray, List.set_cons_zero, List.set_cons_succ])
                refine wpAnyZ_done (by kernel_rfl) ?_ _
                clear CD0 CD1 CE0 CE1 CX0 CX1 ODr OEr OXr HDr HDNr HDXr Kr zr hHeld kr
                have HS9 := Lib.hid (strsAt_row (V := []) (l := NN) (by rw [strs_sC]; exact HA.out) (fun _ h => by cases h))
                clear HA
                rcases HLK.out with hlk | hlk
                · have HNE : Hid (N3 = N1) := HLA.out hlk
                  have HGE : Hid (∀ n, getR xx n = getR dd n) := fun n => like_get HG.out hlk n
                  clear hlk HLA HLB
                  go_upto_region 24 with fail
                  have CD0 : ∀ W', Kept w16 W' → W'.cell? ⟨gd, 0, none⟩ = some (.slice A1 381 c1) := fun W' hk => (OD.out.kept hk).cell? 0
                  have CD1 : ∀ W', Kept w16 W' → W'.cell? ⟨gd, 1, none⟩ = some (.slice B1 0 e1) := fun W' hk => (OD.out.kept hk).cell? 1
                  have CE0 : ∀ W', Kept w16 W' → W'.cell? ⟨w6.heap.size, 0, none⟩ = some (.slice A6 381 k6) := fun W' hk => (OE.out.kept hk).cell? 0
                  have CE1 : ∀ W', Kept w16 W' → W'.cell? ⟨w6.heap.size, 1, none⟩ = some (.slice B6 0 e6) := fun W' hk => (OE.out.kept hk).cell? 1
                  have CX0 : ∀ W', Kept w16 W' → W'.cell? ⟨w11.heap.size, 0, none⟩ = some (.slice A10 n10 k10) := fun W' hk => (OX.out.kept hk).cell? 0
                  have CX1 : ∀ W', Kept w16 W' → W'.cell? ⟨w11.heap.size, 1, none⟩ = some (.slice B10 m10 e10) := fun W' hk => (OX.out.kept hk).cell? 1
                  refine wp_region_Z (S := fun W' => Kept w16 W') (Z := []) (by kernel_rfl) ((Kept.refl w16).drew) (fun hHeld => ?_)
                  have kr := (Kept.refl w16).drew
                  have Kr := K
                  have zr := K.size
                  have ODr := OD
                  have OEr := OE
                  have OXr := OX
                  have HDr := HD
                  have HDNr := HDN
                  have HDXr := HDX
                  have HS9r := HS9
                  replace OD := Lib.hid (ODr.out.kept kr)
                  replace OE := Lib.hid (OEr.out.kept kr)
                  replace OX := Lib.hid (OXr.out.kept kr)
                  replace HD := Lib.hid (HDr.out.go kr (Ext.refl _ _))
                  replace HDN := Lib.hid (HDNr.out.go kr (Ext.refl _ _))
                  replace HDX := Lib.hid (HDXr.out.go kr (Ext.refl _ _))
                  replace HS9 := Lib.hid (HS9r.out.go kr (Ext.refl _ _))
                  replace K := Kr.trans kr
                  generalize w16.drew = w17 at *
                  refine wpAnyZ_take (i := 0) (oi := { dst := some 120, op := Op.load 31 (Operand.tmp 24), type := 31, pos := "law.go:182", after := #[], guard := none }) (v := ?_) rfl (by kernel_rfl) (fun _ _ _ h => h) (Or.inl ⟨by rfl, ?_⟩) (by assumption) ?_
                  rotate_left
                  · (intro wz hSw; (try dsimp only at hSw); go_simp; (try with_reducible rfl))
                  (try simp only [Act.put, List.setIfInBounds_toArray, List.set_cons_zero, List.set_cons_succ])
                  refine wpAnyZ_take (i := 2) (oi := { dst := some 122, op := Op.load 31 (Operand.tmp 13), type := 31, pos := "law.go:182", after := #[], guard := none }) (v := ?_) rfl (by kernel_rfl) (fun _ _ _ h => h) (Or.inl ⟨by rfl, ?_⟩) (by assumption) ?_
                  rotate_left
                  · (intro wz hSw; (try dsimp only at hSw); go_simp; (try with_reducible rfl))
                  (try simp only [Act.put, List.setIfInBounds_toArray, List.set_cons_zero, List.set_cons_succ])
                  refine wpAnyZ_take (i := 5) (oi := { dst := some 125, op := Op.load 31 (Operand.tmp 24), type := 31, pos := "law.go:182", after := #[], guard := none }) (v := ?_) rfl (by kernel_rfl) (fun _ _ _ h => h) (Or.inl ⟨by rfl, ?_⟩) (by assumption) ?_
                  rotate_left
                  · (intro wz hSw; (try dsimp only at hSw); go_simp; (try with_reducible rfl))
                  (try simp only [Act.put, List.setIfInBounds_toArray, List.set_cons_zero, List.set_cons_succ])
                  refine wpAnyZ_take (i := 7) (oi := { dst := some 127, op := Op.load 31 (Operand.tmp 20), type := 31, pos := "law.go:182", after := #[], guard := none }) (v := ?_) rfl (by kernel_rfl) (fun _ _ _ h => h) (Or.inl ⟨by rfl, ?_⟩) (by assumption) ?_
                  rotate_left
                  · (intro wz hSw; (try dsimp only at hSw); go_simp; (try with_reducible rfl))
                  (try simp only [Act.put, List.setIfInBounds_toArray, List.set_cons_zero, List.set_cons_succ])
                  refine wpAnyZ_ready (rs := [1]) (by kernel_rfl) (by simp) ?_
                  refine AllReadyZ.cons (o := { dst := some 121, op := Op.call { callee := Callee.value (Operand.func 13), args := #[Operand.tmp 120], argTypes := #[31] }, type := 28, pos := "law.go:182", after := #[{ on := 0, ground := Ground.data }], guard := none }) rfl (fun KK hKK => ?_) AllReadyZ.nil
                  go_simp
                  refine (names_any [] xx _ _ HDX.out (fun _ h => by cases h)).mono ?_
                  rintro e w18 ⟨q1, rfl, hq1, hk⟩
                  clear hHeld
                  replace kr := kr.trans hk
                  replace OD := Lib.hid (ODr.out.kept kr)
                  replace OE := Lib.hid (OEr.out.kept kr)
                  replace OX := Lib.hid (OXr.out.kept kr)
                  replace HD := Lib.hid (HDr.out.go kr (Ext.refl _ _))
                  replace HDN := Lib.hid (HDNr.out.go kr (Ext.refl _ _))
                  replace HDX := Lib.hid (HDXr.out.go kr (Ext.refl _ _))
                  replace HS9 := Lib.hid (HS9r.out.go kr (Ext.refl _ _))
                  replace K := Kr.trans kr
                  rw [HN3.out] at hq1
                  have HS1 := Lib.hid hq1
                  clear hq1
                  clear hk
                  go_simp
                  refine hKK.out _ _ ?_ (fun hHeld => ?_)
                  · exact kr
                  clear hKK KK
                  (try simp only [Act.put, List.setIfInBounds_toArray, List.set_cons_zero, List.set_cons_succ])
                  refine wpAnyZ_ready (rs := [3]) (by kernel_rfl) (by simp) ?_
                  refine AllReadyZ.cons (o := { dst := some 123, op := Op.call { callee := Callee.value (Operand.func 13), args := #[Operand.tmp 122], argTypes := #[31] }, type := 28, pos := "law.go:182", after := #[{ on := 2, ground := Ground.data }, { on := 1, ground := Ground.chain }], guard := none }) rfl (fun KK hKK => ?_) AllReadyZ.nil
                  go_simp
                  refine (names_any [] dd _ _ (HD.out.weak (fun _ hk => by cases hk)) (fun _ h => by cases h)).mono ?_
                  rintro e w19 ⟨q2, rfl, hq2, hk⟩
                  clear hHeld
                  replace kr := kr.trans hk
                  replace OD := Lib.hid (ODr.out.kept kr)
                  replace OE := Lib.hid (OEr.out.kept kr)
                  replace OX := Lib.hid (OXr.out.kept kr)
                  replace HD := Lib.hid (HDr.out.go kr (Ext.refl _ _))
                  replace HDN := Lib.hid (HDNr.out.go kr (Ext.refl _ _))
                  replace HDX := Lib.hid (HDXr.out.go kr (Ext.refl _ _))
                  replace HS9 := Lib.hid (HS9r.out.go kr (Ext.refl _ _))
                  replace K := Kr.trans kr
                  rw [HN1.out] at hq2
                  have HS2 := Lib.hid hq2
                  clear hq2
                  replace HS1 := Lib.hid (HS1.out.go hk (Ext.refl _ _))
                  clear hk
                  go_simp
                  refine hKK.out _ _ ?_ (fun hHeld => ?_)
                  · exact kr
                  clear hKK KK
                  (try simp only [Act.put, List.setIfInBounds_toArray, List.set_cons_zero, List.set_cons_succ])
                  refine wpAnyZ_ready (rs := [4]) (by kernel_rfl) (by simp) ?_
                  refine AllReadyZ.cons (o := { dst := some 124, op := Op.call { callee := Callee.value (Operand.func 14), args := #[Operand.tmp 121, Operand.tmp 123], argTypes := #[28, 28] }, type := 4, pos := "law.go:182", after := #[{ on := 1, ground := Ground.data }, { on := 3, ground := Ground.data }, { on := 3, ground := Ground.chain }], guard := none }) rfl (fun KK hKK => ?_) AllReadyZ.nil
                  go_simp
                  refine (same_any N3 N1 _ _ _ HS1.out HS2.out).mono ?_
                  rintro e w20 ⟨b1, rfl, hb1, hk⟩
                  clear hHeld
                  replace kr := kr.trans hk
                  replace OD := Lib.hid (ODr.out.kept kr)
                  replace OE := Lib.hid (OEr.out.kept kr)
                  replace OX := Lib.hid (OXr.out.kept kr)
                  replace HD := Lib.hid (HDr.out.go kr (Ext.refl _ _))
                  replace HDN := Lib.hid (HDNr.out.go kr (Ext.refl _ _))
                  replace HDX := Lib.hid (HDXr.out.go kr (Ext.refl _ _))
                  replace HS9 := Lib.hid (HS9r.out.go kr (Ext.refl _ _))
                  replace K := Kr.trans kr
                  have HB1 := Lib.hid hb1
                  clear hb1 HS1 HS2
                  clear hk
                  go_simp
                  refine hKK.out _ _ ?_ (fun hHeld => ?_)
                  · exact kr
                  clear hKK KK
                  (try simp only [Act.put, List.setIfInBounds_toArray, List.set_cons_zero, List.set_cons_succ])
                  refine wpAnyZ_ready (rs := [6]) (by kernel_rfl) (by simp) ?_
                  refine AllReadyZ.cons (o := { dst := some 126, op := Op.call { callee := Callee.value (Operand.func 13), args := #[Operand.tmp 125], argTypes := #[31] }, type := 28, pos := "law.go:182", after := #[{ on := 5, ground := Ground.data }, { on := 4, ground := Ground.chain }], guard := none }) rfl (fun KK hKK => ?_) AllReadyZ.nil
                  go_simp
                  refine (names_any [] xx _ _ HDX.out (fun _ h => by cases h)).mono ?_
                  rintro e w21 ⟨q3, rfl, hq3, hk⟩
                  clear hHeld
                  replace kr := kr.trans hk
                  replace OD := Lib.hid (ODr.out.kept kr)
                  replace OE := Lib.hid (OEr.out.kept kr)
                  replace OX := Lib.hid (OXr.out.kept kr)
                  replace HD := Lib.hid (HDr.out.go kr (Ext.refl _ _))
                  replace HDN := Lib.hid (HDNr.out.go kr (Ext.refl _ _))
                  replace HDX := Lib.hid (HDXr.out.go kr (Ext.refl _ _))
                  replace HS9 := Lib.hid (HS9r.out.go kr (Ext.refl _ _))
                  replace K := Kr.trans kr
                  rw [HN3.out] at hq3
                  have HS3 := Lib.hid hq3
                  clear hq3
                  clear hk
                  go_simp
                  refine hKK.out _ _ ?_ (fun hHeld => ?_)
                  · exact kr
                  clear hKK KK
                  (try simp only [Act.put, List.setIfInBounds_toArray, List.set_cons_zero, List.set_cons_succ])
                  refine wpAnyZ_ready (rs := [8]) (by kernel_rfl) (by simp) ?_
                  refine AllReadyZ.cons (o := { dst := some 128, op := Op.call { callee := Callee.value (Operand.func 13), args := #[Operand.tmp 127], argTypes := #[31] }, type := 28, pos := "law.go:182", after := #[{ on := 7, ground := Ground.data }, { on := 6, ground := Ground.chain }], guard := none }) rfl (fun KK hKK => ?_) AllReadyZ.nil
                  go_simp
                  refine (names_any [] dn _ _ HDN.out (fun _ h => by cases h)).mono ?_
                  rintro e w22 ⟨q4, rfl, hq4, hk⟩
                  clear hHeld
                  replace kr := kr.trans hk
                  replace OD := Lib.hid (ODr.out.kept kr)
                  replace OE := Lib.hid (OEr.out.kept kr)
                  replace OX := Lib.hid (OXr.out.kept kr)
                  replace HD := Lib.hid (HDr.out.go kr (Ext.refl _ _))
                  replace HDN := Lib.hid (HDNr.out.go kr (Ext.refl _ _))
                  replace HDX := Lib.hid (HDXr.out.go kr (Ext.refl _ _))
                  replace HS9 := Lib.hid (HS9r.out.go kr (Ext.refl _ _))
                  replace K := Kr.trans kr
                  rw [HN2.out] at hq4
                  have HS4 := Lib.hid hq4
                  clear hq4
                  replace HS3 := Lib.hid (HS3.out.go hk (Ext.refl _ _))
                  clear hk
                  go_simp
                  refine hKK.out _ _ ?_ (fun hHeld => ?_)
                  · exact kr
                  clear hKK KK
                  (try simp only [Act.put, List.setIfInBounds_toArray, List.set_cons_zero, List.set_cons_succ])
                  refine wpAnyZ_ready (rs := [9]) (by kernel_rfl) (by simp) ?_
                  refine AllReadyZ.cons (o := { dst := some 129, op := Op.call { callee := Callee.value (Operand.func 14), args := #[Operand.tmp 126, Operand.tmp 128], argTypes := #[28, 28] }, type := 4, pos := "law.go:182", after := #[{ on := 6, ground := Ground.data }, { on := 8, ground := Ground.data }, { on := 8, ground := Ground.chain }], guard := none }) rfl (fun KK hKK => ?_) AllReadyZ.nil
                  go_simp
                  refine (same_any N3 N2 _ _ _ HS3.out HS4.out).mono ?_
                  rintro e w23 ⟨b2, rfl, hb2, hk⟩
                  clear hHeld
                  replace kr := kr.trans hk
                  replace OD := Lib.hid (ODr.out.kept kr)
                  replace OE := Lib.hid (OEr.out.kept kr)
                  replace OX := Lib.hid (OXr.out.kept kr)
                  replace HD := Lib.hid (HDr.out.go kr (Ext.refl _ _))
                  replace HDN := Lib.hid (HDNr.out.go kr (Ext.refl _ _))
                  replace HDX := Lib.hid (HDXr.out.go kr (Ext.refl _ _))
                  replace HS9 := Lib.hid (HS9r.out.go kr (Ext.refl _ _))
                  replace K := Kr.trans kr
                  have HB2 := Lib.hid hb2
                  clear hb2 HS3 HS4
                  clear hk
                  go_simp
                  refine hKK.out _ _ ?_ (fun hHeld => ?_)
                  · exact kr
                  clear hKK KK
                  (try simp only [Act.put, List.setIfInBounds_toArray, List.set_cons_zero, List.set_cons_succ])
                  refine wpAnyZ_take (i := 10) (oi := { dst := some 26, op := Op.assign (Operand.tmp 124), type := 4, pos := "law.go:182", after := #[{ on := 4, ground := Ground.data }, { on := 9, ground := Ground.chain }, { on := 0, ground := Ground.phase }, { on := 1, ground := Ground.phase }, { on := 2, ground := Ground.phase }, { on := 3, ground := Ground.phase }, { on := 4, ground := Ground.phase }, { on := 5, ground := Ground.textOnly Departure.lateStores }, { on := 6, ground := Ground.textOnly Departure.lateStoresUnsure }, { on := 7, ground := Ground.textOnly Departure.lateStores }, { on := 8, ground := Ground.textOnly Departure.lateStoresUnsure }, { on := 9, ground := Ground.textOnly Departure.lateStoresUnsure }], guard := none }) (v := ?_) rfl (by kernel_rfl) (fun _ _ _ h => h) (Or.inl ⟨by rfl, ?_⟩) (by assumption) ?_
                  rotate_left
                  · (intro wz hSw; (try dsimp only at hSw); go_simp; (try with_reducible rfl))
                  (try simp only [Act.put, List.setIfInBounds_toArray, List.set_cons_zero, List.set_cons_succ])
                  refine wpAnyZ_take (i := 11) (oi := { dst := some 27, op := Op.assign (Operand.tmp 129), type := 4, pos := "law.go:182", after := #[{ on := 9, ground := Ground.data }, { on := 10, ground := Ground.chain }, { on := 0, ground := Ground.phase }, { on := 1, ground := Ground.phase }, { on := 2, ground := Ground.phase }, { on := 3, ground := Ground.phase }, { on := 4, ground := Ground.phase }, { on := 5, ground := Ground.phase }, { on := 6, ground := Ground.phase }, { on := 7, ground := Ground.phase }, { on := 8, ground := Ground.phase }, { on := 9, ground := Ground.phase }, { on := 10, ground := Ground.phase }], guard := none }) (v := ?_) rfl (by kernel_rfl) (fun _ _ _ h => h) (Or.inl ⟨by rfl, ?_⟩) (by assumption) ?_
                  rotate_left
                  · (intro wz hSw; (try dsimp only at hSw); go_simp; (try with_reducible rfl))
                  (try simp only [Act.put, List.setIfInBounds_toArray, List.set_cons_zero, List.set_cons_succ])
                  refine wpAnyZ_done (by kernel_rfl) ?_ _
                  clear CD0 CD1 CE0 CE1 CX0 CX1 ODr OEr OXr HDr HDNr HDXr HS9r Kr zr hHeld kr
                  have hb1 : b1 = true := HB1.out HNE.out
                  subst hb1
                  clear HB1 HB2
                  obtain ⟨AA2, cA2, e9, _, hA9, hA8⟩ := HS9.out
                  cases e9
                  have HNR := Lib.hid hA8
                  clear hA8 hA9 HS9
                  go_wp2_with fail
                  go_loopw [26, 27, 132] (fun av bv iv wq => ∃ (k : Nat) (b : Bool), k ≤ NN.length ∧ iv = .int .i64 k ∧ av = .bool true ∧ bv = .bool b ∧ Kept w23 wq) (fun _ _ iv _ => NN.length - (intOf iv).toNat)
                  case atStart => exact ⟨0, b2, Nat.zero_le _, rfl, rfl, rfl, Kept.refl _⟩
                  case round =>
                    obtain ⟨k, b, hk, rfl, rfl, rfl, K9⟩ := hrel
                    replace OD := Lib.hid (OD.out.kept K9)
                    replace OE := Lib.hid (OE.out.kept K9)
                    replace OX := Lib.hid (OX.out.kept K9)
                    replace HD := Lib.hid (HD.out.go K9 (Ext.refl _ _))
                    replace HDN := Lib.hid (HDN.out.go K9 (Ext.refl _ _))
                    replace HDX := Lib.hid (HDX.out.go K9 (Ext.refl _ _))
                    by_cases hlt : k < NN.length
                    · skip
                      obtain ⟨b', o', rfl, hb', _, hcs⟩ := (HNR.out.kept K9) (by rw [strs_length]; omega)
                      have g1 : wr.cell? ⟨b', o' + k, none⟩ = some (.string NN[k]) := hcs _ _ (strs_at hlt)
                      clear hcs
                      generalize NN[k] = n at *
                      have hr3 := HGE.out n
                      generalize hr1 : getR dd n = r1 at *
                      generalize hr2 : getR dn n = r2 at *
                      have HR1 := Lib.hid hr1
                      have HR2 := Lib.hid hr2
                      have HR3 := Lib.hid hr3
                      clear hr1 hr2 hr3
                      obtain ⟨s1, c1⟩ := r1
                      obtain ⟨s2, c2⟩ := r2
                      obtain ⟨cD0, cD1, fD0, fD1⟩ := OD.out.two
                      obtain ⟨cE0, cE1, fE0, fE1⟩ := OE.out.two
                      obtain ⟨cX0, cX1, fX0, fX1⟩ := OX.out.two
                      go_wp2_with fail
                      refine (says_any dd n _ _ (HD.out.weak (fun _ hk => by cases hk))).mono ?_
                      rintro e w24 ⟨rfl, hk⟩
                      clear cD0 cD1 fD0 fD1 cE0 cE1 fE0 fE1 cX0 cX1 fX0 fX1
                      replace OD := Lib.hid (OD.out.kept hk)
                      replace OE := Lib.hid (OE.out.kept hk)
                      replace OX := Lib.hid (OX.out.kept hk)
                      replace HD := Lib.hid (HD.out.go hk (Ext.refl _ _))
                      replace HDN := Lib.hid (HDN.out.go hk (Ext.refl _ _))
                      replace HDX := Lib.hid (HDX.out.go hk (Ext.refl _ _))
                      replace K9 := K9.trans hk
                      rw [HR1.out]
                      clear hk
                      obtain ⟨cD0, cD1, fD0, fD1⟩ := OD.out.two
                      obtain ⟨cE0, cE1, fE0, fE1⟩ := OE.out.two
                      obtain ⟨cX0, cX1, fX0, fX1⟩ := OX.out.two
                      go_wp2_with fail
                      refine (says_any dn n _ _ HDN.out).mono ?_
                      rintro e w25 ⟨rfl, hk⟩
                      clear cD0 cD1 fD0 fD1 cE0 cE1 fE0 fE1 cX0 cX1 fX0 fX1
                      replace OD := Lib.hid (OD.out.kept hk)
                      replace OE := Lib.hid (OE.out.kept hk)
                      replace OX := Lib.hid (OX.out.kept hk)
                      replace HD := Lib.hid (HD.out.go hk (Ext.refl _ _))
                      replace HDN := Lib.hid (HDN.out.go hk (Ext.refl _ _))
                      replace HDX := Lib.hid (HDX.out.go hk (Ext.refl _ _))
                      replace K9 := K9.trans hk
                      rw [HR2.out]
                      clear hk
                      obtain ⟨cD0, cD1, fD0, fD1⟩ := OD.out.two
                      obtain ⟨cE0, cE1, fE0, fE1⟩ := OE.out.two
                      obtain ⟨cX0, cX1, fX0, fX1⟩ := OX.out.two
                      go_wp2_with fail
                      refine (says_any xx n _ _ HDX.out).mono ?_
                      rintro e w26 ⟨rfl, hk⟩
                      clear cD0 cD1 fD0 fD1 cE0 cE1 fE0 fE1 cX0 cX1 fX0 fX1
                      replace OD := Lib.hid (OD.out.kept hk)
                      replace OE := Lib.hid (OE.out.kept hk)
                      replace OX := Lib.hid (OX.out.kept hk)
                      replace HD := Lib.hid (HD.out.go hk (Ext.refl _ _))
                      replace HDN := Lib.hid (HDN.out.go hk (Ext.refl _ _))
                      replace HDX := Lib.hid (HDX.out.go hk (Ext.refl _ _))
                      replace K9 := K9.trans hk
                      rw [HR3.out]
                      clear hk
                      cases b with
                      | false =>
                        go_wp2
                        go_roundw
                        case rel => exact ⟨k + 1, false, by omega, by go_num, rfl, rfl, K9⟩
                        case measure => simp [intOf]; omega
                      | true =>
                        rcases Bool.eq_false_or_eq_true (s1.toList == s2.toList) with hq | hq
                        · go_wp2
                          go_roundw
                          case rel => exact ⟨k + 1, true, by omega, by go_num, rfl, rfl, K9⟩
                          case measure => simp [intOf]; omega
                        · go_wp2
                          go_roundw
                          case rel => exact ⟨k + 1, false, by omega, by go_num, rfl, rfl, K9⟩
                          case measure => simp [intOf]; omega
                    · obtain rfl : k = NN.length := by omega
                      replace K := K.trans K9
                      obtain ⟨cD0, cD1, fD0, fD1⟩ := OD.out.two
                      obtain ⟨cE0, cE1, fE0, fE1⟩ := OE.out.two
                      obtain ⟨cX0, cX1, fX0, fX1⟩ := OX.out.two
                      go_wp2_with fail
                      refine (awake12 _ (HT.out.kept K)).mono ?_
                      rintro e w24 ⟨rfl, hk⟩
                      clear cD0 cD1 fD0 fD1 cE0 cE1 fE0 fE1 cX0 cX1 fX0 fX1
                      replace OD := Lib.hid (OD.out.kept hk)
                      replace OE := Lib.hid (OE.out.kept hk)
                      replace OX := Lib.hid (OX.out.kept hk)
                      replace HD := Lib.hid (HD.out.go hk (Ext.refl _ _))
                      replace HDN := Lib.hid (HDN.out.go hk (Ext.refl _ _))
                      replace HDX := Lib.hid (HDX.out.go hk (Ext.refl _ _))
                      replace K := K.trans hk
                      clear hk
                      go_wp2
                      go_ret
                      exact ⟨rfl, K⟩
                · have HNE : Hid (N3 = N2) := HLB.out hlk
                  have HGE : Hid (∀ n, getR xx n = getR dn n) := fun n => like_get HGN.out hlk n
                  clear hlk HLA HLB
                  go_upto_region 24 with fail
                  have CD0 : ∀ W', Kept w16 W' → W'.cell? ⟨gd, 0, none⟩ = some (.slice A1 381 c1) := fun W' hk => (OD.out.kept hk).cell? 0
                  have CD1 : ∀ W', Kept w16 W' → W'.cell? ⟨gd, 1, none⟩ = some (.slice B1 0 e1) := fun W' hk => (OD.out.kept hk).cell? 1
                  have CE0 : ∀ W', Kept w16 W' → W'.cell? ⟨w6.heap.size, 0, none⟩ = some (.slice A6 381 k6) := fun W' hk => (OE.out.kept hk).cell? 0
                  have CE1 : ∀ W', Kept w16 W' → W'.cell? ⟨w6.heap.size, 1, none⟩ = some (.slice B6 0 e6) := fun W' hk => (OE.out.kept hk).cell? 1
                  have CX0 : ∀ W', Kept w16 W' → W'.cell? ⟨w11.heap.size, 0, none⟩ = some (.slice A10 n10 k10) := fun W' hk => (OX.out.kept hk).cell? 0
                  have CX1 : ∀ W', Kept w16 W' → W'.cell? ⟨w11.heap.size, 1, none⟩ = some (.slice B10 m10 e10) := fun W' hk => (OX.out.kept hk).cell? 1
                  refine wp_region_Z (S := fun W' => Kept w16 W') (Z := []) (by kernel_rfl) ((Kept.refl w16).drew) (fun hHeld => ?_)
                  have kr := (Kept.refl w16).drew
                  have Kr := K
                  have zr := K.size
                  have ODr := OD
                  have OEr := OE
                  have OXr := OX
                  have HDr := HD
                  have HDNr := HDN
                  have HDXr := HDX
                  have HS9r := HS9
                  replace OD := Lib.hid (ODr.out.kept kr)
                  replace OE := Lib.hid (OEr.out.kept kr)
                  replace OX := Lib.hid (OXr.out.kept kr)
                  replace HD := Lib.hid (HDr.out.go kr (Ext.refl _ _))
                  replace HDN := Lib.hid (HDNr.out.go kr (Ext.refl _ _))
                  replace HDX := Lib.hid (HDXr.out.go kr (Ext.refl _ _))
                  replace HS9 := Lib.hid (HS9r.out.go kr (Ext.refl _ _))
                  replace K := Kr.trans kr
                  generalize w16.drew = w17 at *
                  refine wpAnyZ_take (i := 0) (oi := { dst := some 120, op := Op.load 31 (Operand.tmp 24), type := 31, pos := "law.go:182", after := #[], guard := none }) (v := ?_) rfl (by kernel_rfl) (fun _ _ _ h => h) (Or.inl ⟨by rfl, ?_⟩) (by assumption) ?_
                  rotate_left
                  · (intro wz hSw; (try dsimp only at hSw); go_simp; (try with_reducible rfl))
                  (try simp only [Act.put, List.setIfInBounds_toArray, List.set_cons_zero, List.set_cons_succ])
                  refine wpAnyZ_take (i := 2) (oi := { dst := some 122, op := Op.load 31 (Operand.tmp 13), type := 31, pos := "law.go:182", after := #[], guard := none }) (v := ?_) rfl (by kernel_rfl) (fun _ _ _ h => h) (Or.inl ⟨by rfl, ?_⟩) (by assumption) ?_
                  rotate_left
                  · (intro wz hSw; (try dsimp only at hSw); go_simp; (try with_reducible rfl))
                  (try simp only [Act.put, List.setIfInBounds_toArray, List.set_cons_zero, List.set_cons_succ])
                  refine wpAnyZ_take (i := 5) (oi := { dst := some 125, op := Op.load 31 (Operand.tmp 24), type := 31, pos := "law.go:182", after := #[], guard := none }) (v := ?_) rfl (by kernel_rfl) (fun _ _ _ h => h) (Or.inl ⟨by rfl, ?_⟩) (by assumption) ?_
                  rotate_left
                  · (intro wz hSw; (try dsimp only at hSw); go_simp; (try with_reducible rfl))
                  (try simp only [Act.put, List.setIfInBounds_toArray, List.set_cons_zero, List.set_cons_succ])
                  refine wpAnyZ_take (i := 7) (oi := { dst := some 127, op := Op.load 31 (Operand.tmp 20), type := 31, pos := "law.go:182", after := #[], guard := none }) (v := ?_) rfl (by kernel_rfl) (fun _ _ _ h => h) (Or.inl ⟨by rfl, ?_⟩) (by assumption) ?_
                  rotate_left
                  · (intro wz hSw; (try dsimp only at hSw); go_simp; (try with_reducible rfl))
                  (try simp only [Act.put, List.setIfInBounds_toArray, List.set_cons_zero, List.set_cons_succ])
                  refine wpAnyZ_ready (rs := [1]) (by kernel_rfl) (by simp) ?_
                  refine AllReadyZ.cons (o := { dst := some 121, op := Op.call { callee := Callee.value (Operand.func 13), args := #[Operand.tmp 120], argTypes := #[31] }, type := 28, pos := "law.go:182", after := #[{ on := 0, ground := Ground.data }], guard := none }) rfl (fun KK hKK => ?_) AllReadyZ.nil
                  go_simp
                  refine (names_any [] xx _ _ HDX.out (fun _ h => by cases h)).mono ?_
                  rintro e w18 ⟨q1, rfl, hq1, hk⟩
                  clear hHeld
                  replace kr := kr.trans hk
                  replace OD := Lib.hid (ODr.out.kept kr)
                  replace OE := Lib.hid (OEr.out.kept kr)
                  replace OX := Lib.hid (OXr.out.kept kr)
                  replace HD := Lib.hid (HDr.out.go kr (Ext.refl _ _))
                  replace HDN := Lib.hid (HDNr.out.go kr (Ext.refl _ _))
                  replace HDX := Lib.hid (HDXr.out.go kr (Ext.refl _ _))
                  replace HS9 := Lib.hid (HS9r.out.go kr (Ext.refl _ _))
                  replace K := Kr.trans kr
                  rw [HN3.out] at hq1
                  have HS1 := Lib.hid hq1
                  clear hq1
                  clear hk
                  go_simp
                  refine hKK.out _ _ ?_ (fun hHeld => ?_)
                  · exact kr
                  clear hKK KK
                  (try simp only [Act.put, List.setIfInBounds_toArray, List.set_cons_zero, List.set_cons_succ])
                  refine wpAnyZ_ready (rs := [3]) (by kernel_rfl) (by simp) ?_
                  refine AllReadyZ.cons (o := { dst := some 123, op := Op.call { callee := Callee.value (Operand.func 13), args := #[Operand.tmp 122], argTypes := #[31] }, type := 28, pos := "law.go:182", after := #[{ on := 2, ground := Ground.data }, { on := 1, ground := Ground.chain }], guard := none }) rfl (fun KK hKK => ?_) AllReadyZ.nil
                  go_simp
                  refine (names_any [] dd _ _ (HD.out.weak (fun _ hk => by cases hk)) (fun _ h => by cases h)).mono ?_
                  rintro e w19 ⟨q2, rfl, hq2, hk⟩
                  clear hHeld
                  replace kr := kr.trans hk
                  replace OD := Lib.hid (ODr.out.kept kr)
                  replace OE := Lib.hid (OEr.out.kept kr)
                  replace OX := Lib.hid (OXr.out.kept kr)
                  replace HD := Lib.hid (HDr.out.go kr (Ext.refl _ _))
                  replace HDN := Lib.hid (HDNr.out.go kr (Ext.refl _ _))
                  replace HDX := Lib.hid (HDXr.out.go kr (Ext.refl _ _))
                  replace HS9 := Lib.hid (HS9r.out.go kr (Ext.refl _ _))
                  replace K := Kr.trans kr
                  rw [HN1.out] at hq2
                  have HS2 := Lib.hid hq2
                  clear hq2
                  replace HS1 := Lib.hid (HS1.out.go hk (Ext.refl _ _))
                  clear hk
                  go_simp
                  refine hKK.out _ _ ?_ (fun hHeld => ?_)
                  · exact kr
                  clear hKK KK
                  (try simp only [Act.put, List.setIfInBounds_toArray, List.set_cons_zero, List.set_cons_succ])
                  refine wpAnyZ_ready (rs := [4]) (by kernel_rfl) (by simp) ?_
                  refine AllReadyZ.cons (o := { dst := some 124, op := Op.call { callee := Callee.value (Operand.func 14), args := #[Operand.tmp 121, Operand.tmp 123], argTypes := #[28, 28] }, type := 4, pos := "law.go:182", after := #[{ on := 1, ground := Ground.data }, { on := 3, ground := Ground.data }, { on := 3, ground := Ground.chain }], guard := none }) rfl (fun KK hKK => ?_) AllReadyZ.nil
                  go_simp
                  refine (same_any N3 N1 _ _ _ HS1.out HS2.out).mono ?_
                  rintro e w20 ⟨b1, rfl, hb1, hk⟩
                  clear hHeld
                  replace kr := kr.trans hk
                  replace OD := Lib.hid (ODr.out.kept kr)
                  replace OE := Lib.hid (OEr.out.kept kr)
                  replace OX := Lib.hid (OXr.out.kept kr)
                  replace HD := Lib.hid (HDr.out.go kr (Ext.refl _ _))
                  replace HDN := Lib.hid (HDNr.out.go kr (Ext.refl _ _))
                  replace HDX := Lib.hid (HDXr.out.go kr (Ext.refl _ _))
                  replace HS9 := Lib.hid (HS9r.out.go kr (Ext.refl _ _))
                  replace K := Kr.trans kr
                  have HB1 := Lib.hid hb1
                  clear hb1 HS1 HS2
                  clear hk
                  go_simp
                  refine hKK.out _ _ ?_ (fun hHeld => ?_)
                  · exact kr
                  clear hKK KK
                  (try simp only [Act.put, List.setIfInBounds_toArray, List.set_cons_zero, List.set_cons_succ])
                  refine wpAnyZ_ready (rs := [6]) (by kernel_rfl) (by simp) ?_
                  refine AllReadyZ.cons (o := { dst := some 126, op := Op.call { callee := Callee.value (Operand.func 13), args := #[Operand.tmp 125], argTypes := #[31] }, type := 28, pos := "law.go:182", after := #[{ on := 5, ground := Ground.data }, { on := 4, ground := Ground.chain }], guard := none }) rfl (fun KK hKK => ?_) AllReadyZ.nil
                  go_simp
                  refine (names_any [] xx _ _ HDX.out (fun _ h => by cases h)).mono ?_
                  rintro e w21 ⟨q3, rfl, hq3, hk⟩
                  clear hHeld
                  replace kr := kr.trans hk
                  replace OD := Lib.hid (ODr.out.kept kr)
                  replace OE := Lib.hid (OEr.out.kept kr)
                  replace OX := Lib.hid (OXr.out.kept kr)
                  replace HD := Lib.hid (HDr.out.go kr (Ext.refl _ _))
                  replace HDN := Lib.hid (HDNr.out.go kr (Ext.refl _ _))
                  replace HDX := Lib.hid (HDXr.out.go kr (Ext.refl _ _))
                  replace HS9 := Lib.hid (HS9r.out.go kr (Ext.refl _ _))
                  replace K := Kr.trans kr
                  rw [HN3.out] at hq3
                  have HS3 := Lib.hid hq3
                  clear hq3
                  clear hk
                  go_simp
                  refine hKK.out _ _ ?_ (fun hHeld => ?_)
                  · exact kr
                  clear hKK KK
                  (try simp only [Act.put, List.setIfInBounds_toArray, List.set_cons_zero, List.set_cons_succ])
                  refine wpAnyZ_ready (rs := [8]) (by kernel_rfl) (by simp) ?_
                  refine AllReadyZ.cons (o := { dst := some 128, op := Op.call { callee := Callee.value (Operand.func 13), args := #[Operand.tmp 127], argTypes := #[31] }, type := 28, pos := "law.go:182", after := #[{ on := 7, ground := Ground.data }, { on := 6, ground := Ground.chain }], guard := none }) rfl (fun KK hKK => ?_) AllReadyZ.nil
                  go_simp
                  refine (names_any [] dn _ _ HDN.out (fun _ h => by cases h)).mono ?_
                  rintro e w22 ⟨q4, rfl, hq4, hk⟩
                  clear hHeld
                  replace kr := kr.trans hk
                  replace OD := Lib.hid (ODr.out.kept kr)
                  replace OE := Lib.hid (OEr.out.kept kr)
                  replace OX := Lib.hid (OXr.out.kept kr)
                  replace HD := Lib.hid (HDr.out.go kr (Ext.refl _ _))
                  replace HDN := Lib.hid (HDNr.out.go kr (Ext.refl _ _))
                  replace HDX := Lib.hid (HDXr.out.go kr (Ext.refl _ _))
                  replace HS9 := Lib.hid (HS9r.out.go kr (Ext.refl _ _))
                  replace K := Kr.trans kr
                  rw [HN2.out] at hq4
                  have HS4 := Lib.hid hq4
                  clear hq4
                  replace HS3 := Lib.hid (HS3.out.go hk (Ext.refl _ _))
                  clear hk
                  go_simp
                  refine hKK.out _ _ ?_ (fun hHeld => ?_)
                  · exact kr
                  clear hKK KK
                  (try simp only [Act.put, List.setIfInBounds_toArray, List.set_cons_zero, List.set_cons_succ])
                  refine wpAnyZ_ready (rs := [9]) (by kernel_rfl) (by simp) ?_
                  refine AllReadyZ.cons (o := { dst := some 129, op := Op.call { callee := Callee.value (Operand.func 14), args := #[Operand.tmp 126, Operand.tmp 128], argTypes := #[28, 28] }, type := 4, pos := "law.go:182", after := #[{ on := 6, ground := Ground.data }, { on := 8, ground := Ground.data }, { on := 8, ground := Ground.chain }], guard := none }) rfl (fun KK hKK => ?_) AllReadyZ.nil
                  go_simp
                  refine (same_any N3 N2 _ _ _ HS3.out HS4.out).mono ?_
                  rintro e w23 ⟨b2, rfl, hb2, hk⟩
                  clear hHeld
                  replace kr := kr.trans hk
                  replace OD := Lib.hid (ODr.out.kept kr)
                  replace OE := Lib.hid (OEr.out.kept kr)
                  replace OX := Lib.hid (OXr.out.kept kr)
                  replace HD := Lib.hid (HDr.out.go kr (Ext.refl _ _))
                  replace HDN := Lib.hid (HDNr.out.go kr (Ext.refl _ _))
                  replace HDX := Lib.hid (HDXr.out.go kr (Ext.refl _ _))
                  replace HS9 := Lib.hid (HS9r.out.go kr (Ext.refl _ _))
                  replace K := Kr.trans kr
                  have HB2 := Lib.hid hb2
                  clear hb2 HS3 HS4
                  clear hk
                  go_simp
                  refine hKK.out _ _ ?_ (fun hHeld => ?_)
                  · exact kr
                  clear hKK KK
                  (try simp only [Act.put, List.setIfInBounds_toArray, List.set_cons_zero, List.set_cons_succ])
                  refine wpAnyZ_take (i := 10) (oi := { dst := some 26, op := Op.assign (Operand.tmp 124), type := 4, pos := "law.go:182", after := #[{ on := 4, ground := Ground.data }, { on := 9, ground := Ground.chain }, { on := 0, ground := Ground.phase }, { on := 1, ground := Ground.phase }, { on := 2, ground := Ground.phase }, { on := 3, ground := Ground.phase }, { on := 4, ground := Ground.phase }, { on := 5, ground := Ground.textOnly Departure.lateStores }, { on := 6, ground := Ground.textOnly Departure.lateStoresUnsure }, { on := 7, ground := Ground.textOnly Departure.lateStores }, { on := 8, ground := Ground.textOnly Departure.lateStoresUnsure }, { on := 9, ground := Ground.textOnly Departure.lateStoresUnsure }], guard := none }) (v := ?_) rfl (by kernel_rfl) (fun _ _ _ h => h) (Or.inl ⟨by rfl, ?_⟩) (by assumption) ?_
                  rotate_left
                  · (intro wz hSw; (try dsimp only at hSw); go_simp; (try with_reducible rfl))
                  (try simp only [Act.put, List.setIfInBounds_toArray, List.set_cons_zero, List.set_cons_succ])
                  refine wpAnyZ_take (i := 11) (oi := { dst := some 27, op := Op.assign (Operand.tmp 129), type := 4, pos := "law.go:182", after := #[{ on := 9, ground := Ground.data }, { on := 10, ground := Ground.chain }, { on := 0, ground := Ground.phase }, { on := 1, ground := Ground.phase }, { on := 2, ground := Ground.phase }, { on := 3, ground := Ground.phase }, { on := 4, ground := Ground.phase }, { on := 5, ground := Ground.phase }, { on := 6, ground := Ground.phase }, { on := 7, ground := Ground.phase }, { on := 8, ground := Ground.phase }, { on := 9, ground := Ground.phase }, { on := 10, ground := Ground.phase }], guard := none }) (v := ?_) rfl (by kernel_rfl) (fun _ _ _ h => h) (Or.inl ⟨by rfl, ?_⟩) (by assumption) ?_
                  rotate_left
                  · (intro wz hSw; (try dsimp only at hSw); go_simp; (try with_reducible rfl))
                  (try simp only [Act.put, List.setIfInBounds_toArray, List.set_cons_zero, List.set_cons_succ])
                  refine wpAnyZ_done (by kernel_rfl) ?_ _
                  clear CD0 CD1 CE0 CE1 CX0 CX1 ODr OEr OXr HDr HDNr HDXr HS9r Kr zr hHeld kr
                  have hb2 : b2 = true := HB2.out HNE.out
                  subst hb2
                  clear HB1 HB2
                  obtain ⟨AA2, cA2, e9, _, hA9, hA8⟩ := HS9.out
                  cases e9
                  have HNR := Lib.hid hA8
                  clear hA8 hA9 HS9
                  go_wp2_with fail
                  go_loopw [26, 27, 132] (fun av bv iv wq => ∃ (k : Nat) (b : Bool), k ≤ NN.length ∧ iv = .int .i64 k ∧ av = .bool b ∧ bv = .bool true ∧ Kept w23 wq) (fun _ _ iv _ => NN.length - (intOf iv).toNat)
                  case atStart => exact ⟨0, b1, Nat.zero_le _, rfl, rfl, rfl, Kept.refl _⟩
                  case round =>
                    obtain ⟨k, b, hk, rfl, rfl, rfl, K9⟩ := hrel
                    replace OD := Lib.hid (OD.out.kept K9)
                    replace OE := Lib.hid (OE.out.kept K9)
                    replace OX := Lib.hid (OX.out.kept K9)
                    replace HD := Lib.hid (HD.out.go K9 (Ext.refl _ _))
                    replace HDN := Lib.hid (HDN.out.go K9 (Ext.refl _ _))
                    replace HDX := Lib.hid (HDX.out.go K9 (Ext.refl _ _))
                    by_cases hlt : k < NN.length
                    · skip
                      obtain ⟨b', o', rfl, hb', _, hcs⟩ := (HNR.out.kept K9) (by rw [strs_length]; omega)
                      have g1 : wr.cell? ⟨b', o' + k, none⟩ = some (.string NN[k]) := hcs _ _ (strs_at hlt)
                      clear hcs
                      generalize NN[k] = n at *
                      have hr3 := HGE.out n
                      generalize hr1 : getR dd n = r1 at *
                      generalize hr2 : getR dn n = r2 at *
                      have HR1 := Lib.hid hr1
                      have HR2 := Lib.hid hr2
                      have HR3 := Lib.hid hr3
                      clear hr1 hr2 hr3
                      obtain ⟨s1, c1⟩ := r1
                      obtain ⟨s2, c2⟩ := r2
                      obtain ⟨cD0, cD1, fD0, fD1⟩ := OD.out.two
                      obtain ⟨cE0, cE1, fE0, fE1⟩ := OE.out.two
                      obtain ⟨cX0, cX1, fX0, fX1⟩ := OX.out.two
                      go_wp2_with fail
                      refine (says_any dd n _ _ (HD.out.weak (fun _ hk => by cases hk))).mono ?_
                      rintro e w24 ⟨rfl, hk⟩
                      clear cD0 cD1 fD0 fD1 cE0 cE1 fE0 fE1 cX0 cX1 fX0 fX1
                      replace OD := Lib.hid (OD.out.kept hk)
                      replace OE := Lib.hid (OE.out.kept hk)
                      replace OX := Lib.hid (OX.out.kept hk)
                      replace HD := Lib.hid (HD.out.go hk (Ext.refl _ _))
                      replace HDN := Lib.hid (HDN.out.go hk (Ext.refl _ _))
                      replace HDX := Lib.hid (HDX.out.go hk (Ext.refl _ _))
                      replace K9 := K9.trans hk
                      rw [HR1.out]
                      clear hk
                      obtain ⟨cD0, cD1, fD0, fD1⟩ := OD.out.two
                      obtain ⟨cE0, cE1, fE0, fE1⟩ := OE.out.two
                      obtain ⟨cX0, cX1, fX0, fX1⟩ := OX.out.two
                      go_wp2_with fail
                      refine (says_any dn n _ _ HDN.out).mono ?_
                      rintro e w25 ⟨rfl, hk⟩
                      clear cD0 cD1 fD0 fD1 cE0 cE1 fE0 fE1 cX0 cX1 fX0 fX1
                      replace OD := Lib.hid (OD.out.kept hk)
                      replace OE := Lib.hid (OE.out.kept hk)
                      replace OX := Lib.hid (OX.out.kept hk)
                      replace HD := Lib.hid (HD.out.go hk (Ext.refl _ _))
                      replace HDN := Lib.hid (HDN.out.go hk (Ext.refl _ _))
                      replace HDX := Lib.hid (HDX.out.go hk (Ext.refl _ _))
                      replace K9 := K9.trans hk
                      rw [HR2.out]
                      clear hk
                      obtain ⟨cD0, cD1, fD0, fD1⟩ := OD.out.two
                      obtain ⟨cE0, cE1, fE0, fE1⟩ := OE.out.two
                      obtain ⟨cX0, cX1, fX0, fX1⟩ := OX.out.two
                      go_wp2_with fail
                      refine (says_any xx n _ _ HDX.out).mono ?_
                      rintro e w26 ⟨rfl, hk⟩
                      clear cD0 cD1 fD0 fD1 cE0 cE1 fE0 fE1 cX0 cX1 fX0 fX1
                      replace OD := Lib.hid (OD.out.kept hk)
                      replace OE := Lib.hid (OE.out.kept hk)
                      replace OX := Lib.hid (OX.out.kept hk)
                      replace HD := Lib.hid (HD.out.go hk (Ext.refl _ _))
                      replace HDN := Lib.hid (HDN.out.go hk (Ext.refl _ _))
                      replace HDX := Lib.hid (HDX.out.go hk (Ext.refl _ _))
                      replace K9 := K9.trans hk
                      rw [HR3.out]
                      clear hk
                      cases b with
                      | false =>
                        go_wp2
                        go_roundw
                        case rel => exact ⟨k + 1, false, by omega, by go_num, rfl, rfl, K9⟩
                        case measure => simp [intOf]; omega
                      | true =>
                        rcases Bool.eq_false_or_eq_true (s2.toList == s1.toList) with hq | hq
                        · go_wp2
                          go_roundw
                          case rel => exact ⟨k + 1, true, by omega, by go_num, rfl, rfl, K9⟩
                          case measure => simp [intOf]; omega
                        · go_wp2
                          go_roundw
                          case rel => exact ⟨k + 1, false, by omega, by go_num, rfl, rfl, K9⟩
                          case measure => simp [intOf]; omega
                    · obtain rfl : k = NN.length := by omega
                      replace K := K.trans K9
                      cases b with
                      | true =>
                        obtain ⟨cD0, cD1, fD0, fD1⟩ := OD.out.two
                        obtain ⟨cE0, cE1, fE0, fE1⟩ := OE.out.two
                        obtain ⟨cX0, cX1, fX0, fX1⟩ := OX.out.two
                        go_wp2_with fail
                        refine (awake12 _ (HT.out.kept K)).mono ?_
                        rintro e w24 ⟨rfl, hk⟩
                        clear cD0 cD1 fD0 fD1 cE0 cE1 fE0 fE1 cX0 cX1 fX0 fX1
                        replace OD := Lib.hid (OD.out.kept hk)
                        replace OE := Lib.hid (OE.out.kept hk)
                        replace OX := Lib.hid (OX.out.kept hk)
                        replace HD := Lib.hid (HD.out.go hk (Ext.refl _ _))
                        replace HDN := Lib.hid (HDN.out.go hk (Ext.refl _ _))
                        replace HDX := Lib.hid (HDX.out.go hk (Ext.refl _ _))
                        replace K := K.trans hk
                        clear hk
                        go_wp2
                        go_ret
                        exact ⟨rfl, K⟩
                      | false =>
                        obtain ⟨cD0, cD1, fD0, fD1⟩ := OD.out.two
                        obtain ⟨cE0, cE1, fE0, fE1⟩ := OE.out.two
                        obtain ⟨cX0, cX1, fX0, fX1⟩ := OX.out.two
                        go_wp2_with fail
                        refine (awake12 _ (HT.out.kept K)).mono ?_
                        rintro e w24 ⟨rfl, hk⟩
                        clear cD0 cD1 fD0 fD1 cE0 cE1 fE0 fE1 cX0 cX1 fX0 fX1
                        replace OD := Lib.hid (OD.out.kept hk)
                        replace OE := Lib.hid (OE.out.kept hk)
                        replace OX := Lib.hid (OX.out.kept hk)
                        replace HD := Lib.hid (HD.out.go hk (Ext.refl _ _))
                        replace HDN := Lib.hid (HDN.out.go hk (Ext.refl _ _))
                        replace HDX := Lib.hid (HDX.out.go hk (Ext.refl _ _))
                        replace K := K.trans hk
                        clear hk
                        go_wp2
                        go_ret
                        exact ⟨rfl, K⟩
            · have t1 := bne_t he
              clear he
              clear hd6 HCW HCD
              generalize dn.sec.length = n6 at *
              generalize dn.cache.length = m6 at *
              obtain ⟨cD0, cD1, fD0, fD1⟩ := OD.out.two
              go_wp2_with fail
              clear cD0 cD1 fD0 fD1
              replace K := K.alloc (.cells #[.slice A6 n6 k6, .slice B6 m6 e6] 31)
              refine (awake12 _ (HT.out.kept K)).mono ?_
              rintro e w7 ⟨rfl, hk⟩
              replace K := K.trans hk
              clear hk
              go_wp2
              go_ret
              exact ⟨rfl, K⟩
      · rw [hl]
        clear hf hl
        go_wp2_with fail
        refine (awake12 _ (HT.out.kept K)).mono ?_
        rintro e w3 ⟨rfl, hk⟩
        replace K := K.trans hk
        clear hk
        go_wp2
        go_ret
        exact ⟨rfl, K⟩
  · rw [hf]
    clear hf
    go_wp2_with fail
    refine (awake12 _ (HT.out.kept K)).mono ?_
    rintro e w2 ⟨rfl, hk⟩
    replace K := K.trans hk
    clear hk
    go_wp2
    go_ret
    exact ⟨rfl, K⟩
end Go.Proofs.YtagpimahicgkmaaGreatDoor
