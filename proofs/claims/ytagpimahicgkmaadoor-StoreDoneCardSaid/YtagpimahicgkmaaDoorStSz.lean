/- Walk: mailsacklaw12.StoreSizes. -/
import Derived.Test.YtagpimahicgkmaaDoorAw12
namespace Go.Proofs.YtagpimahicgkmaaDoor
open Go.RowKit

theorem szL_succ {l : List Chg} {k : Nat} (h : k < l.length) : szL (l.take (k + 1)) = szL (l.take k) + szC l[k] := by
  unfold szL
  rw [List.take_succ_eq_append_getElem h, List.map_append, List.sum_append]
  simp
theorem szC_le (c : Chg) : szC c ≤ 17 := by unfold szC; split; omega; split <;> omega
theorem szL_le (l : List Chg) : ∀ k, szL (l.take k) ≤ 17 * k
  | 0 => by rw [List.take_zero]; exact Nat.le_refl _
  | k + 1 => by
    have ih := szL_le l k
    by_cases h : k < l.length
    · rw [szL_succ h]; have := szC_le l[k]; omega
    · rw [List.take_of_length_le (by omega)]; rw [List.take_of_length_le (by omega)] at ih; omega
theorem refs_len {l : List Chg} (h : refsB l = true) : l.length ≤ 21 := by
  unfold refsB at h
  simp only [Bool.and_eq_true, decide_eq_true_eq] at h
  exact h.1

set_option maxRecDepth 100000 in
set_option maxHeartbeats 4000000 in
theorem stSizes_any (fs l : List Chg) (v u : Value) (w : World) (ht : Tabs w) (hfs : ChgsAt [] w v fs) (hls : ChgsAt [] w u l) :
    Calls Tryd.prog 8 #[v, u] w fun e w' => e = .returned (.bool true) ∧ Kept w w' := by
  have HT := Lib.hid ht
  have HFS := Lib.hid hfs
  have HLS := Lib.hid hls
  have HFL := Lib.hid formD_len
  obtain ⟨FA, fc, rfl, hf1, hf2, hfr⟩ := hfs
  obtain ⟨LA, lc, rfl, hl1, hl2, hlr⟩ := hls
  unfold maxLen at hf2 hl2
  have HFR := Lib.hid hfr
  have HLR := Lib.hid hlr
  clear ht hfr hlr
  go_enter Tryd.func8, Tryd.ntmps8
  have K := Kept.refl w
  go_wp2_with fail
  refine (refs12_any fs _ _ (HFS.out.go K (Ext.refl _ _))).mono ?_
  rintro e w1 ⟨rw1, rfl, hk⟩
  replace K := K.trans hk
  clear hk
  rcases Bool.eq_false_or_eq_true (refsB fs) with hf | hf
  · rw [hf]
    go_wp2_with fail
    refine (refs12_any l _ _ (HLS.out.go K (Ext.refl _ _))).mono ?_
    rintro e w2 ⟨rw2, rfl, hk⟩
    replace K := K.trans hk
    clear hk
    rcases Bool.eq_false_or_eq_true (refsB l) with hl | hl
    · rw [hl]
      have HLL := Lib.hid (refs_len hl)
      clear hf hl
      go_wp2_with fail
      refine (format_any [] _ (fun _ h => by cases h)).mono ?_
      rintro e w3 ⟨s1, c1, rfl, hd1, hk⟩
      replace K := K.trans hk
      obtain ⟨A0, k0, B0, e0, rfl, rfl⟩ := hd1.form
      rw [HFL.out.1, HFL.out.2] at hd1 ⊢
      have HD := Lib.hid hd1
      clear hd1
      have hwk := K.size
      generalize hf0 : formD = d0 at *
      have HD0 := Lib.hid hf0
      clear hf0
      clear hk
      replace HD := Lib.hid (HD.out.go (Kept.refl _) (Ext.cons (Nat.le_refl _) (Ext.nil _ _)))
      go_upto_region 8 with fail
      have OD := Lib.hid (Own.new w3 25 [.slice A0 381 k0, .slice B0 0 e0])
      replace HD := Lib.hid (HD.out.go ((Kept.refl w3).alloc (.cells #[.slice A0 381 k0, .slice B0 0 e0] 25)) (Ext.refl _ _))
      replace K := K.alloc (.cells #[.slice A0 381 k0, .slice B0 0 e0] 25)
      generalize (w3.alloc (.cells #[.slice A0 381 k0, .slice B0 0 e0] 25)) = w4 at *
      generalize hgd : w3.heap.size = gd at *
      have HGD : Hid (w.heap.size ≤ gd) := by show _ ≤ _; omega
      clear hgd hwk
      go_wp2_with fail
      go_loopw [40] (fun iv wq => ∃ (k : Nat), k ≤ fs.length ∧ iv = .int .i64 k ∧ ∃ (A : Option Addr) (c : Nat) (B : Option Addr) (e : Nat), Own wq gd 25 [.slice A 381 c, .slice B 0 e] ∧ DkAt [gd] wq (.agg #[.slice A 381 c, .slice B 0 e]) (madeTo fs k) ∧ Kept w wq) (fun iv _ => fs.length - (intOf iv).toNat)
      case atStart => exact ⟨0, Nat.zero_le _, rfl, A0, k0, B0, e0, OD.out, (by show DkAt _ _ _ formD; rw [HD0.out]; exact HD.out), K⟩
      case round =>
        clear OD HD K
        obtain ⟨k, hk, rfl, A1, c1, B1, e1, hod, hhd, K⟩ := hrel
        have OD := Lib.hid hod
        have HD := Lib.hid hhd
        clear hod hhd
        by_cases hlt : k < fs.length
        · skip
          obtain ⟨cb, co, rfl, hcb, _, hcc⟩ := HFR.out (by rw [chg_len]; omega)
          have g0 := (K.cell (p := ⟨cb, co + k * 3, none⟩) hcb).trans (hcc (k * 3) _ ((chg_at hlt 0 (by omega)).trans rfl))
          have g1 := (K.cell (p := ⟨cb, co + k * 3 + 1, none⟩) hcb).trans (hcc (k * 3 + 1) _ ((chg_at hlt 1 (by omega)).trans rfl))
          have g2 := (K.cell (p := ⟨cb, co + k * 3 + 2, none⟩) hcb).trans (hcc (k * 3 + 2) _ ((chg_at hlt 2 (by omega)).trans rfl))
          clear hcc
          have HMS : Hid (madeTo fs (k + 1) = if (applyR (madeTo fs k) [fs[k]]).2 = 0 then (applyR (madeTo fs k) [fs[k]]).1 else madeTo fs k) := by
            show madeTo fs (k + 1) = _
            rw [madeTo, List.getElem?_eq_getElem hlt]
          have HGO := Lib.hid (made_good fs k)
          have HGN := Lib.hid (made_good fs (k + 1))
          generalize hdn : madeTo fs (k + 1) = dn at *
          have HDN := Lib.hid hdn
          clear hdn
          generalize madeTo fs k = dk at *
          generalize fs[k] = ch at *
          obtain ⟨nm, x, rm⟩ := ch
          simp only at g0 g1 g2
          generalize hcl : [(⟨nm, x, rm⟩ : Chg)] = cl at *
          have HCL := Lib.hid hcl
          clear hcl
          obtain ⟨cD0, cD1, fD0, fD1⟩ := OD.out.two
          have zd := OD.out.lt
          go_wp2_with fail
          clear cD0 cD1 fD0 fD1
          clear g0 g1 g2
          have OX := Lib.hid (Own.new1 wr (.cells #[.string nm, .string x, .bool rm] 69) 69 [.string nm, .string x, .bool rm])
          replace OD := Lib.hid ((OD.out.alloc (.cells #[.string nm, .string x, .bool rm] 69)).alloc (.cells #[.string nm, .string x, .bool rm] 69))
          replace HD := Lib.hid (HD.out.go (((Kept.refl wr).alloc (.cells #[.string nm, .string x, .bool rm] 69)).alloc (.cells #[.string nm, .string x, .bool rm] 69)) (Ext.refl _ _))
          replace K := (K.alloc (.cells #[.string nm, .string x, .bool rm] 69)).alloc (.cells #[.string nm, .string x, .bool rm] 69)
          generalize wr.heap.size + 1 = bx at *
          generalize ((wr.alloc (.cells #[.string nm, .string x, .bool rm] 69)).alloc (.cells #[.string nm, .string x, .bool rm] 69)) = wv at *
          have HCX : Hid (ChgsAt [] wv (.slice (some ⟨bx, 0, none⟩) 1 1) cl) := by rw [← HCL.out]; exact ⟨_, _, rfl, Nat.le_refl _, by decide, OX.out.row (by simp)⟩
          have hcn : cl.length ≤ 100 := by rw [← HCL.out]; simp
          clear OX
          refine (apply_any [gd] dk cl _ _ _ (HT.out.kept K) HD.out HCX.out (Old.cons OD.out.lt (fun _ h => by cases h)) (by rw [HGO.out.nil]; exact Nat.zero_le _) hcn).mono ?_
          rintro e w5 ⟨s2, c2, rfl, hd2, hk⟩
          replace OD := Lib.hid (OD.out.kept hk)
          replace HD := Lib.hid (HD.out.go hk (Ext.refl _ _))
          replace K := K.trans hk
          clear hcn HCX HCL
          clear hk
          by_cases he : (applyR dk cl).2 = 0
          · rw [if_pos he] at HMS
            rw [← HMS.out] at hd2
            rw [he]
            clear he
            obtain ⟨A2, k2, B2, e2, rfl, rfl⟩ := hd2.form
            rw [HGN.out.len, HGN.out.nil] at hd2 ⊢
            dsimp only [List.length_nil] at hd2 ⊢
            have HD2 := Lib.hid hd2
            clear hd2 HD HMS HGO HGN
            go_upto_region 12 with fail
            replace OD := Lib.hid (OD.out.alloc (.cells #[.slice A2 381 k2, .slice B2 0 e2] 25))
            have OY := Lib.hid (Own.new w5 25 [.slice A2 381 k2, .slice B2 0 e2])
            replace HD2 := Lib.hid (HD2.out.go ((Kept.refl w5).alloc (.cells #[.slice A2 381 k2, .slice B2 0 e2] 25)) (Ext.refl _ _))
            replace K := K.alloc (.cells #[.slice A2 381 k2, .slice B2 0 e2] 25)
            generalize (w5.alloc (.cells #[.slice A2 381 k2, .slice B2 0 e2] 25)) = w6 at *
            have zy := OY.out.lt
            have zg := OD.out.lt
            obtain ⟨cD0, cD1, fD0, fD1⟩ := OD.out.two
            obtain ⟨cY0, cY1, fY0, fY1⟩ := OY.out.two
            go_wp2
            clear OY
            clear cD0 cD1 fD0 fD1 cY0 cY1 fY0 fY1
            go_roundw
            case rel => exact ⟨k + 1, by omega, by go_num, A2, k2, B2, e2, (OD.out.set_ 0 _).set_ 1 _, (by rw [HDN.out]; exact (HD2.out.put (p := ⟨gd, 0, none⟩) (by simp) _).put (p := ⟨gd, 1, none⟩) (by simp) _), (K.setCell (p := ⟨gd, 0, none⟩) HGD.out _).setCell (p := ⟨gd, 1, none⟩) HGD.out _⟩
            case measure => simp [intOf]; omega
          · rw [if_neg he] at HMS
            clear HGN
            have t1 := beq_f he
            generalize (applyR dk cl).2 = code at *
            clear he
            obtain ⟨A2, k2, B2, e2, rfl, rfl⟩ := hd2.form
            generalize (applyR dk cl).1.sec.length = n2 at *
            generalize (applyR dk cl).1.cache.length = m2 at *
            clear hd2
            obtain ⟨cD0, cD1, fD0, fD1⟩ := OD.out.two
            have zg := OD.out.lt
            go_wp2
            clear cD0 cD1 fD0 fD1
            go_roundw
            case rel => exact ⟨k + 1, by omega, by go_num, A1, c1, B1, e1, OD.out.alloc _, (by rw [HDN.out, HMS.out]; exact HD.out.go ((Kept.refl _).alloc _) (Ext.refl _ _)), K.alloc _⟩
            case measure => simp [intOf]; omega
        · obtain rfl : k = fs.length := by omega
          have HG := Lib.hid (made_good fs fs.length)
          generalize madeTo fs fs.length = dd at *
          obtain ⟨cD0, cD1, fD0, fD1⟩ := OD.out.two
          go_wp2_with fail
          refine (writes_any dd l _ _ _ (HD.out.weak (fun _ hk => by cases hk)) (HLS.out.go K (Ext.refl _ _)) (by have := HLL.out; omega)).mono ?_
          rintro e w5 ⟨r5, rfl, hr5, hk⟩
          clear cD0 cD1 fD0 fD1
          replace OD := Lib.hid (OD.out.kept hk)
          replace HD := Lib.hid (HD.out.go hk (Ext.refl _ _))
          replace K := K.trans hk
          have HWN : Hid ((writesR dd l).2 ≠ 0 → (writesR dd l).1 = []) := fun h => writesR_no h
          have HWY : Hid ((writesR dd l).2 = 0 → (writesR dd l).1.length ≤ 30 ∧ (writesR dd l).1.length = szL l ∧ ∀ x ∈ (writesR dd l).1, WrOk x) := fun h => by obtain ⟨q, _, _, h1, _, h2, h3, _⟩ := writes_ok HG.out h; exact ⟨h1, h3, h2⟩
          generalize writesR dd l = wr9 at *
          obtain ⟨ws, code⟩ := wr9
          obtain ⟨QA, qc, rfl, hq1, hq2, hq3⟩ := hr5
          dsimp only at hq1 hq2 hq3 HWN HWY ⊢
          unfold maxLen at hq2
          have HQ := Lib.hid hq3
          clear hq3
          clear hk
          by_cases he : code = 0
          · subst he
            obtain ⟨h30, hsz, hok⟩ := HWY.out rfl
            have HOK := Lib.hid hok
            have HSZ := Lib.hid hsz
            clear HWN HWY hok hsz HD OD HG
            go_wp2_with fail
            go_loopw [16, 71] (fun nv iv wq => ∃ (k : Nat), k ≤ l.length ∧ iv = .int .i64 k ∧ nv = .int .i64 ((szL (l.take k) : Nat) : Int) ∧ Kept w5 wq) (fun _ iv _ => l.length - (intOf iv).toNat)
            case atStart => exact ⟨0, Nat.zero_le _, rfl, rfl, Kept.refl _⟩
            case round =>
              obtain ⟨k, hk, rfl, rfl, K9⟩ := hrel
              have hll := HLL.out
              have hs9 := szL_le l k
              by_cases hlt : k < l.length
              · skip
                obtain ⟨cb, co, rfl, hcb, _, hcc⟩ := HLR.out (by rw [chg_len]; omega)
                have g0 := ((K.trans K9).cell (p := ⟨cb, co + k * 3, none⟩) hcb).trans (hcc (k * 3) _ ((chg_at hlt 0 (by omega)).trans rfl))
                have g1 := ((K.trans K9).cell (p := ⟨cb, co + k * 3 + 1, none⟩) hcb).trans (hcc (k * 3 + 1) _ ((chg_at hlt 1 (by omega)).trans rfl))
                have g2 := ((K.trans K9).cell (p := ⟨cb, co + k * 3 + 2, none⟩) hcb).trans (hcc (k * 3 + 2) _ ((chg_at hlt 2 (by omega)).trans rfl))
                clear hcc
                have HSU := Lib.hid (szL_succ hlt)
                generalize szL (l.take k) = sz at *
                generalize l[k] = ch at *
                obtain ⟨nm, x, rm⟩ := ch
                simp only at g0 g1 g2
                cases rm with
                | true =>
                  go_wp2
                  go_roundw
                  case rel => exact ⟨k + 1, by omega, by go_num, by rw [HSU.out]; rfl, K9.alloc _⟩
                  case measure => simp [intOf]; omega
                | false =>
                  by_cases hx : 256 < x.size
                  · have t1 : (x.size : Int) > 256 := by omega
                    have HE : Hid (szC ⟨nm, x, false⟩ = 17) := by show szC _ = _; unfold szC; rw [if_neg (by simp), if_pos hx]
                    clear hx
                    go_wp2
                    go_roundw
                    case rel => exact ⟨k + 1, by omega, by go_num, by rw [HSU.out, HE.out]; rfl, K9.alloc _⟩
                    case measure => simp [intOf]; omega
                  · have t1 : ¬ (x.size : Int) > 256 := by omega
                    have HE : Hid (szC ⟨nm, x, false⟩ = 5) := by show szC _ = _; unfold szC; rw [if_neg (by simp), if_neg hx]
                    clear hx
                    go_wp2
                    go_roundw
                    case rel => exact ⟨k + 1, by omega, by go_num, by rw [HSU.out, HE.out]; rfl, K9.alloc _⟩
                    case measure => simp [intOf]; omega
              · obtain rfl : k = l.length := by omega
                rw [List.take_length, ← HSZ.out]
                replace HQ := Lib.hid (HQ.out.kept K9)
                replace K := K.trans K9
                clear K9 hs9 hll
                go_wp2_with fail
                go_loopw [92] (fun iv wq => ∃ (k : Nat), k ≤ ws.length ∧ iv = .int .i64 k ∧ Kept wr wq) (fun iv _ => ws.length - (intOf iv).toNat)
                case atStart => exact ⟨0, Nat.zero_le _, rfl, Kept.refl _⟩
                case round =>
                  obtain ⟨k, hk, rfl, K9⟩ := hrel
                  by_cases hlt : k < ws.length
                  · obtain ⟨b, o, rfl, hb, _, hcs⟩ := HQ.out (by rw [wrs_length]; omega)
                    have g1 := (K9.cell (p := ⟨b, o + k * 2, none⟩) hb).trans (hcs _ _ (wrs_at hlt).1)
                    have g2 := (K9.cell (p := ⟨b, o + k * 2 + 1, none⟩) hb).trans (hcs _ _ (wrs_at hlt).2)
                    have hx := HOK.out ws[k] (List.getElem_mem hlt)
                    generalize ws[k] = x at *
                    obtain ⟨xa, xd⟩ := x
                    obtain ⟨h1, h2, h3⟩ := hx
                    dsimp only at h1 h2 h3 g1 g2
                    have t1 : ¬ xa < 61 := by omega
                    have t2 : ¬ xa ≥ 381 := by omega
                    clear hcs
                    go_wp2
                    go_roundw
                    case rel => exact ⟨k + 1, by omega, by go_num, K9.alloc _⟩
                    case measure => simp [intOf]; omega
                  · obtain rfl : k = ws.length := by omega
                    replace K := K.trans K9
                    have t1 : (ws.length : Int) ≤ 30 := by omega
                    go_wp2_with fail
                    refine (awake12 _ (HT.out.kept K)).mono ?_
                    rintro e w6 ⟨rfl, hk⟩
                    replace K := K.trans hk
                    clear hk
                    go_wp2
                    go_ret
                    exact ⟨rfl, K⟩
          · have t1 := bne_t he
            have e0 := HWN.out he
            rw [e0]
            clear HWN HWY he e0
            have hl0 : (([] : List Wr).length : Int) = 0 := rfl
            obtain ⟨cD0, cD1, fD0, fD1⟩ := OD.out.two
            go_wp2_with fail
            refine (awake12 _ (HT.out.kept K)).mono ?_
            rintro e w6 ⟨rfl, hk⟩
            clear cD0 cD1 fD0 fD1
            replace OD := Lib.hid (OD.out.kept hk)
            replace HD := Lib.hid (HD.out.go hk (Ext.refl _ _))
            replace K := K.trans hk
            clear hk
            go_wp2
            go_ret
            exact ⟨rfl, K⟩
    · rw [hl]
      clear hf hl
      go_wp2_with fail
      refine (awake12 _ (HT.out.kept K)).mono ?_
      rintro e w3 ⟨rfl, hk⟩
      replace K := K.trans hk
      clear hk
      go_wp2
      go_ret
      exact ⟨rfl, K⟩
  · rw [hf]
    clear hf
    go_wp2_with fail
    refine (awake12 _ (HT.out.kept K)).mono ?_
    rintro e w2 ⟨rfl, hk⟩
    replace K := K.trans hk
    clear hk
    go_wp2
    go_ret
    exact ⟨rfl, K⟩
end Go.Proofs.YtagpimahicgkmaaDoor
