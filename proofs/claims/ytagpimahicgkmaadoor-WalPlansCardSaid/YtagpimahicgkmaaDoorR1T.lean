/- Walk: mailsackref01.Sum. -/
import Derived.Test.YtagpimahicgkmaaDoorR1S
import Derived.Test.YtagpimahicgkmaaDoorR10S
namespace Go.Proofs.YtagpimahicgkmaaDoor
open Go.RowKit

theorem RowG.out {w : World} {base : Nat} {v : Value} {L : List UInt8} {m : Nat} (h : RowG w base v L) (hm : L.length = m) : ∃ g cap, v = .slice (some ⟨g, 0, none⟩) m cap ∧ m ≤ cap ∧ cap ≤ maxLen ∧ base ≤ g ∧ g < w.heap.size ∧ RowG w base (.slice (some ⟨g, 0, none⟩) m cap) L := by
  obtain ⟨g, cap, rfl, hb, hg, h1, h2, h3, h4⟩ := h
  subst hm
  exact ⟨g, cap, rfl, h1, h2, hb, hg, ⟨g, cap, rfl, hb, hg, h1, h2, h3, h4⟩⟩
theorem RowG.facts {w : World} {base g m cap : Nat} {L : List UInt8} (h : RowG w base (.slice (some ⟨g, 0, none⟩) m cap) L) : g < w.heap.size ∧ m ≤ cap ∧ cap ≤ maxLen := by
  obtain ⟨g', cap', hv, _, hg, h1, h2, _, _⟩ := h
  cases hv
  exact ⟨hg, h1, h2⟩
theorem RowG.cells {w : World} {base g m cap : Nat} {L : List UInt8} (h : RowG w base (.slice (some ⟨g, 0, none⟩) m cap) L) : ∀ j u, (Lib.byteCells L)[j]? = some u → w.cell? ⟨g, j, none⟩ = some u := by
  obtain ⟨g', cap', hv, _, _, _, _, h3, _⟩ := h
  cases hv
  exact h3
set_option maxRecDepth 100000 in
set_option maxHeartbeats 4000000 in
theorem rsum_n (s : ByteArray) (n Z Q e8 f8 : Nat) (Pd Cn : Nat → List UInt8) (M R : List UInt8) (B : Nat → St) (sb : St) (D : Nat → List UInt8) (w : World) (hn : s.size = n) (hs : n ≤ 1000000) (he8 : e8 = 8) (hf8 : f8 = 8)
    (hP0 : s.data.toList ++ [128] = Pd 0) (hPs : ∀ k, Pd k ++ [0] = Pd (k + 1)) (hPl : ∀ k, (Pd k).length = n + 1 + k) (hZ : (n + 1 + Z) % 64 = 56) (hZk : ∀ k, k < Z → (n + 1 + k) % 64 ≠ 56) (hZl : Z ≤ 64)
    (hC8 : Cn e8 = Pd Z) (hCs : ∀ i, i < 8 → Cn (i + 1) ++ [byteOf (n * 8) i] = Cn i) (hC0 : Cn 0 = M) (hCl : ∀ i, i ≤ 8 → (Cn i).length = n + 1 + Z + (8 - i)) (hM : M.length = 64 * Q)
    (hB0 : B 0 = st0) (hBs : ∀ q, B (q + 1) = blockSt (B q) (blk M q)) (hBQ : B Q = sb)
    (hD0 : D 0 = []) (hDs : ∀ j, j < 8 → D j ++ be4 (at32 (stL sb) j) = D (j + 1)) (hDl : ∀ j, j ≤ 8 → (D j).length = 4 * j) (hD8 : D f8 = R) :
    Calls Tryd.prog 82 #[.string s] w fun e w' => e = .returned (.string ⟨R.toArray⟩) ∧ Kept w w' := by
  have HN := Lib.hid hn
  have H8 := Lib.hid he8
  have HF8 := Lib.hid hf8
  have HP0 := Lib.hid hP0
  have HPS := Lib.hid hPs
  have HPL := Lib.hid hPl
  have HZ := Lib.hid hZ
  have HZK := Lib.hid hZk
  have HC8 := Lib.hid hC8
  have HCS := Lib.hid hCs
  have HC0 := Lib.hid hC0
  have HCL := Lib.hid hCl
  have HM := Lib.hid hM
  have HB0 := Lib.hid hB0
  have HBS := Lib.hid hBs
  have HBQ := Lib.hid hBQ
  have HD0 := Lib.hid hD0
  have HDS := Lib.hid hDs
  have HDL := Lib.hid hDl
  have HD8 := Lib.hid hD8
  have HSL : Hid (s.data.toList.length = n) := by show _ = _; rw [← hn]; simp
  have hcv := run_bytes_of_string (P := Tryd.prog) w 9 85 5 s Tryd.underlying9 Tryd.underlying85 Tryd.underlying5
  have HG0 := Lib.hid (RowG.conv w s (by rw [hn]; unfold maxLen; omega))
  clear hn he8 hf8 hP0 hPs hPl hZ hZk hC8 hCs hC0 hCl hM hB0 hBs hBQ hD0 hDs hDl hD8
  go_enter Tryd.func82, Tryd.ntmps82
  go_wp2_with (at_builtin; go_must (
    refine wpList_appG (w0 := w) rfl (.tmp 15) (.tmp 16) rfl _ s.data.toList ((Kept.refl w).drew.alloc _ |>.alloc _) rfl (HG0.out.kept ((Kept.refl _).alloc _)) _ 128 rfl (Own.new1 w.drew _ 5 ([(128 : UInt8)].flatMap bc1)) (by rw [HSL.out]; omega) ?_
    intro v9 w9 hG9 K9
    rw [HP0.out] at hG9
    obtain ⟨g9, c9, rfl, _, _, _, _, hG⟩ := hG9.out (HPL.out 0)
    have HG9 := Lib.hid hG
    clear hG hG9 hcv HG0))
  go_wp2_with fail
  go_loopw [4] (fun v wq => ∃ (k m g c : Nat), k ≤ Z ∧ v = .slice (some ⟨g, 0, none⟩) m c ∧ Hid (m = n + 1 + k) ∧ Hid (RowG wq w.heap.size (.slice (some ⟨g, 0, none⟩) m c) (Pd k)) ∧ Kept w wq) (fun v _ => n + 1 + Z - lenV v)
  case atStart => exact ⟨0, n + 1 + 0, g9, c9, Nat.zero_le _, rfl, rfl, HG9, K9⟩
  case round =>
    clear HG9 K9
    obtain ⟨k, m, g, c, hk, rfl, HMK, HG, K⟩ := hrel
    have hm2 : m ≤ 2000000 := by have := HMK.out; omega
    by_cases hkz : k < Z
    · have t1 : ((m : Int) % 64 != 56) = true := bne_t (by have := HZK.out k hkz; have := HMK.out; omega)
      have hlm : (Pd k).length = m := by rw [HPL.out, HMK.out]
      go_wp2_with (at_builtin; go_must (
        refine wpList_appG (w0 := w) rfl (.tmp 22) (.tmp 23) rfl _ (Pd k) (K.alloc _) rfl (HG.out.kept ((Kept.refl _).alloc _)) _ 0 rfl (Own.new _ 5 ([(0 : UInt8)].flatMap bc1)) (by rw [hlm]; omega) ?_
        intro v8 w8 hG8 K8
        rw [HPS.out] at hG8
        obtain ⟨g8, c8, rfl, _, _, _, _, hG⟩ := hG8.out (m := m + 1) (by rw [HPL.out]; have := HMK.out; omega)
        have HG8 := Lib.hid hG
        clear hG hG8))
      go_wp2
      go_roundw
      case rel => exact ⟨k + 1, m + 1, g8, c8, by omega, by first | rfl | go_num, by show _ = _; have := HMK.out; omega, HG8, K8⟩
      case measure => simp [lenV]; have := HMK.out; omega
    · obtain rfl : k = Z := by omega
      have t1 : ((m : Int) % 64 != 56) = false := bne_f (by have := HZ.out; have := HMK.out; omega)
      rw [← HC8.out] at HG
      have hwz : IntKind.u64.wrap (s.size : Int) = (s.size : Int) := by rw [HN.out]; show (n : Int) % 18446744073709551616 = _; omega
      have hw8 : IntKind.u64.wrap ((s.size : Int) * 8) = (s.size : Int) * 8 := by rw [HN.out]; show (n : Int) * 8 % 18446744073709551616 = _; omega
      go_wp2_with fail
      go_loopw [4, 5] (fun v iv wq => ∃ (i m g c : Nat), i ≤ 8 ∧ iv = .int .i64 ((i : Int) - 1) ∧ v = .slice (some ⟨g, 0, none⟩) m c ∧ Hid ((Cn i).length = m) ∧ Hid (RowG wq w.heap.size (.slice (some ⟨g, 0, none⟩) m c) (Cn i)) ∧ Kept w wq) (fun _ iv _ => (intOf iv + 1).toNat)
      case atStart => exact ⟨e8, m, g, c, by rw [H8.out]; omega, by rw [H8.out]; rfl, rfl, by show _ = _; rw [HC8.out, HPL.out, HMK.out], HG, K⟩
      case round =>
        clear HG K HMK hm2 t1
        obtain ⟨i, m2, g2, c2, hi, rfl, rfl, HML, HG, K⟩ := hrel
        have hm2 : m2 ≤ 2000000 := by have := HML.out; have := HCL.out i hi; omega
        rcases i with _ | i
        · rw [HC0.out] at HG HML
          have hi0 : ((0 : Nat) : Int) - 1 = -1 := rfl
          rw [hi0]
          have hmq : m2 = 64 * Q := by rw [← HML.out, HM.out]
          clear hwz hw8 hi0
          go_wp2_with fail
          refine (rounds_any wr).mono ?_
          rintro e wA ⟨gK, rfl, hrK, hk⟩
          have HRK := Lib.hid hrK
          replace HG := Lib.hid (HG.out.kept hk)
          replace K := K.trans hk
          clear hk hrK
          go_wp2_with fail
          refine (state_any wA).mono ?_
          rintro e wE ⟨gS, rfl, hrS, hk⟩
          have HRS := Lib.hid hrS
          replace HRK := Lib.hid (HRK.out.kept hk)
          replace HG := Lib.hid (HG.out.kept hk)
          replace K := K.trans hk
          clear hk hrS
          obtain ⟨hgE, hcp, hcm⟩ := HG.out.facts
          have HCE := Lib.hid HG.out.cells
          unfold maxLen at hcm
          go_wp2_with fail
          go_loopw [7, 8] (fun hv iv wq => ∃ (q p hc : Nat) (A : Option Addr), q ≤ Q ∧ Hid (p = 64 * q) ∧ iv = .int .i64 (p : Int) ∧ hv = .slice A 8 hc ∧ Hid (8 ≤ hc ∧ hc ≤ maxLen) ∧ Hid (Row [] wq A (stv (B q))) ∧ Kept wE wq) (fun _ iv _ => m2 - (intOf iv).toNat)
          case atStart => exact ⟨0, 0, 8, some ⟨gS, 0, none⟩, Nat.zero_le _, rfl, rfl, rfl, ⟨Nat.le_refl _, by decide⟩, by rw [HB0.out]; exact HRS, Kept.refl _⟩
          case round =>
            obtain ⟨q, p, hc, A, hq, HPQ, rfl, rfl, HHC, HRB, K9⟩ := hrel
            have hp := HPQ.out
            by_cases hlt : q < Q
            · have HBK := Lib.hid (HBS.out q)
              have hlm : M.length = 64 * Q := HM.out
              have hcvt : (convert 85 9 (.slice (some ⟨g2, p, none⟩) 64 (c2 - p))).run Tryd.prog wr = .ok (.string (blk M q)) wr := by
                have hbl : ((M.drop (64 * q)).take 64).length = 64 := by rw [List.length_take, List.length_drop]; omega
                have := run_convert_bytes_back (P := Tryd.prog) wr 85 9 5 ⟨g2, p, none⟩ (c2 - p) ((M.drop (64 * q)).take 64) Tryd.underlying85 Tryd.underlying5 Tryd.underlying9 (fun i hi => by
                  rw [Addr.add_mid]
                  refine (K9.cell (p := ⟨g2, p + i, none⟩) hgE).trans (HCE.out (p + i) _ ?_)
                  rw [hbl] at hi
                  rw [Lib.byteCells, List.getElem?_map, List.getElem?_eq_getElem (by omega)]
                  simp only [Option.map_some, List.getElem_take, List.getElem_drop, HPQ.out])
                rw [hbl] at this
                exact this
              have hbs : (blk M q).size = 64 := by
                unfold blk
                show (List.toArray _).size = 64
                rw [List.size_toArray, List.length_take, List.length_drop]; omega
              have HBS9 := Lib.hid hbs
              have p0 : (0 : Int) ≤ (p : Int) := by omega
              have p1 : (p : Int) < (m2 : Int) := by omega
              have p2 : (p : Int) + 64 ≤ (c2 : Int) := by omega
              have p3 : (p : Int) ≤ (p : Int) + 64 := by omega
              have p4 : ((p : Int) + 64).toNat = p + 64 := by omega
              generalize blk M q = bq at *
              clear hlm hbs hp
              go_wp2_with fail
              refine (rblock_any bq (B q) _ _ _ _ wr HBS9.out ((HRK.out.kept K9)) HRB.out ⟨Nat.le_refl _, by decide⟩ HHC.out).mono ?_
              rintro e wB ⟨AB, rfl, hrB, hk⟩
              rw [← HBK.out] at hrB
              have HRB2 := Lib.hid hrB
              replace K9 := K9.trans hk
              clear hk hrB
              go_wp2
              go_roundw
              case rel => exact ⟨q + 1, p + 64, 8, AB, by omega, by show _ = _; have := HPQ.out; omega, by go_num, rfl, ⟨Nat.le_refl _, by decide⟩, HRB2, K9⟩
              case measure => simp [intOf]; omega
            · have hqQ : q = Q := by omega
              rw [hqQ, HBQ.out] at HRB
              have t1 : ¬ (p : Int) < (m2 : Int) := by omega
              obtain ⟨b, o, rfl, hb, _, hcs⟩ := HRB.out (by show 0 < 8; decide)
              have HCS2 := Lib.hid hcs
              replace K := K.trans K9
              have hkw := K.size
              clear K9 HRK HG HRS HCE HRB hcs hcp hcm hgE hp HPQ hqQ
              obtain ⟨wX, hwX⟩ : ∃ x, x = wr := ⟨_, rfl⟩
              subst hwX
              go_wp2_with fail
              go_loopw [9, 58] (fun ov iv wq => ∃ (j t oc : Nat) (O : Option Addr), j ≤ 8 ∧ iv = .int .i64 (j : Int) ∧ ov = .slice O t oc ∧ Hid ((D j).length = t) ∧ Hid (wq.ownsRow wX.heap.size 5 1 (.slice O t oc) (D j).length ((D j).flatMap bc1)) ∧ Kept wX wq) (fun _ iv _ => 8 - (intOf iv).toNat)
              case atStart => exact ⟨0, 0, 0, none, Nat.zero_le _, rfl, rfl, by rw [HD0.out]; rfl, by rw [HD0.out]; exact World.ownsRow_nil _ _ _ _, Kept.refl _⟩
              case round =>
                obtain ⟨j, t, oc, O, hj, rfl, rfl, HT, HO, K1⟩ := hrel
                by_cases hlt : j < 8
                · have HDJ := Lib.hid (HDS.out j hlt)
                  have gx : wr.cell? ⟨b, o + j, none⟩ = some (u32v (at32 (stL sb) j)) := (K1.cell (p := ⟨b, o + j, none⟩) hb).trans (HCS2.out j _ (by rw [← wv_stL]; exact wv_at hlt))
                  have hb2 : b < wr.heap.size := Nat.lt_of_lt_of_le hb K1.size
                  generalize at32 (stL sb) j = x at *
                  have E3 := byte24 x
                  have E2 := byte16 x
                  have E1 := byte8 x
                  have E0 := byte0 x
                  have HB4 : Hid (be4 x = [(x >>> 24).toUInt8, (x >>> 16).toUInt8, (x >>> 8).toUInt8, x.toUInt8]) := rfl
                  generalize (x >>> 24).toUInt8 = y3 at *
                  generalize (x >>> 16).toUInt8 = y2 at *
                  generalize (x >>> 8).toUInt8 = y1 at *
                  generalize x.toUInt8 = y0 at *
                  have i0 : (0 : Int) ≤ (j : Int) := by omega
                  have i1 : (j : Int) < 8 := by omega
                  have ht33 : t ≤ 28 := by have := HT.out; have := HDL.out j hj; omega
                  have He0 : Hid ((D j).length = t) := HT
                  have HOT := HO.out
                  rw [He0.out] at HOT
                  replace HO := Lib.hid HOT
                  clear HOT
                  have He1 : Hid ((D j ++ [y3]).length = t + 1) := by show _ = _; rw [List.length_append, He0.out]; rfl
                  have He2 : Hid ((D j ++ [y3] ++ [y2]).length = t + 2) := by show _ = _; rw [List.length_append, He1.out]; rfl
                  have He3 : Hid ((D j ++ [y3] ++ [y2] ++ [y1]).length = t + 3) := by show _ = _; rw [List.length_append, He2.out]; rfl
                  have He4 : Hid ((D j ++ [y3] ++ [y2] ++ [y1] ++ [y0]).length = t + 4) := by show _ = _; rw [List.length_append, He3.out]; rfl
                  go_wp2_with (at_builtin; go_must (first
                    | (refine Tryd.elU.wpList_app rfl (.tmp 62) (.tmp 66) rfl wX.heap.size (.slice O t oc) (D j) rfl (by rw [He0.out]; exact HO.out.alloc _) [] _ 1 [y3] rfl ((Own.new _ 5 ([y3].flatMap bc1)).row (by simp)) (bc_one _) (by rw [He0.out]; unfold maxLen; simp only [List.length_cons, List.length_nil]; omega) (by rw [He0.out]; simp only [List.length_cons, List.length_nil]; omega) (by have := K1.size; simp; omega) ?_; intro v1 w1 hap hgr hat; have K2 := (K1.alloc _).grown hgr (fun k e => (HO.out.lt k e).1); obtain ⟨A1, c1, rfl, _, _, _⟩ := own_form (V := []) hap (by simp); rw [He1.out] at hap ⊢; have HO1 := Lib.hid hap; clear hap hgr hat)
                    | (refine Tryd.elU.wpList_app rfl (.tmp 67) (.tmp 71) rfl wX.heap.size (.slice A1 (t + 1) c1) (D j ++ [y3]) rfl (by rw [He1.out]; exact HO1.out.alloc _) [] _ 1 [y2] rfl ((Own.new _ 5 ([y2].flatMap bc1)).row (by simp)) (bc_one _) (by rw [He1.out]; unfold maxLen; simp only [List.length_cons, List.length_nil]; omega) (by rw [He1.out]; simp only [List.length_cons, List.length_nil]; omega) (by have := K2.size; simp; omega) ?_; intro v2 w2 hap hgr hat; have K3 := (K2.alloc _).grown hgr (fun k e => (HO1.out.lt k e).1); obtain ⟨A2, c2, rfl, _, _, _⟩ := own_form (V := []) hap (by simp); rw [He2.out] at hap ⊢; have HO2 := Lib.hid hap; clear hap hgr hat)
                    | (refine Tryd.elU.wpList_app rfl (.tmp 72) (.tmp 76) rfl wX.heap.size (.slice A2 (t + 2) c2) (D j ++ [y3] ++ [y2]) rfl (by rw [He2.out]; exact HO2.out.alloc _) [] _ 1 [y1] rfl ((Own.new _ 5 ([y1].flatMap bc1)).row (by simp)) (bc_one _) (by rw [He2.out]; unfold maxLen; simp only [List.length_cons, List.length_nil]; omega) (by rw [He2.out]; simp only [List.length_cons, List.length_nil]; omega) (by have := K3.size; simp; omega) ?_; intro v3 w3 hap hgr hat; have K4 := (K3.alloc _).grown hgr (fun k e => (HO2.out.lt k e).1); obtain ⟨A3, c3, rfl, _, _, _⟩ := own_form (V := []) hap (by simp); rw [He3.out] at hap ⊢; have HO3 := Lib.hid hap; clear hap hgr hat)
                    | (refine Tryd.elU.wpList_app rfl (.tmp 77) (.tmp 80) rfl wX.heap.size (.slice A3 (t + 3) c3) (D j ++ [y3] ++ [y2] ++ [y1]) rfl (by rw [He3.out]; exact HO3.out.alloc _) [] _ 1 [y0] rfl ((Own.new _ 5 ([y0].flatMap bc1)).row (by simp)) (bc_one _) (by rw [He3.out]; unfold maxLen; simp only [List.length_cons, List.length_nil]; omega) (by rw [He3.out]; simp only [List.length_cons, List.length_nil]; omega) (by have := K4.size; simp; omega) ?_; intro v4 w4 hap hgr hat; have K5 := (K4.alloc _).grown hgr (fun k e => (HO3.out.lt k e).1); obtain ⟨A4, c4, rfl, _, _, _⟩ := own_form (V := []) hap (by simp); rw [He4.out] at hap ⊢; have HO4 := Lib.hid hap; clear hap hgr hat)))
                  go_wp2
                  go_roundw
                  case rel =>
                    have HDN : Hid (D j ++ [y3] ++ [y2] ++ [y1] ++ [y0] = D (j + 1)) := by show _ = _; rw [← HDJ.out, HB4.out]; simp
                    rw [HDN.out] at He4
                    exact ⟨j + 1, t + 4, c4, A4, by omega, by go_num, by first | rfl | go_num, He4, by rw [He4.out, ← HDN.out]; exact HO4, K5⟩
                  case measure => simp [intOf]; omega
                · have hj8 : j = f8 := by rw [HF8.out]; omega
                  rw [hj8, HD8.out] at HO HT
                  have ht32 : t = 32 := by
                    have := HDL.out j hj
                    rw [hj8, HD8.out] at this
                    have := HT.out; have := HF8.out; omega
                  rw [HT.out] at HO
                  obtain ⟨A3, c3, hA, hc3, hm3, hr3⟩ := own_form (V := []) HO.out (by simp)
                  injection hA with hA1 hA2 hA3
                  subst hA1 hA3
                  obtain ⟨b3, o3, rfl, hb3, _, hcl⟩ := hr3 (by rw [Tryd.elU.cells_length, HT.out]; omega)
                  have hcv3 := run_convert_bytes_back (P := Tryd.prog) wr 85 9 5 ⟨b3, o3, none⟩ oc R Tryd.underlying85 Tryd.underlying5 Tryd.underlying9 (fun i hi => by
                    rw [Addr.add_mid]
                    exact hcl i _ (by rw [bc_flat]; exact bc_at hi))
                  rw [HT.out] at hcv3
                  have KF := K.trans K1
                  have hj9 : ¬ (j : Int) < 8 := by omega
                  clear hcl hr3 hb3 HO hj8 ht32 K K1
                  go_wp2
                  go_ret
                  exact ⟨by rfl, KF⟩
        · have hi1 : ((i + 1 : Nat) : Int) - 1 = (i : Int) := by omega
          rw [hi1]
          have i0 : (0 : Int) ≤ (i : Int) := by omega
          have i1 : (i : Int) < 8 := by omega
          have i3 : (0 : Int) ≤ 8 * (i : Int) := by omega
          have q1 : IntKind.i64.wrap (8 * (i : Int)) = 8 * (i : Int) := IntWalk.i64_in _ (by omega)
          have q7 : min (8 * (i : Int)).toNat IntKind.u64.bits = 8 * i := by show min _ 64 = _; omega
          have hb : (s.size : Int) * 8 / 2 ^ (8 * i) % 256 = ((byteOf (n * 8) i).toNat : Int) := by
            rw [HN.out]
            have := byte_of (n * 8) i
            rwa [show ((n * 8 : Nat) : Int) = (n : Int) * 8 by omega] at this
          have HCI := Lib.hid (HCS.out i (by omega))
          generalize byteOf (n * 8) i = y at *
          have hlm := HML.out
          go_wp2_with (at_builtin; go_must (
            refine wpList_appG (w0 := w) rfl (.tmp 29) (.tmp 37) rfl _ (Cn (i + 1)) (K.alloc _) rfl (HG.out.kept ((Kept.refl _).alloc _)) _ y rfl (Own.new _ 5 ([y].flatMap bc1)) (by rw [hlm]; omega) ?_
            intro v8 w8 hG8 K8
            rw [HCI.out] at hG8
            obtain ⟨g8, c8, rfl, _, _, _, _, hG⟩ := hG8.out (m := m2 + 1) (by rw [HCL.out i (by omega)]; have := HCL.out (i + 1) hi; omega)
            have HG8 := Lib.hid hG
            clear hG hG8))
          go_wp2
          go_roundw
          case rel => exact ⟨i, m2 + 1, g8, c8, by omega, by first | rfl | go_num, by first | rfl | go_num, by show _ = _; rw [HCL.out i (by omega)]; have := HCL.out (i + 1) hi; omega, HG8, K8⟩
          case measure => first | (simp [intOf]; done) | (simp [intOf]; omega)
/-- The document's digest is the program's. -/
theorem rsum_any (s : ByteArray) (w : World) (hs : s.size ≤ 1000000) :
    Calls Tryd.prog 82 #[.string s] w fun e w' => e = .returned (.string (shaS s)) ∧ Kept w w' := by
  have hl : s.data.toList.length = s.size := by simp
  show Calls _ _ _ _ fun e w' => e = .returned (.string ⟨(digTo (sumSt s) 8).toArray⟩) ∧ Kept w w'
  refine rsum_n s s.size (zerosR s.size) ((msgR s).length / 64) 8 8 (fun k => s.data.toList ++ 128 :: List.replicate k 0) (fun i => s.data.toList ++ 128 :: (List.replicate (zerosR s.size) 0 ++ (cntTo (s.size * 8) 8).take (8 - i))) (msgR s) (digTo (sumSt s) 8) (blocksL (msgR s) st0) (sumSt s) (digTo (sumSt s)) w rfl hs rfl rfl
    rfl (fun k => ?_) (fun k => ?_) (zeros_mod _) (fun k hk => zeros_least hk) (by unfold zerosR; omega) ?_ (fun i hi => ?_) ?_ (fun i hi => ?_) (by have := msg_mod s; omega) rfl (fun q => rfl) (sum_blocks s) rfl (fun j hj => ?_) (fun j hj => digTo_len _ j hj) rfl
  · show (s.data.toList ++ 128 :: List.replicate k 0) ++ [0] = _
    rw [List.append_assoc, List.cons_append, ← List.replicate_succ']
  · show (s.data.toList ++ 128 :: List.replicate k 0).length = _
    simp; omega
  · show s.data.toList ++ 128 :: (List.replicate (zerosR s.size) 0 ++ (cntTo (s.size * 8) 8).take 0) = _
    rw [List.take_zero, List.append_nil]
  · show (s.data.toList ++ 128 :: (List.replicate (zerosR s.size) 0 ++ (cntTo (s.size * 8) 8).take (8 - (i + 1)))) ++ [byteOf (s.size * 8) i] = s.data.toList ++ 128 :: (List.replicate (zerosR s.size) 0 ++ (cntTo (s.size * 8) 8).take (8 - i))
    rw [cnt_take _ i hi]
    simp only [List.append_assoc, List.cons_append]
  · show s.data.toList ++ 128 :: (List.replicate (zerosR s.size) 0 ++ (cntTo (s.size * 8) 8).take 8) = _
    rw [List.take_of_length_le (by rw [cntTo_len]; exact Nat.le_refl _)]; rfl
  · show (s.data.toList ++ 128 :: (List.replicate (zerosR s.size) 0 ++ (cntTo (s.size * 8) 8).take (8 - i))).length = _
    simp only [List.length_append, List.length_cons, List.length_replicate, List.length_take, cntTo_len, hl]; omega
  · unfold digTo
    have h9 : j < (stL (sumSt s)).length := hj
    rw [List.take_succ_eq_append_getElem h9, List.flatMap_append]
    have e : at32 (stL (sumSt s)) j = (stL (sumSt s))[j]'h9 := by unfold at32; rw [List.getD_eq_getElem?_getD, List.getElem?_eq_getElem h9]; rfl
    rw [e]; simp
end Go.Proofs.YtagpimahicgkmaaDoor
