/- Walk: store.Writes. -/
import Derived.Test.YtagpimahicgkmaaDoorMh
namespace Go.Proofs.YtagpimahicgkmaaDoor
open Go.RowKit

theorem Kept.trans_below {a b c : World} (h : Kept a b) (k : Below a.heap.size b c) : Kept a c := Below.trans h k
theorem changesR_stop (q : Sto) (a : List Chg) (c : Chg) (b : List Chg) (h : (changesR q a).1 = 0) (hc : (changeR (changesR q a).2 c).1 ≠ 0) : changesR q (a ++ c :: b) = changeR (changesR q a).2 c := by
  induction a generalizing q with
  | nil =>
    show (if (changeR q c).1 = 0 then _ else changeR q c) = _
    have hc' : (changeR q c).1 ≠ 0 := hc
    rw [if_neg hc']; rfl
  | cons y a ih =>
    rw [List.cons_append]
    unfold changesR at h hc ⊢
    split
    · rename_i e
      rw [if_pos e] at h hc
      exact ih _ h hc
    · rename_i e
      rw [if_neg e] at h
      exact absurd h e
theorem changeR_le (q : Sto) (c : Chg) : (changeR q c).2.ws.length ≤ q.ws.length + 17 := by
  unfold changeR
  split
  · exact Nat.le_add_right _ _
  · split
    · split
      · exact Nat.le_add_right _ _
      · show (q.ws ++ [_]).length ≤ _; simp
    · split
      · exact Nat.le_add_right _ _
      · split
        · exact Nat.le_add_right _ _
        · split
          · show ((q.ws ++ fillL _ _ _) ++ [_]).length ≤ _
            rw [List.length_append, List.length_append, fillL_len]
            have := countN_le (clsN c.data.size)
            simp; omega
          · unfold Sto.take
            split <;> exact Nat.le_add_right _ _
/-- Writes, ahead of round k of the loop that makes the pools. -/
def Mid (k : Nat) (w5 : World) (st g : Nat) (l : List Slot) (w : World) : Prop :=
  Own w g 121 (l.flatMap slotC) ∧ Turn (fun j => j = st) w5 w ∧ ∃ p0 p1 : Option Addr, Own w st 127 [.slice (some ⟨g, 0, none⟩) 32 32, .pointer p0, .pointer p1, .slice none 0 0] ∧
    ∃ a0 b0 a1 b1 : Nat, w5.heap.size ≤ a0 ∧ a0 ≤ a1 ∧ b0 ≤ a1 ∧ b0 ≤ w.heap.size ∧ b1 ≤ w.heap.size ∧
      (1 ≤ k → ∃ q0, p0 = some ⟨q0, 0, none⟩ ∧ PoolV w (fun j => j < a0 ∨ b0 ≤ j) q0 (takenOf (blocksN 0) (takenI l 0))) ∧
      (2 ≤ k → ∃ q1, p1 = some ⟨q1, 0, none⟩ ∧ PoolV w (fun j => j < a1 ∨ b1 ≤ j) q1 (takenOf (blocksN 1) (takenI l 1)))

set_option maxRecDepth 100000 in
set_option maxHeartbeats 4000000 in
theorem writes_any (d : Dk) (cs : List Chg) (v vc : Value) (w : World) (h : DkAt [] w v d) (hc : ChgsAt [] w vc cs) (hcn : cs.length ≤ 100) :
    Calls Tryd.prog 38 #[v, vc] w fun e w' => ∃ r, e = .returned (.tuple #[r, .int .i64 (writesR d cs).2]) ∧ WrsAt [] w' r (writesR d cs).1 ∧ Kept w w' := by
  have HD := Lib.hid h
  have HC := Lib.hid hc
  have HCN := Lib.hid hcn
  clear hcn
  obtain ⟨_, _, rfl, _, _⟩ := h
  obtain ⟨A0, c0, B0, e0, rfl, rfl⟩ := HD.out.form
  obtain ⟨CA, cc, rfl, hc1, hc2, hcr⟩ := hc
  unfold maxLen at hc2
  have HCR := Lib.hid hcr
  clear hcr
  generalize d.sec.length = n0 at *
  generalize d.cache.length = m0 at *
  go_enter Tryd.func38, Tryd.ntmps38
  go_wp2_with fail
  have OD := Lib.hid (Own.newAt w w.heap.size 25 [.slice A0 n0 c0, .slice B0 m0 e0] (by simp))
  have K := ((Kept.refl w).alloc (.cells #[.slice A0 n0 c0, .slice B0 m0 e0] 25))
  generalize (w.alloc (.cells #[.slice A0 n0 c0, .slice B0 m0 e0] 25)) = w1 at *
  obtain ⟨cD0, cD1, fD0, fD1⟩ := OD.out.two
  clear cD0 cD1 fD0 fD1
  replace HD := Lib.hid (HD.out.go K (Ext.refl _ _))
  replace HC := Lib.hid (HC.out.go K (Ext.refl _ _))
  go_wp2_with fail
  refine (contents_any [] d _ _ HD.out (fun _ h => by cases h)).mono ?_
  rintro e w2 ⟨r2, rfl, hr2, hk⟩
  replace OD := Lib.hid (OD.out.kept hk)
  replace HC := Lib.hid (HC.out.go hk (Ext.refl _ _))
  replace K := K.trans hk
  have HR2 := Lib.hid hr2
  clear hr2
  clear hk
  rcases Bool.eq_false_or_eq_true (storeB d) with hs | hs
  · rw [hs]
    have hcl := contD_len hs
    have hc64 := contD_64 hs
    have HG : Hid (writesR d cs = if (changesR (stoD d) cs).1 = 0 then if 30 < (changesR (stoD d) cs).2.ws.length then ([], 4) else ((changesR (stoD d) cs).2.ws, 0) else ([], (changesR (stoD d) cs).1)) := by show _ = _; unfold writesR; rw [if_pos hs]
    have HSD : Hid (stoD d = ⟨slotsL (contD d), takenOf (blocksN 0) (takenI (slotsL (contD d)) 0), takenOf (blocksN 1) (takenI (slotsL (contD d)) 1), []⟩) := rfl
    have HWS0 : Hid ((stoD d).ws = []) := rfl
    generalize stoD d = q0 at *
    generalize contD d = c at *
    have HCL := Lib.hid hcl
    have HC64 := Lib.hid hc64
    obtain ⟨CB, cb, rfl, hcc1, hcc2, hcrow⟩ := HR2.out
    rw [hcl] at hcc1 ⊢
    unfold maxLen at hcc2
    clear hcrow hcl hc64
    have HSL : Hid (∀ w', Kept w2 w' → StrsAt [] w' (.slice CB 381 cb) c) := fun w' k => by
      have := HR2.out.go k (Ext.refl _ _)
      rwa [HCL.out] at this
    have HK2 := Lib.hid K
    go_wp2_with fail
    refine (slots_any c _ _ (HSL.out _ (Kept.refl _)) HCL.out HC64.out).mono ?_
    rintro e w3 ⟨g, rfl, hg, ho, hk⟩
    replace OD := Lib.hid (OD.out.kept hk)
    replace HC := Lib.hid (HC.out.go hk (Ext.refl _ _))
    replace K := K.trans hk
    have OL := Lib.hid ho
    have HGW := Lib.hid (Nat.le_trans HK2.out.size hg)
    have HSN : Hid ((slotsL c).length = 32) := slTo_len c 32
    clear ho
    generalize slotsL c = l at *
    clear hk
    go_wp2_with fail
    have HWS := Lib.hid K.size
    have OS := Lib.hid (Own.new w3 127 [.slice (some ⟨g, 0, none⟩) 32 32, .pointer none, .pointer none, .slice none 0 0])
    have HGS := Lib.hid OL.out.lt
    replace OL := Lib.hid (OL.out.alloc (.cells #[.slice (some ⟨g, 0, none⟩) 32 32, .pointer none, .pointer none, .slice none 0 0] 127))
    replace HC := Lib.hid (HC.out.go ((Kept.refl w3).alloc (.cells #[.slice (some ⟨g, 0, none⟩) 32 32, .pointer none, .pointer none, .slice none 0 0] 127)) (Ext.refl _ _))
    replace K := K.alloc (.cells #[.slice (some ⟨g, 0, none⟩) 32 32, .pointer none, .pointer none, .slice none 0 0] 127)
    have HSG := Lib.hid (show w3.heap.size < (w3.alloc (.cells #[.slice (some ⟨g, 0, none⟩) 32 32, .pointer none, .pointer none, .slice none 0 0] 127)).heap.size by simp)
    have HKZ := Lib.hid K
    generalize (w3.alloc (.cells #[.slice (some ⟨g, 0, none⟩) 32 32, .pointer none, .pointer none, .slice none 0 0] 127)) = w5 at *
    generalize w3.heap.size = st at *
    clear K
    go_loopw [23] (fun iv wq => ∃ k : Nat, k ≤ 2 ∧ iv = .int .i64 k ∧ Mid k w5 st g l wq) (fun iv _ => 2 - (intOf iv).toNat)
    case atStart => exact ⟨0, by omega, rfl, OL.out, Turn.refl _ _, none, none, OS.out, w5.heap.size, w5.heap.size, w5.heap.size, w5.heap.size, Nat.le_refl _, Nat.le_refl _, Nat.le_refl _, Nat.le_refl _, Nat.le_refl _, fun h => absurd h (by omega), fun h => absurd h (by omega)⟩
    case round =>
      obtain ⟨k, hk, rfl, hol, ht, p0, p1, hos, a0, b0, a1, b1, h1, h2, h3, h4, h5, h6, h7⟩ := hrel
      rcases (by omega : k = 0 ∨ k = 1 ∨ k = 2) with rfl | rfl | rfl
      · skip
        have OS2 := Lib.hid hos
        have OL2 := Lib.hid hol
        have HT2 := Lib.hid ht
        have HH := Lib.hid (And.intro h1 (And.intro h2 (And.intro h3 (And.intro h4 h5))))
        have H6 := Lib.hid h6
        have HST := Lib.hid hos.lt
        clear hos hol ht h1 h2 h3 h4 h5 h6 h7
        go_wp2_with fail
        refine (blocks_any 0 wr).mono ?_
        rintro e _ ⟨rfl, rfl⟩
        go_wp2_with fail
        refine (taken_any l g st 0 _ _ _ wr OS2.out OL2.out HSN.out).mono ?_
        rintro e w6 ⟨r, rfl, hr, hk6⟩
        have HR := Lib.hid hr
        have HK6 := Lib.hid hk6
        clear hr hk6
        go_wp2_with fail
        refine (aNew_yes (blocksN 0) _ r w6 HR.out (by have := blocksN_le 0; omega)).mono ?_
        rintro e w7 ⟨qn, rfl, hp, hk7⟩
        have HP7 := Lib.hid hp.range
        have HK7 := Lib.hid (HK6.out.trans hk7)
        have HZ6 := Lib.hid HK6.out.size
        have HZ7 := Lib.hid hk7.size
        have OS7 := Lib.hid (OS2.out.kept HK7.out)
        clear hp hk7 HK6 HR
        have cs1 := OS7.out.cell? 1
        simp only [List.getElem?_cons_zero, List.getElem?_cons_succ] at cs1
        have fs1 := OS7.out.frozen 1
        have zs1 := OS7.out.lt
        go_wp2_with fail
        go_roundw
        case rel =>
          clear cs1 fs1
          have HZ8 := Lib.hid (show (w7.setCell ⟨st, 1, none⟩ (.pointer (some ⟨qn, 0, none⟩))).heap.size = w7.heap.size by simp [World.setCell])
          have OS8 := OS7.out.set_ 1 (.pointer (some ⟨qn, 0, none⟩))
          have hts : Turn (fun j => j = st) wr (w7.setCell ⟨st, 1, none⟩ (.pointer (some ⟨qn, 0, none⟩))) := Turn.setCell (S := fun j => j = st) (Turn.of_kept HK7.out) (p := ⟨st, 1, none⟩) rfl _
          have hts7 : Turn (fun j => j = st) w7 (w7.setCell ⟨st, 1, none⟩ (.pointer (some ⟨qn, 0, none⟩))) := Turn.setCell (S := fun j => j = st) (Turn.refl _ _) (p := ⟨st, 1, none⟩) rfl _
          have hgs : ¬ g = st := by have := HGS.out; omega
          have hst5 := HSG.out
          have hst6 : st < w6.heap.size := Nat.lt_of_lt_of_le HST.out HZ6.out
          have ht5 := HT2.out.size
          obtain ⟨h1, h2, h3, h4, h5⟩ := HH.out
          have hz6 := HZ6.out
          have hz7 := HZ7.out
          have hz8 := HZ8.out
          have hpn := HP7.out.spare hts7 (fun j _ e => .inl (by rw [e]; exact hst6))
          exact ⟨1, by omega, by go_num, OL2.out.turn hts hgs, HT2.out.trans hts, _, _, OS8, w6.heap.size, w7.heap.size, w7.heap.size, w7.heap.size, by omega, by omega, Nat.le_refl _, by rw [hz8]; exact Nat.le_refl _, by rw [hz8]; exact Nat.le_refl _, fun _ => ⟨qn, rfl, hpn⟩, fun h => absurd h (by omega)⟩
        case measure => simp [intOf]
      · skip
        have OS2 := Lib.hid hos
        have OL2 := Lib.hid hol
        have HT2 := Lib.hid ht
        have HH := Lib.hid (And.intro h1 (And.intro h2 (And.intro h3 (And.intro h4 h5))))
        have H6 := Lib.hid h6
        have HST := Lib.hid hos.lt
        clear hos hol ht h1 h2 h3 h4 h5 h6 h7
        go_wp2_with fail
        refine (blocks_any 1 wr).mono ?_
        rintro e _ ⟨rfl, rfl⟩
        go_wp2_with fail
        refine (taken_any l g st 1 _ _ _ wr OS2.out OL2.out HSN.out).mono ?_
        rintro e w6 ⟨r, rfl, hr, hk6⟩
        have HR := Lib.hid hr
        have HK6 := Lib.hid hk6
        clear hr hk6
        go_wp2_with fail
        refine (aNew_yes (blocksN 1) _ r w6 HR.out (by have := blocksN_le 1; omega)).mono ?_
        rintro e w7 ⟨qn, rfl, hp, hk7⟩
        have HP7 := Lib.hid hp.range
        have HK7 := Lib.hid (HK6.out.trans hk7)
        have HZ6 := Lib.hid HK6.out.size
        have HZ7 := Lib.hid hk7.size
        have OS7 := Lib.hid (OS2.out.kept HK7.out)
        clear hp hk7 HK6 HR
        have cs1 := OS7.out.cell? 2
        simp only [List.getElem?_cons_zero, List.getElem?_cons_succ] at cs1
        have fs1 := OS7.out.frozen 2
        have zs1 := OS7.out.lt
        go_wp2_with fail
        go_roundw
        case rel =>
          clear cs1 fs1
          have HZ8 := Lib.hid (show (w7.setCell ⟨st, 2, none⟩ (.pointer (some ⟨qn, 0, none⟩))).heap.size = w7.heap.size by simp [World.setCell])
          have OS8 := OS7.out.set_ 2 (.pointer (some ⟨qn, 0, none⟩))
          have hts : Turn (fun j => j = st) wr (w7.setCell ⟨st, 2, none⟩ (.pointer (some ⟨qn, 0, none⟩))) := Turn.setCell (S := fun j => j = st) (Turn.of_kept HK7.out) (p := ⟨st, 2, none⟩) rfl _
          have hts7 : Turn (fun j => j = st) w7 (w7.setCell ⟨st, 2, none⟩ (.pointer (some ⟨qn, 0, none⟩))) := Turn.setCell (S := fun j => j = st) (Turn.refl _ _) (p := ⟨st, 2, none⟩) rfl _
          have hgs : ¬ g = st := by have := HGS.out; omega
          have hst5 := HSG.out
          have hst6 : st < w6.heap.size := Nat.lt_of_lt_of_le HST.out HZ6.out
          have ht5 := HT2.out.size
          obtain ⟨h1, h2, h3, h4, h5⟩ := HH.out
          have hz6 := HZ6.out
          have hz7 := HZ7.out
          have hz8 := HZ8.out
          have hpn := HP7.out.spare hts7 (fun j _ e => .inl (by rw [e]; exact hst6))
          obtain ⟨q0, rfl, hp0⟩ := H6.out (by omega)
          have hq0 := hp0.lt
          have hp0' := hp0.spare hts (fun j _ e => .inl (by rw [e]; omega))
          exact ⟨2, by omega, by go_num, OL2.out.turn hts hgs, HT2.out.trans hts, _, _, OS8, a0, b0, w6.heap.size, w7.heap.size, h1, by omega, by omega, by rw [hz8]; omega, by rw [hz8]; exact Nat.le_refl _, fun _ => ⟨q0, rfl, hp0'⟩, fun _ => ⟨qn, rfl, hpn⟩⟩
        case measure => simp [intOf]
      · skip
        obtain ⟨qa, rfl, hp0⟩ := h6 (by omega)
        obtain ⟨qb, rfl, hp1⟩ := h7 (by omega)
        have hsa := StAt.start hos hol HSN.out hp0 hp1 h2 h3 h5 h4 (by have := HSG.out; omega) (by have := HSG.out; omega) (by have := HSG.out; have := HGS.out; omega) (by have := HSG.out; have := HGS.out; omega) (by have := HGS.out; omega)
        have hkr : Kept w wr := HKZ.out.trans_below (ht.below (B := w.heap.size) (fun k e => by have := HWS.out; omega) HKZ.out.size)
        obtain ⟨V, V0, V1, hold, hst⟩ : ∃ V V0 V1 : Nat → Prop, (∀ k, k < w.heap.size → V k) ∧ StAt V V0 V1 wr st q0.sl q0.t0 q0.t1 q0.ws := ⟨fun k => k ≠ st ∧ k ≠ g ∧ k < a0, _, _, fun k hk => ⟨by have := HWS.out; omega, by have := HGW.out; omega, by have := HWS.out; have := HSG.out; omega⟩, by rw [HSD.out]; exact hsa⟩
        have HOLD := Lib.hid hold
        have HKR := Lib.hid hkr
        have HSA := Lib.hid hst
        clear hsa hkr hold hst hp0 hp1 h1 h2 h3 h4 h5 h6 h7 hol ht hos HKZ HSL HSD HWS HGW HSG HGS HK2 OL OS HSN HCL HC64 OD
        go_wp2_with fail
        go_loopw [37] (fun iv wq => ∃ k : Nat, k ≤ cs.length ∧ iv = .int .i64 k ∧ ∃ q : Sto, changesR q0 (cs.take k) = (0, q) ∧ StAt V V0 V1 wq st q.sl q.t0 q.t1 q.ws ∧ q.ws.length ≤ 17 * k ∧ Kept w wq) (fun iv _ => cs.length - (intOf iv).toNat)
        case atStart =>
          exact ⟨0, Nat.zero_le _, rfl, q0, by rw [List.take_zero]; rfl, HSA.out, by rw [HWS0.out]; exact Nat.zero_le _, HKR.out⟩
        case round =>
          obtain ⟨k, hk, rfl, q, hq, hsq, hwl, hkq⟩ := hrel
          have HQ := Lib.hid hq
          have HSQ := Lib.hid hsq
          have HWL := Lib.hid hwl
          have HKQ := Lib.hid hkq
          clear hq hsq hwl hkq
          by_cases hlt : k < cs.length
          · obtain ⟨cb, co, rfl, hcb, _, hcc⟩ := HCR.out (by rw [chg_len]; omega)
            have g0 := (HKQ.out.cell (p := ⟨cb, co + k * 3, none⟩) hcb).trans (hcc (k * 3) _ ((chg_at hlt 0 (by omega)).trans rfl))
            have g1 := (HKQ.out.cell (p := ⟨cb, co + k * 3 + 1, none⟩) hcb).trans (hcc (k * 3 + 1) _ ((chg_at hlt 1 (by omega)).trans rfl))
            have g2 := (HKQ.out.cell (p := ⟨cb, co + k * 3 + 2, none⟩) hcb).trans (hcc (k * 3 + 2) _ ((chg_at hlt 2 (by omega)).trans rfl))
            clear hcc
            have HSN : Hid (changesR q0 (cs.take (k + 1)) = changeR q cs[k]) := by
              show _ = _
              rw [List.take_succ_eq_append_getElem hlt, changesR_snoc _ _ _ (by rw [HQ.out]), HQ.out]
            have HST : Hid ((changeR q cs[k]).1 ≠ 0 → changesR q0 cs = changeR q cs[k]) := fun hne => by
              have := changesR_stop q0 (cs.take k) cs[k] (cs.drop (k + 1)) (by rw [HQ.out]) (by rw [HQ.out]; exact hne)
              rw [HQ.out, List.getElem_cons_drop, List.take_append_drop] at this
              exact this
            generalize cs[k] = c at *
            obtain ⟨nm, x, rm⟩ := c
            simp only at g0 g1 g2
            go_wp2_with fail
            refine (change_any V V0 V1 st q ⟨nm, x, rm⟩ _ (HSQ.out.go ((Kept.refl wr).alloc _)) (by have := HWL.out; have := HCN.out; omega)).mono ?_
            rintro e w9 ⟨rfl, hst9, ht9⟩
            have HK9 : Hid (Kept w w9) := (HKQ.out.alloc _).trans_below (ht9.below (B := w.heap.size) (fun k hv => Nat.le_of_not_lt fun h => hv (HOLD.out k h)) (HKQ.out.alloc _).size)
            have HST9 := Lib.hid hst9
            have HLE := Lib.hid (changeR_le q ⟨nm, x, rm⟩)
            clear hst9 ht9 HSQ g0 g1 g2 HSA
            generalize changeR q ⟨nm, x, rm⟩ = r at *
            obtain ⟨r1, r2⟩ := r
            by_cases he : r1 = 0
            · subst he
              clear HST
              go_wp2
              go_roundw
              case rel =>
                (repeat apply Exists.intro)
                exact ⟨⟨k + 1, by omega, by go_num, r2, HSN.out, HST9.out, by have := HWL.out; have h9 : r2.ws.length ≤ q.ws.length + 17 := HLE.out; omega, HK9.out⟩, rfl⟩
              case measure => simp [intOf]; omega
            · have HE : Hid (writesR d cs = ([], r1)) := by
                show _ = _
                rw [HG.out, HST.out he]
                simp only
                rw [if_neg he]
              have t1 := bne_t he
              clear HST HSN HG
              go_wp2
              go_ret2
              exact ⟨.slice none 0 0, by rw [HE.out]; rfl, by rw [HE.out]; exact wrsAt_nil _ _, HK9.out⟩
          · have HQF : Hid (changesR q0 cs = (0, q)) := by
              show _ = _
              have := HQ.out
              rwa [List.take_of_length_le (by omega)] at this
            have HE := HG.out
            rw [HQF.out] at HE
            simp only [if_true] at HE
            obtain ⟨g9, qa9, qb9, wv, hS⟩ := HSQ.out
            obtain ⟨WA, wc, rfl, hn1, hn2, hrow⟩ := own_form (V := []) hS.row (by simp)
            have OS := Lib.hid hS.st
            have HROW := Lib.hid hrow
            have HN1 := Lib.hid hn1
            have HN2 := Lib.hid hn2
            unfold maxLen at hn2
            have cs3 := hS.st.cell? 3
            have fs3 := hS.st.frozen 3
            have zs3 := hS.st.lt
            simp only [List.getElem?_cons_zero, List.getElem?_cons_succ] at cs3
            clear hS hrow HG HQ HQF HSQ HSA
            have HE2 := Lib.hid HE
            clear HE
            generalize hm : q.ws.length = m at *
            have HM := Lib.hid hm
            clear hm
            by_cases h30 : 30 < m
            · have HE3 : Hid (writesR d cs = ([], 4)) := by
                show _ = _
                rw [HE2.out, if_pos h30]
              have g3 : (m : Int) > 30 := by omega
              clear HE2 h30
              go_wp2
              go_ret2
              exact ⟨.slice none 0 0, by rw [HE3.out]; rfl, by rw [HE3.out]; exact wrsAt_nil _ _, HKQ.out⟩
            · have HE3 : Hid (writesR d cs = (q.ws, 0)) := by
                show _ = _
                rw [HE2.out, if_neg h30]
              have g3 : ¬ (m : Int) > 30 := by omega
              clear HE2 h30
              go_wp2
              go_ret2
              exact ⟨.slice WA m wc, by rw [HE3.out]; rfl, by rw [HE3.out]; exact ⟨WA, wc, by rw [HM.out], by rw [HM.out]; exact HN1.out, HN2.out, HROW.out⟩, HKQ.out⟩
  · rw [hs]
    have HE : Hid (writesR d cs = ([], 1)) := by show _ = _; unfold writesR; rw [hs]; rfl
    clear hs
    go_wp2
    go_ret2
    exact ⟨_, by rw [HE.out]; rfl, by rw [HE.out]; exact wrsAt_nil _ _, K⟩
end Go.Proofs.YtagpimahicgkmaaDoor
