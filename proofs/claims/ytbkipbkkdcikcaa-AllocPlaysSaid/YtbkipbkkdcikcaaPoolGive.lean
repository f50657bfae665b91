/- Walks: alloc.Pool: Give; alloc.New. -/
import Derived.Test.YtbkipbkkdcikcaaPool
namespace Go.Proofs.Ytbkipbkkdcikcaa
open Go.RowKit

theorem give_no {tk : List Bool} {x : Int} (h : giveR tk x = false) : giveT tk x = tk := by simp [giveT, h]

set_option maxHeartbeats 1000000 in
theorem pGive_v (V : Nat → Prop) (g : Nat) (tk : List Bool) (x : Int) (w : World) (h : PoolV w V g tk) (hV : ∀ k, V k → k < w.heap.size) :
    Calls Try.prog 14 #[.pointer (some ⟨g, 0, none⟩), .int .i64 x] w (GiveV w V g tk x) := by
  have HP := Lib.hid h
  obtain ⟨tb, fv, fr, hv1, hv2, hv3, hne, hl, ho, hot, hr, hf1, hf2, hh⟩ := h
  obtain ⟨q1, q2, _, _⟩ := ho.two
  have h1 := frees_le tk
  have h2 := hh.len
  by_cases hx0 : 0 ≤ x
  · obtain ⟨n, rfl⟩ := Int.eq_ofNat_of_zero_le hx0
    by_cases hx1 : n < tk.length
    · have i1 : (n : Int) < (tk.length : Int) := by omega
      rcases Bool.eq_false_or_eq_true (tk[n]'hx1) with ht | ht
      · have htn : tk[n]? = some true := by rw [List.getElem?_eq_getElem hx1, ht]
        have u1 : w.cell? ⟨tb, n, none⟩ = some (.bool true) := by rw [hot.cell?, bools_at htn]
        have u2 := hot.frozen n
        have HR := Lib.hid hr
        have HV := Lib.hid hV
        have HV3 := Lib.hid hv3
        have HH := Lib.hid hh
        have HO := Lib.hid ho
        have HOT := Lib.hid hot
        have HTN := Lib.hid htn
        have h256 : fr.length ≤ 256 := by omega
        clear hr hh ho hot h2 ht htn hV hv3
        go_enter Try.func14, Try.ntmps14
        go_wp2_with fail
        refine (hpush_any 0 g fv fr _ n _ (ownsRow_setCell_other HR.out hf2 _) (HO.out.far hne _) hf1 (Nat.zero_le _) (by omega) HH.out.1).mono ?_
        rintro e w1 ⟨r, c, l', rfl, hr1, ho1, ht1, ha1, hpe1, hh1⟩
        have HT1 := Lib.hid ((((Turn.refl (fun k => fv.ownBlock = some k ∨ k = g ∨ k = tb) w).setCell (p := ⟨tb, n, none⟩) (.inr (.inr rfl)) (.bool false))).trans (ht1.mono (fun k hk => hk.elim .inl (fun e => .inr (.inl e)))))
        have HOT1 := Lib.hid ((HOT.out.set_ n (.bool false)).turn ht1 (fun e => e.elim hf2 (fun e => hne e.symm)))
        have hzt : tb < w.heap.size := HOT.out.lt
        have hzg : g < w.heap.size := HO.out.lt
        have hgr : g ≠ r := by
          rintro rfl
          rcases ha1 with e | e
          · exact hf1 e
          · simp [World.setCell] at e; omega
        have htr : tb ≠ r := by
          rintro rfl
          rcases ha1 with e | e
          · exact hf2 e
          · simp [World.setCell] at e; omega
        have hvr : ¬ V r := by
          rcases ha1 with e | e
          · exact HV3.out r e
          · intro hv; have := HV.out r hv; simp [World.setCell] at e; omega
        clear ht1
        go_wp2
        go_ret
        have e1 : giveR tk (n : Int) = true := by simp [giveR, HTN.out]
        refine ⟨ret_bool e1.symm, ?_, ?_⟩
        · simp only [giveT, e1, if_true, Int.toNat_natCast]
          refine ⟨tb, _, l', hv1, hv2, fun k e => ?_, hne, by simpa using hl, by rw [List.length_set]; exact ho1, by rw [bools_set]; exact HOT1.out, hr1, fun e => hgr (by rw [ownBlock_some] at e; injection e with e; exact e.symm), fun e => htr (by rw [ownBlock_some] at e; injection e with e; exact e.symm), hh1, ?_⟩
          · rw [← ownBlock_eq e]; exact hvr
          exact hpe1.trans (frees_give HTN.out HH.out.2)
        · refine HT1.out.mono (fun k hk => ?_)
          rcases hk with e | rfl | rfl
          · exact HV3.out k e
          · exact hv1
          · exact hv2
      · have htn : tk[n]? = some false := by rw [List.getElem?_eq_getElem hx1, ht]
        have u1 : w.cell? ⟨tb, n, none⟩ = some (.bool false) := by rw [hot.cell?, bools_at htn]
        have HE : Hid (giveR tk (n : Int) = false) := by show _ = _; simp [giveR, htn]
        clear hr hh ho hot h2 ht htn hV hv3 hv1 hv2
        go_enter Try.func14, Try.ntmps14
        go_wp2
        go_ret
        exact ⟨ret_bool HE.out.symm, by rw [give_no HE.out]; exact HP.out, Turn.refl _ _⟩
    · have i1 : (tk.length : Int) ≤ (n : Int) := by omega
      have HE : Hid (giveR tk (n : Int) = false) := by show _ = _; simp [giveR, List.getElem?_eq_none (show tk.length ≤ n by omega)]
      clear hr hh ho hot h2 hV hv3 hv1 hv2
      go_enter Try.func14, Try.ntmps14
      go_wp2
      go_ret
      exact ⟨ret_bool HE.out.symm, by rw [give_no HE.out]; exact HP.out, Turn.refl _ _⟩
  · have hx1 : x < 0 := by omega
    have HE : Hid (giveR tk x = false) := by show _ = _; simp [giveR, hx0]
    clear hr hh ho hot h2 hx0 hV hv3 hv1 hv2
    go_enter Try.func14, Try.ntmps14
    go_wp2
    go_ret
    exact ⟨ret_bool HE.out.symm, by rw [give_no HE.out]; exact HP.out, Turn.refl _ _⟩
theorem pGive_any (base g : Nat) (tk : List Bool) (x : Int) (w : World) (h : PoolAt w base g tk) (hb : base ≤ w.heap.size) :
    Calls Try.prog 14 #[.pointer (some ⟨g, 0, none⟩), .int .i64 x] w (GivePost w base g tk x) :=
  (pGive_v _ g tk x w h (fun _ hk => Nat.lt_of_lt_of_le hk hb)).mono fun _ _ ⟨h1, h2, h3⟩ => ⟨h1, h2, h3.below (fun _ hk => Nat.le_of_not_lt hk) hb⟩
end Go.Proofs.Ytbkipbkkdcikcaa
