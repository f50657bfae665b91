/- Walks: mailsacklaw12.refs, says, last. -/
import Derived.Test.YtagpimahicgkmaaDoorStA
namespace Go.Proofs.YtagpimahicgkmaaDoor
open Go.RowKit

theorem chgC_one (l : List Chg) : ∀ u ∈ l.flatMap chgC, u.oneCell' = true := by
  intro u hu
  obtain ⟨x, _, hx⟩ := List.mem_flatMap.1 hu
  simp only [chgC, List.mem_cons, List.not_mem_nil, or_false] at hx
  rcases hx with rfl | rfl | rfl <;> rfl
theorem Tryd.elChg : Elem Tryd.prog 64 115 3 40 chgC :=
  Elem.of (z := .agg #[.string ⟨#[]⟩, .string ⟨#[]⟩, .bool false]) (by kernel_rfl) (by kernel_rfl) rfl (by omega) (fun _ => rfl)
/-- Is a change short enough? -/
def chgB (c : Chg) : Bool := decide (c.name.size ≤ 100) && decide (c.data.size ≤ 2000)
def refsB (l : List Chg) : Bool := decide (l.length ≤ 21) && l.all chgB
theorem refs_no1 {l : List Chg} {k : Nat} (h : k < l.length) (hb : chgB l[k] = false) : refsB l = false := by
  unfold refsB
  rw [Bool.and_eq_false_iff]
  exact .inr (by rw [List.all_eq_false]; exact ⟨l[k], List.getElem_mem h, by simp [hb]⟩)
theorem refs_no2 {l : List Chg} {k : Nat} (h : k < l.length) (hk : 20 < k) : refsB l = false := by
  unfold refsB
  rw [Bool.and_eq_false_iff]
  exact .inl (decide_eq_false (by omega))
theorem refs_yes {l : List Chg} (hk : l.length ≤ 21) (h : (l.take l.length).all chgB = true) : refsB l = true := by
  unfold refsB
  rw [List.take_length] at h
  rw [h, decide_eq_true hk]; rfl
theorem ret2_vb {r : Value} {a b : Bool} (h : a = b) : Ending.returned (.tuple #[r, .bool a]) = .returned (.tuple #[r, .bool b]) := by rw [h]

set_option maxRecDepth 100000 in
set_option maxHeartbeats 2000000 in
theorem refs12_any (l : List Chg) (v : Value) (w : World) (h : ChgsAt [] w v l) :
    Calls Tryd.prog 31 #[v] w fun e w' => ∃ r, e = .returned (.tuple #[r, .bool (refsB l)]) ∧ Kept w w' := by
  obtain ⟨CA, cc, rfl, hc1, hc2, hcr⟩ := h
  unfold maxLen at hc2
  have HCR := Lib.hid hcr
  clear hcr
  go_enter Tryd.func31, Tryd.ntmps31
  go_wp2_with fail
  go_loopw [4, 9] (fun ov iv wq => ∃ (k : Nat) (B : Option Addr) (cap : Nat), k ≤ l.length ∧ k ≤ 21 ∧ iv = .int .i64 k ∧ ov = .slice B (l.take k).length cap ∧ Hid ((l.take k).all chgB = true) ∧ wq.ownsRow w.heap.size 115 3 (.slice B (l.take k).length cap) (l.take k).length ((l.take k).flatMap chgC) ∧ Kept w wq) (fun _ iv _ => l.length - (intOf iv).toNat)
  case atStart => exact ⟨0, none, 0, Nat.zero_le _, Nat.zero_le _, rfl, rfl, rfl, World.ownsRow_nil _ _ _ _, Kept.refl _⟩
  case round =>
    obtain ⟨k, B, cap, hk, hk21, rfl, rfl, HA, ho, K⟩ := hrel
    have HO := Lib.hid ho
    clear ho
    by_cases hlt : k < l.length
    · obtain ⟨cb, co, rfl, hcb, _, hcc⟩ := HCR.out (by rw [chg_len]; omega)
      have g0 := (K.cell (p := ⟨cb, co + k * 3, none⟩) hcb).trans (hcc (k * 3) _ ((chg_at hlt 0 (by omega)).trans rfl))
      have g1 := (K.cell (p := ⟨cb, co + k * 3 + 1, none⟩) hcb).trans (hcc (k * 3 + 1) _ ((chg_at hlt 1 (by omega)).trans rfl))
      have g2 := (K.cell (p := ⟨cb, co + k * 3 + 2, none⟩) hcb).trans (hcc (k * 3 + 2) _ ((chg_at hlt 2 (by omega)).trans rfl))
      clear hcc
      have HTK : Hid (l.take (k + 1) = l.take k ++ [l[k]]) := List.take_succ_eq_append_getElem hlt
      have HAS : Hid (chgB l[k] = true → (l.take (k + 1)).all chgB = true) := fun hp => all_take_succ _ _ _ hlt HA.out hp
      have HN1 : Hid (chgB l[k] = false → refsB l = false) := refs_no1 hlt
      have HN2 : Hid (20 < k → refsB l = false) := refs_no2 hlt
      have HML : Hid ((l.take k).length = k) := by show _ = _; rw [List.length_take]; omega
      rw [HML.out]
      have HO2 := HO.out
      rw [HML.out] at HO2
      replace HO := Lib.hid HO2
      clear HO2
      generalize l.take k = M at *
      generalize l[k] = c at *
      obtain ⟨nm, x, rm⟩ := c
      simp only at g0 g1 g2
      by_cases h1 : 100 < nm.size
      · have HE : Hid (refsB l = false) := HN1.out (by unfold chgB; simp; omega)
        have t1 : (nm.size : Int) > 100 := by omega
        clear HN1 HN2 HTK HAS h1
        go_wp2
        go_ret2
        first | exact ⟨_, ret2_vb HE.out.symm, K.alloc _⟩ | exact ⟨⟨_, ret2_vb HE.out.symm⟩, K.alloc _⟩
      · have t1 : ¬ (nm.size : Int) > 100 := by omega
        by_cases h2 : 2000 < x.size
        · have HE : Hid (refsB l = false) := HN1.out (by unfold chgB; simp; omega)
          have t2 : (x.size : Int) > 2000 := by omega
          clear HN1 HN2 HTK HAS h1 h2
          go_wp2
          go_ret2
          first | exact ⟨_, ret2_vb HE.out.symm, K.alloc _⟩ | exact ⟨⟨_, ret2_vb HE.out.symm⟩, K.alloc _⟩
        · have t2 : ¬ (x.size : Int) > 2000 := by omega
          by_cases h3 : 20 < k
          · have HE : Hid (refsB l = false) := HN2.out h3
            have t3 : (k : Int) > 20 := by omega
            clear HN1 HN2 HTK HAS h1 h2 h3
            go_wp2
            go_ret2
            first | exact ⟨_, ret2_vb HE.out.symm, K.alloc _⟩ | exact ⟨⟨_, ret2_vb HE.out.symm⟩, K.alloc _⟩
          · have t3 : ¬ (k : Int) > 20 := by omega
            have HAS2 := Lib.hid (HAS.out (by unfold chgB; simp; omega))
            clear HN1 HN2 HAS h1 h2
            have HOW := Lib.hid (Own.new1 wr (.cells #[.string nm, .string x, .bool rm] 69) 115 ([(⟨nm, x, rm⟩ : Chg)].flatMap chgC))
            have HO3 : Hid (wr.ownsRow w.heap.size 115 3 (.slice B k cap) M.length (M.flatMap chgC)) := by show World.ownsRow _ _ _ _ _ _ _; rw [HML.out]; exact HO.out
            go_upto_region 8 with (at_builtin; go_must (refine Tryd.elChg.wpList_app rfl (.tmp 28) (.tmp 30) rfl w.heap.size _ M rfl ((HO3.out.alloc _).alloc _) [] (some ⟨wr.heap.size + 1, 0, none⟩) 1 [(⟨nm, x, rm⟩ : Chg)] rfl (HOW.out.row (by simp)) (chgC_one _) (by rw [HML.out]; unfold maxLen; simp only [List.length_cons, List.length_nil]; omega) (by rw [HML.out]; simp only [List.length_cons, List.length_nil]; omega) (by have := K.size; simp; omega) ?_; intro v9 w9 hap hgr hat))
            have K9 := ((K.alloc _).alloc _).grown hgr (fun k e => (HO3.out.lt k e).1)
            obtain ⟨A9, c9, rfl, _, _, _⟩ := own_form (V := []) hap (by simp)
            rw [← HTK.out] at hap
            have HL1 : Hid (((M ++ [(⟨nm, x, rm⟩ : Chg)]).length : Nat) = k + 1) := by show _ = _; rw [List.length_append, HML.out]; rfl
            rw [← HTK.out] at HL1
            have HO9 := Lib.hid hap
            rw [← HTK.out]
            clear hap hgr hat HTK
            go_wp2
            go_roundw
            case rel => exact ⟨k + 1, A9, c9, by omega, by omega, by go_num, rfl, HAS2, HO9.out, K9⟩
            case measure => simp [intOf]; omega
    · have hkl : k = l.length := by omega
      subst hkl
      have HE : Hid (refsB l = true) := refs_yes hk21 HA.out
      clear HA HO
      go_wp2
      go_ret2
      first | exact ⟨_, ret2_vb HE.out.symm, K⟩ | exact ⟨⟨_, ret2_vb HE.out.symm⟩, K⟩

set_option maxRecDepth 100000 in
set_option maxHeartbeats 1000000 in
theorem says_any (d : Dk) (nm : ByteArray) (v : Value) (w : World) (h : DkAt [] w v d) :
    Calls Tryd.prog 36 #[v, .string nm] w fun e w' => e = .returned (.tuple #[.string (getR d nm).1, .bool ((getR d nm).2 == 0)]) ∧ Kept w w' := by
  have HD := Lib.hid h
  obtain ⟨_, _, rfl, _, _⟩ := h
  obtain ⟨A0, c0, B0, e0, rfl, rfl⟩ := HD.out.form
  generalize d.sec.length = n0 at *
  generalize d.cache.length = m0 at *
  go_enter Tryd.func36, Tryd.ntmps36
  go_wp2_with fail
  have K := (Kept.refl w).alloc (.cells #[.slice A0 n0 c0, .slice B0 m0 e0] 25)
  generalize (w.alloc (.cells #[.slice A0 n0 c0, .slice B0 m0 e0] 25)) = w1 at *
  refine (get_any d nm _ w1 (HD.out.go K (Ext.refl _ _))).mono ?_
  rintro e w2 ⟨rfl, hk⟩
  replace K := K.trans hk
  clear hk
  generalize hr : getR d nm = r at *
  have HR := Lib.hid hr
  clear hr
  obtain ⟨s, c⟩ := r
  by_cases hc : c = 0
  · subst hc
    go_wp2
    go_ret2
    exact ⟨by rw [HR.out]; show _ = Ending.returned (.tuple #[.string s, .bool ((0 : Int) == 0)]); rw [show ((0 : Int) == 0) = true from rfl]; rfl, K⟩
  · have t1 := beq_f hc
    have HE := Lib.hid t1
    clear hc
    go_wp2
    go_ret2
    exact ⟨by rw [HR.out]; show _ = Ending.returned (.tuple #[.string s, .bool (c == 0)]); rw [HE.out]; rfl, K⟩
end Go.Proofs.YtagpimahicgkmaaDoor
