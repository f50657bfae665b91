/- Walk: mailsacklaw12.awake. -/
import Derived.Test.YtagpimahicgkmaaDoorStQ
import Derived.Test.YtagpimahicgkmaaDoorStA
import Derived.Test.YtagpimahicgkmaaDoorSt1
namespace Go.Proofs.YtagpimahicgkmaaDoor
open Go.RowKit

theorem formA_got : getR (applyR formD [chA]).1 { data := #[97] } = ({ data := #[120, 121, 122] }, 0) := formA_get
theorem formA_one : (namesR (applyR formD [chA]).1).length = 1 := by rw [formA_names]; rfl
theorem formA_len : (applyR formD [chA]).1.sec.length = 381 ∧ (applyR formD [chA]).1.cache = [] := ⟨formA_good.len, formA_good.nil⟩
theorem chgsA {V : List Nat} {w : World} {g : Nat} (h : Own w g 69 [.string { data := #[97] }, .string { data := #[120, 121, 122] }, .bool false]) (hg : g ∉ V) : ChgsAt V w (.slice (some ⟨g, 0, none⟩) 1 1) [chA] :=
  ⟨_, _, rfl, Nat.le_refl _, by decide, h.row (by simpa using hg)⟩

set_option maxRecDepth 100000 in
set_option maxHeartbeats 2000000 in
theorem awake12 (w : World) (ht : Tabs w) : Calls Tryd.prog 32 #[] w fun e w' => e = .returned (.bool true) ∧ Kept w w' := by
  have HF0 := Lib.hid form_code
  have HF1 := Lib.hid form_len
  have HF2 := Lib.hid formA_code
  have HF3 := Lib.hid formA_got
  have HF4 := Lib.hid formA_one
  have HF5 := Lib.hid formA_len
  have HFL := Lib.hid formD_len
  have HCA := @chgsA
  have HT := Lib.hid ht
  clear ht
  go_enter Tryd.func32, Tryd.ntmps32
  have K := Kept.refl w
  go_wp2_with fail
  refine (format_any [] _ (fun _ h => by cases h)).mono ?_
  rintro e w1 ⟨s1, c1, rfl, hd1, hk⟩
  replace K := K.trans hk
  obtain ⟨A0, k0, B0, e0, rfl, rfl⟩ := hd1.form
  rw [HFL.out.1, HFL.out.2] at hd1 ⊢
  have HD := Lib.hid hd1
  clear hd1
  clear hk
  have hw1 := K.size
  have HCN : Hid ([chA].length ≤ 100) := by show _ ≤ _; decide
  generalize hf0 : formD = d0 at *
  generalize hl0 : [chA] = l0 at *
  have HD0 := Lib.hid hf0
  clear hf0 hl0
  replace HD := Lib.hid (HD.out.go (Kept.refl _) (Ext.cons (Nat.le_refl _) (Ext.nil _ _)))
  go_upto_region 2 with fail
  have OD := Lib.hid (Own.new w1 25 [.slice A0 381 k0, .slice B0 0 e0])
  replace HD := Lib.hid (HD.out.go ((Kept.refl w1).alloc (.cells #[.slice A0 381 k0, .slice B0 0 e0] 25)) (Ext.refl _ _))
  replace K := K.alloc (.cells #[.slice A0 381 k0, .slice B0 0 e0] 25)
  generalize (w1.alloc (.cells #[.slice A0 381 k0, .slice B0 0 e0] 25)) = w2 at *
  generalize hgd : w1.heap.size = gd at *
  have HGD := Lib.hid hgd
  clear hgd
  obtain ⟨cD0, cD1, fD0, fD1⟩ := OD.out.two
  go_wp2_with fail
  clear cD0 cD1 fD0 fD1
  replace OD := Lib.hid (OD.out.alloc (.cells #[.string { data := #[97] }, .string { data := #[120, 121, 122] }, .bool false] 69))
  have OX := Lib.hid (Own.new w2 69 [.string { data := #[97] }, .string { data := #[120, 121, 122] }, .bool false])
  replace HD := Lib.hid (HD.out.go ((Kept.refl w2).alloc (.cells #[.string { data := #[97] }, .string { data := #[120, 121, 122] }, .bool false] 69)) (Ext.refl _ _))
  replace K := K.alloc (.cells #[.string { data := #[97] }, .string { data := #[120, 121, 122] }, .bool false] 69)
  generalize (w2.alloc (.cells #[.string { data := #[97] }, .string { data := #[120, 121, 122] }, .bool false] 69)) = w3 at *
  have hxg := OX.out.lt
  refine (writes_any d0 l0 _ _ _ (HD.out.weak (fun _ hk => by cases hk)) (HCA OX.out (by simp)) HCN.out).mono ?_
  rintro e w4 ⟨r1, rfl, hr1, hk⟩
  replace OD := Lib.hid (OD.out.kept hk)
  replace OX := Lib.hid (OX.out.kept hk)
  replace HD := Lib.hid (HD.out.go hk (Ext.refl _ _))
  replace K := K.trans hk
  rw [HF0.out]
  obtain ⟨QA, qc, rfl, hq1, hq2, _⟩ := hr1
  rw [HF1.out]
  clear hq1 hq2
  clear hk
  clear OX hxg
  obtain ⟨cD0, cD1, fD0, fD1⟩ := OD.out.two
  go_wp2_with fail
  clear cD0 cD1 fD0 fD1
  replace OD := Lib.hid (OD.out.alloc (.cells #[.string { data := #[97] }, .string { data := #[120, 121, 122] }, .bool false] 69))
  have OX := Lib.hid (Own.new w4 69 [.string { data := #[97] }, .string { data := #[120, 121, 122] }, .bool false])
  replace HD := Lib.hid (HD.out.go ((Kept.refl w4).alloc (.cells #[.string { data := #[97] }, .string { data := #[120, 121, 122] }, .bool false] 69)) (Ext.refl _ _))
  replace K := K.alloc (.cells #[.string { data := #[97] }, .string { data := #[120, 121, 122] }, .bool false] 69)
  generalize (w4.alloc (.cells #[.string { data := #[97] }, .string { data := #[120, 121, 122] }, .bool false] 69)) = w5 at *
  refine (apply_any [gd] d0 l0 _ _ _ (HT.out.kept K) HD.out (HCA OX.out (by simp)) (Old.cons OD.out.lt (fun _ h => by cases h)) (by rw [HFL.out.2]; exact Nat.zero_le _) HCN.out).mono ?_
  rintro e w6 ⟨s2, c2, rfl, hd2, hk⟩
  replace OD := Lib.hid (OD.out.kept hk)
  replace OX := Lib.hid (OX.out.kept hk)
  replace HD := Lib.hid (HD.out.go hk (Ext.refl _ _))
  replace K := K.trans hk
  rw [HF2.out]
  obtain ⟨A2, k2, B2, e2, rfl, rfl⟩ := hd2.form
  rw [HF5.out.1, HF5.out.2] at hd2 ⊢
  dsimp only [List.length_nil] at hd2 ⊢
  have HD2 := Lib.hid hd2
  clear hd2
  clear hk
  clear OX HD
  obtain ⟨cD0, cD1, fD0, fD1⟩ := OD.out.two
  go_upto_region 4 with fail
  clear cD0 cD1 fD0 fD1
  replace OD : Hid (Own ((w6.setCell ⟨gd, 0, none⟩ (.slice A2 381 k2)).setCell ⟨gd, 1, none⟩ (.slice B2 0 e2)) gd 25 [.slice A2 381 k2, .slice B2 0 e2]) := Lib.hid ((OD.out.set_ 0 (.slice A2 381 k2)).set_ 1 (.slice B2 0 e2))
  replace HD2 := Lib.hid ((HD2.out.put (p := ⟨gd, 0, none⟩) (by simp) (.slice A2 381 k2)).put (p := ⟨gd, 1, none⟩) (by simp) (.slice B2 0 e2))
  replace K := ((K.setCell (p := ⟨gd, 0, none⟩) (by first | exact Nat.le_refl _ | (simp only []; omega) | simp) (.slice A2 381 k2)).setCell (p := ⟨gd, 1, none⟩) (by first | exact Nat.le_refl _ | (simp only []; omega) | simp) (.slice B2 0 e2))
  generalize ((w6.setCell ⟨gd, 0, none⟩ (.slice A2 381 k2)).setCell ⟨gd, 1, none⟩ (.slice B2 0 e2)) = w7 at *
  obtain ⟨cD0, cD1, fD0, fD1⟩ := OD.out.two
  go_wp2_with fail
  refine (get_any _ _ _ _ (HD2.out.weak (fun _ hk => by cases hk))).mono ?_
  rintro e w8 ⟨rfl, hk⟩
  clear cD0 cD1 fD0 fD1
  replace OD := Lib.hid (OD.out.kept hk)
  replace HD2 := Lib.hid (HD2.out.go hk (Ext.refl _ _))
  replace K := K.trans hk
  rw [HF3.out]
  clear hk
  obtain ⟨cD0, cD1, fD0, fD1⟩ := OD.out.two
  go_wp2_with fail
  refine (names_any [] _ _ _ (HD2.out.weak (fun _ hk => by cases hk)) (fun _ h => by cases h)).mono ?_
  rintro e w9 ⟨r3, rfl, hr3, hk⟩
  clear cD0 cD1 fD0 fD1
  replace OD := Lib.hid (OD.out.kept hk)
  replace HD2 := Lib.hid (HD2.out.go hk (Ext.refl _ _))
  replace K := K.trans hk
  obtain ⟨Q3, q3, rfl, _, _, _⟩ := hr3
  rw [HF4.out]
  clear hk
  go_wp2
  go_ret
  exact ⟨rfl, K⟩
end Go.Proofs.YtagpimahicgkmaaDoor
