/- Walk: mailsacklaw12.StoreNames. -/
import Derived.Test.YtagpimahicgkmaaDoorAw12
import Derived.Test.YtagpimahicgkmaaDoorRf12
import Derived.Test.YtagpimahicgkmaaDoorRfSmall
import Derived.Laws.Cover1
namespace Go.Proofs.YtagpimahicgkmaaDoor
open Go.RowKit

theorem bl_eq : ∀ (x y : List UInt8), Op.bytesLess x y = decide (x < y)
  | [], [] => by simp [Op.bytesLess]
  | _ :: _, [] => by simp [Op.bytesLess]
  | [], _ :: _ => by simp [Op.bytesLess]
  | a :: x, b :: y => by
    rw [Op.bytesLess, bl_eq x y]
    simp only [List.cons_lt_cons_iff]
    by_cases h1 : a < b <;> by_cases h2 : a = b <;> by_cases h3 : x < y <;> simp [h1, h2, h3]
def thB (n : ByteArray) (l : List ByteArray) : Bool := l.any fun x => x.toList == n.toList
theorem thB_succ {n : ByteArray} {l : List ByteArray} {k : Nat} (h : k < l.length) : thB n (l.take (k + 1)) = (thB n (l.take k) || l[k].toList == n.toList) := by
  unfold thB
  rw [List.take_succ_eq_append_getElem h, List.any_append]
  simp
theorem thB_iff {n : ByteArray} {l : List ByteArray} : thB n l = true ↔ n ∈ l := by
  unfold thB
  rw [List.any_eq_true]
  constructor
  · rintro ⟨x, hx, e⟩
    rw [beq_iff_eq, ByteArray.toList_eq, ByteArray.toList_eq] at e
    rw [← ba_ext e]; exact hx
  · intro h; exact ⟨n, h, by simp⟩
/-- What a row of names that a disk tells says. -/
structure Nms (d : Dk) (L : List ByteArray) : Prop where
  len : L.length ≤ 32
  get : ∀ (i : Nat) (h : i < L.length), (getR d L[i]).2 = 0 ∧ (getR d L[i]).1.size ≤ 1024 ∧ 1 ≤ L[i].size ∧ L[i].size ≤ 24
  rise : ∀ (i : Nat) (h : i < L.length) (_ : 0 < i), Op.bytesLess (L[i - 1]'(by omega)).toList L[i].toList = true
  there : ∀ n, (getR d n).2 = 0 ↔ thB n L = true
theorem nms (d : Dk) : Nms d (namesR d) where
  len := names_le d
  get i h := by
    have hm := List.getElem_mem h
    have := names_size hm
    exact ⟨(names_get d _).1 hm, get_size d _, this.1, this.2⟩
  rise i h h0 := by
    have := (List.pairwise_iff_getElem.1 (names_rise d)) (i - 1) i (by omega) h (by omega)
    rw [bl_eq, ByteArray.toList_eq, ByteArray.toList_eq]
    exact decide_eq_true this
  there n := by rw [thB_iff, names_get]

set_option maxRecDepth 100000 in
set_option maxHeartbeats 4000000 in
theorem stNames_any (d : Dk) (nm : ByteArray) (v : Value) (w : World) (ht : Tabs w) (h : DkAt [] w v d) (hreach : d.cache.length * 24 ≤ 140737488355328) :
    Calls Tryd.prog 9 #[v, .string nm] w fun e w' => e = .returned (.bool true) ∧ Kept w w' := by
  have HT := Lib.hid ht
  have HD := Lib.hid h
  have HRE := Lib.hid hreach
  obtain ⟨_, _, rfl, _, _⟩ := h
  obtain ⟨A0, c0, B0, e0, rfl, rfl⟩ := HD.out.form
  clear ht hreach
  generalize hn0 : d.sec.length = n0 at *
  generalize hm0 : d.cache.length = m0 at *
  have HN0 := Lib.hid hn0
  have HM0 := Lib.hid hm0
  clear hn0 hm0
  go_enter Tryd.func9, Tryd.ntmps9
  go_wp2_with fail
  have OD := Lib.hid (Own.newAt w w.heap.size 25 [.slice A0 n0 c0, .slice B0 m0 e0] (by simp))
  have K := ((Kept.refl w).alloc (.cells #[.slice A0 n0 c0, .slice B0 m0 e0] 25))
  generalize (w.alloc (.cells #[.slice A0 n0 c0, .slice B0 m0 e0] 25)) = w1 at *
  obtain ⟨cD0, cD1, fD0, fD1⟩ := OD.out.two
  replace HD := Lib.hid (HD.out.go K (Ext.refl _ _))
  refine (ref12_any [] d _ _ HD.out (fun _ h => by cases h) (by rw [HM0.out]; exact HRE.out)).mono ?_
  rintro e w2 ⟨s1, c1, rfl, hd1, hk⟩
  clear cD0 cD1 fD0 fD1
  replace OD := Lib.hid (OD.out.kept hk)
  replace HD := Lib.hid (HD.out.go hk (Ext.refl _ _))
  replace K := K.trans hk
  have HD1 := Lib.hid hd1
  obtain ⟨A1, c1, B1, e1, rfl, rfl⟩ := hd1.form
  clear hd1
  rw [HN0.out, HM0.out] at HD1 ⊢
  clear hk
  obtain ⟨cD0, cD1, fD0, fD1⟩ := OD.out.two
  go_wp2_with fail
  refine (small_any [] d _ _ HD1.out).mono ?_
  rintro e w3 ⟨rfl, hk⟩
  clear cD0 cD1 fD0 fD1
  replace OD := Lib.hid (OD.out.kept hk)
  replace HD := Lib.hid (HD.out.go hk (Ext.refl _ _))
  replace HD1 := Lib.hid (HD1.out.go hk (Ext.refl _ _))
  replace K := K.trans hk
  clear hk
  clear HD1
  rcases Bool.eq_false_or_eq_true (smallB d) with hs | hs
  · rw [hs]
    clear hs
    by_cases hn : 100 < nm.size
    · have t1 : (nm.size : Int) > 100 := by omega
      clear hn
      obtain ⟨cD0, cD1, fD0, fD1⟩ := OD.out.two
      go_wp2_with fail
      refine (awake12 _ (HT.out.kept K)).mono ?_
      rintro e w4 ⟨rfl, hk⟩
      clear cD0 cD1 fD0 fD1
      replace OD := Lib.hid (OD.out.kept hk)
      replace HD := Lib.hid (HD.out.go hk (Ext.refl _ _))
      replace K := K.trans hk
      clear hk
      go_wp2
      go_ret
      exact ⟨rfl, K⟩
    · have t1 : ¬ (nm.size : Int) > 100 := by omega
      clear hn
      obtain ⟨cD0, cD1, fD0, fD1⟩ := OD.out.two
      go_wp2_with fail
      refine (names_any [] d _ _ HD.out (fun _ h => by cases h)).mono ?_
      rintro e w4 ⟨r1, rfl, hr1, hk⟩
      clear cD0 cD1 fD0 fD1
      replace OD := Lib.hid (OD.out.kept hk)
      replace HD := Lib.hid (HD.out.go hk (Ext.refl _ _))
      replace K := K.trans hk
      have HNS := Lib.hid (nms d)
      generalize namesR d = L at *
      obtain ⟨QA, qc, rfl, hq1, hq2, hq3⟩ := hr1
      unfold maxLen at hq2
      have HQ := Lib.hid hq3
      have hl32 := HNS.out.len
      clear hq3
      clear hk
      obtain ⟨cD0, cD1, fD0, fD1⟩ := OD.out.two
      go_wp2_with fail
      clear cD0 cD1 fD0 fD1
      go_loopw [5, 27] (fun tv iv wq => ∃ (k : Nat), k ≤ L.length ∧ iv = .int .i64 k ∧ tv = .bool (thB nm (L.take k)) ∧ Kept w4 wq) (fun _ iv _ => L.length - (intOf iv).toNat)
      case atStart => exact ⟨0, Nat.zero_le _, rfl, rfl, Kept.refl _⟩
      case round =>
        obtain ⟨k, hk, rfl, rfl, K9⟩ := hrel
        replace OD := Lib.hid (OD.out.kept K9)
        replace HD := Lib.hid (HD.out.go K9 (Ext.refl _ _))
        by_cases hlt : k < L.length
        · skip
          obtain ⟨b, o, rfl, hb, _, hcs⟩ := HQ.out (by rw [strs_length]; omega)
          have HCS := Lib.hid hcs
          clear hcs
          have HG := Lib.hid (HNS.out.get k hlt)
          have HTH := Lib.hid (thB_succ (n := nm) hlt)
          have g1 := (K9.cell (p := ⟨b, o + k, none⟩) hb).trans (HCS.out _ _ (strs_at hlt))
          by_cases hk0 : k = 0
          · subst hk0
            simp only [Nat.add_zero] at g1
            generalize L[0] = x at *
            generalize thB nm (L.take 0) = tb at *
            obtain ⟨cD0, cD1, fD0, fD1⟩ := OD.out.two
            go_wp2_with fail
            refine (get_any d x _ _ HD.out).mono ?_
            rintro e w5 ⟨rfl, hk⟩
            clear cD0 cD1 fD0 fD1
            replace OD := Lib.hid (OD.out.kept hk)
            replace HD := Lib.hid (HD.out.go hk (Ext.refl _ _))
            replace K9 := K9.trans hk
            generalize hr : getR d x = r at *
            obtain ⟨s, c⟩ := r
            obtain ⟨hc, h1, h2, h3⟩ := HG.out
            dsimp only at hc h1 ⊢
            subst hc
            clear hr HG
            have t2 : ¬ (s.size : Int) > 1024 := by omega
            have t3 : ¬ (x.size : Int) < 1 := by omega
            have t4 : ¬ (x.size : Int) > 24 := by omega
            clear h1 h2 h3
            clear hk
            obtain ⟨cD0, cD1, fD0, fD1⟩ := OD.out.two
            rcases Bool.eq_false_or_eq_true tb with htb | htb
            · subst htb
              go_wp2
              go_roundw
              case rel => exact ⟨1, by omega, by go_num, by rw [HTH.out]; rfl, K9⟩
              case measure => simp [intOf]; omega
            · subst htb
              go_wp2
              go_roundw
              case rel => exact ⟨1, by omega, by go_num, by rw [HTH.out]; rfl, K9⟩
              case measure => simp [intOf]; omega
          · have t5 : (k : Int) > 0 := by omega
            have t6 := HNS.out.rise k hlt (by omega)
            have HG2 : Hid (∀ W', Kept w4 W' → W'.cell? ⟨b, o + (k - 1), none⟩ = some (.string (L[k - 1]'(by omega)))) := fun W' hk => (hk.cell (p := ⟨b, o + (k - 1), none⟩) hb).trans (HCS.out _ _ (strs_at (by omega)))
            have q2 : (0 : Int) ≤ (k : Int) - 1 := by omega
            have q3 : ((k : Int) - 1).toNat = k - 1 := by omega
            have q4 : (k : Int) - 1 < (L.length : Int) := by omega
            generalize L[k - 1]'(by omega) = y at *
            generalize L[k] = x at *
            generalize thB nm (L.take k) = tb at *
            obtain ⟨cD0, cD1, fD0, fD1⟩ := OD.out.two
            go_wp2_with fail
            refine (get_any d x _ _ HD.out).mono ?_
            rintro e w5 ⟨rfl, hk⟩
            clear cD0 cD1 fD0 fD1
            replace OD := Lib.hid (OD.out.kept hk)
            replace HD := Lib.hid (HD.out.go hk (Ext.refl _ _))
            replace K9 := K9.trans hk
            generalize hr : getR d x = r at *
            obtain ⟨s, c⟩ := r
            obtain ⟨hc, h1, h2, h3⟩ := HG.out
            dsimp only at hc h1 ⊢
            subst hc
            clear hr HG
            have t2 : ¬ (s.size : Int) > 1024 := by omega
            have t3 : ¬ (x.size : Int) < 1 := by omega
            have t4 : ¬ (x.size : Int) > 24 := by omega
            clear h1 h2 h3
            clear hk
            have g2 := HG2.out _ K9
            obtain ⟨cD0, cD1, fD0, fD1⟩ := OD.out.two
            rcases Bool.eq_false_or_eq_true tb with htb | htb
            · subst htb
              go_wp2
              go_roundw
              case rel => exact ⟨k + 1, by omega, by go_num, by rw [HTH.out]; rfl, K9⟩
              case measure => simp [intOf]; omega
            · subst htb
              go_wp2
              go_roundw
              case rel => exact ⟨k + 1, by omega, by go_num, by rw [HTH.out]; rfl, K9⟩
              case measure => simp [intOf]; omega
        · obtain rfl : k = L.length := by omega
          rw [List.take_length]
          replace K := K.trans K9
          have HTH := Lib.hid (HNS.out.there nm)
          obtain ⟨cD0, cD1, fD0, fD1⟩ := OD.out.two
          go_wp2_with fail
          refine (get_any d nm _ _ HD.out).mono ?_
          rintro e w5 ⟨rfl, hk⟩
          clear cD0 cD1 fD0 fD1
          replace OD := Lib.hid (OD.out.kept hk)
          replace HD := Lib.hid (HD.out.go hk (Ext.refl _ _))
          replace K := K.trans hk
          generalize hr : getR d nm = r at *
          obtain ⟨s, c⟩ := r
          dsimp only at HTH ⊢
          clear hr
          have t7 : (L.length : Int) ≤ 32 := by omega
          clear hk
          rcases Bool.eq_false_or_eq_true (thB nm L) with htb | htb
          · have hc : c = 0 := HTH.out.2 htb
            subst hc
            rw [htb]
            clear HTH htb
            obtain ⟨cD0, cD1, fD0, fD1⟩ := OD.out.two
            go_wp2_with fail
            refine (awake12 _ (HT.out.kept K)).mono ?_
            rintro e w6 ⟨rfl, hk⟩
            clear cD0 cD1 fD0 fD1
            replace OD := Lib.hid (OD.out.kept hk)
            replace HD := Lib.hid (HD.out.go hk (Ext.refl _ _))
            replace K := K.trans hk
            clear hk
            go_wp2
            go_ret
            exact ⟨rfl, K⟩
          · have hc : c ≠ 0 := fun h => by have := HTH.out.1 h; rw [htb] at this; cases this
            have t8 := beq_f hc
            rw [htb]
            clear HTH htb hc
            obtain ⟨cD0, cD1, fD0, fD1⟩ := OD.out.two
            go_wp2_with fail
            refine (awake12 _ (HT.out.kept K)).mono ?_
            rintro e w6 ⟨rfl, hk⟩
            clear cD0 cD1 fD0 fD1
            replace OD := Lib.hid (OD.out.kept hk)
            replace HD := Lib.hid (HD.out.go hk (Ext.refl _ _))
            replace K := K.trans hk
            clear hk
            go_wp2
            go_ret
            exact ⟨rfl, K⟩
  · rw [hs]
    clear hs
    obtain ⟨cD0, cD1, fD0, fD1⟩ := OD.out.two
    go_wp2_with fail
    refine (awake12 _ (HT.out.kept K)).mono ?_
    rintro e w4 ⟨rfl, hk⟩
    clear cD0 cD1 fD0 fD1
    replace OD := Lib.hid (OD.out.kept hk)
    replace HD := Lib.hid (HD.out.go hk (Ext.refl _ _))
    replace K := K.trans hk
    clear hk
    go_wp2
    go_ret
    exact ⟨rfl, K⟩
end Go.Proofs.YtagpimahicgkmaaDoor
