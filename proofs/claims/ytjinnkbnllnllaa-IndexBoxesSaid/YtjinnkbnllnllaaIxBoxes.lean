/- Walk: mailsacklaw15.IndexBoxes. -/
import Derived.Test.YtjinnkbnllnllaaRxRename
import Derived.Test.YtjinnkbnllnllaaRxSub
import Derived.Test.YtjinnkbnllnllaaL15Subs
import Derived.Test.YtjinnkbnllnllaaLast
import Derived.Test.YtjinnkbnllnllaaIxSmall
import Derived.Test.YtjinnkbnllnllaaL15Awake
namespace Go.Proofs.Ytjinnkbnllnllaa
open Go.RowKit

theorem room_nil : Room ix0 := ⟨by decide, fun b hb => by cases hb⟩
theorem small_few {x : Ix} (h : smallB x = true) : Few x := fun k hk => by
  simp only [smallB, Bool.and_eq_true, allTo_iff, smBox, decide_eq_true_eq] at h
  exact (h.2 k hk).2
theorem room_list {l : List Bx} {s : List ByteArray} {g : Int} (hl : l.length ≤ 1000) (hm : ∀ b ∈ l, b.mails.length ≤ 1000) : Room ⟨l, s, g⟩ :=
  ⟨by show l.length * 56 ≤ _; omega, fun b hb => by have := hm b hb; omega⟩
theorem right_mails {x : Ix} (hr : rightB x = true) : x.boxes.length ≤ 6 ∧ ∀ b ∈ x.boxes, b.mails.length ≤ 30 := by
  have hL := right_list hr
  exact ⟨hL.len, fun b hb => (boxB_parts (hL.box b hb).1).2.2.2.2.2.1⟩
theorem room_cre (x : Ix) (nm : ByteArray) : Room (creR x nm).1 := by
  unfold creR
  split
  · rename_i h
    rw [Bool.and_eq_true] at h
    obtain ⟨h1, h2⟩ := right_mails h.1
    split
    · exact room_nil
    · split
      · exact room_nil
      · refine room_list (by rw [(insX_perm _ _).length_eq, List.length_cons]; omega) (fun b hb => ?_)
        rcases insX_mem.1 hb with rfl | hb
        · simp
        · have := h2 b hb; omega
  · exact room_nil
theorem room_del (x : Ix) (nm : ByteArray) : Room (delR x nm).1 := by
  unfold delR
  split
  · rename_i h
    rw [Bool.and_eq_true] at h
    obtain ⟨h1, h2⟩ := right_mails h.1
    split
    · exact room_nil
    · exact room_list (by have := List.length_eraseIdx_le x.boxes; rename_i a _; have := this a; omega) (fun b hb => by have := h2 b (List.mem_of_mem_eraseIdx hb); omega)
  · exact room_nil
theorem room_ren (x : Ix) (fr tn : ByteArray) : Room (renR x fr tn).1 := by
  unfold renR
  split
  · rename_i h
    rw [Bool.and_eq_true] at h
    obtain ⟨h1, h2⟩ := right_mails h.1
    have hpos := (right_len h.1).1
    split
    · exact room_nil
    · rename_i a hf
      split
      · exact room_nil
      · have ha := (findTo_inv hf).1
        split
        · unfold movR
          split
          · exact room_nil
          · have h0 := h2 _ (bxAt_mem hpos)
            refine room_list (by rw [List.length_set, (insX_perm _ _).length_eq, List.length_cons]; omega) (fun b hb => ?_)
            rcases List.mem_or_eq_of_mem_set hb with hb | rfl
            · rcases insX_mem.1 hb with rfl | hb
              · show (bxAt x 0).mails.length ≤ 1000; omega
              · have := h2 b hb; omega
            · exact Nat.zero_le _
        · have h0 := h2 _ (bxAt_mem ha)
          refine room_list (by rw [(insX_perm _ _).length_eq, List.length_cons]; have := List.length_eraseIdx_le x.boxes a; omega) (fun b hb => ?_)
          rcases insX_mem.1 hb with rfl | hb
          · show (bxAt x a).mails.length ≤ 1000; omega
          · have := h2 b (List.mem_of_mem_eraseIdx hb); omega
  · exact room_nil
theorem room_sub {x : Ix} (hx : Room x) (nm : ByteArray) (yes : Bool) : Room (subR x nm yes).1 := by
  unfold subR
  split
  · split
    · exact hx
    · split
      · exact hx
      · split
        · exact room_nil
        · exact hx
  · exact room_nil

set_option maxRecDepth 100000 in
set_option maxHeartbeats 8000000 in
theorem boxes_any (x : Ix) (v : Value) (nm tn : ByteArray) (yes : Bool) (w : World) (h : IxAt [] w v x) (hok : IxOk x) (hroom : Room x) (hnm : nm.size ≤ maxLen) (htn : tn.size ≤ maxLen) :
    Calls Try.prog 6 #[v, .string nm, .string tn, .bool yes] w fun e w' => e = .returned (.bool true) ∧ Kept w w' := by
  have HV := Lib.hid h
  have HOK := Lib.hid hok
  have HROOM := Lib.hid hroom
  have HNS := Lib.hid hnm
  have HTS := Lib.hid htn
  unfold maxLen at hnm htn
  obtain ⟨A, c, A', c', rfl, hc1, hc2, hc3, hc4, hbx, hrow⟩ := h.open_
  clear hbx hrow h hok hroom
  unfold maxLen at hc2 hc4
  generalize x.boxes.length = n at *
  generalize x.subs.length = m at *
  generalize hg : x.given = gv at *
  clear hg
  go_enter Try.func6, Try.ntmps6
  go_wp2_with fail
  have OX := Lib.hid (Own.newAt w w.heap.size 25 [.slice A n c, .slice A' m c', .int .i64 gv] (by simp))
  have K := ((Kept.refl w).alloc (.cells #[.slice A n c, .slice A' m c', .int .i64 gv] 25))
  generalize (w.alloc (.cells #[.slice A n c, .slice A' m c', .int .i64 gv] 25)) = w1 at *
  obtain ⟨cX0, cX1, cX2, fX0, fX1, fX2⟩ := OX.out.three
  refine (ref_same x _ _ (HV.out.go K (Ext.nil _ _)) HROOM.out).mono ?_
  rintro e w2 ⟨v0, rfl, hv, hk⟩
  clear cX0 cX1 cX2 fX0 fX1 fX2
  replace OX := Lib.hid (OX.out.kept hk)
  replace K := K.trans hk
  clear hk
  obtain ⟨A0, c0, B0, d0, rfl⟩ := hv.form
  have HV0 := Lib.hid hv
  clear hv
  generalize x.boxes.length = n0 at HV0 ⊢
  generalize x.subs.length = m0 at HV0 ⊢
  generalize x.given = g0 at HV0 ⊢
  obtain ⟨cX0, cX1, cX2, fX0, fX1, fX2⟩ := OX.out.three
  go_wp2_with fail
  clear cX0 cX1 cX2 fX0 fX1 fX2
  replace OX := Lib.hid (OX.out.alloc (.cells #[.slice A0 n0 c0, .slice B0 m0 d0, .int .i64 g0] 29))
  have OY := Lib.hid (Own.new w2 29 [.slice A0 n0 c0, .slice B0 m0 d0, .int .i64 g0])
  replace HV0 := Lib.hid (HV0.out.go ((Kept.refl w2).alloc (.cells #[.slice A0 n0 c0, .slice B0 m0 d0, .int .i64 g0] 29)) (Ext.refl _ _))
  replace K := K.alloc (.cells #[.slice A0 n0 c0, .slice B0 m0 d0, .int .i64 g0] 29)
  generalize (w2.alloc (.cells #[.slice A0 n0 c0, .slice B0 m0 d0, .int .i64 g0] 29)) = w3 at *
  refine (small_any x _ _ HV0.out).mono ?_
  rintro e w4 ⟨rfl, hk⟩
  replace OX := Lib.hid (OX.out.kept hk)
  replace OY := Lib.hid (OY.out.kept hk)
  replace HV0 := Lib.hid (HV0.out.go hk (Ext.refl _ _))
  replace K := K.trans hk
  clear hk
  by_cases hsm : smallB x = false
  · rw [hsm]
    clear hsm
    obtain ⟨cX0, cX1, cX2, fX0, fX1, fX2⟩ := OX.out.three
    obtain ⟨cY0, cY1, cY2, fY0, fY1, fY2⟩ := OY.out.three
    go_wp2_with fail
    refine (awake_any _).mono ?_
    rintro e w5 ⟨rfl, hk⟩
    clear cX0 cX1 cX2 fX0 fX1 fX2 cY0 cY1 cY2 fY0 fY1 fY2
    replace OX := Lib.hid (OX.out.kept hk)
    replace OY := Lib.hid (OY.out.kept hk)
    replace HV0 := Lib.hid (HV0.out.go hk (Ext.refl _ _))
    replace K := K.trans hk
    clear hk
    go_wp2
    go_ret
    exact ⟨rfl, K⟩
  replace hsm : smallB x = true := by simpa using hsm
  have HFEW := Lib.hid (small_few hsm)
  rw [hsm]
  clear hsm
  by_cases h100 : 100 < nm.size
  · have h100' : (100 : Int) < (nm.size : Int) := by omega
    obtain ⟨cX0, cX1, cX2, fX0, fX1, fX2⟩ := OX.out.three
    obtain ⟨cY0, cY1, cY2, fY0, fY1, fY2⟩ := OY.out.three
    go_wp2_with fail
    refine (awake_any _).mono ?_
    rintro e w5 ⟨rfl, hk⟩
    clear cX0 cX1 cX2 fX0 fX1 fX2 cY0 cY1 cY2 fY0 fY1 fY2
    replace OX := Lib.hid (OX.out.kept hk)
    replace OY := Lib.hid (OY.out.kept hk)
    replace HV0 := Lib.hid (HV0.out.go hk (Ext.refl _ _))
    replace K := K.trans hk
    clear hk
    go_wp2
    go_ret
    exact ⟨rfl, K⟩
  have h100' : ¬ (100 : Int) < (nm.size : Int) := by omega
  by_cases h101 : 100 < tn.size
  · have h101' : (100 : Int) < (tn.size : Int) := by omega
    obtain ⟨cX0, cX1, cX2, fX0, fX1, fX2⟩ := OX.out.three
    obtain ⟨cY0, cY1, cY2, fY0, fY1, fY2⟩ := OY.out.three
    go_wp2_with fail
    refine (awake_any _).mono ?_
    rintro e w5 ⟨rfl, hk⟩
    clear cX0 cX1 cX2 fX0 fX1 fX2 cY0 cY1 cY2 fY0 fY1 fY2
    replace OX := Lib.hid (OX.out.kept hk)
    replace OY := Lib.hid (OY.out.kept hk)
    replace HV0 := Lib.hid (HV0.out.go hk (Ext.refl _ _))
    replace K := K.trans hk
    clear hk
    go_wp2
    go_ret
    exact ⟨rfl, K⟩
  have h101' : ¬ (100 : Int) < (tn.size : Int) := by omega
  obtain ⟨⟨y1, e1⟩, hr1⟩ : ∃ r, creR x nm = r := ⟨_, rfl⟩
  have HR1 := Lib.hid hr1
  have HRM1 : Hid (Room y1) := by have := room_cre x nm; rw [hr1] at this; exact this
  clear hr1
  obtain ⟨⟨y2, e2⟩, hr2⟩ : ∃ r, delR x nm = r := ⟨_, rfl⟩
  have HR2 := Lib.hid hr2
  have HRM2 : Hid (Room y2) := by have := room_del x nm; rw [hr2] at this; exact this
  clear hr2
  obtain ⟨⟨y3, e3⟩, hr3⟩ : ∃ r, renR x nm tn = r := ⟨_, rfl⟩
  have HR3 := Lib.hid hr3
  have HRM3 : Hid (Room y3) := by have := room_ren x nm tn; rw [hr3] at this; exact this
  clear hr3
  obtain ⟨⟨y4, e4⟩, hr4⟩ : ∃ r, subR x nm yes = r := ⟨_, rfl⟩
  have HR4 := Lib.hid hr4
  have HRM4 : Hid (Room y4) := by have := room_sub HROOM.out nm yes; rw [hr4] at this; exact this
  clear hr4
  obtain ⟨cX0, cX1, cX2, fX0, fX1, fX2⟩ := OX.out.three
  obtain ⟨cY0, cY1, cY2, fY0, fY1, fY2⟩ := OY.out.three
  have zX4 := OX.out.lt
  have zY4 := OY.out.lt
  have zK4 := K.size
  go_wp2_with fail
  refine (cre_any [] x _ nm _ (fun _ hk => by cases hk) (HV.out.go K (Ext.nil _ _)) HOK.out HNS.out).mono ?_
  rintro e w5 ⟨v1, rfl, hv, hk⟩
  clear cX0 cX1 cX2 fX0 fX1 fX2 cY0 cY1 cY2 fY0 fY1 fY2
  replace OX := Lib.hid (OX.out.kept hk)
  replace OY := Lib.hid (OY.out.kept hk)
  replace HV0 := Lib.hid (HV0.out.go hk (Ext.refl _ _))
  replace K := K.trans hk
  rw [HR1.out] at hv ⊢
  dsimp only at hv ⊢
  clear hk
  obtain ⟨A1, c1, B1, d1, rfl⟩ := hv.form
  have HV1 := Lib.hid hv
  clear hv
  generalize y1.boxes.length = n1 at HV1 ⊢
  generalize y1.subs.length = m1 at HV1 ⊢
  generalize y1.given = g1 at HV1 ⊢
  obtain ⟨cX0, cX1, cX2, fX0, fX1, fX2⟩ := OX.out.three
  obtain ⟨cY0, cY1, cY2, fY0, fY1, fY2⟩ := OY.out.three
  have zX5 := OX.out.lt
  have zY5 := OY.out.lt
  have zK5 := K.size
  go_wp2_with fail
  clear cX0 cX1 cX2 fX0 fX1 fX2 cY0 cY1 cY2 fY0 fY1 fY2
  replace OX := Lib.hid (OX.out.alloc (.cells #[.slice A1 n1 c1, .slice B1 m1 d1, .int .i64 g1] 25))
  replace OY := Lib.hid (OY.out.alloc (.cells #[.slice A1 n1 c1, .slice B1 m1 d1, .int .i64 g1] 25))
  have OA := Lib.hid (Own.new w5 25 [.slice A1 n1 c1, .slice B1 m1 d1, .int .i64 g1])
  replace HV0 := Lib.hid (HV0.out.go ((Kept.refl w5).alloc (.cells #[.slice A1 n1 c1, .slice B1 m1 d1, .int .i64 g1] 25)) (Ext.refl _ _))
  replace HV1 := Lib.hid (HV1.out.go ((Kept.refl w5).alloc (.cells #[.slice A1 n1 c1, .slice B1 m1 d1, .int .i64 g1] 25)) (Ext.refl _ _))
  replace K := K.alloc (.cells #[.slice A1 n1 c1, .slice B1 m1 d1, .int .i64 g1] 25)
  generalize (w5.alloc (.cells #[.slice A1 n1 c1, .slice B1 m1 d1, .int .i64 g1] 25)) = w6 at *
  refine (delx_any [] x _ nm _ (fun _ hk => by cases hk) (HV.out.go K (Ext.nil _ _)) HOK.out).mono ?_
  rintro e w7 ⟨v2, rfl, hv, hk⟩
  replace OX := Lib.hid (OX.out.kept hk)
  replace OY := Lib.hid (OY.out.kept hk)
  replace OA := Lib.hid (OA.out.kept hk)
  replace HV0 := Lib.hid (HV0.out.go hk (Ext.refl _ _))
  replace HV1 := Lib.hid (HV1.out.go hk (Ext.refl _ _))
  replace K := K.trans hk
  rw [HR2.out] at hv ⊢
  dsimp only at hv ⊢
  clear hk
  obtain ⟨A2, c2, B2, d2, rfl⟩ := hv.form
  have HV2 := Lib.hid hv
  clear hv
  generalize y2.boxes.length = n2 at HV2 ⊢
  generalize y2.subs.length = m2 at HV2 ⊢
  generalize y2.given = g2 at HV2 ⊢
  obtain ⟨cX0, cX1, cX2, fX0, fX1, fX2⟩ := OX.out.three
  obtain ⟨cY0, cY1, cY2, fY0, fY1, fY2⟩ := OY.out.three
  have zX7 := OX.out.lt
  have zY7 := OY.out.lt
  have zA7 := OA.out.lt
  have zK7 := K.size
  go_wp2_with fail
  clear cX0 cX1 cX2 fX0 fX1 fX2 cY0 cY1 cY2 fY0 fY1 fY2
  replace OX := Lib.hid (OX.out.alloc (.cells #[.slice A2 n2 c2, .slice B2 m2 d2, .int .i64 g2] 25))
  replace OY := Lib.hid (OY.out.alloc (.cells #[.slice A2 n2 c2, .slice B2 m2 d2, .int .i64 g2] 25))
  replace OA := Lib.hid (OA.out.alloc (.cells #[.slice A2 n2 c2, .slice B2 m2 d2, .int .i64 g2] 25))
  have OB := Lib.hid (Own.new w7 25 [.slice A2 n2 c2, .slice B2 m2 d2, .int .i64 g2])
  replace HV0 := Lib.hid (HV0.out.go ((Kept.refl w7).alloc (.cells #[.slice A2 n2 c2, .slice B2 m2 d2, .int .i64 g2] 25)) (Ext.refl _ _))
  replace HV1 := Lib.hid (HV1.out.go ((Kept.refl w7).alloc (.cells #[.slice A2 n2 c2, .slice B2 m2 d2, .int .i64 g2] 25)) (Ext.refl _ _))
  replace HV2 := Lib.hid (HV2.out.go ((Kept.refl w7).alloc (.cells #[.slice A2 n2 c2, .slice B2 m2 d2, .int .i64 g2] 25)) (Ext.refl _ _))
  replace K := K.alloc (.cells #[.slice A2 n2 c2, .slice B2 m2 d2, .int .i64 g2] 25)
  generalize (w7.alloc (.cells #[.slice A2 n2 c2, .slice B2 m2 d2, .int .i64 g2] 25)) = w8 at *
  refine (ren_any [] x _ nm tn _ (fun _ hk => by cases hk) (HV.out.go K (Ext.nil _ _)) HOK.out HTS.out).mono ?_
  rintro e w9 ⟨v3, rfl, hv, hk⟩
  replace OX := Lib.hid (OX.out.kept hk)
  replace OY := Lib.hid (OY.out.kept hk)
  replace OA := Lib.hid (OA.out.kept hk)
  replace OB := Lib.hid (OB.out.kept hk)
  replace HV0 := Lib.hid (HV0.out.go hk (Ext.refl _ _))
  replace HV1 := Lib.hid (HV1.out.go hk (Ext.refl _ _))
  replace HV2 := Lib.hid (HV2.out.go hk (Ext.refl _ _))
  replace K := K.trans hk
  rw [HR3.out] at hv ⊢
  dsimp only at hv ⊢
  clear hk
  obtain ⟨A3, c3, B3, d3, rfl⟩ := hv.form
  have HV3 := Lib.hid hv
  clear hv
  generalize y3.boxes.length = n3 at HV3 ⊢
  generalize y3.subs.length = m3 at HV3 ⊢
  generalize y3.given = g3 at HV3 ⊢
  obtain ⟨cX0, cX1, cX2, fX0, fX1, fX2⟩ := OX.out.three
  obtain ⟨cY0, cY1, cY2, fY0, fY1, fY2⟩ := OY.out.three
  have zX9 := OX.out.lt
  have zY9 := OY.out.lt
  have zA9 := OA.out.lt
  have zB9 := OB.out.lt
  have zK9 := K.size
  go_wp2_with fail
  clear cX0 cX1 cX2 fX0 fX1 fX2 cY0 cY1 cY2 fY0 fY1 fY2
  replace OX := Lib.hid (OX.out.alloc (.cells #[.slice A3 n3 c3, .slice B3 m3 d3, .int .i64 g3] 25))
  replace OY := Lib.hid (OY.out.alloc (.cells #[.slice A3 n3 c3, .slice B3 m3 d3, .int .i64 g3] 25))
  replace OA := Lib.hid (OA.out.alloc (.cells #[.slice A3 n3 c3, .slice B3 m3 d3, .int .i64 g3] 25))
  replace OB := Lib.hid (OB.out.alloc (.cells #[.slice A3 n3 c3, .slice B3 m3 d3, .int .i64 g3] 25))
  have OC := Lib.hid (Own.new w9 25 [.slice A3 n3 c3, .slice B3 m3 d3, .int .i64 g3])
  replace HV0 := Lib.hid (HV0.out.go ((Kept.refl w9).alloc (.cells #[.slice A3 n3 c3, .slice B3 m3 d3, .int .i64 g3] 25)) (Ext.refl _ _))
  replace HV1 := Lib.hid (HV1.out.go ((Kept.refl w9).alloc (.cells #[.slice A3 n3 c3, .slice B3 m3 d3, .int .i64 g3] 25)) (Ext.refl _ _))
  replace HV2 := Lib.hid (HV2.out.go ((Kept.refl w9).alloc (.cells #[.slice A3 n3 c3, .slice B3 m3 d3, .int .i64 g3] 25)) (Ext.refl _ _))
  replace HV3 := Lib.hid (HV3.out.go ((Kept.refl w9).alloc (.cells #[.slice A3 n3 c3, .slice B3 m3 d3, .int .i64 g3] 25)) (Ext.refl _ _))
  replace K := K.alloc (.cells #[.slice A3 n3 c3, .slice B3 m3 d3, .int .i64 g3] 25)
  generalize (w9.alloc (.cells #[.slice A3 n3 c3, .slice B3 m3 d3, .int .i64 g3] 25)) = w10 at *
  refine (subV_any [] x _ nm yes _ (fun _ hk => by cases hk) (HV.out.go K (Ext.nil _ _)) HOK.out HNS.out).mono ?_
  rintro e w11 ⟨v4, rfl, hv, hk⟩
  replace OX := Lib.hid (OX.out.kept hk)
  replace OY := Lib.hid (OY.out.kept hk)
  replace OA := Lib.hid (OA.out.kept hk)
  replace OB := Lib.hid (OB.out.kept hk)
  replace OC := Lib.hid (OC.out.kept hk)
  replace HV0 := Lib.hid (HV0.out.go hk (Ext.refl _ _))
  replace HV1 := Lib.hid (HV1.out.go hk (Ext.refl _ _))
  replace HV2 := Lib.hid (HV2.out.go hk (Ext.refl _ _))
  replace HV3 := Lib.hid (HV3.out.go hk (Ext.refl _ _))
  replace K := K.trans hk
  rw [HR4.out] at hv ⊢
  dsimp only at hv ⊢
  clear hk
  obtain ⟨A4, c4, B4, d4, rfl⟩ := hv.form
  have HV4 := Lib.hid hv
  clear hv
  generalize y4.boxes.length = n4 at HV4 ⊢
  generalize y4.subs.length = m4 at HV4 ⊢
  generalize y4.given = g4 at HV4 ⊢
  obtain ⟨cX0, cX1, cX2, fX0, fX1, fX2⟩ := OX.out.three
  obtain ⟨cY0, cY1, cY2, fY0, fY1, fY2⟩ := OY.out.three
  have zX11 := OX.out.lt
  have zY11 := OY.out.lt
  have zA11 := OA.out.lt
  have zB11 := OB.out.lt
  have zC11 := OC.out.lt
  have zK11 := K.size
  go_wp2_with fail
  clear cX0 cX1 cX2 fX0 fX1 fX2 cY0 cY1 cY2 fY0 fY1 fY2
  replace OX := Lib.hid (OX.out.alloc (.cells #[.slice A4 n4 c4, .slice B4 m4 d4, .int .i64 g4] 25))
  replace OY := Lib.hid (OY.out.alloc (.cells #[.slice A4 n4 c4, .slice B4 m4 d4, .int .i64 g4] 25))
  replace OA := Lib.hid (OA.out.alloc (.cells #[.slice A4 n4 c4, .slice B4 m4 d4, .int .i64 g4] 25))
  replace OB := Lib.hid (OB.out.alloc (.cells #[.slice A4 n4 c4, .slice B4 m4 d4, .int .i64 g4] 25))
  replace OC := Lib.hid (OC.out.alloc (.cells #[.slice A4 n4 c4, .slice B4 m4 d4, .int .i64 g4] 25))
  have OD := Lib.hid (Own.new w11 25 [.slice A4 n4 c4, .slice B4 m4 d4, .int .i64 g4])
  replace HV0 := Lib.hid (HV0.out.go ((Kept.refl w11).alloc (.cells #[.slice A4 n4 c4, .slice B4 m4 d4, .int .i64 g4] 25)) (Ext.refl _ _))
  replace HV1 := Lib.hid (HV1.out.go ((Kept.refl w11).alloc (.cells #[.slice A4 n4 c4, .slice B4 m4 d4, .int .i64 g4] 25)) (Ext.refl _ _))
  replace HV2 := Lib.hid (HV2.out.go ((Kept.refl w11).alloc (.cells #[.slice A4 n4 c4, .slice B4 m4 d4, .int .i64 g4] 25)) (Ext.refl _ _))
  replace HV3 := Lib.hid (HV3.out.go ((Kept.refl w11).alloc (.cells #[.slice A4 n4 c4, .slice B4 m4 d4, .int .i64 g4] 25)) (Ext.refl _ _))
  replace HV4 := Lib.hid (HV4.out.go ((Kept.refl w11).alloc (.cells #[.slice A4 n4 c4, .slice B4 m4 d4, .int .i64 g4] 25)) (Ext.refl _ _))
  replace K := K.alloc (.cells #[.slice A4 n4 c4, .slice B4 m4 d4, .int .i64 g4] 25)
  generalize (w11.alloc (.cells #[.slice A4 n4 c4, .slice B4 m4 d4, .int .i64 g4] 25)) = w12 at *
  refine (rcre_any [] x _ nm _ (fun _ hk => by cases hk) HV0.out HOK.out HFEW.out HNS.out).mono ?_
  rintro e w13 ⟨x1, rfl, hv, hk⟩
  replace OY := Lib.hid (OY.out.kept hk)
  replace OA := Lib.hid (OA.out.kept hk)
  replace OB := Lib.hid (OB.out.kept hk)
  replace OC := Lib.hid (OC.out.kept hk)
  replace OD := Lib.hid (OD.out.kept hk)
  replace HV0 := Lib.hid (HV0.out.go hk (Ext.refl _ _))
  replace HV1 := Lib.hid (HV1.out.go hk (Ext.refl _ _))
  replace HV2 := Lib.hid (HV2.out.go hk (Ext.refl _ _))
  replace HV3 := Lib.hid (HV3.out.go hk (Ext.refl _ _))
  replace HV4 := Lib.hid (HV4.out.go hk (Ext.refl _ _))
  replace K := K.trans hk
  rw [HR1.out] at hv ⊢
  dsimp only at hv ⊢
  clear hk
  obtain ⟨A5, c5, B5, d5, rfl⟩ := hv.form
  have HV5 := Lib.hid hv
  clear hv
  generalize y1.boxes.length = n5 at HV5 ⊢
  generalize y1.subs.length = m5 at HV5 ⊢
  generalize y1.given = g5 at HV5 ⊢
  obtain ⟨cY0, cY1, cY2, fY0, fY1, fY2⟩ := OY.out.three
  have zY13 := OY.out.lt
  have zA13 := OA.out.lt
  have zB13 := OB.out.lt
  have zC13 := OC.out.lt
  have zD13 := OD.out.lt
  have zK13 := K.size
  go_wp2_with fail
  clear cY0 cY1 cY2 fY0 fY1 fY2
  replace OY := Lib.hid (OY.out.alloc (.cells #[.slice A5 n5 c5, .slice B5 m5 d5, .int .i64 g5] 29))
  replace OA := Lib.hid (OA.out.alloc (.cells #[.slice A5 n5 c5, .slice B5 m5 d5, .int .i64 g5] 29))
  replace OB := Lib.hid (OB.out.alloc (.cells #[.slice A5 n5 c5, .slice B5 m5 d5, .int .i64 g5] 29))
  replace OC := Lib.hid (OC.out.alloc (.cells #[.slice A5 n5 c5, .slice B5 m5 d5, .int .i64 g5] 29))
  replace OD := Lib.hid (OD.out.alloc (.cells #[.slice A5 n5 c5, .slice B5 m5 d5, .int .i64 g5] 29))
  have OP := Lib.hid (Own.new w13 29 [.slice A5 n5 c5, .slice B5 m5 d5, .int .i64 g5])
  replace HV0 := Lib.hid (HV0.out.go ((Kept.refl w13).alloc (.cells #[.slice A5 n5 c5, .slice B5 m5 d5, .int .i64 g5] 29)) (Ext.refl _ _))
  replace HV1 := Lib.hid (HV1.out.go ((Kept.refl w13).alloc (.cells #[.slice A5 n5 c5, .slice B5 m5 d5, .int .i64 g5] 29)) (Ext.refl _ _))
  replace HV2 := Lib.hid (HV2.out.go ((Kept.refl w13).alloc (.cells #[.slice A5 n5 c5, .slice B5 m5 d5, .int .i64 g5] 29)) (Ext.refl _ _))
  replace HV3 := Lib.hid (HV3.out.go ((Kept.refl w13).alloc (.cells #[.slice A5 n5 c5, .slice B5 m5 d5, .int .i64 g5] 29)) (Ext.refl _ _))
  replace HV4 := Lib.hid (HV4.out.go ((Kept.refl w13).alloc (.cells #[.slice A5 n5 c5, .slice B5 m5 d5, .int .i64 g5] 29)) (Ext.refl _ _))
  replace HV5 := Lib.hid (HV5.out.go ((Kept.refl w13).alloc (.cells #[.slice A5 n5 c5, .slice B5 m5 d5, .int .i64 g5] 29)) (Ext.refl _ _))
  replace K := K.alloc (.cells #[.slice A5 n5 c5, .slice B5 m5 d5, .int .i64 g5] 29)
  generalize (w13.alloc (.cells #[.slice A5 n5 c5, .slice B5 m5 d5, .int .i64 g5] 29)) = w14 at *
  refine (rdel_any [] x _ nm _ (fun _ hk => by cases hk) HV0.out HOK.out HFEW.out).mono ?_
  rintro e w15 ⟨x2, rfl, hv, hk⟩
  replace OY := Lib.hid (OY.out.kept hk)
  replace OA := Lib.hid (OA.out.kept hk)
  replace OB := Lib.hid (OB.out.kept hk)
  replace OC := Lib.hid (OC.out.kept hk)
  replace OD := Lib.hid (OD.out.kept hk)
  replace OP := Lib.hid (OP.out.kept hk)
  replace HV0 := Lib.hid (HV0.out.go hk (Ext.refl _ _))
  replace HV1 := Lib.hid (HV1.out.go hk (Ext.refl _ _))
  replace HV2 := Lib.hid (HV2.out.go hk (Ext.refl _ _))
  replace HV3 := Lib.hid (HV3.out.go hk (Ext.refl _ _))
  replace HV4 := Lib.hid (HV4.out.go hk (Ext.refl _ _))
  replace HV5 := Lib.hid (HV5.out.go hk (Ext.refl _ _))
  replace K := K.trans hk
  rw [HR2.out] at hv ⊢
  dsimp only at hv ⊢
  clear hk
  obtain ⟨A6, c6, B6, d6, rfl⟩ := hv.form
  have HV6 := Lib.hid hv
  clear hv
  generalize y2.boxes.length = n6 at HV6 ⊢
  generalize y2.subs.length = m6 at HV6 ⊢
  generalize y2.given = g6 at HV6 ⊢
  obtain ⟨cY0, cY1, cY2, fY0, fY1, fY2⟩ := OY.out.three
  have zY15 := OY.out.lt
  have zA15 := OA.out.lt
  have zB15 := OB.out.lt
  have zC15 := OC.out.lt
  have zD15 := OD.out.lt
  have zP15 := OP.out.lt
  have zK15 := K.size
  go_wp2_with fail
  clear cY0 cY1 cY2 fY0 fY1 fY2
  replace OY := Lib.hid (OY.out.alloc (.cells #[.slice A6 n6 c6, .slice B6 m6 d6, .int .i64 g6] 29))
  replace OA := Lib.hid (OA.out.alloc (.cells #[.slice A6 n6 c6, .slice B6 m6 d6, .int .i64 g6] 29))
  replace OB := Lib.hid (OB.out.alloc (.cells #[.slice A6 n6 c6, .slice B6 m6 d6, .int .i64 g6] 29))
  replace OC := Lib.hid (OC.out.alloc (.cells #[.slice A6 n6 c6, .slice B6 m6 d6, .int .i64 g6] 29))
  replace OD := Lib.hid (OD.out.alloc (.cells #[.slice A6 n6 c6, .slice B6 m6 d6, .int .i64 g6] 29))
  replace OP := Lib.hid (OP.out.alloc (.cells #[.slice A6 n6 c6, .slice B6 m6 d6, .int .i64 g6] 29))
  have OQ := Lib.hid (Own.new w15 29 [.slice A6 n6 c6, .slice B6 m6 d6, .int .i64 g6])
  replace HV0 := Lib.hid (HV0.out.go ((Kept.refl w15).alloc (.cells #[.slice A6 n6 c6, .slice B6 m6 d6, .int .i64 g6] 29)) (Ext.refl _ _))
  replace HV1 := Lib.hid (HV1.out.go ((Kept.refl w15).alloc (.cells #[.slice A6 n6 c6, .slice B6 m6 d6, .int .i64 g6] 29)) (Ext.refl _ _))
  replace HV2 := Lib.hid (HV2.out.go ((Kept.refl w15).alloc (.cells #[.slice A6 n6 c6, .slice B6 m6 d6, .int .i64 g6] 29)) (Ext.refl _ _))
  replace HV3 := Lib.hid (HV3.out.go ((Kept.refl w15).alloc (.cells #[.slice A6 n6 c6, .slice B6 m6 d6, .int .i64 g6] 29)) (Ext.refl _ _))
  replace HV4 := Lib.hid (HV4.out.go ((Kept.refl w15).alloc (.cells #[.slice A6 n6 c6, .slice B6 m6 d6, .int .i64 g6] 29)) (Ext.refl _ _))
  replace HV5 := Lib.hid (HV5.out.go ((Kept.refl w15).alloc (.cells #[.slice A6 n6 c6, .slice B6 m6 d6, .int .i64 g6] 29)) (Ext.refl _ _))
  replace HV6 := Lib.hid (HV6.out.go ((Kept.refl w15).alloc (.cells #[.slice A6 n6 c6, .slice B6 m6 d6, .int .i64 g6] 29)) (Ext.refl _ _))
  replace K := K.alloc (.cells #[.slice A6 n6 c6, .slice B6 m6 d6, .int .i64 g6] 29)
  generalize (w15.alloc (.cells #[.slice A6 n6 c6, .slice B6 m6 d6, .int .i64 g6] 29)) = w16 at *
  refine (rren_any [] x _ nm tn _ (fun _ hk => by cases hk) HV0.out HOK.out HFEW.out HTS.out).mono ?_
  rintro e w17 ⟨x3, rfl, hv, hk⟩
  replace OY := Lib.hid (OY.out.kept hk)
  replace OA := Lib.hid (OA.out.kept hk)
  replace OB := Lib.hid (OB.out.kept hk)
  replace OC := Lib.hid (OC.out.kept hk)
  replace OD := Lib.hid (OD.out.kept hk)
  replace OP := Lib.hid (OP.out.kept hk)
  replace OQ := Lib.hid (OQ.out.kept hk)
  replace HV0 := Lib.hid (HV0.out.go hk (Ext.refl _ _))
  replace HV1 := Lib.hid (HV1.out.go hk (Ext.refl _ _))
  replace HV2 := Lib.hid (HV2.out.go hk (Ext.refl _ _))
  replace HV3 := Lib.hid (HV3.out.go hk (Ext.refl _ _))
  replace HV4 := Lib.hid (HV4.out.go hk (Ext.refl _ _))
  replace HV5 := Lib.hid (HV5.out.go hk (Ext.refl _ _))
  replace HV6 := Lib.hid (HV6.out.go hk (Ext.refl _ _))
  replace K := K.trans hk
  rw [HR3.out] at hv ⊢
  dsimp only at hv ⊢
  clear hk
  obtain ⟨A7, c7, B7, d7, rfl⟩ := hv.form
  have HV7 := Lib.hid hv
  clear hv
  generalize y3.boxes.length = n7 at HV7 ⊢
  generalize y3.subs.length = m7 at HV7 ⊢
  generalize y3.given = g7 at HV7 ⊢
  obtain ⟨cY0, cY1, cY2, fY0, fY1, fY2⟩ := OY.out.three
  have zY17 := OY.out.lt
  have zA17 := OA.out.lt
  have zB17 := OB.out.lt
  have zC17 := OC.out.lt
  have zD17 := OD.out.lt
  have zP17 := OP.out.lt
  have zQ17 := OQ.out.lt
  have zK17 := K.size
  go_wp2_with fail
  clear cY0 cY1 cY2 fY0 fY1 fY2
  replace OY := Lib.hid (OY.out.alloc (.cells #[.slice A7 n7 c7, .slice B7 m7 d7, .int .i64 g7] 29))
  replace OA := Lib.hid (OA.out.alloc (.cells #[.slice A7 n7 c7, .slice B7 m7 d7, .int .i64 g7] 29))
  replace OB := Lib.hid (OB.out.alloc (.cells #[.slice A7 n7 c7, .slice B7 m7 d7, .int .i64 g7] 29))
  replace OC := Lib.hid (OC.out.alloc (.cells #[.slice A7 n7 c7, .slice B7 m7 d7, .int .i64 g7] 29))
  replace OD := Lib.hid (OD.out.alloc (.cells #[.slice A7 n7 c7, .slice B7 m7 d7, .int .i64 g7] 29))
  replace OP := Lib.hid (OP.out.alloc (.cells #[.slice A7 n7 c7, .slice B7 m7 d7, .int .i64 g7] 29))
  replace OQ := Lib.hid (OQ.out.alloc (.cells #[.slice A7 n7 c7, .slice B7 m7 d7, .int .i64 g7] 29))
  have OR := Lib.hid (Own.new w17 29 [.slice A7 n7 c7, .slice B7 m7 d7, .int .i64 g7])
  replace HV0 := Lib.hid (HV0.out.go ((Kept.refl w17).alloc (.cells #[.slice A7 n7 c7, .slice B7 m7 d7, .int .i64 g7] 29)) (Ext.refl _ _))
  replace HV1 := Lib.hid (HV1.out.go ((Kept.refl w17).alloc (.cells #[.slice A7 n7 c7, .slice B7 m7 d7, .int .i64 g7] 29)) (Ext.refl _ _))
  replace HV2 := Lib.hid (HV2.out.go ((Kept.refl w17).alloc (.cells #[.slice A7 n7 c7, .slice B7 m7 d7, .int .i64 g7] 29)) (Ext.refl _ _))
  replace HV3 := Lib.hid (HV3.out.go ((Kept.refl w17).alloc (.cells #[.slice A7 n7 c7, .slice B7 m7 d7, .int .i64 g7] 29)) (Ext.refl _ _))
  replace HV4 := Lib.hid (HV4.out.go ((Kept.refl w17).alloc (.cells #[.slice A7 n7 c7, .slice B7 m7 d7, .int .i64 g7] 29)) (Ext.refl _ _))
  replace HV5 := Lib.hid (HV5.out.go ((Kept.refl w17).alloc (.cells #[.slice A7 n7 c7, .slice B7 m7 d7, .int .i64 g7] 29)) (Ext.refl _ _))
  replace HV6 := Lib.hid (HV6.out.go ((Kept.refl w17).alloc (.cells #[.slice A7 n7 c7, .slice B7 m7 d7, .int .i64 g7] 29)) (Ext.refl _ _))
  replace HV7 := Lib.hid (HV7.out.go ((Kept.refl w17).alloc (.cells #[.slice A7 n7 c7, .slice B7 m7 d7, .int .i64 g7] 29)) (Ext.refl _ _))
  replace K := K.alloc (.cells #[.slice A7 n7 c7, .slice B7 m7 d7, .int .i64 g7] 29)
  generalize (w17.alloc (.cells #[.slice A7 n7 c7, .slice B7 m7 d7, .int .i64 g7] 29)) = w18 at *
  refine (rsub_any [] x _ nm yes _ (fun _ hk => by cases hk) HV0.out HOK.out HFEW.out HNS.out).mono ?_
  rintro e w19 ⟨x4, rfl, hv, hk⟩
  replace OY := Lib.hid (OY.out.kept hk)
  replace OA := Lib.hid (OA.out.kept hk)
  replace OB := Lib.hid (OB.out.kept hk)
  replace OC := Lib.hid (OC.out.kept hk)
  replace OD := Lib.hid (OD.out.kept hk)
  replace OP := Lib.hid (OP.out.kept hk)
  replace OQ := Lib.hid (OQ.out.kept hk)
  replace OR := Lib.hid (OR.out.kept hk)
  replace HV0 := Lib.hid (HV0.out.go hk (Ext.refl _ _))
  replace HV1 := Lib.hid (HV1.out.go hk (Ext.refl _ _))
  replace HV2 := Lib.hid (HV2.out.go hk (Ext.refl _ _))
  replace HV3 := Lib.hid (HV3.out.go hk (Ext.refl _ _))
  replace HV4 := Lib.hid (HV4.out.go hk (Ext.refl _ _))
  replace HV5 := Lib.hid (HV5.out.go hk (Ext.refl _ _))
  replace HV6 := Lib.hid (HV6.out.go hk (Ext.refl _ _))
  replace HV7 := Lib.hid (HV7.out.go hk (Ext.refl _ _))
  replace K := K.trans hk
  rw [HR4.out] at hv ⊢
  dsimp only at hv ⊢
  clear hk
  obtain ⟨A8, c8, B8, d8, rfl⟩ := hv.form
  have HV8 := Lib.hid hv
  clear hv
  generalize y4.boxes.length = n8 at HV8 ⊢
  generalize y4.subs.length = m8 at HV8 ⊢
  generalize y4.given = g8 at HV8 ⊢
  obtain ⟨cY0, cY1, cY2, fY0, fY1, fY2⟩ := OY.out.three
  have zY19 := OY.out.lt
  have zA19 := OA.out.lt
  have zB19 := OB.out.lt
  have zC19 := OC.out.lt
  have zD19 := OD.out.lt
  have zP19 := OP.out.lt
  have zQ19 := OQ.out.lt
  have zR19 := OR.out.lt
  have zK19 := K.size
  go_upto_region 12 with fail
  clear cY0 cY1 cY2 fY0 fY1 fY2
  replace OY := Lib.hid (OY.out.alloc (.cells #[.slice A8 n8 c8, .slice B8 m8 d8, .int .i64 g8] 29))
  replace OA := Lib.hid (OA.out.alloc (.cells #[.slice A8 n8 c8, .slice B8 m8 d8, .int .i64 g8] 29))
  replace OB := Lib.hid (OB.out.alloc (.cells #[.slice A8 n8 c8, .slice B8 m8 d8, .int .i64 g8] 29))
  replace OC := Lib.hid (OC.out.alloc (.cells #[.slice A8 n8 c8, .slice B8 m8 d8, .int .i64 g8] 29))
  replace OD := Lib.hid (OD.out.alloc (.cells #[.slice A8 n8 c8, .slice B8 m8 d8, .int .i64 g8] 29))
  replace OP := Lib.hid (OP.out.alloc (.cells #[.slice A8 n8 c8, .slice B8 m8 d8, .int .i64 g8] 29))
  replace OQ := Lib.hid (OQ.out.alloc (.cells #[.slice A8 n8 c8, .slice B8 m8 d8, .int .i64 g8] 29))
  replace OR := Lib.hid (OR.out.alloc (.cells #[.slice A8 n8 c8, .slice B8 m8 d8, .int .i64 g8] 29))
  have OS := Lib.hid (Own.new w19 29 [.slice A8 n8 c8, .slice B8 m8 d8, .int .i64 g8])
  replace HV0 := Lib.hid (HV0.out.go ((Kept.refl w19).alloc (.cells #[.slice A8 n8 c8, .slice B8 m8 d8, .int .i64 g8] 29)) (Ext.refl _ _))
  replace HV1 := Lib.hid (HV1.out.go ((Kept.refl w19).alloc (.cells #[.slice A8 n8 c8, .slice B8 m8 d8, .int .i64 g8] 29)) (Ext.refl _ _))
  replace HV2 := Lib.hid (HV2.out.go ((Kept.refl w19).alloc (.cells #[.slice A8 n8 c8, .slice B8 m8 d8, .int .i64 g8] 29)) (Ext.refl _ _))
  replace HV3 := Lib.hid (HV3.out.go ((Kept.refl w19).alloc (.cells #[.slice A8 n8 c8, .slice B8 m8 d8, .int .i64 g8] 29)) (Ext.refl _ _))
  replace HV4 := Lib.hid (HV4.out.go ((Kept.refl w19).alloc (.cells #[.slice A8 n8 c8, .slice B8 m8 d8, .int .i64 g8] 29)) (Ext.refl _ _))
  replace HV5 := Lib.hid (HV5.out.go ((Kept.refl w19).alloc (.cells #[.slice A8 n8 c8, .slice B8 m8 d8, .int .i64 g8] 29)) (Ext.refl _ _))
  replace HV6 := Lib.hid (HV6.out.go ((Kept.refl w19).alloc (.cells #[.slice A8 n8 c8, .slice B8 m8 d8, .int .i64 g8] 29)) (Ext.refl _ _))
  replace HV7 := Lib.hid (HV7.out.go ((Kept.refl w19).alloc (.cells #[.slice A8 n8 c8, .slice B8 m8 d8, .int .i64 g8] 29)) (Ext.refl _ _))
  replace HV8 := Lib.hid (HV8.out.go ((Kept.refl w19).alloc (.cells #[.slice A8 n8 c8, .slice B8 m8 d8, .int .i64 g8] 29)) (Ext.refl _ _))
  replace K := K.alloc (.cells #[.slice A8 n8 c8, .slice B8 m8 d8, .int .i64 g8] 29)
  generalize (w19.alloc (.cells #[.slice A8 n8 c8, .slice B8 m8 d8, .int .i64 g8] 29)) = w20 at *
  clear HV0
  have CA0 : ∀ W', Kept w20 W' → W'.cell? ⟨w5.heap.size, 0, none⟩ = some (.slice A1 n1 c1) := fun W' hk => (OA.out.kept hk).cell? 0
  have CA1 : ∀ W', Kept w20 W' → W'.cell? ⟨w5.heap.size, 1, none⟩ = some (.slice B1 m1 d1) := fun W' hk => (OA.out.kept hk).cell? 1
  have CA2 : ∀ W', Kept w20 W' → W'.cell? ⟨w5.heap.size, 2, none⟩ = some (.int .i64 g1) := fun W' hk => (OA.out.kept hk).cell? 2
  have CB0 : ∀ W', Kept w20 W' → W'.cell? ⟨w7.heap.size, 0, none⟩ = some (.slice A2 n2 c2) := fun W' hk => (OB.out.kept hk).cell? 0
  have CB1 : ∀ W', Kept w20 W' → W'.cell? ⟨w7.heap.size, 1, none⟩ = some (.slice B2 m2 d2) := fun W' hk => (OB.out.kept hk).cell? 1
  have CB2 : ∀ W', Kept w20 W' → W'.cell? ⟨w7.heap.size, 2, none⟩ = some (.int .i64 g2) := fun W' hk => (OB.out.kept hk).cell? 2
  have CP0 : ∀ W', Kept w20 W' → W'.cell? ⟨w13.heap.size, 0, none⟩ = some (.slice A5 n5 c5) := fun W' hk => (OP.out.kept hk).cell? 0
  have CP1 : ∀ W', Kept w20 W' → W'.cell? ⟨w13.heap.size, 1, none⟩ = some (.slice B5 m5 d5) := fun W' hk => (OP.out.kept hk).cell? 1
  have CP2 : ∀ W', Kept w20 W' → W'.cell? ⟨w13.heap.size, 2, none⟩ = some (.int .i64 g5) := fun W' hk => (OP.out.kept hk).cell? 2
  have CQ0 : ∀ W', Kept w20 W' → W'.cell? ⟨w15.heap.size, 0, none⟩ = some (.slice A6 n6 c6) := fun W' hk => (OQ.out.kept hk).cell? 0
  have CQ1 : ∀ W', Kept w20 W' → W'.cell? ⟨w15.heap.size, 1, none⟩ = some (.slice B6 m6 d6) := fun W' hk => (OQ.out.kept hk).cell? 1
  have CQ2 : ∀ W', Kept w20 W' → W'.cell? ⟨w15.heap.size, 2, none⟩ = some (.int .i64 g6) := fun W' hk => (OQ.out.kept hk).cell? 2
  refine wp_region_Z (S := fun W' => Kept w20 W') (Z := []) (by kernel_rfl) ((Kept.refl _).drew) (fun hHeld => ?_)
  have kr := (Kept.refl w20).drew
  have Kr := K
  have zr := K.size
  have OAr := OA
  have OBr := OB
  have OCr := OC
  have ODr := OD
  have OPr := OP
  have OQr := OQ
  have ORr := OR
  have OSr := OS
  have HV1r := HV1
  have HV2r := HV2
  have HV3r := HV3
  have HV4r := HV4
  have HV5r := HV5
  have HV6r := HV6
  have HV7r := HV7
  have HV8r := HV8
  replace OA := Lib.hid (OAr.out.kept kr)
  replace OB := Lib.hid (OBr.out.kept kr)
  replace OC := Lib.hid (OCr.out.kept kr)
  replace OD := Lib.hid (ODr.out.kept kr)
  replace OP := Lib.hid (OPr.out.kept kr)
  replace OQ := Lib.hid (OQr.out.kept kr)
  replace OR := Lib.hid (ORr.out.kept kr)
  replace OS := Lib.hid (OSr.out.kept kr)
  replace HV1 := Lib.hid (HV1r.out.go kr (Ext.refl _ _))
  replace HV2 := Lib.hid (HV2r.out.go kr (Ext.refl _ _))
  replace HV3 := Lib.hid (HV3r.out.go kr (Ext.refl _ _))
  replace HV4 := Lib.hid (HV4r.out.go kr (Ext.refl _ _))
  replace HV5 := Lib.hid (HV5r.out.go kr (Ext.refl _ _))
  replace HV6 := Lib.hid (HV6r.out.go kr (Ext.refl _ _))
  replace HV7 := Lib.hid (HV7r.out.go kr (Ext.refl _ _))
  replace HV8 := Lib.hid (HV8r.out.go kr (Ext.refl _ _))
  replace K := Kr.trans kr
  generalize w20.drew = w21 at *
  refine wpAnyZ_take (i := 0) (oi := { dst := some 94, op := Op.load 25 (Operand.tmp 10), type := 25, pos := "law.go:75", after := #[], guard := none }) (v := ?_) rfl (by kernel_rfl) (fun _ _ _ h => h) (Or.inl ⟨by rfl, ?_⟩) (by assumption) ?_
  rotate_left
  · (intro wz hSw; (try dsimp only at hSw); go_simp; (try with_reducible rfl))
  (try simp only [Act.put, List.setIfInBounds_toArray, List.set_cons_zero, List.set_cons_succ])
  refine wpAnyZ_take (i := 2) (oi := { dst := some 96, op := Op.load 29 (Operand.tmp 18), type := 29, pos := "law.go:75", after := #[], guard := none }) (v := ?_) rfl (by kernel_rfl) (fun _ _ _ h => h) (Or.inl ⟨by rfl, ?_⟩) (by assumption) ?_
  rotate_left
  · (intro wz hSw; (try dsimp only at hSw); go_simp; (try with_reducible rfl))
  (try simp only [Act.put, List.setIfInBounds_toArray, List.set_cons_zero, List.set_cons_succ])
  refine wpAnyZ_ready (rs := [1]) (by kernel_rfl) (by simp) ?_
  refine AllReadyZ.cons (o := { dst := some 95, op := Op.call { callee := Callee.value (Operand.func 9), args := #[Operand.tmp 94], argTypes := #[25] }, type := 29, pos := "law.go:75", after := #[{ on := 0, ground := Ground.data }], guard := none }) rfl (fun KK hKK => ?_) AllReadyZ.nil
  go_simp
  refine (ref_same y1 _ w21 HV1.out HRM1.out).mono ?_
  rintro e w22 ⟨z1, rfl, hn, hk⟩
  clear hHeld
  replace kr := kr.trans hk
  replace OA := Lib.hid (OAr.out.kept kr)
  replace OB := Lib.hid (OBr.out.kept kr)
  replace OC := Lib.hid (OCr.out.kept kr)
  replace OD := Lib.hid (ODr.out.kept kr)
  replace OP := Lib.hid (OPr.out.kept kr)
  replace OQ := Lib.hid (OQr.out.kept kr)
  replace OR := Lib.hid (ORr.out.kept kr)
  replace OS := Lib.hid (OSr.out.kept kr)
  replace HV1 := Lib.hid (HV1r.out.go kr (Ext.refl _ _))
  replace HV2 := Lib.hid (HV2r.out.go kr (Ext.refl _ _))
  replace HV3 := Lib.hid (HV3r.out.go kr (Ext.refl _ _))
  replace HV4 := Lib.hid (HV4r.out.go kr (Ext.refl _ _))
  replace HV5 := Lib.hid (HV5r.out.go kr (Ext.refl _ _))
  replace HV6 := Lib.hid (HV6r.out.go kr (Ext.refl _ _))
  replace HV7 := Lib.hid (HV7r.out.go kr (Ext.refl _ _))
  replace HV8 := Lib.hid (HV8r.out.go kr (Ext.refl _ _))
  replace K := Kr.trans kr
  have Hz1 := Lib.hid hn
  obtain ⟨z1A, z1c, z1B, z1d, rfl⟩ := hn.form
  clear hn
  generalize y1.boxes.length = z1n at Hz1 ⊢
  generalize y1.subs.length = z1m at Hz1 ⊢
  generalize y1.given = z1g at Hz1 ⊢
  clear hk
  go_wp2_with fail
  refine hKK.out _ _ ?_ (fun hHeld => ?_)
  · exact kr
  clear hKK KK
  (try simp only [Act.put, List.setIfInBounds_toArray, List.set_cons_zero, List.set_cons_succ])
  refine wpAnyZ_ready (rs := [3]) (by kernel_rfl) (by simp) ?_
  refine AllReadyZ.cons (o := { dst := some 97, op := Op.call { callee := Callee.value (Operand.func 14), args := #[Operand.tmp 95, Operand.tmp 96], argTypes := #[29, 29] }, type := 4, pos := "law.go:75", after := #[{ on := 1, ground := Ground.data }, { on := 2, ground := Ground.data }, { on := 1, ground := Ground.chain }], guard := none }) rfl (fun KK hKK => ?_) AllReadyZ.nil
  go_simp
  refine (equal_any y1 _ _ w22 Hz1.out HV5.out).mono ?_
  rintro e w23 ⟨rfl, hk⟩
  clear hHeld
  replace kr := kr.trans hk
  replace OA := Lib.hid (OAr.out.kept kr)
  replace OB := Lib.hid (OBr.out.kept kr)
  replace OC := Lib.hid (OCr.out.kept kr)
  replace OD := Lib.hid (ODr.out.kept kr)
  replace OP := Lib.hid (OPr.out.kept kr)
  replace OQ := Lib.hid (OQr.out.kept kr)
  replace OR := Lib.hid (ORr.out.kept kr)
  replace OS := Lib.hid (OSr.out.kept kr)
  replace HV1 := Lib.hid (HV1r.out.go kr (Ext.refl _ _))
  replace HV2 := Lib.hid (HV2r.out.go kr (Ext.refl _ _))
  replace HV3 := Lib.hid (HV3r.out.go kr (Ext.refl _ _))
  replace HV4 := Lib.hid (HV4r.out.go kr (Ext.refl _ _))
  replace HV5 := Lib.hid (HV5r.out.go kr (Ext.refl _ _))
  replace HV6 := Lib.hid (HV6r.out.go kr (Ext.refl _ _))
  replace HV7 := Lib.hid (HV7r.out.go kr (Ext.refl _ _))
  replace HV8 := Lib.hid (HV8r.out.go kr (Ext.refl _ _))
  replace K := Kr.trans kr
  clear Hz1
  clear hk
  go_wp2_with fail
  refine hKK.out _ _ ?_ (fun hHeld => ?_)
  · exact kr
  clear hKK KK
  (try simp only [Act.put, List.setIfInBounds_toArray, List.set_cons_zero, List.set_cons_succ])
  refine wpAnyZ_take (i := 4) (oi := { dst := some 98, op := Op.unOp UnOp.not 4 (Operand.tmp 97), type := 4, pos := "law.go:75", after := #[{ on := 3, ground := Ground.data }], guard := none }) (v := ?_) rfl (by kernel_rfl) (fun _ _ _ h => h) (Or.inl ⟨by rfl, ?_⟩) (by assumption) ?_
  rotate_left
  · (intro wz hSw; (try dsimp only at hSw); go_simp; (try with_reducible rfl))
  (try simp only [Act.put, List.setIfInBounds_toArray, List.set_cons_zero, List.set_cons_succ])
  refine wpAnyZ_take (i := 5) (oi := { dst := some 99, op := Op.move (Operand.tmp 98), type := 4, pos := "law.go:75", after := #[{ on := 4, ground := Ground.data }, { on := 3, ground := Ground.chain }], guard := none }) (v := ?_) rfl (by kernel_rfl) (fun _ _ _ h => h) (Or.inl ⟨by rfl, ?_⟩) (by assumption) ?_
  rotate_left
  · (intro wz hSw; (try dsimp only at hSw); go_simp; (try with_reducible rfl))
  (try simp only [Act.put, List.setIfInBounds_toArray, List.set_cons_zero, List.set_cons_succ])
  refine wpAnyZ_take (i := 6) (oi := { dst := some 100, op := Op.move (Operand.tmp 11), type := 32, pos := "law.go:75", after := #[{ on := 5, ground := Ground.guard }], guard := some (5, false) }) (v := ?_) rfl (by kernel_rfl) (fun _ _ _ h => h) (Or.inl ⟨by rfl, ?_⟩) (by assumption) ?_
  rotate_left
  · (intro wz hSw; (try dsimp only at hSw); go_simp; (try with_reducible rfl))
  (try simp only [Act.put, List.setIfInBounds_toArray, List.set_cons_zero, List.set_cons_succ])
  refine wpAnyZ_take (i := 7) (oi := { dst := some 101, op := Op.move (Operand.tmp 19), type := 3, pos := "law.go:75", after := #[{ on := 5, ground := Ground.guard }], guard := some (5, false) }) (v := ?_) rfl (by kernel_rfl) (fun _ _ _ h => h) (Or.inl ⟨by rfl, ?_⟩) (by assumption) ?_
  rotate_left
  · (intro wz hSw; (try dsimp only at hSw); go_simp; (try with_reducible rfl))
  (try simp only [Act.put, List.setIfInBounds_toArray, List.set_cons_zero, List.set_cons_succ])
  refine wpAnyZ_take (i := 8) (oi := { dst := some 102, op := Op.binOp BinOp.neq 3 (Operand.tmp 100) (Operand.tmp 101) 3, type := 4, pos := "law.go:75", after := #[{ on := 6, ground := Ground.data }, { on := 7, ground := Ground.data }, { on := 5, ground := Ground.guard }], guard := some (5, false) }) (v := ?_) rfl (by kernel_rfl) (fun _ _ _ h => h) (Or.inl ⟨by rfl, ?_⟩) (by assumption) ?_
  rotate_left
  · (intro wz hSw; (try dsimp only at hSw); go_simp; (try with_reducible rfl))
  (try simp only [Act.put, List.setIfInBounds_toArray, List.set_cons_zero, List.set_cons_succ])
  refine wpAnyZ_take (i := 9) (oi := { dst := some 103, op := Op.pick (Operand.tmp 99) (Operand.const (Value.bool true)) (Operand.tmp 102), type := 4, pos := "law.go:75", after := #[{ on := 5, ground := Ground.data }, { on := 8, ground := Ground.data }], guard := none }) (v := ?_) rfl (by kernel_rfl) (fun _ _ _ h => h) (Or.inl ⟨by rfl, ?_⟩) (by assumption) ?_
  rotate_left
  · (intro wz hSw; (try dsimp only at hSw); go_simp; (try with_reducible rfl))
  (try simp only [Act.put, List.setIfInBounds_toArray, List.set_cons_zero, List.set_cons_succ])
  refine wpAnyZ_take (i := 10) (oi := { dst := some 104, op := Op.move (Operand.tmp 103), type := 4, pos := "law.go:75", after := #[{ on := 9, ground := Ground.data }, { on := 5, ground := Ground.chain }], guard := none }) (v := ?_) rfl (by kernel_rfl) (fun _ _ _ h => h) (Or.inl ⟨by rfl, ?_⟩) (by assumption) ?_
  rotate_left
  · (intro wz hSw; (try dsimp only at hSw); go_simp; (try with_reducible rfl))
  (try simp only [Act.put, List.setIfInBounds_toArray, List.set_cons_zero, List.set_cons_succ])
  refine wpAnyZ_take (i := 11) (oi := { dst := some 105, op := Op.load 25 (Operand.tmp 12), type := 25, pos := "law.go:75", after := #[{ on := 10, ground := Ground.guard }], guard := some (10, false) }) (v := ?_) rfl (by kernel_rfl) (fun _ _ _ h => h) (Or.inl ⟨by rfl, ?_⟩) (by assumption) ?_
  rotate_left
  · (intro wz hSw; (try dsimp only at hSw); go_simp; (try with_reducible rfl))
  (try simp only [Act.put, List.setIfInBounds_toArray, List.set_cons_zero, List.set_cons_succ])
  refine wpAnyZ_take (i := 13) (oi := { dst := some 107, op := Op.load 29 (Operand.tmp 20), type := 29, pos := "law.go:75", after := #[{ on := 10, ground := Ground.guard }], guard := some (10, false) }) (v := ?_) rfl (by kernel_rfl) (fun _ _ _ h => h) (Or.inl ⟨by rfl, ?_⟩) (by assumption) ?_
  rotate_left
  · (intro wz hSw; (try dsimp only at hSw); go_simp; (try with_reducible rfl))
  (try simp only [Act.put, List.setIfInBounds_toArray, List.set_cons_zero, List.set_cons_succ])
  refine wpAnyZ_ready (rs := [12]) (by kernel_rfl) (by simp) ?_
  refine AllReadyZ.cons (o := { dst := some 106, op := Op.call { callee := Callee.value (Operand.func 9), args := #[Operand.tmp 105], argTypes := #[25] }, type := 29, pos := "law.go:75", after := #[{ on := 11, ground := Ground.data }, { on := 10, ground := Ground.chain }, { on := 10, ground := Ground.guard }], guard := some (10, false) }) rfl (fun KK hKK => ?_) AllReadyZ.nil
  go_simp
  refine (ref_same y2 _ w23 HV2.out HRM2.out).mono ?_
  rintro e w24 ⟨z2, rfl, hn, hk⟩
  clear hHeld
  replace kr := kr.trans hk
  replace OA := Lib.hid (OAr.out.kept kr)
  replace OB := Lib.hid (OBr.out.kept kr)
  replace OC := Lib.hid (OCr.out.kept kr)
  replace OD := Lib.hid (ODr.out.kept kr)
  replace OP := Lib.hid (OPr.out.kept kr)
  replace OQ := Lib.hid (OQr.out.kept kr)
  replace OR := Lib.hid (ORr.out.kept kr)
  replace OS := Lib.hid (OSr.out.kept kr)
  replace HV1 := Lib.hid (HV1r.out.go kr (Ext.refl _ _))
  replace HV2 := Lib.hid (HV2r.out.go kr (Ext.refl _ _))
  replace HV3 := Lib.hid (HV3r.out.go kr (Ext.refl _ _))
  replace HV4 := Lib.hid (HV4r.out.go kr (Ext.refl _ _))
  replace HV5 := Lib.hid (HV5r.out.go kr (Ext.refl _ _))
  replace HV6 := Lib.hid (HV6r.out.go kr (Ext.refl _ _))
  replace HV7 := Lib.hid (HV7r.out.go kr (Ext.refl _ _))
  replace HV8 := Lib.hid (HV8r.out.go kr (Ext.refl _ _))
  replace K := Kr.trans kr
  have Hz2 := Lib.hid hn
  obtain ⟨z2A, z2c, z2B, z2d, rfl⟩ := hn.form
  clear hn
  generalize y2.boxes.length = z2n at Hz2 ⊢
  generalize y2.subs.length = z2m at Hz2 ⊢
  generalize y2.given = z2g at Hz2 ⊢
  clear hk
  go_wp2_with fail
  refine hKK.out _ _ ?_ (fun hHeld => ?_)
  · exact kr
  clear hKK KK
  (try simp only [Act.put, List.setIfInBounds_toArray, List.set_cons_zero, List.set_cons_succ])
  refine wpAnyZ_ready (rs := [14]) (by kernel_rfl) (by simp) ?_
  refine AllReadyZ.cons (o := { dst := some 108, op := Op.call { callee := Callee.value (Operand.func 14), args := #[Operand.tmp 106, Operand.tmp 107], argTypes := #[29, 29] }, type := 4, pos := "law.go:75", after := #[{ on := 12, ground := Ground.data }, { on := 13, ground := Ground.data }, { on := 12, ground := Ground.chain }, { on := 10, ground := Ground.guard }], guard := some (10, false) }) rfl (fun KK hKK => ?_) AllReadyZ.nil
  go_simp
  refine (equal_any y2 _ _ w24 Hz2.out HV6.out).mono ?_
  rintro e w25 ⟨rfl, hk⟩
  clear hHeld
  replace kr := kr.trans hk
  replace OA := Lib.hid (OAr.out.kept kr)
  replace OB := Lib.hid (OBr.out.kept kr)
  replace OC := Lib.hid (OCr.out.kept kr)
  replace OD := Lib.hid (ODr.out.kept kr)
  replace OP := Lib.hid (OPr.out.kept kr)
  replace OQ := Lib.hid (OQr.out.kept kr)
  replace OR := Lib.hid (ORr.out.kept kr)
  replace OS := Lib.hid (OSr.out.kept kr)
  replace HV1 := Lib.hid (HV1r.out.go kr (Ext.refl _ _))
  replace HV2 := Lib.hid (HV2r.out.go kr (Ext.refl _ _))
  replace HV3 := Lib.hid (HV3r.out.go kr (Ext.refl _ _))
  replace HV4 := Lib.hid (HV4r.out.go kr (Ext.refl _ _))
  replace HV5 := Lib.hid (HV5r.out.go kr (Ext.refl _ _))
  replace HV6 := Lib.hid (HV6r.out.go kr (Ext.refl _ _))
  replace HV7 := Lib.hid (HV7r.out.go kr (Ext.refl _ _))
  replace HV8 := Lib.hid (HV8r.out.go kr (Ext.refl _ _))
  replace K := Kr.trans kr
  clear Hz2
  clear hk
  go_wp2_with fail
  refine hKK.out _ _ ?_ (fun hHeld => ?_)
  · exact kr
  clear hKK KK
  (try simp only [Act.put, List.setIfInBounds_toArray, List.set_cons_zero, List.set_cons_succ])
  refine wpAnyZ_take (i := 15) (oi := { dst := some 109, op := Op.unOp UnOp.not 4 (Operand.tmp 108), type := 4, pos := "law.go:75", after := #[{ on := 14, ground := Ground.data }, { on := 10, ground := Ground.guard }], guard := some (10, false) }) (v := ?_) rfl (by kernel_rfl) (fun _ _ _ h => h) (Or.inl ⟨by rfl, ?_⟩) (by assumption) ?_
  rotate_left
  · (intro wz hSw; (try dsimp only at hSw); go_simp; (try with_reducible rfl))
  (try simp only [Act.put, List.setIfInBounds_toArray, List.set_cons_zero, List.set_cons_succ])
  refine wpAnyZ_take (i := 16) (oi := { dst := some 110, op := Op.pick (Operand.tmp 104) (Operand.const (Value.bool true)) (Operand.tmp 109), type := 4, pos := "law.go:75", after := #[{ on := 10, ground := Ground.data }, { on := 15, ground := Ground.data }], guard := none }) (v := ?_) rfl (by kernel_rfl) (fun _ _ _ h => h) (Or.inl ⟨by rfl, ?_⟩) (by assumption) ?_
  rotate_left
  · (intro wz hSw; (try dsimp only at hSw); go_simp; (try with_reducible rfl))
  (try simp only [Act.put, List.setIfInBounds_toArray, List.set_cons_zero, List.set_cons_succ])
  refine wpAnyZ_take (i := 17) (oi := { dst := some 111, op := Op.move (Operand.tmp 110), type := 4, pos := "law.go:75", after := #[{ on := 16, ground := Ground.data }, { on := 14, ground := Ground.chain }], guard := none }) (v := ?_) rfl (by kernel_rfl) (fun _ _ _ h => h) (Or.inl ⟨by rfl, ?_⟩) (by assumption) ?_
  rotate_left
  · (intro wz hSw; (try dsimp only at hSw); go_simp; (try with_reducible rfl))
  (try simp only [Act.put, List.setIfInBounds_toArray, List.set_cons_zero, List.set_cons_succ])
  refine wpAnyZ_take (i := 18) (oi := { dst := some 112, op := Op.move (Operand.tmp 13), type := 32, pos := "law.go:75", after := #[{ on := 17, ground := Ground.guard }], guard := some (17, false) }) (v := ?_) rfl (by kernel_rfl) (fun _ _ _ h => h) (Or.inl ⟨by rfl, ?_⟩) (by assumption) ?_
  rotate_left
  · (intro wz hSw; (try dsimp only at hSw); go_simp; (try with_reducible rfl))
  (try simp only [Act.put, List.setIfInBounds_toArray, List.set_cons_zero, List.set_cons_succ])
  refine wpAnyZ_take (i := 19) (oi := { dst := some 113, op := Op.move (Operand.tmp 21), type := 3, pos := "law.go:75", after := #[{ on := 17, ground := Ground.guard }], guard := some (17, false) }) (v := ?_) rfl (by kernel_rfl) (fun _ _ _ h => h) (Or.inl ⟨by rfl, ?_⟩) (by assumption) ?_
  rotate_left
  · (intro wz hSw; (try dsimp only at hSw); go_simp; (try with_reducible rfl))
  (try simp only [Act.put, List.setIfInBounds_toArray, List.set_cons_zero, List.set_cons_succ])
  refine wpAnyZ_take (i := 20) (oi := { dst := some 114, op := Op.binOp BinOp.neq 3 (Operand.tmp 112) (Operand.tmp 113) 3, type := 4, pos := "law.go:75", after := #[{ on := 18, ground := Ground.data }, { on := 19, ground := Ground.data }, { on := 17, ground := Ground.guard }], guard := some (17, false) }) (v := ?_) rfl (by kernel_rfl) (fun _ _ _ h => h) (Or.inl ⟨by rfl, ?_⟩) (by assumption) ?_
  rotate_left
  · (intro wz hSw; (try dsimp only at hSw); go_simp; (try with_reducible rfl))
  (try simp only [Act.put, List.setIfInBounds_toArray, List.set_cons_zero, List.set_cons_succ])
  refine wpAnyZ_take (i := 21) (oi := { dst := some 115, op := Op.pick (Operand.tmp 111) (Operand.const (Value.bool true)) (Operand.tmp 114), type := 4, pos := "law.go:75", after := #[{ on := 17, ground := Ground.data }, { on := 20, ground := Ground.data }], guard := none }) (v := ?_) rfl (by kernel_rfl) (fun _ _ _ h => h) (Or.inl ⟨by rfl, ?_⟩) (by assumption) ?_
  rotate_left
  · (intro wz hSw; (try dsimp only at hSw); go_simp; (try with_reducible rfl))
  (try simp only [Act.put, List.setIfInBounds_toArray, List.set_cons_zero, List.set_cons_succ])
  refine wpAnyZ_done (by kernel_rfl) ?_ _
  clear CA0 CA1 CA2 CB0 CB1 CB2 CP0 CP1 CP2 CQ0 CQ1 CQ2 OAr OBr OCr ODr OPr OQr ORr OSr HV1r HV2r HV3r HV4r HV5r HV6r HV7r HV8r Kr zr hHeld kr
  clear HV1
  clear HV2
  clear HV5
  clear HV6
  go_wp2_with fail
  have CC0 : ∀ W', Kept w25 W' → W'.cell? ⟨w9.heap.size, 0, none⟩ = some (.slice A3 n3 c3) := fun W' hk => (OC.out.kept hk).cell? 0
  have CC1 : ∀ W', Kept w25 W' → W'.cell? ⟨w9.heap.size, 1, none⟩ = some (.slice B3 m3 d3) := fun W' hk => (OC.out.kept hk).cell? 1
  have CC2 : ∀ W', Kept w25 W' → W'.cell? ⟨w9.heap.size, 2, none⟩ = some (.int .i64 g3) := fun W' hk => (OC.out.kept hk).cell? 2
  have CD0 : ∀ W', Kept w25 W' → W'.cell? ⟨w11.heap.size, 0, none⟩ = some (.slice A4 n4 c4) := fun W' hk => (OD.out.kept hk).cell? 0
  have CD1 : ∀ W', Kept w25 W' → W'.cell? ⟨w11.heap.size, 1, none⟩ = some (.slice B4 m4 d4) := fun W' hk => (OD.out.kept hk).cell? 1
  have CD2 : ∀ W', Kept w25 W' → W'.cell? ⟨w11.heap.size, 2, none⟩ = some (.int .i64 g4) := fun W' hk => (OD.out.kept hk).cell? 2
  have CR0 : ∀ W', Kept w25 W' → W'.cell? ⟨w17.heap.size, 0, none⟩ = some (.slice A7 n7 c7) := fun W' hk => (OR.out.kept hk).cell? 0
  have CR1 : ∀ W', Kept w25 W' → W'.cell? ⟨w17.heap.size, 1, none⟩ = some (.slice B7 m7 d7) := fun W' hk => (OR.out.kept hk).cell? 1
  have CR2 : ∀ W', Kept w25 W' → W'.cell? ⟨w17.heap.size, 2, none⟩ = some (.int .i64 g7) := fun W' hk => (OR.out.kept hk).cell? 2
  have CS0 : ∀ W', Kept w25 W' → W'.cell? ⟨w19.heap.size, 0, none⟩ = some (.slice A8 n8 c8) := fun W' hk => (OS.out.kept hk).cell? 0
  have CS1 : ∀ W', Kept w25 W' → W'.cell? ⟨w19.heap.size, 1, none⟩ = some (.slice B8 m8 d8) := fun W' hk => (OS.out.kept hk).cell? 1
  have CS2 : ∀ W', Kept w25 W' → W'.cell? ⟨w19.heap.size, 2, none⟩ = some (.int .i64 g8) := fun W' hk => (OS.out.kept hk).cell? 2
  refine wp_region_Z (S := fun W' => Kept w25 W') (Z := []) (by kernel_rfl) ((Kept.refl _).drew) (fun hHeld => ?_)
  have kr := (Kept.refl w25).drew
  have Kr := K
  have zr := K.size
  have OCr := OC
  have ODr := OD
  have ORr := OR
  have OSr := OS
  have HV3r := HV3
  have HV4r := HV4
  have HV7r := HV7
  have HV8r := HV8
  replace OC := Lib.hid (OCr.out.kept kr)
  replace OD := Lib.hid (ODr.out.kept kr)
  replace OR := Lib.hid (ORr.out.kept kr)
  replace OS := Lib.hid (OSr.out.kept kr)
  replace HV3 := Lib.hid (HV3r.out.go kr (Ext.refl _ _))
  replace HV4 := Lib.hid (HV4r.out.go kr (Ext.refl _ _))
  replace HV7 := Lib.hid (HV7r.out.go kr (Ext.refl _ _))
  replace HV8 := Lib.hid (HV8r.out.go kr (Ext.refl _ _))
  replace K := Kr.trans kr
  generalize w25.drew = w26 at *
  refine wpAnyZ_take (i := 0) (oi := { dst := some 116, op := Op.load 25 (Operand.tmp 14), type := 25, pos := "law.go:78", after := #[], guard := none }) (v := ?_) rfl (by kernel_rfl) (fun _ _ _ h => h) (Or.inl ⟨by rfl, ?_⟩) (by assumption) ?_
  rotate_left
  · (intro wz hSw; (try dsimp only at hSw); go_simp; (try with_reducible rfl))
  (try simp only [Act.put, List.setIfInBounds_toArray, List.set_cons_zero, List.set_cons_succ])
  refine wpAnyZ_take (i := 2) (oi := { dst := some 118, op := Op.load 29 (Operand.tmp 22), type := 29, pos := "law.go:78", after := #[], guard := none }) (v := ?_) rfl (by kernel_rfl) (fun _ _ _ h => h) (Or.inl ⟨by rfl, ?_⟩) (by assumption) ?_
  rotate_left
  · (intro wz hSw; (try dsimp only at hSw); go_simp; (try with_reducible rfl))
  (try simp only [Act.put, List.setIfInBounds_toArray, List.set_cons_zero, List.set_cons_succ])
  refine wpAnyZ_ready (rs := [1]) (by kernel_rfl) (by simp) ?_
  refine AllReadyZ.cons (o := { dst := some 117, op := Op.call { callee := Callee.value (Operand.func 9), args := #[Operand.tmp 116], argTypes := #[25] }, type := 29, pos := "law.go:78", after := #[{ on := 0, ground := Ground.data }], guard := none }) rfl (fun KK hKK => ?_) AllReadyZ.nil
  go_simp
  refine (ref_same y3 _ w26 HV3.out HRM3.out).mono ?_
  rintro e w27 ⟨z3, rfl, hn, hk⟩
  clear hHeld
  replace kr := kr.trans hk
  replace OC := Lib.hid (OCr.out.kept kr)
  replace OD := Lib.hid (ODr.out.kept kr)
  replace OR := Lib.hid (ORr.out.kept kr)
  replace OS := Lib.hid (OSr.out.kept kr)
  replace HV3 := Lib.hid (HV3r.out.go kr (Ext.refl _ _))
  replace HV4 := Lib.hid (HV4r.out.go kr (Ext.refl _ _))
  replace HV7 := Lib.hid (HV7r.out.go kr (Ext.refl _ _))
  replace HV8 := Lib.hid (HV8r.out.go kr (Ext.refl _ _))
  replace K := Kr.trans kr
  have Hz3 := Lib.hid hn
  obtain ⟨z3A, z3c, z3B, z3d, rfl⟩ := hn.form
  clear hn
  generalize y3.boxes.length = z3n at Hz3 ⊢
  generalize y3.subs.length = z3m at Hz3 ⊢
  generalize y3.given = z3g at Hz3 ⊢
  clear hk
  go_wp2_with fail
  refine hKK.out _ _ ?_ (fun hHeld => ?_)
  · exact kr
  clear hKK KK
  (try simp only [Act.put, List.setIfInBounds_toArray, List.set_cons_zero, List.set_cons_succ])
  refine wpAnyZ_ready (rs := [3]) (by kernel_rfl) (by simp) ?_
  refine AllReadyZ.cons (o := { dst := some 119, op := Op.call { callee := Callee.value (Operand.func 14), args := #[Operand.tmp 117, Operand.tmp 118], argTypes := #[29, 29] }, type := 4, pos := "law.go:78", after := #[{ on := 1, ground := Ground.data }, { on := 2, ground := Ground.data }, { on := 1, ground := Ground.chain }], guard := none }) rfl (fun KK hKK => ?_) AllReadyZ.nil
  go_simp
  refine (equal_any y3 _ _ w27 Hz3.out HV7.out).mono ?_
  rintro e w28 ⟨rfl, hk⟩
  clear hHeld
  replace kr := kr.trans hk
  replace OC := Lib.hid (OCr.out.kept kr)
  replace OD := Lib.hid (ODr.out.kept kr)
  replace OR := Lib.hid (ORr.out.kept kr)
  replace OS := Lib.hid (OSr.out.kept kr)
  replace HV3 := Lib.hid (HV3r.out.go kr (Ext.refl _ _))
  replace HV4 := Lib.hid (HV4r.out.go kr (Ext.refl _ _))
  replace HV7 := Lib.hid (HV7r.out.go kr (Ext.refl _ _))
  replace HV8 := Lib.hid (HV8r.out.go kr (Ext.refl _ _))
  replace K := Kr.trans kr
  clear Hz3
  clear hk
  go_wp2_with fail
  refine hKK.out _ _ ?_ (fun hHeld => ?_)
  · exact kr
  clear hKK KK
  (try simp only [Act.put, List.setIfInBounds_toArray, List.set_cons_zero, List.set_cons_succ])
  refine wpAnyZ_take (i := 4) (oi := { dst := some 120, op := Op.move (Operand.tmp 119), type := 4, pos := "law.go:78", after := #[{ on := 3, ground := Ground.data }, { on := 3, ground := Ground.chain }], guard := none }) (v := ?_) rfl (by kernel_rfl) (fun _ _ _ h => h) (Or.inl ⟨by rfl, ?_⟩) (by assumption) ?_
  rotate_left
  · (intro wz hSw; (try dsimp only at hSw); go_simp; (try with_reducible rfl))
  (try simp only [Act.put, List.setIfInBounds_toArray, List.set_cons_zero, List.set_cons_succ])
  refine wpAnyZ_take (i := 5) (oi := { dst := some 121, op := Op.move (Operand.tmp 15), type := 32, pos := "law.go:78", after := #[{ on := 4, ground := Ground.guard }], guard := some (4, true) }) (v := ?_) rfl (by kernel_rfl) (fun _ _ _ h => h) (Or.inl ⟨by rfl, ?_⟩) (by assumption) ?_
  rotate_left
  · (intro wz hSw; (try dsimp only at hSw); go_simp; (try with_reducible rfl))
  (try simp only [Act.put, List.setIfInBounds_toArray, List.set_cons_zero, List.set_cons_succ])
  refine wpAnyZ_take (i := 6) (oi := { dst := some 122, op := Op.move (Operand.tmp 23), type := 3, pos := "law.go:78", after := #[{ on := 4, ground := Ground.guard }], guard := some (4, true) }) (v := ?_) rfl (by kernel_rfl) (fun _ _ _ h => h) (Or.inl ⟨by rfl, ?_⟩) (by assumption) ?_
  rotate_left
  · (intro wz hSw; (try dsimp only at hSw); go_simp; (try with_reducible rfl))
  (try simp only [Act.put, List.setIfInBounds_toArray, List.set_cons_zero, List.set_cons_succ])
  refine wpAnyZ_take (i := 7) (oi := { dst := some 123, op := Op.binOp BinOp.eql 3 (Operand.tmp 121) (Operand.tmp 122) 3, type := 4, pos := "law.go:78", after := #[{ on := 5, ground := Ground.data }, { on := 6, ground := Ground.data }, { on := 4, ground := Ground.guard }], guard := some (4, true) }) (v := ?_) rfl (by kernel_rfl) (fun _ _ _ h => h) (Or.inl ⟨by rfl, ?_⟩) (by assumption) ?_
  rotate_left
  · (intro wz hSw; (try dsimp only at hSw); go_simp; (try with_reducible rfl))
  (try simp only [Act.put, List.setIfInBounds_toArray, List.set_cons_zero, List.set_cons_succ])
  refine wpAnyZ_take (i := 8) (oi := { dst := some 124, op := Op.pick (Operand.tmp 120) (Operand.tmp 123) (Operand.const (Value.bool false)), type := 4, pos := "law.go:78", after := #[{ on := 4, ground := Ground.data }, { on := 7, ground := Ground.data }], guard := none }) (v := ?_) rfl (by kernel_rfl) (fun _ _ _ h => h) (Or.inl ⟨by rfl, ?_⟩) (by assumption) ?_
  rotate_left
  · (intro wz hSw; (try dsimp only at hSw); go_simp; (try with_reducible rfl))
  (try simp only [Act.put, List.setIfInBounds_toArray, List.set_cons_zero, List.set_cons_succ])
  refine wpAnyZ_take (i := 9) (oi := { dst := some 125, op := Op.move (Operand.tmp 124), type := 4, pos := "law.go:78", after := #[{ on := 8, ground := Ground.data }, { on := 4, ground := Ground.chain }], guard := none }) (v := ?_) rfl (by kernel_rfl) (fun _ _ _ h => h) (Or.inl ⟨by rfl, ?_⟩) (by assumption) ?_
  rotate_left
  · (intro wz hSw; (try dsimp only at hSw); go_simp; (try with_reducible rfl))
  (try simp only [Act.put, List.setIfInBounds_toArray, List.set_cons_zero, List.set_cons_succ])
  refine wpAnyZ_take (i := 10) (oi := { dst := some 126, op := Op.load 25 (Operand.tmp 16), type := 25, pos := "law.go:78", after := #[{ on := 9, ground := Ground.guard }], guard := some (9, true) }) (v := ?_) rfl (by kernel_rfl) (fun _ _ _ h => h) (Or.inl ⟨by rfl, ?_⟩) (by assumption) ?_
  rotate_left
  · (intro wz hSw; (try dsimp only at hSw); go_simp; (try with_reducible rfl))
  (try simp only [Act.put, List.setIfInBounds_toArray, List.set_cons_zero, List.set_cons_succ])
  refine wpAnyZ_take (i := 12) (oi := { dst := some 128, op := Op.load 29 (Operand.tmp 24), type := 29, pos := "law.go:78", after := #[{ on := 9, ground := Ground.guard }], guard := some (9, true) }) (v := ?_) rfl (by kernel_rfl) (fun _ _ _ h => h) (Or.inl ⟨by rfl, ?_⟩) (by assumption) ?_
  rotate_left
  · (intro wz hSw; (try dsimp only at hSw); go_simp; (try with_reducible rfl))
  (try simp only [Act.put, List.setIfInBounds_toArray, List.set_cons_zero, List.set_cons_succ])
  refine wpAnyZ_ready (rs := [11]) (by kernel_rfl) (by simp) ?_
  refine AllReadyZ.cons (o := { dst := some 127, op := Op.call { callee := Callee.value (Operand.func 9), args := #[Operand.tmp 126], argTypes := #[25] }, type := 29, pos := "law.go:78", after := #[{ on := 10, ground := Ground.data }, { on := 9, ground := Ground.chain }, { on := 9, ground := Ground.guard }], guard := some (9, true) }) rfl (fun KK hKK => ?_) AllReadyZ.nil
  go_simp
  refine (ref_same y4 _ w28 HV4.out HRM4.out).mono ?_
  rintro e w29 ⟨z4, rfl, hn, hk⟩
  clear hHeld
  replace kr := kr.trans hk
  replace OC := Lib.hid (OCr.out.kept kr)
  replace OD := Lib.hid (ODr.out.kept kr)
  replace OR := Lib.hid (ORr.out.kept kr)
  replace OS := Lib.hid (OSr.out.kept kr)
  replace HV3 := Lib.hid (HV3r.out.go kr (Ext.refl _ _))
  replace HV4 := Lib.hid (HV4r.out.go kr (Ext.refl _ _))
  replace HV7 := Lib.hid (HV7r.out.go kr (Ext.refl _ _))
  replace HV8 := Lib.hid (HV8r.out.go kr (Ext.refl _ _))
  replace K := Kr.trans kr
  have Hz4 := Lib.hid hn
  obtain ⟨z4A, z4c, z4B, z4d, rfl⟩ := hn.form
  clear hn
  generalize y4.boxes.length = z4n at Hz4 ⊢
  generalize y4.subs.length = z4m at Hz4 ⊢
  generalize y4.given = z4g at Hz4 ⊢
  clear hk
  go_wp2_with fail
  refine hKK.out _ _ ?_ (fun hHeld => ?_)
  · exact kr
  clear hKK KK
  (try simp only [Act.put, List.setIfInBounds_toArray, List.set_cons_zero, List.set_cons_succ])
  refine wpAnyZ_ready (rs := [13]) (by kernel_rfl) (by simp) ?_
  refine AllReadyZ.cons (o := { dst := some 129, op := Op.call { callee := Callee.value (Operand.func 14), args := #[Operand.tmp 127, Operand.tmp 128], argTypes := #[29, 29] }, type := 4, pos := "law.go:78", after := #[{ on := 11, ground := Ground.data }, { on := 12, ground := Ground.data }, { on := 11, ground := Ground.chain }, { on := 9, ground := Ground.guard }], guard := some (9, true) }) rfl (fun KK hKK => ?_) AllReadyZ.nil
  go_simp
  refine (equal_any y4 _ _ w29 Hz4.out HV8.out).mono ?_
  rintro e w30 ⟨rfl, hk⟩
  clear hHeld
  replace kr := kr.trans hk
  replace OC := Lib.hid (OCr.out.kept kr)
  replace OD := Lib.hid (ODr.out.kept kr)
  replace OR := Lib.hid (ORr.out.kept kr)
  replace OS := Lib.hid (OSr.out.kept kr)
  replace HV3 := Lib.hid (HV3r.out.go kr (Ext.refl _ _))
  replace HV4 := Lib.hid (HV4r.out.go kr (Ext.refl _ _))
  replace HV7 := Lib.hid (HV7r.out.go kr (Ext.refl _ _))
  replace HV8 := Lib.hid (HV8r.out.go kr (Ext.refl _ _))
  replace K := Kr.trans kr
  clear Hz4
  clear hk
  go_wp2_with fail
  refine hKK.out _ _ ?_ (fun hHeld => ?_)
  · exact kr
  clear hKK KK
  (try simp only [Act.put, List.setIfInBounds_toArray, List.set_cons_zero, List.set_cons_succ])
  refine wpAnyZ_take (i := 14) (oi := { dst := some 130, op := Op.pick (Operand.tmp 125) (Operand.tmp 129) (Operand.const (Value.bool false)), type := 4, pos := "law.go:78", after := #[{ on := 9, ground := Ground.data }, { on := 13, ground := Ground.data }], guard := none }) (v := ?_) rfl (by kernel_rfl) (fun _ _ _ h => h) (Or.inl ⟨by rfl, ?_⟩) (by assumption) ?_
  rotate_left
  · (intro wz hSw; (try dsimp only at hSw); go_simp; (try with_reducible rfl))
  (try simp only [Act.put, List.setIfInBounds_toArray, List.set_cons_zero, List.set_cons_succ])
  refine wpAnyZ_take (i := 15) (oi := { dst := some 131, op := Op.move (Operand.tmp 130), type := 4, pos := "law.go:78", after := #[{ on := 14, ground := Ground.data }, { on := 13, ground := Ground.chain }], guard := none }) (v := ?_) rfl (by kernel_rfl) (fun _ _ _ h => h) (Or.inl ⟨by rfl, ?_⟩) (by assumption) ?_
  rotate_left
  · (intro wz hSw; (try dsimp only at hSw); go_simp; (try with_reducible rfl))
  (try simp only [Act.put, List.setIfInBounds_toArray, List.set_cons_zero, List.set_cons_succ])
  refine wpAnyZ_take (i := 16) (oi := { dst := some 132, op := Op.move (Operand.tmp 17), type := 32, pos := "law.go:78", after := #[{ on := 15, ground := Ground.guard }], guard := some (15, true) }) (v := ?_) rfl (by kernel_rfl) (fun _ _ _ h => h) (Or.inl ⟨by rfl, ?_⟩) (by assumption) ?_
  rotate_left
  · (intro wz hSw; (try dsimp only at hSw); go_simp; (try with_reducible rfl))
  (try simp only [Act.put, List.setIfInBounds_toArray, List.set_cons_zero, List.set_cons_succ])
  refine wpAnyZ_take (i := 17) (oi := { dst := some 133, op := Op.move (Operand.tmp 25), type := 3, pos := "law.go:78", after := #[{ on := 15, ground := Ground.guard }], guard := some (15, true) }) (v := ?_) rfl (by kernel_rfl) (fun _ _ _ h => h) (Or.inl ⟨by rfl, ?_⟩) (by assumption) ?_
  rotate_left
  · (intro wz hSw; (try dsimp only at hSw); go_simp; (try with_reducible rfl))
  (try simp only [Act.put, List.setIfInBounds_toArray, List.set_cons_zero, List.set_cons_succ])
  refine wpAnyZ_take (i := 18) (oi := { dst := some 134, op := Op.binOp BinOp.eql 3 (Operand.tmp 132) (Operand.tmp 133) 3, type := 4, pos := "law.go:78", after := #[{ on := 16, ground := Ground.data }, { on := 17, ground := Ground.data }, { on := 15, ground := Ground.guard }], guard := some (15, true) }) (v := ?_) rfl (by kernel_rfl) (fun _ _ _ h => h) (Or.inl ⟨by rfl, ?_⟩) (by assumption) ?_
  rotate_left
  · (intro wz hSw; (try dsimp only at hSw); go_simp; (try with_reducible rfl))
  (try simp only [Act.put, List.setIfInBounds_toArray, List.set_cons_zero, List.set_cons_succ])
  refine wpAnyZ_take (i := 19) (oi := { dst := some 135, op := Op.pick (Operand.tmp 131) (Operand.tmp 134) (Operand.const (Value.bool false)), type := 4, pos := "law.go:78", after := #[{ on := 15, ground := Ground.data }, { on := 18, ground := Ground.data }], guard := none }) (v := ?_) rfl (by kernel_rfl) (fun _ _ _ h => h) (Or.inl ⟨by rfl, ?_⟩) (by assumption) ?_
  rotate_left
  · (intro wz hSw; (try dsimp only at hSw); go_simp; (try with_reducible rfl))
  (try simp only [Act.put, List.setIfInBounds_toArray, List.set_cons_zero, List.set_cons_succ])
  refine wpAnyZ_take (i := 20) (oi := { dst := some 136, op := Op.move (Operand.tmp 135), type := 4, pos := "law.go:78", after := #[{ on := 19, ground := Ground.data }, { on := 15, ground := Ground.chain }], guard := none }) (v := ?_) rfl (by kernel_rfl) (fun _ _ _ h => h) (Or.inl ⟨by rfl, ?_⟩) (by assumption) ?_
  rotate_left
  · (intro wz hSw; (try dsimp only at hSw); go_simp; (try with_reducible rfl))
  (try simp only [Act.put, List.setIfInBounds_toArray, List.set_cons_zero, List.set_cons_succ])
  refine wpAnyZ_ready (rs := [21]) (by kernel_rfl) (by simp) ?_
  refine AllReadyZ.cons (o := { dst := some 137, op := Op.call { callee := Callee.value (Operand.func 10), args := #[], argTypes := #[] }, type := 4, pos := "law.go:78", after := #[{ on := 20, ground := Ground.chain }, { on := 20, ground := Ground.guard }], guard := some (20, true) }) rfl (fun KK hKK => ?_) AllReadyZ.nil
  go_simp
  refine (awake_any w30).mono ?_
  rintro e w31 ⟨rfl, hk⟩
  clear hHeld
  replace kr := kr.trans hk
  replace OC := Lib.hid (OCr.out.kept kr)
  replace OD := Lib.hid (ODr.out.kept kr)
  replace OR := Lib.hid (ORr.out.kept kr)
  replace OS := Lib.hid (OSr.out.kept kr)
  replace HV3 := Lib.hid (HV3r.out.go kr (Ext.refl _ _))
  replace HV4 := Lib.hid (HV4r.out.go kr (Ext.refl _ _))
  replace HV7 := Lib.hid (HV7r.out.go kr (Ext.refl _ _))
  replace HV8 := Lib.hid (HV8r.out.go kr (Ext.refl _ _))
  replace K := Kr.trans kr
  clear hk
  go_wp2_with fail
  refine hKK.out _ _ ?_ (fun hHeld => ?_)
  · exact kr
  clear hKK KK
  (try simp only [Act.put, List.setIfInBounds_toArray, List.set_cons_zero, List.set_cons_succ])
  refine wpAnyZ_take (i := 22) (oi := { dst := some 138, op := Op.pick (Operand.tmp 136) (Operand.tmp 137) (Operand.const (Value.bool false)), type := 4, pos := "law.go:78", after := #[{ on := 20, ground := Ground.data }, { on := 21, ground := Ground.data }], guard := none }) (v := ?_) rfl (by kernel_rfl) (fun _ _ _ h => h) (Or.inl ⟨by rfl, ?_⟩) (by assumption) ?_
  rotate_left
  · (intro wz hSw; (try dsimp only at hSw); go_simp; (try with_reducible rfl))
  (try simp only [Act.put, List.setIfInBounds_toArray, List.set_cons_zero, List.set_cons_succ])
  refine wpAnyZ_take (i := 23) (oi := { dst := some 8, op := Op.assign (Operand.tmp 138), type := 4, pos := "law.go:78", after := #[{ on := 22, ground := Ground.data }, { on := 21, ground := Ground.chain }, { on := 0, ground := Ground.phase }, { on := 1, ground := Ground.phase }, { on := 2, ground := Ground.phase }, { on := 3, ground := Ground.phase }, { on := 4, ground := Ground.phase }, { on := 5, ground := Ground.phase }, { on := 6, ground := Ground.phase }, { on := 7, ground := Ground.phase }, { on := 8, ground := Ground.phase }, { on := 9, ground := Ground.phase }, { on := 10, ground := Ground.phase }, { on := 11, ground := Ground.phase }, { on := 12, ground := Ground.phase }, { on := 13, ground := Ground.phase }, { on := 14, ground := Ground.phase }, { on := 15, ground := Ground.phase }, { on := 16, ground := Ground.phase }, { on := 17, ground := Ground.phase }, { on := 18, ground := Ground.phase }, { on := 19, ground := Ground.phase }, { on := 20, ground := Ground.phase }, { on := 21, ground := Ground.phase }, { on := 22, ground := Ground.phase }], guard := none }) (v := ?_) rfl (by kernel_rfl) (fun _ _ _ h => h) (Or.inl ⟨by rfl, ?_⟩) (by assumption) ?_
  rotate_left
  · (intro wz hSw; (try dsimp only at hSw); go_simp; (try with_reducible rfl))
  (try simp only [Act.put, List.setIfInBounds_toArray, List.set_cons_zero, List.set_cons_succ])
  refine wpAnyZ_done (by kernel_rfl) ?_ _
  clear CC0 CC1 CC2 CD0 CD1 CD2 CR0 CR1 CR2 CS0 CS1 CS2 OCr ODr ORr OSr HV3r HV4r HV7r HV8r Kr zr hHeld kr
  go_wp2
  go_ret
  exact ⟨rfl, K⟩
end Go.Proofs.Ytjinnkbnllnllaa
