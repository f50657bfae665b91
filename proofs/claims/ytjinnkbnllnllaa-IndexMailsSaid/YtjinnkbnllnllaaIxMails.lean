/- Walk: mailsacklaw15.IndexMails. -/
import Derived.Test.YtjinnkbnllnllaaIxCopy
import Derived.Test.YtjinnkbnllnllaaRxCopy
import Derived.Test.YtjinnkbnllnllaaIxBack
import Derived.Test.YtjinnkbnllnllaaL15Subs
import Derived.Test.YtjinnkbnllnllaaLast
namespace Go.Proofs.Ytjinnkbnllnllaa
open Go.RowKit

theorem room_set {x : Ix} {a : Nat} {b : Bx} (hr : rightB x = true) (hb : b.mails.length ≤ 1000) : Room (setBx x a b) := by
  obtain ⟨h1, h2, _, _, h5, _⟩ := right_len hr
  refine ⟨by rw [setBx_len]; omega, fun c hc => ?_⟩
  rcases List.mem_or_eq_of_mem_set hc with hc | rfl
  · obtain ⟨k, hk, rfl⟩ := List.mem_iff_getElem.1 hc
    have := box_mails (allTo_iff.1 h5 k hk)
    rw [bxAt_lt hk] at this
    omega
  · omega
theorem room_nil : Room ix0 := ⟨by decide, fun b hb => by cases hb⟩
theorem mails_30 {x : Ix} {a : Nat} (hr : rightB x = true) (ha : a < x.boxes.length) : (bxAt x a).mails.length ≤ 30 := box_mails (allTo_iff.1 (right_len hr).2.2.2.2.1 a ha)
theorem room_app (x : Ix) (nm : ByteArray) (o s f : Int) : Room (appR x nm o s f).1 := by
  unfold appR
  split
  · rename_i h
    rw [Bool.and_eq_true] at h
    split
    · exact room_nil
    · rename_i a hf
      split
      · exact room_nil
      · split
        · exact room_nil
        · have := mails_30 h.1 (findTo_inv hf).1
          exact room_set h.1 (by show (_ ++ [_]).length ≤ 1000; rw [List.length_append]; simp; omega)
  · exact room_nil
theorem room_place {x : Ix} {nm : ByteArray} {uid : Int} {a k : Int} (h : placeR x nm uid = (a, k, true)) : ∃ a' k' : Nat, a = a' ∧ k = k' ∧ a' < x.boxes.length ∧ k' < (bxAt x a').mails.length := by
  obtain ⟨a', k', h1, h2, h3, _⟩ := place_found (x := x) (nm := nm) (uid := uid) (by rw [h])
  rw [h] at h1
  simp only [Prod.mk.injEq, and_true] at h1
  exact ⟨a', k', h1.1, h1.2, h2, h3⟩
theorem room_flag (x : Ix) (nm : ByteArray) (uid fl : Int) : Room (flagR x nm uid fl).1 := by
  unfold flagR
  split
  · rename_i h
    rw [Bool.and_eq_true] at h
    split
    · rename_i a k hp
      obtain ⟨a', k', rfl, rfl, h1, h2⟩ := room_place hp
      have := mails_30 h.1 h1
      exact room_set h.1 (by show (flagL _ _ _).length ≤ 1000; rw [flagL, List.length_set]; simp only [Int.toNat_natCast]; omega)
    · exact room_nil
  · exact room_nil
theorem room_exp (x : Ix) (nm : ByteArray) (uid : Int) : Room (expR x nm uid).1 := by
  unfold expR
  split
  · rename_i h
    split
    · rename_i a k hp
      obtain ⟨a', k', rfl, rfl, h1, h2⟩ := room_place hp
      have := mails_30 h h1
      exact room_set h (by show (List.eraseIdx _ _).length ≤ 1000; have := List.length_eraseIdx_le (bxAt x a').mails k'; simp only [Int.toNat_natCast]; omega)
    · exact room_nil
  · exact room_nil
theorem room_cop (x : Ix) (nm : ByteArray) (uid : Int) (tn : ByteArray) : Room (copR x nm uid tn).1 := by
  unfold copR
  split
  · split
    · split
      · exact room_nil
      · exact room_app _ _ _ _ _
    · exact room_nil
  · exact room_nil
theorem small_few {x : Ix} (h : smallB x = true) : Few x := fun k hk => by
  simp only [smallB, Bool.and_eq_true, allTo_iff, smBox, decide_eq_true_eq] at h
  exact (h.2 k hk).2

set_option maxRecDepth 100000 in
set_option maxHeartbeats 8000000 in
theorem mails_any (x : Ix) (v : Value) (nm tn : ByteArray) (uid mu mf mo ms : Int) (w : World) (h : IxAt [] w v x) (hok : IxOk x) (hroom : Room x) (hnm : nm.size ≤ maxLen) (htn : tn.size ≤ maxLen) (hob : I64 mo) :
    Calls Try.prog 4 #[v, .string nm, .string tn, .int .i64 uid, .agg #[.int .i64 mu, .int .i64 mf, .int .i64 mo, .int .i64 ms]] w fun e w' => e = .returned (.bool true) ∧ Kept w w' := by
  have HV := Lib.hid h
  have HOK := Lib.hid hok
  have HROOM := Lib.hid hroom
  have HOB := Lib.hid hob
  unfold maxLen at hnm htn
  obtain ⟨A, c, A', c', rfl, hc1, hc2, hc3, hc4, hbx, hrow⟩ := h.open_
  clear hbx hrow h hok hroom hob
  unfold maxLen at hc2 hc4
  generalize x.boxes.length = n at *
  generalize x.subs.length = m at *
  generalize hg : x.given = gv at *
  clear hg
  go_enter Try.func4, Try.ntmps4
  go_wp2_with fail
  have OX := Lib.hid ((Own.newAt w w.heap.size 25 [.slice A n c, .slice A' m c', .int .i64 gv] (by simp)).alloc (.cells #[.int .i64 mu, .int .i64 mf, .int .i64 mo, .int .i64 ms] 47))
  have OM := Lib.hid (Own.newAt (w.alloc (.cells #[.slice A n c, .slice A' m c', .int .i64 gv] 25)) (w.heap.size + 1) 47 [.int .i64 mu, .int .i64 mf, .int .i64 mo, .int .i64 ms] (by simp))
  have K := (((Kept.refl w).alloc (.cells #[.slice A n c, .slice A' m c', .int .i64 gv] 25)).alloc (.cells #[.int .i64 mu, .int .i64 mf, .int .i64 mo, .int .i64 ms] 47))
  generalize ((w.alloc (.cells #[.slice A n c, .slice A' m c', .int .i64 gv] 25)).alloc (.cells #[.int .i64 mu, .int .i64 mf, .int .i64 mo, .int .i64 ms] 47)) = w1 at *
  obtain ⟨cX0, cX1, cX2, fX0, fX1, fX2⟩ := OX.out.three
  have cM0 := OM.out.cell? 0
  have fM0 := OM.out.frozen 0
  have cM1 := OM.out.cell? 1
  have fM1 := OM.out.frozen 1
  have cM2 := OM.out.cell? 2
  have fM2 := OM.out.frozen 2
  have cM3 := OM.out.cell? 3
  have fM3 := OM.out.frozen 3
  simp only [List.getElem?_cons_zero, List.getElem?_cons_succ] at cM0 cM1 cM2 cM3
  refine (ref_same x _ _ (HV.out.go K (Ext.nil _ _)) HROOM.out).mono ?_
  rintro e w2 ⟨v0, rfl, hv, hk⟩
  clear cX0 cX1 cX2 fX0 fX1 fX2 cM0 cM1 cM2 cM3 fM0 fM1 fM2 fM3
  replace OX := Lib.hid (OX.out.kept hk)
  replace OM := Lib.hid (OM.out.kept hk)
  replace K := K.trans hk
  clear hk
  obtain ⟨A0, c0, B0, d0, rfl⟩ := hv.form
  have HV0 := Lib.hid hv
  clear hv
  generalize x.boxes.length = n0 at HV0 ⊢
  generalize x.subs.length = m0 at HV0 ⊢
  generalize x.given = g0 at HV0 ⊢
  obtain ⟨cX0, cX1, cX2, fX0, fX1, fX2⟩ := OX.out.three
  have cM0 := OM.out.cell? 0
  have fM0 := OM.out.frozen 0
  have cM1 := OM.out.cell? 1
  have fM1 := OM.out.frozen 1
  have cM2 := OM.out.cell? 2
  have fM2 := OM.out.frozen 2
  have cM3 := OM.out.cell? 3
  have fM3 := OM.out.frozen 3
  simp only [List.getElem?_cons_zero, List.getElem?_cons_succ] at cM0 cM1 cM2 cM3
  go_wp2_with fail
  clear cX0 cX1 cX2 fX0 fX1 fX2 cM0 cM1 cM2 cM3 fM0 fM1 fM2 fM3
  replace OX := Lib.hid (OX.out.alloc (.cells #[.slice A0 n0 c0, .slice B0 m0 d0, .int .i64 g0] 29))
  replace OM := Lib.hid (OM.out.alloc (.cells #[.slice A0 n0 c0, .slice B0 m0 d0, .int .i64 g0] 29))
  have OY := Lib.hid (Own.new w2 29 [.slice A0 n0 c0, .slice B0 m0 d0, .int .i64 g0])
  replace HV0 := Lib.hid (HV0.out.go ((Kept.refl w2).alloc (.cells #[.slice A0 n0 c0, .slice B0 m0 d0, .int .i64 g0] 29)) (Ext.refl _ _))
  replace K := K.alloc (.cells #[.slice A0 n0 c0, .slice B0 m0 d0, .int .i64 g0] 29)
  generalize (w2.alloc (.cells #[.slice A0 n0 c0, .slice B0 m0 d0, .int .i64 g0] 29)) = w3 at *
  refine (small_any x _ _ HV0.out).mono ?_
  rintro e w4 ⟨rfl, hk⟩
  replace OX := Lib.hid (OX.out.kept hk)
  replace OM := Lib.hid (OM.out.kept hk)
  replace OY := Lib.hid (OY.out.kept hk)
  replace HV0 := Lib.hid (HV0.out.go hk (Ext.refl _ _))
  replace K := K.trans hk
  clear hk
  by_cases hsm : smallB x = false
  · rw [hsm]
    clear hsm
    obtain ⟨cX0, cX1, cX2, fX0, fX1, fX2⟩ := OX.out.three
    have cM0 := OM.out.cell? 0
    have fM0 := OM.out.frozen 0
    have cM1 := OM.out.cell? 1
    have fM1 := OM.out.frozen 1
    have cM2 := OM.out.cell? 2
    have fM2 := OM.out.frozen 2
    have cM3 := OM.out.cell? 3
    have fM3 := OM.out.frozen 3
    simp only [List.getElem?_cons_zero, List.getElem?_cons_succ] at cM0 cM1 cM2 cM3
    obtain ⟨cY0, cY1, cY2, fY0, fY1, fY2⟩ := OY.out.three
    go_wp2_with fail
    refine (awake_any _).mono ?_
    rintro e w5 ⟨rfl, hk⟩
    clear cX0 cX1 cX2 fX0 fX1 fX2 cM0 cM1 cM2 cM3 fM0 fM1 fM2 fM3 cY0 cY1 cY2 fY0 fY1 fY2
    replace OX := Lib.hid (OX.out.kept hk)
    replace OM := Lib.hid (OM.out.kept hk)
    replace OY := Lib.hid (OY.out.kept hk)
    replace HV0 := Lib.hid (HV0.out.go hk (Ext.refl _ _))
    replace K := K.trans hk
    clear hk
    go_wp2
    go_ret
    exact ⟨rfl, K⟩
  replace hsm : smallB x = true := by simpa using hsm
  have HFEW := Lib.hid (small_few hsm)
  rw [hsm]
  clear hsm
  by_cases h100 : 100 < nm.size
  · have h100' : (100 : Int) < (nm.size : Int) := by omega
    obtain ⟨cX0, cX1, cX2, fX0, fX1, fX2⟩ := OX.out.three
    have cM0 := OM.out.cell? 0
    have fM0 := OM.out.frozen 0
    have cM1 := OM.out.cell? 1
    have fM1 := OM.out.frozen 1
    have cM2 := OM.out.cell? 2
    have fM2 := OM.out.frozen 2
    have cM3 := OM.out.cell? 3
    have fM3 := OM.out.frozen 3
    simp only [List.getElem?_cons_zero, List.getElem?_cons_succ] at cM0 cM1 cM2 cM3
    obtain ⟨cY0, cY1, cY2, fY0, fY1, fY2⟩ := OY.out.three
    go_wp2_with fail
    refine (awake_any _).mono ?_
    rintro e w5 ⟨rfl, hk⟩
    clear cX0 cX1 cX2 fX0 fX1 fX2 cM0 cM1 cM2 cM3 fM0 fM1 fM2 fM3 cY0 cY1 cY2 fY0 fY1 fY2
    replace OX := Lib.hid (OX.out.kept hk)
    replace OM := Lib.hid (OM.out.kept hk)
    replace OY := Lib.hid (OY.out.kept hk)
    replace HV0 := Lib.hid (HV0.out.go hk (Ext.refl _ _))
    replace K := K.trans hk
    clear hk
    go_wp2
    go_ret
    exact ⟨rfl, K⟩
  have h100' : ¬ (100 : Int) < (nm.size : Int) := by omega
  by_cases h101 : 100 < tn.size
  · have h101' : (100 : Int) < (tn.size : Int) := by omega
    obtain ⟨cX0, cX1, cX2, fX0, fX1, fX2⟩ := OX.out.three
    have cM0 := OM.out.cell? 0
    have fM0 := OM.out.frozen 0
    have cM1 := OM.out.cell? 1
    have fM1 := OM.out.frozen 1
    have cM2 := OM.out.cell? 2
    have fM2 := OM.out.frozen 2
    have cM3 := OM.out.cell? 3
    have fM3 := OM.out.frozen 3
    simp only [List.getElem?_cons_zero, List.getElem?_cons_succ] at cM0 cM1 cM2 cM3
    obtain ⟨cY0, cY1, cY2, fY0, fY1, fY2⟩ := OY.out.three
    go_wp2_with fail
    refine (awake_any _).mono ?_
    rintro e w5 ⟨rfl, hk⟩
    clear cX0 cX1 cX2 fX0 fX1 fX2 cM0 cM1 cM2 cM3 fM0 fM1 fM2 fM3 cY0 cY1 cY2 fY0 fY1 fY2
    replace OX := Lib.hid (OX.out.kept hk)
    replace OM := Lib.hid (OM.out.kept hk)
    replace OY := Lib.hid (OY.out.kept hk)
    replace HV0 := Lib.hid (HV0.out.go hk (Ext.refl _ _))
    replace K := K.trans hk
    clear hk
    go_wp2
    go_ret
    exact ⟨rfl, K⟩
  have h101' : ¬ (100 : Int) < (tn.size : Int) := by omega
  obtain ⟨⟨y1, u1, e1⟩, hr1⟩ : ∃ r, appR x nm mo ms mf = r := ⟨_, rfl⟩
  have HR1 := Lib.hid hr1
  have HRM1 : Hid (Room y1) := by have := room_app x nm mo ms mf; rw [hr1] at this; exact this
  clear hr1
  obtain ⟨⟨y2, e2⟩, hr2⟩ : ∃ r, flagR x nm uid mf = r := ⟨_, rfl⟩
  have HR2 := Lib.hid hr2
  have HRM2 : Hid (Room y2) := by have := room_flag x nm uid mf; rw [hr2] at this; exact this
  clear hr2
  obtain ⟨⟨y3, e3⟩, hr3⟩ : ∃ r, expR x nm uid = r := ⟨_, rfl⟩
  have HR3 := Lib.hid hr3
  have HRM3 : Hid (Room y3) := by have := room_exp x nm uid; rw [hr3] at this; exact this
  clear hr3
  obtain ⟨⟨y4, u4, e4⟩, hr4⟩ : ∃ r, copR x nm uid tn = r := ⟨_, rfl⟩
  have HR4 := Lib.hid hr4
  have HRM4 : Hid (Room y4) := by have := room_cop x nm uid tn; rw [hr4] at this; exact this
  clear hr4
  obtain ⟨cX0, cX1, cX2, fX0, fX1, fX2⟩ := OX.out.three
  have cM0 := OM.out.cell? 0
  have fM0 := OM.out.frozen 0
  have cM1 := OM.out.cell? 1
  have fM1 := OM.out.frozen 1
  have cM2 := OM.out.cell? 2
  have fM2 := OM.out.frozen 2
  have cM3 := OM.out.cell? 3
  have fM3 := OM.out.frozen 3
  simp only [List.getElem?_cons_zero, List.getElem?_cons_succ] at cM0 cM1 cM2 cM3
  obtain ⟨cY0, cY1, cY2, fY0, fY1, fY2⟩ := OY.out.three
  have zX4 := OX.out.lt
  have zM4 := OM.out.lt
  have zY4 := OY.out.lt
  have zK4 := K.size
  go_wp2_with fail
  refine (app_any x _ nm mo ms mf _ (HV.out.go K (Ext.nil _ _)) HOK.out HOB.out).mono ?_
  rintro e w5 ⟨v1, rfl, hv, hk⟩
  clear cX0 cX1 cX2 fX0 fX1 fX2 cM0 cM1 cM2 cM3 fM0 fM1 fM2 fM3 cY0 cY1 cY2 fY0 fY1 fY2
  replace OX := Lib.hid (OX.out.kept hk)
  replace OM := Lib.hid (OM.out.kept hk)
  replace OY := Lib.hid (OY.out.kept hk)
  replace HV0 := Lib.hid (HV0.out.go hk (Ext.refl _ _))
  replace K := K.trans hk
  rw [HR1.out] at hv ⊢
  dsimp only at hv ⊢
  clear hk
  obtain ⟨A1, c1, B1, d1, rfl⟩ := hv.form
  have HV1 := Lib.hid hv
  clear hv
  generalize y1.boxes.length = n1 at HV1 ⊢
  generalize y1.subs.length = m1 at HV1 ⊢
  generalize y1.given = g1 at HV1 ⊢
  obtain ⟨cX0, cX1, cX2, fX0, fX1, fX2⟩ := OX.out.three
  have cM0 := OM.out.cell? 0
  have fM0 := OM.out.frozen 0
  have cM1 := OM.out.cell? 1
  have fM1 := OM.out.frozen 1
  have cM2 := OM.out.cell? 2
  have fM2 := OM.out.frozen 2
  have cM3 := OM.out.cell? 3
  have fM3 := OM.out.frozen 3
  simp only [List.getElem?_cons_zero, List.getElem?_cons_succ] at cM0 cM1 cM2 cM3
  obtain ⟨cY0, cY1, cY2, fY0, fY1, fY2⟩ := OY.out.three
  have zX5 := OX.out.lt
  have zM5 := OM.out.lt
  have zY5 := OY.out.lt
  have zK5 := K.size
  go_wp2_with fail
  clear cX0 cX1 cX2 fX0 fX1 fX2 cM0 cM1 cM2 cM3 fM0 fM1 fM2 fM3 cY0 cY1 cY2 fY0 fY1 fY2
  replace OX := Lib.hid (OX.out.alloc (.cells #[.slice A1 n1 c1, .slice B1 m1 d1, .int .i64 g1] 25))
  replace OM := Lib.hid (OM.out.alloc (.cells #[.slice A1 n1 c1, .slice B1 m1 d1, .int .i64 g1] 25))
  replace OY := Lib.hid (OY.out.alloc (.cells #[.slice A1 n1 c1, .slice B1 m1 d1, .int .i64 g1] 25))
  have OA := Lib.hid (Own.new w5 25 [.slice A1 n1 c1, .slice B1 m1 d1, .int .i64 g1])
  replace HV0 := Lib.hid (HV0.out.go ((Kept.refl w5).alloc (.cells #[.slice A1 n1 c1, .slice B1 m1 d1, .int .i64 g1] 25)) (Ext.refl _ _))
  replace HV1 := Lib.hid (HV1.out.go ((Kept.refl w5).alloc (.cells #[.slice A1 n1 c1, .slice B1 m1 d1, .int .i64 g1] 25)) (Ext.refl _ _))
  replace K := K.alloc (.cells #[.slice A1 n1 c1, .slice B1 m1 d1, .int .i64 g1] 25)
  generalize (w5.alloc (.cells #[.slice A1 n1 c1, .slice B1 m1 d1, .int .i64 g1] 25)) = w6 at *
  refine (flag_any [] x _ nm uid mf _ (fun _ hk => by cases hk) (HV.out.go K (Ext.nil _ _)) HOK.out).mono ?_
  rintro e w7 ⟨v2, rfl, hv, hk⟩
  replace OX := Lib.hid (OX.out.kept hk)
  replace OM := Lib.hid (OM.out.kept hk)
  replace OY := Lib.hid (OY.out.kept hk)
  replace OA := Lib.hid (OA.out.kept hk)
  replace HV0 := Lib.hid (HV0.out.go hk (Ext.refl _ _))
  replace HV1 := Lib.hid (HV1.out.go hk (Ext.refl _ _))
  replace K := K.trans hk
  rw [HR2.out] at hv ⊢
  dsimp only at hv ⊢
  clear hk
  obtain ⟨A2, c2, B2, d2, rfl⟩ := hv.form
  have HV2 := Lib.hid hv
  clear hv
  generalize y2.boxes.length = n2 at HV2 ⊢
  generalize y2.subs.length = m2 at HV2 ⊢
  generalize y2.given = g2 at HV2 ⊢
  obtain ⟨cX0, cX1, cX2, fX0, fX1, fX2⟩ := OX.out.three
  have cM0 := OM.out.cell? 0
  have fM0 := OM.out.frozen 0
  have cM1 := OM.out.cell? 1
  have fM1 := OM.out.frozen 1
  have cM2 := OM.out.cell? 2
  have fM2 := OM.out.frozen 2
  have cM3 := OM.out.cell? 3
  have fM3 := OM.out.frozen 3
  simp only [List.getElem?_cons_zero, List.getElem?_cons_succ] at cM0 cM1 cM2 cM3
  obtain ⟨cY0, cY1, cY2, fY0, fY1, fY2⟩ := OY.out.three
  have zX7 := OX.out.lt
  have zM7 := OM.out.lt
  have zY7 := OY.out.lt
  have zA7 := OA.out.lt
  have zK7 := K.size
  go_wp2_with fail
  clear cX0 cX1 cX2 fX0 fX1 fX2 cM0 cM1 cM2 cM3 fM0 fM1 fM2 fM3 cY0 cY1 cY2 fY0 fY1 fY2
  replace OX := Lib.hid (OX.out.alloc (.cells #[.slice A2 n2 c2, .slice B2 m2 d2, .int .i64 g2] 25))
  replace OM := Lib.hid (OM.out.alloc (.cells #[.slice A2 n2 c2, .slice B2 m2 d2, .int .i64 g2] 25))
  replace OY := Lib.hid (OY.out.alloc (.cells #[.slice A2 n2 c2, .slice B2 m2 d2, .int .i64 g2] 25))
  replace OA := Lib.hid (OA.out.alloc (.cells #[.slice A2 n2 c2, .slice B2 m2 d2, .int .i64 g2] 25))
  have OB := Lib.hid (Own.new w7 25 [.slice A2 n2 c2, .slice B2 m2 d2, .int .i64 g2])
  replace HV0 := Lib.hid (HV0.out.go ((Kept.refl w7).alloc (.cells #[.slice A2 n2 c2, .slice B2 m2 d2, .int .i64 g2] 25)) (Ext.refl _ _))
  replace HV1 := Lib.hid (HV1.out.go ((Kept.refl w7).alloc (.cells #[.slice A2 n2 c2, .slice B2 m2 d2, .int .i64 g2] 25)) (Ext.refl _ _))
  replace HV2 := Lib.hid (HV2.out.go ((Kept.refl w7).alloc (.cells #[.slice A2 n2 c2, .slice B2 m2 d2, .int .i64 g2] 25)) (Ext.refl _ _))
  replace K := K.alloc (.cells #[.slice A2 n2 c2, .slice B2 m2 d2, .int .i64 g2] 25)
  generalize (w7.alloc (.cells #[.slice A2 n2 c2, .slice B2 m2 d2, .int .i64 g2] 25)) = w8 at *
  refine (expV_any [] x _ nm uid _ (fun _ hk => by cases hk) (HV.out.go K (Ext.nil _ _)) HOK.out).mono ?_
  rintro e w9 ⟨v3, rfl, hv, hk⟩
  replace OX := Lib.hid (OX.out.kept hk)
  replace OM := Lib.hid (OM.out.kept hk)
  replace OY := Lib.hid (OY.out.kept hk)
  replace OA := Lib.hid (OA.out.kept hk)
  replace OB := Lib.hid (OB.out.kept hk)
  replace HV0 := Lib.hid (HV0.out.go hk (Ext.refl _ _))
  replace HV1 := Lib.hid (HV1.out.go hk (Ext.refl _ _))
  replace HV2 := Lib.hid (HV2.out.go hk (Ext.refl _ _))
  replace K := K.trans hk
  rw [HR3.out] at hv ⊢
  dsimp only at hv ⊢
  clear hk
  obtain ⟨A3, c3, B3, d3, rfl⟩ := hv.form
  have HV3 := Lib.hid hv
  clear hv
  generalize y3.boxes.length = n3 at HV3 ⊢
  generalize y3.subs.length = m3 at HV3 ⊢
  generalize y3.given = g3 at HV3 ⊢
  obtain ⟨cX0, cX1, cX2, fX0, fX1, fX2⟩ := OX.out.three
  have cM0 := OM.out.cell? 0
  have fM0 := OM.out.frozen 0
  have cM1 := OM.out.cell? 1
  have fM1 := OM.out.frozen 1
  have cM2 := OM.out.cell? 2
  have fM2 := OM.out.frozen 2
  have cM3 := OM.out.cell? 3
  have fM3 := OM.out.frozen 3
  simp only [List.getElem?_cons_zero, List.getElem?_cons_succ] at cM0 cM1 cM2 cM3
  obtain ⟨cY0, cY1, cY2, fY0, fY1, fY2⟩ := OY.out.three
  have zX9 := OX.out.lt
  have zM9 := OM.out.lt
  have zY9 := OY.out.lt
  have zA9 := OA.out.lt
  have zB9 := OB.out.lt
  have zK9 := K.size
  go_wp2_with fail
  clear cX0 cX1 cX2 fX0 fX1 fX2 cM0 cM1 cM2 cM3 fM0 fM1 fM2 fM3 cY0 cY1 cY2 fY0 fY1 fY2
  replace OX := Lib.hid (OX.out.alloc (.cells #[.slice A3 n3 c3, .slice B3 m3 d3, .int .i64 g3] 25))
  replace OM := Lib.hid (OM.out.alloc (.cells #[.slice A3 n3 c3, .slice B3 m3 d3, .int .i64 g3] 25))
  replace OY := Lib.hid (OY.out.alloc (.cells #[.slice A3 n3 c3, .slice B3 m3 d3, .int .i64 g3] 25))
  replace OA := Lib.hid (OA.out.alloc (.cells #[.slice A3 n3 c3, .slice B3 m3 d3, .int .i64 g3] 25))
  replace OB := Lib.hid (OB.out.alloc (.cells #[.slice A3 n3 c3, .slice B3 m3 d3, .int .i64 g3] 25))
  have OC := Lib.hid (Own.new w9 25 [.slice A3 n3 c3, .slice B3 m3 d3, .int .i64 g3])
  replace HV0 := Lib.hid (HV0.out.go ((Kept.refl w9).alloc (.cells #[.slice A3 n3 c3, .slice B3 m3 d3, .int .i64 g3] 25)) (Ext.refl _ _))
  replace HV1 := Lib.hid (HV1.out.go ((Kept.refl w9).alloc (.cells #[.slice A3 n3 c3, .slice B3 m3 d3, .int .i64 g3] 25)) (Ext.refl _ _))
  replace HV2 := Lib.hid (HV2.out.go ((Kept.refl w9).alloc (.cells #[.slice A3 n3 c3, .slice B3 m3 d3, .int .i64 g3] 25)) (Ext.refl _ _))
  replace HV3 := Lib.hid (HV3.out.go ((Kept.refl w9).alloc (.cells #[.slice A3 n3 c3, .slice B3 m3 d3, .int .i64 g3] 25)) (Ext.refl _ _))
  replace K := K.alloc (.cells #[.slice A3 n3 c3, .slice B3 m3 d3, .int .i64 g3] 25)
  generalize (w9.alloc (.cells #[.slice A3 n3 c3, .slice B3 m3 d3, .int .i64 g3] 25)) = w10 at *
  refine (cop_any [] x _ nm uid tn _ (fun _ hk => by cases hk) (HV.out.go K (Ext.nil _ _)) HOK.out).mono ?_
  rintro e w11 ⟨v4, rfl, hv, hk⟩
  replace OX := Lib.hid (OX.out.kept hk)
  replace OM := Lib.hid (OM.out.kept hk)
  replace OY := Lib.hid (OY.out.kept hk)
  replace OA := Lib.hid (OA.out.kept hk)
  replace OB := Lib.hid (OB.out.kept hk)
  replace OC := Lib.hid (OC.out.kept hk)
  replace HV0 := Lib.hid (HV0.out.go hk (Ext.refl _ _))
  replace HV1 := Lib.hid (HV1.out.go hk (Ext.refl _ _))
  replace HV2 := Lib.hid (HV2.out.go hk (Ext.refl _ _))
  replace HV3 := Lib.hid (HV3.out.go hk (Ext.refl _ _))
  replace K := K.trans hk
  rw [HR4.out] at hv ⊢
  dsimp only at hv ⊢
  clear hk
  obtain ⟨A4, c4, B4, d4, rfl⟩ := hv.form
  have HV4 := Lib.hid hv
  clear hv
  generalize y4.boxes.length = n4 at HV4 ⊢
  generalize y4.subs.length = m4 at HV4 ⊢
  generalize y4.given = g4 at HV4 ⊢
  obtain ⟨cX0, cX1, cX2, fX0, fX1, fX2⟩ := OX.out.three
  have cM0 := OM.out.cell? 0
  have fM0 := OM.out.frozen 0
  have cM1 := OM.out.cell? 1
  have fM1 := OM.out.frozen 1
  have cM2 := OM.out.cell? 2
  have fM2 := OM.out.frozen 2
  have cM3 := OM.out.cell? 3
  have fM3 := OM.out.frozen 3
  simp only [List.getElem?_cons_zero, List.getElem?_cons_succ] at cM0 cM1 cM2 cM3
  obtain ⟨cY0, cY1, cY2, fY0, fY1, fY2⟩ := OY.out.three
  have zX11 := OX.out.lt
  have zM11 := OM.out.lt
  have zY11 := OY.out.lt
  have zA11 := OA.out.lt
  have zB11 := OB.out.lt
  have zC11 := OC.out.lt
  have zK11 := K.size
  go_wp2_with fail
  clear cX0 cX1 cX2 fX0 fX1 fX2 cM0 cM1 cM2 cM3 fM0 fM1 fM2 fM3 cY0 cY1 cY2 fY0 fY1 fY2
  replace OX := Lib.hid (OX.out.alloc (.cells #[.slice A4 n4 c4, .slice B4 m4 d4, .int .i64 g4] 25))
  replace OM := Lib.hid (OM.out.alloc (.cells #[.slice A4 n4 c4, .slice B4 m4 d4, .int .i64 g4] 25))
  replace OY := Lib.hid (OY.out.alloc (.cells #[.slice A4 n4 c4, .slice B4 m4 d4, .int .i64 g4] 25))
  replace OA := Lib.hid (OA.out.alloc (.cells #[.slice A4 n4 c4, .slice B4 m4 d4, .int .i64 g4] 25))
  replace OB := Lib.hid (OB.out.alloc (.cells #[.slice A4 n4 c4, .slice B4 m4 d4, .int .i64 g4] 25))
  replace OC := Lib.hid (OC.out.alloc (.cells #[.slice A4 n4 c4, .slice B4 m4 d4, .int .i64 g4] 25))
  have OD := Lib.hid (Own.new w11 25 [.slice A4 n4 c4, .slice B4 m4 d4, .int .i64 g4])
  replace HV0 := Lib.hid (HV0.out.go ((Kept.refl w11).alloc (.cells #[.slice A4 n4 c4, .slice B4 m4 d4, .int .i64 g4] 25)) (Ext.refl _ _))
  replace HV1 := Lib.hid (HV1.out.go ((Kept.refl w11).alloc (.cells #[.slice A4 n4 c4, .slice B4 m4 d4, .int .i64 g4] 25)) (Ext.refl _ _))
  replace HV2 := Lib.hid (HV2.out.go ((Kept.refl w11).alloc (.cells #[.slice A4 n4 c4, .slice B4 m4 d4, .int .i64 g4] 25)) (Ext.refl _ _))
  replace HV3 := Lib.hid (HV3.out.go ((Kept.refl w11).alloc (.cells #[.slice A4 n4 c4, .slice B4 m4 d4, .int .i64 g4] 25)) (Ext.refl _ _))
  replace HV4 := Lib.hid (HV4.out.go ((Kept.refl w11).alloc (.cells #[.slice A4 n4 c4, .slice B4 m4 d4, .int .i64 g4] 25)) (Ext.refl _ _))
  replace K := K.alloc (.cells #[.slice A4 n4 c4, .slice B4 m4 d4, .int .i64 g4] 25)
  generalize (w11.alloc (.cells #[.slice A4 n4 c4, .slice B4 m4 d4, .int .i64 g4] 25)) = w12 at *
  refine (rapp_any [] x _ nm mo ms mf _ (fun _ hk => by cases hk) HV0.out HOK.out HFEW.out).mono ?_
  rintro e w13 ⟨x1, rfl, hv, hk⟩
  replace OM := Lib.hid (OM.out.kept hk)
  replace OY := Lib.hid (OY.out.kept hk)
  replace OA := Lib.hid (OA.out.kept hk)
  replace OB := Lib.hid (OB.out.kept hk)
  replace OC := Lib.hid (OC.out.kept hk)
  replace OD := Lib.hid (OD.out.kept hk)
  replace HV0 := Lib.hid (HV0.out.go hk (Ext.refl _ _))
  replace HV1 := Lib.hid (HV1.out.go hk (Ext.refl _ _))
  replace HV2 := Lib.hid (HV2.out.go hk (Ext.refl _ _))
  replace HV3 := Lib.hid (HV3.out.go hk (Ext.refl _ _))
  replace HV4 := Lib.hid (HV4.out.go hk (Ext.refl _ _))
  replace K := K.trans hk
  rw [HR1.out] at hv ⊢
  dsimp only at hv ⊢
  clear hk
  obtain ⟨A5, c5, B5, d5, rfl⟩ := hv.form
  have HV5 := Lib.hid hv
  clear hv
  generalize y1.boxes.length = n5 at HV5 ⊢
  generalize y1.subs.length = m5 at HV5 ⊢
  generalize y1.given = g5 at HV5 ⊢
  have cM0 := OM.out.cell? 0
  have fM0 := OM.out.frozen 0
  have cM1 := OM.out.cell? 1
  have fM1 := OM.out.frozen 1
  have cM2 := OM.out.cell? 2
  have fM2 := OM.out.frozen 2
  have cM3 := OM.out.cell? 3
  have fM3 := OM.out.frozen 3
  simp only [List.getElem?_cons_zero, List.getElem?_cons_succ] at cM0 cM1 cM2 cM3
  obtain ⟨cY0, cY1, cY2, fY0, fY1, fY2⟩ := OY.out.three
  have zM13 := OM.out.lt
  have zY13 := OY.out.lt
  have zA13 := OA.out.lt
  have zB13 := OB.out.lt
  have zC13 := OC.out.lt
  have zD13 := OD.out.lt
  have zK13 := K.size
  go_wp2_with fail
  clear cM0 cM1 cM2 cM3 fM0 fM1 fM2 fM3 cY0 cY1 cY2 fY0 fY1 fY2
  replace OM := Lib.hid (OM.out.alloc (.cells #[.slice A5 n5 c5, .slice B5 m5 d5, .int .i64 g5] 29))
  replace OY := Lib.hid (OY.out.alloc (.cells #[.slice A5 n5 c5, .slice B5 m5 d5, .int .i64 g5] 29))
  replace OA := Lib.hid (OA.out.alloc (.cells #[.slice A5 n5 c5, .slice B5 m5 d5, .int .i64 g5] 29))
  replace OB := Lib.hid (OB.out.alloc (.cells #[.slice A5 n5 c5, .slice B5 m5 d5, .int .i64 g5] 29))
  replace OC := Lib.hid (OC.out.alloc (.cells #[.slice A5 n5 c5, .slice B5 m5 d5, .int .i64 g5] 29))
  replace OD := Lib.hid (OD.out.alloc (.cells #[.slice A5 n5 c5, .slice B5 m5 d5, .int .i64 g5] 29))
  have OP := Lib.hid (Own.new w13 29 [.slice A5 n5 c5, .slice B5 m5 d5, .int .i64 g5])
  replace HV0 := Lib.hid (HV0.out.go ((Kept.refl w13).alloc (.cells #[.slice A5 n5 c5, .slice B5 m5 d5, .int .i64 g5] 29)) (Ext.refl _ _))
  replace HV1 := Lib.hid (HV1.out.go ((Kept.refl w13).alloc (.cells #[.slice A5 n5 c5, .slice B5 m5 d5, .int .i64 g5] 29)) (Ext.refl _ _))
  replace HV2 := Lib.hid (HV2.out.go ((Kept.refl w13).alloc (.cells #[.slice A5 n5 c5, .slice B5 m5 d5, .int .i64 g5] 29)) (Ext.refl _ _))
  replace HV3 := Lib.hid (HV3.out.go ((Kept.refl w13).alloc (.cells #[.slice A5 n5 c5, .slice B5 m5 d5, .int .i64 g5] 29)) (Ext.refl _ _))
  replace HV4 := Lib.hid (HV4.out.go ((Kept.refl w13).alloc (.cells #[.slice A5 n5 c5, .slice B5 m5 d5, .int .i64 g5] 29)) (Ext.refl _ _))
  replace HV5 := Lib.hid (HV5.out.go ((Kept.refl w13).alloc (.cells #[.slice A5 n5 c5, .slice B5 m5 d5, .int .i64 g5] 29)) (Ext.refl _ _))
  replace K := K.alloc (.cells #[.slice A5 n5 c5, .slice B5 m5 d5, .int .i64 g5] 29)
  generalize (w13.alloc (.cells #[.slice A5 n5 c5, .slice B5 m5 d5, .int .i64 g5] 29)) = w14 at *
  refine (rflag_any [] x _ nm uid mf _ (fun _ hk => by cases hk) HV0.out HOK.out HFEW.out).mono ?_
  rintro e w15 ⟨x2, rfl, hv, hk⟩
  replace OM := Lib.hid (OM.out.kept hk)
  replace OY := Lib.hid (OY.out.kept hk)
  replace OA := Lib.hid (OA.out.kept hk)
  replace OB := Lib.hid (OB.out.kept hk)
  replace OC := Lib.hid (OC.out.kept hk)
  replace OD := Lib.hid (OD.out.kept hk)
  replace OP := Lib.hid (OP.out.kept hk)
  replace HV0 := Lib.hid (HV0.out.go hk (Ext.refl _ _))
  replace HV1 := Lib.hid (HV1.out.go hk (Ext.refl _ _))
  replace HV2 := Lib.hid (HV2.out.go hk (Ext.refl _ _))
  replace HV3 := Lib.hid (HV3.out.go hk (Ext.refl _ _))
  replace HV4 := Lib.hid (HV4.out.go hk (Ext.refl _ _))
  replace HV5 := Lib.hid (HV5.out.go hk (Ext.refl _ _))
  replace K := K.trans hk
  rw [HR2.out] at hv ⊢
  dsimp only at hv ⊢
  clear hk
  obtain ⟨A6, c6, B6, d6, rfl⟩ := hv.form
  have HV6 := Lib.hid hv
  clear hv
  generalize y2.boxes.length = n6 at HV6 ⊢
  generalize y2.subs.length = m6 at HV6 ⊢
  generalize y2.given = g6 at HV6 ⊢
  have cM0 := OM.out.cell? 0
  have fM0 := OM.out.frozen 0
  have cM1 := OM.out.cell? 1
  have fM1 := OM.out.frozen 1
  have cM2 := OM.out.cell? 2
  have fM2 := OM.out.frozen 2
  have cM3 := OM.out.cell? 3
  have fM3 := OM.out.frozen 3
  simp only [List.getElem?_cons_zero, List.getElem?_cons_succ] at cM0 cM1 cM2 cM3
  obtain ⟨cY0, cY1, cY2, fY0, fY1, fY2⟩ := OY.out.three
  have zM15 := OM.out.lt
  have zY15 := OY.out.lt
  have zA15 := OA.out.lt
  have zB15 := OB.out.lt
  have zC15 := OC.out.lt
  have zD15 := OD.out.lt
  have zP15 := OP.out.lt
  have zK15 := K.size
  go_wp2_with fail
  clear cM0 cM1 cM2 cM3 fM0 fM1 fM2 fM3 cY0 cY1 cY2 fY0 fY1 fY2
  replace OM := Lib.hid (OM.out.alloc (.cells #[.slice A6 n6 c6, .slice B6 m6 d6, .int .i64 g6] 29))
  replace OY := Lib.hid (OY.out.alloc (.cells #[.slice A6 n6 c6, .slice B6 m6 d6, .int .i64 g6] 29))
  replace OA := Lib.hid (OA.out.alloc (.cells #[.slice A6 n6 c6, .slice B6 m6 d6, .int .i64 g6] 29))
  replace OB := Lib.hid (OB.out.alloc (.cells #[.slice A6 n6 c6, .slice B6 m6 d6, .int .i64 g6] 29))
  replace OC := Lib.hid (OC.out.alloc (.cells #[.slice A6 n6 c6, .slice B6 m6 d6, .int .i64 g6] 29))
  replace OD := Lib.hid (OD.out.alloc (.cells #[.slice A6 n6 c6, .slice B6 m6 d6, .int .i64 g6] 29))
  replace OP := Lib.hid (OP.out.alloc (.cells #[.slice A6 n6 c6, .slice B6 m6 d6, .int .i64 g6] 29))
  have OQ := Lib.hid (Own.new w15 29 [.slice A6 n6 c6, .slice B6 m6 d6, .int .i64 g6])
  replace HV0 := Lib.hid (HV0.out.go ((Kept.refl w15).alloc (.cells #[.slice A6 n6 c6, .slice B6 m6 d6, .int .i64 g6] 29)) (Ext.refl _ _))
  replace HV1 := Lib.hid (HV1.out.go ((Kept.refl w15).alloc (.cells #[.slice A6 n6 c6, .slice B6 m6 d6, .int .i64 g6] 29)) (Ext.refl _ _))
  replace HV2 := Lib.hid (HV2.out.go ((Kept.refl w15).alloc (.cells #[.slice A6 n6 c6, .slice B6 m6 d6, .int .i64 g6] 29)) (Ext.refl _ _))
  replace HV3 := Lib.hid (HV3.out.go ((Kept.refl w15).alloc (.cells #[.slice A6 n6 c6, .slice B6 m6 d6, .int .i64 g6] 29)) (Ext.refl _ _))
  replace HV4 := Lib.hid (HV4.out.go ((Kept.refl w15).alloc (.cells #[.slice A6 n6 c6, .slice B6 m6 d6, .int .i64 g6] 29)) (Ext.refl _ _))
  replace HV5 := Lib.hid (HV5.out.go ((Kept.refl w15).alloc (.cells #[.slice A6 n6 c6, .slice B6 m6 d6, .int .i64 g6] 29)) (Ext.refl _ _))
  replace HV6 := Lib.hid (HV6.out.go ((Kept.refl w15).alloc (.cells #[.slice A6 n6 c6, .slice B6 m6 d6, .int .i64 g6] 29)) (Ext.refl _ _))
  replace K := K.alloc (.cells #[.slice A6 n6 c6, .slice B6 m6 d6, .int .i64 g6] 29)
  generalize (w15.alloc (.cells #[.slice A6 n6 c6, .slice B6 m6 d6, .int .i64 g6] 29)) = w16 at *
  refine (rexp_any [] x _ nm uid _ (fun _ hk => by cases hk) HV0.out HOK.out HFEW.out).mono ?_
  rintro e w17 ⟨x3, rfl, hv, hk⟩
  replace OM := Lib.hid (OM.out.kept hk)
  replace OY := Lib.hid (OY.out.kept hk)
  replace OA := Lib.hid (OA.out.kept hk)
  replace OB := Lib.hid (OB.out.kept hk)
  replace OC := Lib.hid (OC.out.kept hk)
  replace OD := Lib.hid (OD.out.kept hk)
  replace OP := Lib.hid (OP.out.kept hk)
  replace OQ := Lib.hid (OQ.out.kept hk)
  replace HV0 := Lib.hid (HV0.out.go hk (Ext.refl _ _))
  replace HV1 := Lib.hid (HV1.out.go hk (Ext.refl _ _))
  replace HV2 := Lib.hid (HV2.out.go hk (Ext.refl _ _))
  replace HV3 := Lib.hid (HV3.out.go hk (Ext.refl _ _))
  replace HV4 := Lib.hid (HV4.out.go hk (Ext.refl _ _))
  replace HV5 := Lib.hid (HV5.out.go hk (Ext.refl _ _))
  replace HV6 := Lib.hid (HV6.out.go hk (Ext.refl _ _))
  replace K := K.trans hk
  rw [HR3.out] at hv ⊢
  dsimp only at hv ⊢
  clear hk
  obtain ⟨A7, c7, B7, d7, rfl⟩ := hv.form
  have HV7 := Lib.hid hv
  clear hv
  generalize y3.boxes.length = n7 at HV7 ⊢
  generalize y3.subs.length = m7 at HV7 ⊢
  generalize y3.given = g7 at HV7 ⊢
  have cM0 := OM.out.cell? 0
  have fM0 := OM.out.frozen 0
  have cM1 := OM.out.cell? 1
  have fM1 := OM.out.frozen 1
  have cM2 := OM.out.cell? 2
  have fM2 := OM.out.frozen 2
  have cM3 := OM.out.cell? 3
  have fM3 := OM.out.frozen 3
  simp only [List.getElem?_cons_zero, List.getElem?_cons_succ] at cM0 cM1 cM2 cM3
  obtain ⟨cY0, cY1, cY2, fY0, fY1, fY2⟩ := OY.out.three
  have zM17 := OM.out.lt
  have zY17 := OY.out.lt
  have zA17 := OA.out.lt
  have zB17 := OB.out.lt
  have zC17 := OC.out.lt
  have zD17 := OD.out.lt
  have zP17 := OP.out.lt
  have zQ17 := OQ.out.lt
  have zK17 := K.size
  go_wp2_with fail
  clear cM0 cM1 cM2 cM3 fM0 fM1 fM2 fM3 cY0 cY1 cY2 fY0 fY1 fY2
  replace OM := Lib.hid (OM.out.alloc (.cells #[.slice A7 n7 c7, .slice B7 m7 d7, .int .i64 g7] 29))
  replace OY := Lib.hid (OY.out.alloc (.cells #[.slice A7 n7 c7, .slice B7 m7 d7, .int .i64 g7] 29))
  replace OA := Lib.hid (OA.out.alloc (.cells #[.slice A7 n7 c7, .slice B7 m7 d7, .int .i64 g7] 29))
  replace OB := Lib.hid (OB.out.alloc (.cells #[.slice A7 n7 c7, .slice B7 m7 d7, .int .i64 g7] 29))
  replace OC := Lib.hid (OC.out.alloc (.cells #[.slice A7 n7 c7, .slice B7 m7 d7, .int .i64 g7] 29))
  replace OD := Lib.hid (OD.out.alloc (.cells #[.slice A7 n7 c7, .slice B7 m7 d7, .int .i64 g7] 29))
  replace OP := Lib.hid (OP.out.alloc (.cells #[.slice A7 n7 c7, .slice B7 m7 d7, .int .i64 g7] 29))
  replace OQ := Lib.hid (OQ.out.alloc (.cells #[.slice A7 n7 c7, .slice B7 m7 d7, .int .i64 g7] 29))
  have OR := Lib.hid (Own.new w17 29 [.slice A7 n7 c7, .slice B7 m7 d7, .int .i64 g7])
  replace HV0 := Lib.hid (HV0.out.go ((Kept.refl w17).alloc (.cells #[.slice A7 n7 c7, .slice B7 m7 d7, .int .i64 g7] 29)) (Ext.refl _ _))
  replace HV1 := Lib.hid (HV1.out.go ((Kept.refl w17).alloc (.cells #[.slice A7 n7 c7, .slice B7 m7 d7, .int .i64 g7] 29)) (Ext.refl _ _))
  replace HV2 := Lib.hid (HV2.out.go ((Kept.refl w17).alloc (.cells #[.slice A7 n7 c7, .slice B7 m7 d7, .int .i64 g7] 29)) (Ext.refl _ _))
  replace HV3 := Lib.hid (HV3.out.go ((Kept.refl w17).alloc (.cells #[.slice A7 n7 c7, .slice B7 m7 d7, .int .i64 g7] 29)) (Ext.refl _ _))
  replace HV4 := Lib.hid (HV4.out.go ((Kept.refl w17).alloc (.cells #[.slice A7 n7 c7, .slice B7 m7 d7, .int .i64 g7] 29)) (Ext.refl _ _))
  replace HV5 := Lib.hid (HV5.out.go ((Kept.refl w17).alloc (.cells #[.slice A7 n7 c7, .slice B7 m7 d7, .int .i64 g7] 29)) (Ext.refl _ _))
  replace HV6 := Lib.hid (HV6.out.go ((Kept.refl w17).alloc (.cells #[.slice A7 n7 c7, .slice B7 m7 d7, .int .i64 g7] 29)) (Ext.refl _ _))
  replace HV7 := Lib.hid (HV7.out.go ((Kept.refl w17).alloc (.cells #[.slice A7 n7 c7, .slice B7 m7 d7, .int .i64 g7] 29)) (Ext.refl _ _))
  replace K := K.alloc (.cells #[.slice A7 n7 c7, .slice B7 m7 d7, .int .i64 g7] 29)
  generalize (w17.alloc (.cells #[.slice A7 n7 c7, .slice B7 m7 d7, .int .i64 g7] 29)) = w18 at *
  refine (rcop_any [] x _ nm uid tn _ (fun _ hk => by cases hk) HV0.out HOK.out HFEW.out).mono ?_
  rintro e w19 ⟨x4, rfl, hv, hk⟩
  replace OM := Lib.hid (OM.out.kept hk)
  replace OY := Lib.hid (OY.out.kept hk)
  replace OA := Lib.hid (OA.out.kept hk)
  replace OB := Lib.hid (OB.out.kept hk)
  replace OC := Lib.hid (OC.out.kept hk)
  replace OD := Lib.hid (OD.out.kept hk)
  replace OP := Lib.hid (OP.out.kept hk)
  replace OQ := Lib.hid (OQ.out.kept hk)
  replace OR := Lib.hid (OR.out.kept hk)
  replace HV0 := Lib.hid (HV0.out.go hk (Ext.refl _ _))
  replace HV1 := Lib.hid (HV1.out.go hk (Ext.refl _ _))
  replace HV2 := Lib.hid (HV2.out.go hk (Ext.refl _ _))
  replace HV3 := Lib.hid (HV3.out.go hk (Ext.refl _ _))
  replace HV4 := Lib.hid (HV4.out.go hk (Ext.refl _ _))
  replace HV5 := Lib.hid (HV5.out.go hk (Ext.refl _ _))
  replace HV6 := Lib.hid (HV6.out.go hk (Ext.refl _ _))
  replace HV7 := Lib.hid (HV7.out.go hk (Ext.refl _ _))
  replace K := K.trans hk
  rw [HR4.out] at hv ⊢
  dsimp only at hv ⊢
  clear hk
  obtain ⟨A8, c8, B8, d8, rfl⟩ := hv.form
  have HV8 := Lib.hid hv
  clear hv
  generalize y4.boxes.length = n8 at HV8 ⊢
  generalize y4.subs.length = m8 at HV8 ⊢
  generalize y4.given = g8 at HV8 ⊢
  have cM0 := OM.out.cell? 0
  have fM0 := OM.out.frozen 0
  have cM1 := OM.out.cell? 1
  have fM1 := OM.out.frozen 1
  have cM2 := OM.out.cell? 2
  have fM2 := OM.out.frozen 2
  have cM3 := OM.out.cell? 3
  have fM3 := OM.out.frozen 3
  simp only [List.getElem?_cons_zero, List.getElem?_cons_succ] at cM0 cM1 cM2 cM3
  obtain ⟨cY0, cY1, cY2, fY0, fY1, fY2⟩ := OY.out.three
  have zM19 := OM.out.lt
  have zY19 := OY.out.lt
  have zA19 := OA.out.lt
  have zB19 := OB.out.lt
  have zC19 := OC.out.lt
  have zD19 := OD.out.lt
  have zP19 := OP.out.lt
  have zQ19 := OQ.out.lt
  have zR19 := OR.out.lt
  have zK19 := K.size
  go_upto_region 12 with fail
  clear cM0 cM1 cM2 cM3 fM0 fM1 fM2 fM3 cY0 cY1 cY2 fY0 fY1 fY2
  replace OM := Lib.hid (OM.out.alloc (.cells #[.slice A8 n8 c8, .slice B8 m8 d8, .int .i64 g8] 29))
  replace OY := Lib.hid (OY.out.alloc (.cells #[.slice A8 n8 c8, .slice B8 m8 d8, .int .i64 g8] 29))
  replace OA := Lib.hid (OA.out.alloc (.cells #[.slice A8 n8 c8, .slice B8 m8 d8, .int .i64 g8] 29))
  replace OB := Lib.hid (OB.out.alloc (.cells #[.slice A8 n8 c8, .slice B8 m8 d8, .int .i64 g8] 29))
  replace OC := Lib.hid (OC.out.alloc (.cells #[.slice A8 n8 c8, .slice B8 m8 d8, .int .i64 g8] 29))
  replace OD := Lib.hid (OD.out.alloc (.cells #[.slice A8 n8 c8, .slice B8 m8 d8, .int .i64 g8] 29))
  replace OP := Lib.hid (OP.out.alloc (.cells #[.slice A8 n8 c8, .slice B8 m8 d8, .int .i64 g8] 29))
  replace OQ := Lib.hid (OQ.out.alloc (.cells #[.slice A8 n8 c8, .slice B8 m8 d8, .int .i64 g8] 29))
  replace OR := Lib.hid (OR.out.alloc (.cells #[.slice A8 n8 c8, .slice B8 m8 d8, .int .i64 g8] 29))
  have OS := Lib.hid (Own.new w19 29 [.slice A8 n8 c8, .slice B8 m8 d8, .int .i64 g8])
  replace HV0 := Lib.hid (HV0.out.go ((Kept.refl w19).alloc (.cells #[.slice A8 n8 c8, .slice B8 m8 d8, .int .i64 g8] 29)) (Ext.refl _ _))
  replace HV1 := Lib.hid (HV1.out.go ((Kept.refl w19).alloc (.cells #[.slice A8 n8 c8, .slice B8 m8 d8, .int .i64 g8] 29)) (Ext.refl _ _))
  replace HV2 := Lib.hid (HV2.out.go ((Kept.refl w19).alloc (.cells #[.slice A8 n8 c8, .slice B8 m8 d8, .int .i64 g8] 29)) (Ext.refl _ _))
  replace HV3 := Lib.hid (HV3.out.go ((Kept.refl w19).alloc (.cells #[.slice A8 n8 c8, .slice B8 m8 d8, .int .i64 g8] 29)) (Ext.refl _ _))
  replace HV4 := Lib.hid (HV4.out.go ((Kept.refl w19).alloc (.cells #[.slice A8 n8 c8, .slice B8 m8 d8, .int .i64 g8] 29)) (Ext.refl _ _))
  replace HV5 := Lib.hid (HV5.out.go ((Kept.refl w19).alloc (.cells #[.slice A8 n8 c8, .slice B8 m8 d8, .int .i64 g8] 29)) (Ext.refl _ _))
  replace HV6 := Lib.hid (HV6.out.go ((Kept.refl w19).alloc (.cells #[.slice A8 n8 c8, .slice B8 m8 d8, .int .i64 g8] 29)) (Ext.refl _ _))
  replace HV7 := Lib.hid (HV7.out.go ((Kept.refl w19).alloc (.cells #[.slice A8 n8 c8, .slice B8 m8 d8, .int .i64 g8] 29)) (Ext.refl _ _))
  replace HV8 := Lib.hid (HV8.out.go ((Kept.refl w19).alloc (.cells #[.slice A8 n8 c8, .slice B8 m8 d8, .int .i64 g8] 29)) (Ext.refl _ _))
  replace K := K.alloc (.cells #[.slice A8 n8 c8, .slice B8 m8 d8, .int .i64 g8] 29)
  generalize (w19.alloc (.cells #[.slice A8 n8 c8, .slice B8 m8 d8, .int .i64 g8] 29)) = w20 at *
  clear HV0
  have CA0 : ∀ W', Kept w20 W' → W'.cell? ⟨w5.heap.size, 0, none⟩ = some (.slice A1 n1 c1) := fun W' hk => (OA.out.kept hk).cell? 0
  have CA1 : ∀ W', Kept w20 W' → W'.cell? ⟨w5.heap.size, 1, none⟩ = some (.slice B1 m1 d1) := fun W' hk => (OA.out.kept hk).cell? 1
  have CA2 : ∀ W', Kept w20 W' → W'.cell? ⟨w5.heap.size, 2, none⟩ = some (.int .i64 g1) := fun W' hk => (OA.out.kept hk).cell? 2
  have CB0 : ∀ W', Kept w20 W' → W'.cell? ⟨w7.heap.size, 0, none⟩ = some (.slice A2 n2 c2) := fun W' hk => (OB.out.kept hk).cell? 0
  have CB1 : ∀ W', Kept w20 W' → W'.cell? ⟨w7.heap.size, 1, none⟩ = some (.slice B2 m2 d2) := fun W' hk => (OB.out.kept hk).cell? 1
  have CB2 : ∀ W', Kept w20 W' → W'.cell? ⟨w7.heap.size, 2, none⟩ = some (.int .i64 g2) := fun W' hk => (OB.out.kept hk).cell? 2
  have CP0 : ∀ W', Kept w20 W' → W'.cell? ⟨w13.heap.size, 0, none⟩ = some (.slice A5 n5 c5) := fun W' hk => (OP.out.kept hk).cell? 0
  have CP1 : ∀ W', Kept w20 W' → W'.cell? ⟨w13.heap.size, 1, none⟩ = some (.slice B5 m5 d5) := fun W' hk => (OP.out.kept hk).cell? 1
  have CP2 : ∀ W', Kept w20 W' → W'.cell? ⟨w13.heap.size, 2, none⟩ = some (.int .i64 g5) := fun W' hk => (OP.out.kept hk).cell? 2
  have CQ0 : ∀ W', Kept w20 W' → W'.cell? ⟨w15.heap.size, 0, none⟩ = some (.slice A6 n6 c6) := fun W' hk => (OQ.out.kept hk).cell? 0
  have CQ1 : ∀ W', Kept w20 W' → W'.cell? ⟨w15.heap.size, 1, none⟩ = some (.slice B6 m6 d6) := fun W' hk => (OQ.out.kept hk).cell? 1
  have CQ2 : ∀ W', Kept w20 W' → W'.cell? ⟨w15.heap.size, 2, none⟩ = some (.int .i64 g6) := fun W' hk => (OQ.out.kept hk).cell? 2
  refine wp_region_Z (S := fun W' => Kept w20 W') (Z := []) (by kernel_rfl) ((Kept.refl _).drew) (fun hHeld => ?_)
  have kr := (Kept.refl w20).drew
  have Kr := K
  have zr := K.size
  have OAr := OA
  have OBr := OB
  have OCr := OC
  have ODr := OD
  have OPr := OP
  have OQr := OQ
  have ORr := OR
  have OSr := OS
  have HV1r := HV1
  have HV2r := HV2
  have HV3r := HV3
  have HV4r := HV4
  have HV5r := HV5
  have HV6r := HV6
  have HV7r := HV7
  have HV8r := HV8
  replace OA := Lib.hid (OAr.out.kept kr)
  replace OB := Lib.hid (OBr.out.kept kr)
  replace OC := Lib.hid (OCr.out.kept kr)
  replace OD := Lib.hid (ODr.out.kept kr)
  replace OP := Lib.hid (OPr.out.kept kr)
  replace OQ := Lib.hid (OQr.out.kept kr)
  replace OR := Lib.hid (ORr.out.kept kr)
  replace OS := Lib.hid (OSr.out.kept kr)
  replace HV1 := Lib.hid (HV1r.out.go kr (Ext.refl _ _))
  replace HV2 := Lib.hid (HV2r.out.go kr (Ext.refl _ _))
  replace HV3 := Lib.hid (HV3r.out.go kr (Ext.refl _ _))
  replace HV4 := Lib.hid (HV4r.out.go kr (Ext.refl _ _))
  replace HV5 := Lib.hid (HV5r.out.go kr (Ext.refl _ _))
  replace HV6 := Lib.hid (HV6r.out.go kr (Ext.refl _ _))
  replace HV7 := Lib.hid (HV7r.out.go kr (Ext.refl _ _))
  replace HV8 := Lib.hid (HV8r.out.go kr (Ext.refl _ _))
  replace K := Kr.trans kr
  generalize w20.drew = w21 at *
  refine wpAnyZ_take (i := 0) (oi := { dst := some 124, op := Op.load 25 (Operand.tmp 12), type := 25, pos := "law.go:95", after := #[], guard := none }) (v := ?_) rfl (by kernel_rfl) (fun _ _ _ h => h) (Or.inl ⟨by rfl, ?_⟩) (by assumption) ?_
  rotate_left
  · (intro wz hSw; (try dsimp only at hSw); go_simp; (try with_reducible rfl))
  (try simp only [Act.put, List.setIfInBounds_toArray, List.set_cons_zero, List.set_cons_succ])
  refine wpAnyZ_take (i := 2) (oi := { dst := some 126, op := Op.load 29 (Operand.tmp 22), type := 29, pos := "law.go:95", after := #[], guard := none }) (v := ?_) rfl (by kernel_rfl) (fun _ _ _ h => h) (Or.inl ⟨by rfl, ?_⟩) (by assumption) ?_
  rotate_left
  · (intro wz hSw; (try dsimp only at hSw); go_simp; (try with_reducible rfl))
  (try simp only [Act.put, List.setIfInBounds_toArray, List.set_cons_zero, List.set_cons_succ])
  refine wpAnyZ_ready (rs := [1]) (by kernel_rfl) (by simp) ?_
  refine AllReadyZ.cons (o := { dst := some 125, op := Op.call { callee := Callee.value (Operand.func 9), args := #[Operand.tmp 124], argTypes := #[25] }, type := 29, pos := "law.go:95", after := #[{ on := 0, ground := Ground.data }], guard := none }) rfl (fun KK hKK => ?_) AllReadyZ.nil
  go_simp
  refine (ref_same y1 _ w21 HV1.out HRM1.out).mono ?_
  rintro e w22 ⟨z1, rfl, hn, hk⟩
  clear hHeld
  replace kr := kr.trans hk
  replace OA := Lib.hid (OAr.out.kept kr)
  replace OB := Lib.hid (OBr.out.kept kr)
  replace OC := Lib.hid (OCr.out.kept kr)
  replace OD := Lib.hid (ODr.out.kept kr)
  replace OP := Lib.hid (OPr.out.kept kr)
  replace OQ := Lib.hid (OQr.out.kept kr)
  replace OR := Lib.hid (ORr.out.kept kr)
  replace OS := Lib.hid (OSr.out.kept kr)
  replace HV1 := Lib.hid (HV1r.out.go kr (Ext.refl _ _))
  replace HV2 := Lib.hid (HV2r.out.go kr (Ext.refl _ _))
  replace HV3 := Lib.hid (HV3r.out.go kr (Ext.refl _ _))
  replace HV4 := Lib.hid (HV4r.out.go kr (Ext.refl _ _))
  replace HV5 := Lib.hid (HV5r.out.go kr (Ext.refl _ _))
  replace HV6 := Lib.hid (HV6r.out.go kr (Ext.refl _ _))
  replace HV7 := Lib.hid (HV7r.out.go kr (Ext.refl _ _))
  replace HV8 := Lib.hid (HV8r.out.go kr (Ext.refl _ _))
  replace K := Kr.trans kr
  have Hz1 := Lib.hid hn
  obtain ⟨z1A, z1c, z1B, z1d, rfl⟩ := hn.form
  clear hn
  generalize y1.boxes.length = z1n at Hz1 ⊢
  generalize y1.subs.length = z1m at Hz1 ⊢
  generalize y1.given = z1g at Hz1 ⊢
  clear hk
  go_wp2_with fail
  refine hKK.out _ _ ?_ (fun hHeld => ?_)
  · exact kr
  clear hKK KK
  (try simp only [Act.put, List.setIfInBounds_toArray, List.set_cons_zero, List.set_cons_succ])
  refine wpAnyZ_ready (rs := [3]) (by kernel_rfl) (by simp) ?_
  refine AllReadyZ.cons (o := { dst := some 127, op := Op.call { callee := Callee.value (Operand.func 14), args := #[Operand.tmp 125, Operand.tmp 126], argTypes := #[29, 29] }, type := 4, pos := "law.go:95", after := #[{ on := 1, ground := Ground.data }, { on := 2, ground := Ground.data }, { on := 1, ground := Ground.chain }], guard := none }) rfl (fun KK hKK => ?_) AllReadyZ.nil
  go_simp
  refine (equal_any y1 _ _ w22 Hz1.out HV5.out).mono ?_
  rintro e w23 ⟨rfl, hk⟩
  clear hHeld
  replace kr := kr.trans hk
  replace OA := Lib.hid (OAr.out.kept kr)
  replace OB := Lib.hid (OBr.out.kept kr)
  replace OC := Lib.hid (OCr.out.kept kr)
  replace OD := Lib.hid (ODr.out.kept kr)
  replace OP := Lib.hid (OPr.out.kept kr)
  replace OQ := Lib.hid (OQr.out.kept kr)
  replace OR := Lib.hid (ORr.out.kept kr)
  replace OS := Lib.hid (OSr.out.kept kr)
  replace HV1 := Lib.hid (HV1r.out.go kr (Ext.refl _ _))
  replace HV2 := Lib.hid (HV2r.out.go kr (Ext.refl _ _))
  replace HV3 := Lib.hid (HV3r.out.go kr (Ext.refl _ _))
  replace HV4 := Lib.hid (HV4r.out.go kr (Ext.refl _ _))
  replace HV5 := Lib.hid (HV5r.out.go kr (Ext.refl _ _))
  replace HV6 := Lib.hid (HV6r.out.go kr (Ext.refl _ _))
  replace HV7 := Lib.hid (HV7r.out.go kr (Ext.refl _ _))
  replace HV8 := Lib.hid (HV8r.out.go kr (Ext.refl _ _))
  replace K := Kr.trans kr
  clear Hz1
  clear hk
  go_wp2_with fail
  refine hKK.out _ _ ?_ (fun hHeld => ?_)
  · exact kr
  clear hKK KK
  (try simp only [Act.put, List.setIfInBounds_toArray, List.set_cons_zero, List.set_cons_succ])
  refine wpAnyZ_take (i := 4) (oi := { dst := some 128, op := Op.unOp UnOp.not 4 (Operand.tmp 127), type := 4, pos := "law.go:95", after := #[{ on := 3, ground := Ground.data }], guard := none }) (v := ?_) rfl (by kernel_rfl) (fun _ _ _ h => h) (Or.inl ⟨by rfl, ?_⟩) (by assumption) ?_
  rotate_left
  · (intro wz hSw; (try dsimp only at hSw); go_simp; (try with_reducible rfl))
  (try simp only [Act.put, List.setIfInBounds_toArray, List.set_cons_zero, List.set_cons_succ])
  refine wpAnyZ_take (i := 5) (oi := { dst := some 129, op := Op.move (Operand.tmp 128), type := 4, pos := "law.go:95", after := #[{ on := 4, ground := Ground.data }, { on := 3, ground := Ground.chain }], guard := none }) (v := ?_) rfl (by kernel_rfl) (fun _ _ _ h => h) (Or.inl ⟨by rfl, ?_⟩) (by assumption) ?_
  rotate_left
  · (intro wz hSw; (try dsimp only at hSw); go_simp; (try with_reducible rfl))
  (try simp only [Act.put, List.setIfInBounds_toArray, List.set_cons_zero, List.set_cons_succ])
  refine wpAnyZ_take (i := 6) (oi := { dst := some 130, op := Op.move (Operand.tmp 13), type := 3, pos := "law.go:95", after := #[{ on := 5, ground := Ground.guard }], guard := some (5, false) }) (v := ?_) rfl (by kernel_rfl) (fun _ _ _ h => h) (Or.inl ⟨by rfl, ?_⟩) (by assumption) ?_
  rotate_left
  · (intro wz hSw; (try dsimp only at hSw); go_simp; (try with_reducible rfl))
  (try simp only [Act.put, List.setIfInBounds_toArray, List.set_cons_zero, List.set_cons_succ])
  refine wpAnyZ_take (i := 7) (oi := { dst := some 131, op := Op.move (Operand.tmp 23), type := 3, pos := "law.go:95", after := #[{ on := 5, ground := Ground.guard }], guard := some (5, false) }) (v := ?_) rfl (by kernel_rfl) (fun _ _ _ h => h) (Or.inl ⟨by rfl, ?_⟩) (by assumption) ?_
  rotate_left
  · (intro wz hSw; (try dsimp only at hSw); go_simp; (try with_reducible rfl))
  (try simp only [Act.put, List.setIfInBounds_toArray, List.set_cons_zero, List.set_cons_succ])
  refine wpAnyZ_take (i := 8) (oi := { dst := some 132, op := Op.binOp BinOp.neq 3 (Operand.tmp 130) (Operand.tmp 131) 3, type := 4, pos := "law.go:95", after := #[{ on := 6, ground := Ground.data }, { on := 7, ground := Ground.data }, { on := 5, ground := Ground.guard }], guard := some (5, false) }) (v := ?_) rfl (by kernel_rfl) (fun _ _ _ h => h) (Or.inl ⟨by rfl, ?_⟩) (by assumption) ?_
  rotate_left
  · (intro wz hSw; (try dsimp only at hSw); go_simp; (try with_reducible rfl))
  (try simp only [Act.put, List.setIfInBounds_toArray, List.set_cons_zero, List.set_cons_succ])
  refine wpAnyZ_take (i := 9) (oi := { dst := some 133, op := Op.pick (Operand.tmp 129) (Operand.const (Value.bool true)) (Operand.tmp 132), type := 4, pos := "law.go:95", after := #[{ on := 5, ground := Ground.data }, { on := 8, ground := Ground.data }], guard := none }) (v := ?_) rfl (by kernel_rfl) (fun _ _ _ h => h) (Or.inl ⟨by rfl, ?_⟩) (by assumption) ?_
  rotate_left
  · (intro wz hSw; (try dsimp only at hSw); go_simp; (try with_reducible rfl))
  (try simp only [Act.put, List.setIfInBounds_toArray, List.set_cons_zero, List.set_cons_succ])
  refine wpAnyZ_take (i := 10) (oi := { dst := some 134, op := Op.move (Operand.tmp 133), type := 4, pos := "law.go:95", after := #[{ on := 9, ground := Ground.data }, { on := 5, ground := Ground.chain }], guard := none }) (v := ?_) rfl (by kernel_rfl) (fun _ _ _ h => h) (Or.inl ⟨by rfl, ?_⟩) (by assumption) ?_
  rotate_left
  · (intro wz hSw; (try dsimp only at hSw); go_simp; (try with_reducible rfl))
  (try simp only [Act.put, List.setIfInBounds_toArray, List.set_cons_zero, List.set_cons_succ])
  refine wpAnyZ_take (i := 11) (oi := { dst := some 135, op := Op.move (Operand.tmp 14), type := 32, pos := "law.go:95", after := #[{ on := 10, ground := Ground.guard }], guard := some (10, false) }) (v := ?_) rfl (by kernel_rfl) (fun _ _ _ h => h) (Or.inl ⟨by rfl, ?_⟩) (by assumption) ?_
  rotate_left
  · (intro wz hSw; (try dsimp only at hSw); go_simp; (try with_reducible rfl))
  (try simp only [Act.put, List.setIfInBounds_toArray, List.set_cons_zero, List.set_cons_succ])
  refine wpAnyZ_take (i := 12) (oi := { dst := some 136, op := Op.move (Operand.tmp 24), type := 3, pos := "law.go:95", after := #[{ on := 10, ground := Ground.guard }], guard := some (10, false) }) (v := ?_) rfl (by kernel_rfl) (fun _ _ _ h => h) (Or.inl ⟨by rfl, ?_⟩) (by assumption) ?_
  rotate_left
  · (intro wz hSw; (try dsimp only at hSw); go_simp; (try with_reducible rfl))
  (try simp only [Act.put, List.setIfInBounds_toArray, List.set_cons_zero, List.set_cons_succ])
  refine wpAnyZ_take (i := 13) (oi := { dst := some 137, op := Op.binOp BinOp.neq 3 (Operand.tmp 135) (Operand.tmp 136) 3, type := 4, pos := "law.go:95", after := #[{ on := 11, ground := Ground.data }, { on := 12, ground := Ground.data }, { on := 10, ground := Ground.guard }], guard := some (10, false) }) (v := ?_) rfl (by kernel_rfl) (fun _ _ _ h => h) (Or.inl ⟨by rfl, ?_⟩) (by assumption) ?_
  rotate_left
  · (intro wz hSw; (try dsimp only at hSw); go_simp; (try with_reducible rfl))
  (try simp only [Act.put, List.setIfInBounds_toArray, List.set_cons_zero, List.set_cons_succ])
  refine wpAnyZ_take (i := 14) (oi := { dst := some 138, op := Op.pick (Operand.tmp 134) (Operand.const (Value.bool true)) (Operand.tmp 137), type := 4, pos := "law.go:95", after := #[{ on := 10, ground := Ground.data }, { on := 13, ground := Ground.data }], guard := none }) (v := ?_) rfl (by kernel_rfl) (fun _ _ _ h => h) (Or.inl ⟨by rfl, ?_⟩) (by assumption) ?_
  rotate_left
  · (intro wz hSw; (try dsimp only at hSw); go_simp; (try with_reducible rfl))
  (try simp only [Act.put, List.setIfInBounds_toArray, List.set_cons_zero, List.set_cons_succ])
  refine wpAnyZ_take (i := 15) (oi := { dst := some 139, op := Op.move (Operand.tmp 138), type := 4, pos := "law.go:95", after := #[{ on := 14, ground := Ground.data }, { on := 10, ground := Ground.chain }], guard := none }) (v := ?_) rfl (by kernel_rfl) (fun _ _ _ h => h) (Or.inl ⟨by rfl, ?_⟩) (by assumption) ?_
  rotate_left
  · (intro wz hSw; (try dsimp only at hSw); go_simp; (try with_reducible rfl))
  (try simp only [Act.put, List.setIfInBounds_toArray, List.set_cons_zero, List.set_cons_succ])
  refine wpAnyZ_take (i := 16) (oi := { dst := some 140, op := Op.load 25 (Operand.tmp 15), type := 25, pos := "law.go:95", after := #[{ on := 15, ground := Ground.guard }], guard := some (15, false) }) (v := ?_) rfl (by kernel_rfl) (fun _ _ _ h => h) (Or.inl ⟨by rfl, ?_⟩) (by assumption) ?_
  rotate_left
  · (intro wz hSw; (try dsimp only at hSw); go_simp; (try with_reducible rfl))
  (try simp only [Act.put, List.setIfInBounds_toArray, List.set_cons_zero, List.set_cons_succ])
  refine wpAnyZ_take (i := 18) (oi := { dst := some 142, op := Op.load 29 (Operand.tmp 25), type := 29, pos := "law.go:95", after := #[{ on := 15, ground := Ground.guard }], guard := some (15, false) }) (v := ?_) rfl (by kernel_rfl) (fun _ _ _ h => h) (Or.inl ⟨by rfl, ?_⟩) (by assumption) ?_
  rotate_left
  · (intro wz hSw; (try dsimp only at hSw); go_simp; (try with_reducible rfl))
  (try simp only [Act.put, List.setIfInBounds_toArray, List.set_cons_zero, List.set_cons_succ])
  refine wpAnyZ_ready (rs := [17]) (by kernel_rfl) (by simp) ?_
  refine AllReadyZ.cons (o := { dst := some 141, op := Op.call { callee := Callee.value (Operand.func 9), args := #[Operand.tmp 140], argTypes := #[25] }, type := 29, pos := "law.go:95", after := #[{ on := 16, ground := Ground.data }, { on := 15, ground := Ground.chain }, { on := 15, ground := Ground.guard }], guard := some (15, false) }) rfl (fun KK hKK => ?_) AllReadyZ.nil
  go_simp
  refine (ref_same y2 _ w23 HV2.out HRM2.out).mono ?_
  rintro e w24 ⟨z2, rfl, hn, hk⟩
  clear hHeld
  replace kr := kr.trans hk
  replace OA := Lib.hid (OAr.out.kept kr)
  replace OB := Lib.hid (OBr.out.kept kr)
  replace OC := Lib.hid (OCr.out.kept kr)
  replace OD := Lib.hid (ODr.out.kept kr)
  replace OP := Lib.hid (OPr.out.kept kr)
  replace OQ := Lib.hid (OQr.out.kept kr)
  replace OR := Lib.hid (ORr.out.kept kr)
  replace OS := Lib.hid (OSr.out.kept kr)
  replace HV1 := Lib.hid (HV1r.out.go kr (Ext.refl _ _))
  replace HV2 := Lib.hid (HV2r.out.go kr (Ext.refl _ _))
  replace HV3 := Lib.hid (HV3r.out.go kr (Ext.refl _ _))
  replace HV4 := Lib.hid (HV4r.out.go kr (Ext.refl _ _))
  replace HV5 := Lib.hid (HV5r.out.go kr (Ext.refl _ _))
  replace HV6 := Lib.hid (HV6r.out.go kr (Ext.refl _ _))
  replace HV7 := Lib.hid (HV7r.out.go kr (Ext.refl _ _))
  replace HV8 := Lib.hid (HV8r.out.go kr (Ext.refl _ _))
  replace K := Kr.trans kr
  have Hz2 := Lib.hid hn
  obtain ⟨z2A, z2c, z2B, z2d, rfl⟩ := hn.form
  clear hn
  generalize y2.boxes.length = z2n at Hz2 ⊢
  generalize y2.subs.length = z2m at Hz2 ⊢
  generalize y2.given = z2g at Hz2 ⊢
  clear hk
  go_wp2_with fail
  refine hKK.out _ _ ?_ (fun hHeld => ?_)
  · exact kr
  clear hKK KK
  (try simp only [Act.put, List.setIfInBounds_toArray, List.set_cons_zero, List.set_cons_succ])
  refine wpAnyZ_ready (rs := [19]) (by kernel_rfl) (by simp) ?_
  refine AllReadyZ.cons (o := { dst := some 143, op := Op.call { callee := Callee.value (Operand.func 14), args := #[Operand.tmp 141, Operand.tmp 142], argTypes := #[29, 29] }, type := 4, pos := "law.go:95", after := #[{ on := 17, ground := Ground.data }, { on := 18, ground := Ground.data }, { on := 17, ground := Ground.chain }, { on := 15, ground := Ground.guard }], guard := some (15, false) }) rfl (fun KK hKK => ?_) AllReadyZ.nil
  go_simp
  refine (equal_any y2 _ _ w24 Hz2.out HV6.out).mono ?_
  rintro e w25 ⟨rfl, hk⟩
  clear hHeld
  replace kr := kr.trans hk
  replace OA := Lib.hid (OAr.out.kept kr)
  replace OB := Lib.hid (OBr.out.kept kr)
  replace OC := Lib.hid (OCr.out.kept kr)
  replace OD := Lib.hid (ODr.out.kept kr)
  replace OP := Lib.hid (OPr.out.kept kr)
  replace OQ := Lib.hid (OQr.out.kept kr)
  replace OR := Lib.hid (ORr.out.kept kr)
  replace OS := Lib.hid (OSr.out.kept kr)
  replace HV1 := Lib.hid (HV1r.out.go kr (Ext.refl _ _))
  replace HV2 := Lib.hid (HV2r.out.go kr (Ext.refl _ _))
  replace HV3 := Lib.hid (HV3r.out.go kr (Ext.refl _ _))
  replace HV4 := Lib.hid (HV4r.out.go kr (Ext.refl _ _))
  replace HV5 := Lib.hid (HV5r.out.go kr (Ext.refl _ _))
  replace HV6 := Lib.hid (HV6r.out.go kr (Ext.refl _ _))
  replace HV7 := Lib.hid (HV7r.out.go kr (Ext.refl _ _))
  replace HV8 := Lib.hid (HV8r.out.go kr (Ext.refl _ _))
  replace K := Kr.trans kr
  clear Hz2
  clear hk
  go_wp2_with fail
  refine hKK.out _ _ ?_ (fun hHeld => ?_)
  · exact kr
  clear hKK KK
  (try simp only [Act.put, List.setIfInBounds_toArray, List.set_cons_zero, List.set_cons_succ])
  refine wpAnyZ_take (i := 20) (oi := { dst := some 144, op := Op.unOp UnOp.not 4 (Operand.tmp 143), type := 4, pos := "law.go:95", after := #[{ on := 19, ground := Ground.data }, { on := 15, ground := Ground.guard }], guard := some (15, false) }) (v := ?_) rfl (by kernel_rfl) (fun _ _ _ h => h) (Or.inl ⟨by rfl, ?_⟩) (by assumption) ?_
  rotate_left
  · (intro wz hSw; (try dsimp only at hSw); go_simp; (try with_reducible rfl))
  (try simp only [Act.put, List.setIfInBounds_toArray, List.set_cons_zero, List.set_cons_succ])
  refine wpAnyZ_take (i := 21) (oi := { dst := some 145, op := Op.pick (Operand.tmp 139) (Operand.const (Value.bool true)) (Operand.tmp 144), type := 4, pos := "law.go:95", after := #[{ on := 15, ground := Ground.data }, { on := 20, ground := Ground.data }], guard := none }) (v := ?_) rfl (by kernel_rfl) (fun _ _ _ h => h) (Or.inl ⟨by rfl, ?_⟩) (by assumption) ?_
  rotate_left
  · (intro wz hSw; (try dsimp only at hSw); go_simp; (try with_reducible rfl))
  (try simp only [Act.put, List.setIfInBounds_toArray, List.set_cons_zero, List.set_cons_succ])
  refine wpAnyZ_take (i := 22) (oi := { dst := some 146, op := Op.move (Operand.tmp 145), type := 4, pos := "law.go:95", after := #[{ on := 21, ground := Ground.data }, { on := 19, ground := Ground.chain }], guard := none }) (v := ?_) rfl (by kernel_rfl) (fun _ _ _ h => h) (Or.inl ⟨by rfl, ?_⟩) (by assumption) ?_
  rotate_left
  · (intro wz hSw; (try dsimp only at hSw); go_simp; (try with_reducible rfl))
  (try simp only [Act.put, List.setIfInBounds_toArray, List.set_cons_zero, List.set_cons_succ])
  refine wpAnyZ_take (i := 23) (oi := { dst := some 147, op := Op.move (Operand.tmp 16), type := 32, pos := "law.go:95", after := #[{ on := 22, ground := Ground.guard }], guard := some (22, false) }) (v := ?_) rfl (by kernel_rfl) (fun _ _ _ h => h) (Or.inl ⟨by rfl, ?_⟩) (by assumption) ?_
  rotate_left
  · (intro wz hSw; (try dsimp only at hSw); go_simp; (try with_reducible rfl))
  (try simp only [Act.put, List.setIfInBounds_toArray, List.set_cons_zero, List.set_cons_succ])
  refine wpAnyZ_take (i := 24) (oi := { dst := some 148, op := Op.move (Operand.tmp 26), type := 3, pos := "law.go:95", after := #[{ on := 22, ground := Ground.guard }], guard := some (22, false) }) (v := ?_) rfl (by kernel_rfl) (fun _ _ _ h => h) (Or.inl ⟨by rfl, ?_⟩) (by assumption) ?_
  rotate_left
  · (intro wz hSw; (try dsimp only at hSw); go_simp; (try with_reducible rfl))
  (try simp only [Act.put, List.setIfInBounds_toArray, List.set_cons_zero, List.set_cons_succ])
  refine wpAnyZ_take (i := 25) (oi := { dst := some 149, op := Op.binOp BinOp.neq 3 (Operand.tmp 147) (Operand.tmp 148) 3, type := 4, pos := "law.go:95", after := #[{ on := 23, ground := Ground.data }, { on := 24, ground := Ground.data }, { on := 22, ground := Ground.guard }], guard := some (22, false) }) (v := ?_) rfl (by kernel_rfl) (fun _ _ _ h => h) (Or.inl ⟨by rfl, ?_⟩) (by assumption) ?_
  rotate_left
  · (intro wz hSw; (try dsimp only at hSw); go_simp; (try with_reducible rfl))
  (try simp only [Act.put, List.setIfInBounds_toArray, List.set_cons_zero, List.set_cons_succ])
  refine wpAnyZ_take (i := 26) (oi := { dst := some 150, op := Op.pick (Operand.tmp 146) (Operand.const (Value.bool true)) (Operand.tmp 149), type := 4, pos := "law.go:95", after := #[{ on := 22, ground := Ground.data }, { on := 25, ground := Ground.data }], guard := none }) (v := ?_) rfl (by kernel_rfl) (fun _ _ _ h => h) (Or.inl ⟨by rfl, ?_⟩) (by assumption) ?_
  rotate_left
  · (intro wz hSw; (try dsimp only at hSw); go_simp; (try with_reducible rfl))
  (try simp only [Act.put, List.setIfInBounds_toArray, List.set_cons_zero, List.set_cons_succ])
  refine wpAnyZ_done (by kernel_rfl) ?_ _
  clear CA0 CA1 CA2 CB0 CB1 CB2 CP0 CP1 CP2 CQ0 CQ1 CQ2 OAr OBr OCr ODr OPr OQr ORr OSr HV1r HV2r HV3r HV4r HV5r HV6r HV7r HV8r Kr zr hHeld kr
  clear HV1
  clear HV2
  clear HV5
  clear HV6
  go_wp2_with fail
  have CC0 : ∀ W', Kept w25 W' → W'.cell? ⟨w9.heap.size, 0, none⟩ = some (.slice A3 n3 c3) := fun W' hk => (OC.out.kept hk).cell? 0
  have CC1 : ∀ W', Kept w25 W' → W'.cell? ⟨w9.heap.size, 1, none⟩ = some (.slice B3 m3 d3) := fun W' hk => (OC.out.kept hk).cell? 1
  have CC2 : ∀ W', Kept w25 W' → W'.cell? ⟨w9.heap.size, 2, none⟩ = some (.int .i64 g3) := fun W' hk => (OC.out.kept hk).cell? 2
  have CD0 : ∀ W', Kept w25 W' → W'.cell? ⟨w11.heap.size, 0, none⟩ = some (.slice A4 n4 c4) := fun W' hk => (OD.out.kept hk).cell? 0
  have CD1 : ∀ W', Kept w25 W' → W'.cell? ⟨w11.heap.size, 1, none⟩ = some (.slice B4 m4 d4) := fun W' hk => (OD.out.kept hk).cell? 1
  have CD2 : ∀ W', Kept w25 W' → W'.cell? ⟨w11.heap.size, 2, none⟩ = some (.int .i64 g4) := fun W' hk => (OD.out.kept hk).cell? 2
  have CR0 : ∀ W', Kept w25 W' → W'.cell? ⟨w17.heap.size, 0, none⟩ = some (.slice A7 n7 c7) := fun W' hk => (OR.out.kept hk).cell? 0
  have CR1 : ∀ W', Kept w25 W' → W'.cell? ⟨w17.heap.size, 1, none⟩ = some (.slice B7 m7 d7) := fun W' hk => (OR.out.kept hk).cell? 1
  have CR2 : ∀ W', Kept w25 W' → W'.cell? ⟨w17.heap.size, 2, none⟩ = some (.int .i64 g7) := fun W' hk => (OR.out.kept hk).cell? 2
  have CS0 : ∀ W', Kept w25 W' → W'.cell? ⟨w19.heap.size, 0, none⟩ = some (.slice A8 n8 c8) := fun W' hk => (OS.out.kept hk).cell? 0
  have CS1 : ∀ W', Kept w25 W' → W'.cell? ⟨w19.heap.size, 1, none⟩ = some (.slice B8 m8 d8) := fun W' hk => (OS.out.kept hk).cell? 1
  have CS2 : ∀ W', Kept w25 W' → W'.cell? ⟨w19.heap.size, 2, none⟩ = some (.int .i64 g8) := fun W' hk => (OS.out.kept hk).cell? 2
  refine wp_region_Z (S := fun W' => Kept w25 W') (Z := []) (by kernel_rfl) ((Kept.refl _).drew) (fun hHeld => ?_)
  have kr := (Kept.refl w25).drew
  have Kr := K
  have zr := K.size
  have OCr := OC
  have ODr := OD
  have ORr := OR
  have OSr := OS
  have HV3r := HV3
  have HV4r := HV4
  have HV7r := HV7
  have HV8r := HV8
  replace OC := Lib.hid (OCr.out.kept kr)
  replace OD := Lib.hid (ODr.out.kept kr)
  replace OR := Lib.hid (ORr.out.kept kr)
  replace OS := Lib.hid (OSr.out.kept kr)
  replace HV3 := Lib.hid (HV3r.out.go kr (Ext.refl _ _))
  replace HV4 := Lib.hid (HV4r.out.go kr (Ext.refl _ _))
  replace HV7 := Lib.hid (HV7r.out.go kr (Ext.refl _ _))
  replace HV8 := Lib.hid (HV8r.out.go kr (Ext.refl _ _))
  replace K := Kr.trans kr
  generalize w25.drew = w26 at *
  refine wpAnyZ_take (i := 0) (oi := { dst := some 151, op := Op.load 25 (Operand.tmp 17), type := 25, pos := "law.go:98", after := #[], guard := none }) (v := ?_) rfl (by kernel_rfl) (fun _ _ _ h => h) (Or.inl ⟨by rfl, ?_⟩) (by assumption) ?_
  rotate_left
  · (intro wz hSw; (try dsimp only at hSw); go_simp; (try with_reducible rfl))
  (try simp only [Act.put, List.setIfInBounds_toArray, List.set_cons_zero, List.set_cons_succ])
  refine wpAnyZ_take (i := 2) (oi := { dst := some 153, op := Op.load 29 (Operand.tmp 27), type := 29, pos := "law.go:98", after := #[], guard := none }) (v := ?_) rfl (by kernel_rfl) (fun _ _ _ h => h) (Or.inl ⟨by rfl, ?_⟩) (by assumption) ?_
  rotate_left
  · (intro wz hSw; (try dsimp only at hSw); go_simp; (try with_reducible rfl))
  (try simp only [Act.put, List.setIfInBounds_toArray, List.set_cons_zero, List.set_cons_succ])
  refine wpAnyZ_ready (rs := [1]) (by kernel_rfl) (by simp) ?_
  refine AllReadyZ.cons (o := { dst := some 152, op := Op.call { callee := Callee.value (Operand.func 9), args := #[Operand.tmp 151], argTypes := #[25] }, type := 29, pos := "law.go:98", after := #[{ on := 0, ground := Ground.data }], guard := none }) rfl (fun KK hKK => ?_) AllReadyZ.nil
  go_simp
  refine (ref_same y3 _ w26 HV3.out HRM3.out).mono ?_
  rintro e w27 ⟨z3, rfl, hn, hk⟩
  clear hHeld
  replace kr := kr.trans hk
  replace OC := Lib.hid (OCr.out.kept kr)
  replace OD := Lib.hid (ODr.out.kept kr)
  replace OR := Lib.hid (ORr.out.kept kr)
  replace OS := Lib.hid (OSr.out.kept kr)
  replace HV3 := Lib.hid (HV3r.out.go kr (Ext.refl _ _))
  replace HV4 := Lib.hid (HV4r.out.go kr (Ext.refl _ _))
  replace HV7 := Lib.hid (HV7r.out.go kr (Ext.refl _ _))
  replace HV8 := Lib.hid (HV8r.out.go kr (Ext.refl _ _))
  replace K := Kr.trans kr
  have Hz3 := Lib.hid hn
  obtain ⟨z3A, z3c, z3B, z3d, rfl⟩ := hn.form
  clear hn
  generalize y3.boxes.length = z3n at Hz3 ⊢
  generalize y3.subs.length = z3m at Hz3 ⊢
  generalize y3.given = z3g at Hz3 ⊢
  clear hk
  go_wp2_with fail
  refine hKK.out _ _ ?_ (fun hHeld => ?_)
  · exact kr
  clear hKK KK
  (try simp only [Act.put, List.setIfInBounds_toArray, List.set_cons_zero, List.set_cons_succ])
  refine wpAnyZ_ready (rs := [3]) (by kernel_rfl) (by simp) ?_
  refine AllReadyZ.cons (o := { dst := some 154, op := Op.call { callee := Callee.value (Operand.func 14), args := #[Operand.tmp 152, Operand.tmp 153], argTypes := #[29, 29] }, type := 4, pos := "law.go:98", after := #[{ on := 1, ground := Ground.data }, { on := 2, ground := Ground.data }, { on := 1, ground := Ground.chain }], guard := none }) rfl (fun KK hKK => ?_) AllReadyZ.nil
  go_simp
  refine (equal_any y3 _ _ w27 Hz3.out HV7.out).mono ?_
  rintro e w28 ⟨rfl, hk⟩
  clear hHeld
  replace kr := kr.trans hk
  replace OC := Lib.hid (OCr.out.kept kr)
  replace OD := Lib.hid (ODr.out.kept kr)
  replace OR := Lib.hid (ORr.out.kept kr)
  replace OS := Lib.hid (OSr.out.kept kr)
  replace HV3 := Lib.hid (HV3r.out.go kr (Ext.refl _ _))
  replace HV4 := Lib.hid (HV4r.out.go kr (Ext.refl _ _))
  replace HV7 := Lib.hid (HV7r.out.go kr (Ext.refl _ _))
  replace HV8 := Lib.hid (HV8r.out.go kr (Ext.refl _ _))
  replace K := Kr.trans kr
  clear Hz3
  clear hk
  go_wp2_with fail
  refine hKK.out _ _ ?_ (fun hHeld => ?_)
  · exact kr
  clear hKK KK
  (try simp only [Act.put, List.setIfInBounds_toArray, List.set_cons_zero, List.set_cons_succ])
  refine wpAnyZ_take (i := 4) (oi := { dst := some 155, op := Op.move (Operand.tmp 154), type := 4, pos := "law.go:98", after := #[{ on := 3, ground := Ground.data }, { on := 3, ground := Ground.chain }], guard := none }) (v := ?_) rfl (by kernel_rfl) (fun _ _ _ h => h) (Or.inl ⟨by rfl, ?_⟩) (by assumption) ?_
  rotate_left
  · (intro wz hSw; (try dsimp only at hSw); go_simp; (try with_reducible rfl))
  (try simp only [Act.put, List.setIfInBounds_toArray, List.set_cons_zero, List.set_cons_succ])
  refine wpAnyZ_take (i := 5) (oi := { dst := some 156, op := Op.move (Operand.tmp 18), type := 32, pos := "law.go:98", after := #[{ on := 4, ground := Ground.guard }], guard := some (4, true) }) (v := ?_) rfl (by kernel_rfl) (fun _ _ _ h => h) (Or.inl ⟨by rfl, ?_⟩) (by assumption) ?_
  rotate_left
  · (intro wz hSw; (try dsimp only at hSw); go_simp; (try with_reducible rfl))
  (try simp only [Act.put, List.setIfInBounds_toArray, List.set_cons_zero, List.set_cons_succ])
  refine wpAnyZ_take (i := 6) (oi := { dst := some 157, op := Op.move (Operand.tmp 28), type := 3, pos := "law.go:98", after := #[{ on := 4, ground := Ground.guard }], guard := some (4, true) }) (v := ?_) rfl (by kernel_rfl) (fun _ _ _ h => h) (Or.inl ⟨by rfl, ?_⟩) (by assumption) ?_
  rotate_left
  · (intro wz hSw; (try dsimp only at hSw); go_simp; (try with_reducible rfl))
  (try simp only [Act.put, List.setIfInBounds_toArray, List.set_cons_zero, List.set_cons_succ])
  refine wpAnyZ_take (i := 7) (oi := { dst := some 158, op := Op.binOp BinOp.eql 3 (Operand.tmp 156) (Operand.tmp 157) 3, type := 4, pos := "law.go:98", after := #[{ on := 5, ground := Ground.data }, { on := 6, ground := Ground.data }, { on := 4, ground := Ground.guard }], guard := some (4, true) }) (v := ?_) rfl (by kernel_rfl) (fun _ _ _ h => h) (Or.inl ⟨by rfl, ?_⟩) (by assumption) ?_
  rotate_left
  · (intro wz hSw; (try dsimp only at hSw); go_simp; (try with_reducible rfl))
  (try simp only [Act.put, List.setIfInBounds_toArray, List.set_cons_zero, List.set_cons_succ])
  refine wpAnyZ_take (i := 8) (oi := { dst := some 159, op := Op.pick (Operand.tmp 155) (Operand.tmp 158) (Operand.const (Value.bool false)), type := 4, pos := "law.go:98", after := #[{ on := 4, ground := Ground.data }, { on := 7, ground := Ground.data }], guard := none }) (v := ?_) rfl (by kernel_rfl) (fun _ _ _ h => h) (Or.inl ⟨by rfl, ?_⟩) (by assumption) ?_
  rotate_left
  · (intro wz hSw; (try dsimp only at hSw); go_simp; (try with_reducible rfl))
  (try simp only [Act.put, List.setIfInBounds_toArray, List.set_cons_zero, List.set_cons_succ])
  refine wpAnyZ_take (i := 9) (oi := { dst := some 160, op := Op.move (Operand.tmp 159), type := 4, pos := "law.go:98", after := #[{ on := 8, ground := Ground.data }, { on := 4, ground := Ground.chain }], guard := none }) (v := ?_) rfl (by kernel_rfl) (fun _ _ _ h => h) (Or.inl ⟨by rfl, ?_⟩) (by assumption) ?_
  rotate_left
  · (intro wz hSw; (try dsimp only at hSw); go_simp; (try with_reducible rfl))
  (try simp only [Act.put, List.setIfInBounds_toArray, List.set_cons_zero, List.set_cons_succ])
  refine wpAnyZ_take (i := 10) (oi := { dst := some 161, op := Op.load 25 (Operand.tmp 19), type := 25, pos := "law.go:98", after := #[{ on := 9, ground := Ground.guard }], guard := some (9, true) }) (v := ?_) rfl (by kernel_rfl) (fun _ _ _ h => h) (Or.inl ⟨by rfl, ?_⟩) (by assumption) ?_
  rotate_left
  · (intro wz hSw; (try dsimp only at hSw); go_simp; (try with_reducible rfl))
  (try simp only [Act.put, List.setIfInBounds_toArray, List.set_cons_zero, List.set_cons_succ])
  refine wpAnyZ_take (i := 12) (oi := { dst := some 163, op := Op.load 29 (Operand.tmp 29), type := 29, pos := "law.go:98", after := #[{ on := 9, ground := Ground.guard }], guard := some (9, true) }) (v := ?_) rfl (by kernel_rfl) (fun _ _ _ h => h) (Or.inl ⟨by rfl, ?_⟩) (by assumption) ?_
  rotate_left
  · (intro wz hSw; (try dsimp only at hSw); go_simp; (try with_reducible rfl))
  (try simp only [Act.put, List.setIfInBounds_toArray, List.set_cons_zero, List.set_cons_succ])
  refine wpAnyZ_ready (rs := [11]) (by kernel_rfl) (by simp) ?_
  refine AllReadyZ.cons (o := { dst := some 162, op := Op.call { callee := Callee.value (Operand.func 9), args := #[Operand.tmp 161], argTypes := #[25] }, type := 29, pos := "law.go:98", after := #[{ on := 10, ground := Ground.data }, { on := 9, ground := Ground.chain }, { on := 9, ground := Ground.guard }], guard := some (9, true) }) rfl (fun KK hKK => ?_) AllReadyZ.nil
  go_simp
  refine (ref_same y4 _ w28 HV4.out HRM4.out).mono ?_
  rintro e w29 ⟨z4, rfl, hn, hk⟩
  clear hHeld
  replace kr := kr.trans hk
  replace OC := Lib.hid (OCr.out.kept kr)
  replace OD := Lib.hid (ODr.out.kept kr)
  replace OR := Lib.hid (ORr.out.kept kr)
  replace OS := Lib.hid (OSr.out.kept kr)
  replace HV3 := Lib.hid (HV3r.out.go kr (Ext.refl _ _))
  replace HV4 := Lib.hid (HV4r.out.go kr (Ext.refl _ _))
  replace HV7 := Lib.hid (HV7r.out.go kr (Ext.refl _ _))
  replace HV8 := Lib.hid (HV8r.out.go kr (Ext.refl _ _))
  replace K := Kr.trans kr
  have Hz4 := Lib.hid hn
  obtain ⟨z4A, z4c, z4B, z4d, rfl⟩ := hn.form
  clear hn
  generalize y4.boxes.length = z4n at Hz4 ⊢
  generalize y4.subs.length = z4m at Hz4 ⊢
  generalize y4.given = z4g at Hz4 ⊢
  clear hk
  go_wp2_with fail
  refine hKK.out _ _ ?_ (fun hHeld => ?_)
  · exact kr
  clear hKK KK
  (try simp only [Act.put, List.setIfInBounds_toArray, List.set_cons_zero, List.set_cons_succ])
  refine wpAnyZ_ready (rs := [13]) (by kernel_rfl) (by simp) ?_
  refine AllReadyZ.cons (o := { dst := some 164, op := Op.call { callee := Callee.value (Operand.func 14), args := #[Operand.tmp 162, Operand.tmp 163], argTypes := #[29, 29] }, type := 4, pos := "law.go:98", after := #[{ on := 11, ground := Ground.data }, { on := 12, ground := Ground.data }, { on := 11, ground := Ground.chain }, { on := 9, ground := Ground.guard }], guard := some (9, true) }) rfl (fun KK hKK => ?_) AllReadyZ.nil
  go_simp
  refine (equal_any y4 _ _ w29 Hz4.out HV8.out).mono ?_
  rintro e w30 ⟨rfl, hk⟩
  clear hHeld
  replace kr := kr.trans hk
  replace OC := Lib.hid (OCr.out.kept kr)
  replace OD := Lib.hid (ODr.out.kept kr)
  replace OR := Lib.hid (ORr.out.kept kr)
  replace OS := Lib.hid (OSr.out.kept kr)
  replace HV3 := Lib.hid (HV3r.out.go kr (Ext.refl _ _))
  replace HV4 := Lib.hid (HV4r.out.go kr (Ext.refl _ _))
  replace HV7 := Lib.hid (HV7r.out.go kr (Ext.refl _ _))
  replace HV8 := Lib.hid (HV8r.out.go kr (Ext.refl _ _))
  replace K := Kr.trans kr
  clear Hz4
  clear hk
  go_wp2_with fail
  refine hKK.out _ _ ?_ (fun hHeld => ?_)
  · exact kr
  clear hKK KK
  (try simp only [Act.put, List.setIfInBounds_toArray, List.set_cons_zero, List.set_cons_succ])
  refine wpAnyZ_take (i := 14) (oi := { dst := some 165, op := Op.pick (Operand.tmp 160) (Operand.tmp 164) (Operand.const (Value.bool false)), type := 4, pos := "law.go:98", after := #[{ on := 9, ground := Ground.data }, { on := 13, ground := Ground.data }], guard := none }) (v := ?_) rfl (by kernel_rfl) (fun _ _ _ h => h) (Or.inl ⟨by rfl, ?_⟩) (by assumption) ?_
  rotate_left
  · (intro wz hSw; (try dsimp only at hSw); go_simp; (try with_reducible rfl))
  (try simp only [Act.put, List.setIfInBounds_toArray, List.set_cons_zero, List.set_cons_succ])
  refine wpAnyZ_take (i := 15) (oi := { dst := some 166, op := Op.move (Operand.tmp 165), type := 4, pos := "law.go:98", after := #[{ on := 14, ground := Ground.data }, { on := 13, ground := Ground.chain }], guard := none }) (v := ?_) rfl (by kernel_rfl) (fun _ _ _ h => h) (Or.inl ⟨by rfl, ?_⟩) (by assumption) ?_
  rotate_left
  · (intro wz hSw; (try dsimp only at hSw); go_simp; (try with_reducible rfl))
  (try simp only [Act.put, List.setIfInBounds_toArray, List.set_cons_zero, List.set_cons_succ])
  refine wpAnyZ_take (i := 16) (oi := { dst := some 167, op := Op.move (Operand.tmp 20), type := 3, pos := "law.go:98", after := #[{ on := 15, ground := Ground.guard }], guard := some (15, true) }) (v := ?_) rfl (by kernel_rfl) (fun _ _ _ h => h) (Or.inl ⟨by rfl, ?_⟩) (by assumption) ?_
  rotate_left
  · (intro wz hSw; (try dsimp only at hSw); go_simp; (try with_reducible rfl))
  (try simp only [Act.put, List.setIfInBounds_toArray, List.set_cons_zero, List.set_cons_succ])
  refine wpAnyZ_take (i := 17) (oi := { dst := some 168, op := Op.move (Operand.tmp 30), type := 3, pos := "law.go:98", after := #[{ on := 15, ground := Ground.guard }], guard := some (15, true) }) (v := ?_) rfl (by kernel_rfl) (fun _ _ _ h => h) (Or.inl ⟨by rfl, ?_⟩) (by assumption) ?_
  rotate_left
  · (intro wz hSw; (try dsimp only at hSw); go_simp; (try with_reducible rfl))
  (try simp only [Act.put, List.setIfInBounds_toArray, List.set_cons_zero, List.set_cons_succ])
  refine wpAnyZ_take (i := 18) (oi := { dst := some 169, op := Op.binOp BinOp.eql 3 (Operand.tmp 167) (Operand.tmp 168) 3, type := 4, pos := "law.go:98", after := #[{ on := 16, ground := Ground.data }, { on := 17, ground := Ground.data }, { on := 15, ground := Ground.guard }], guard := some (15, true) }) (v := ?_) rfl (by kernel_rfl) (fun _ _ _ h => h) (Or.inl ⟨by rfl, ?_⟩) (by assumption) ?_
  rotate_left
  · (intro wz hSw; (try dsimp only at hSw); go_simp; (try with_reducible rfl))
  (try simp only [Act.put, List.setIfInBounds_toArray, List.set_cons_zero, List.set_cons_succ])
  refine wpAnyZ_take (i := 19) (oi := { dst := some 170, op := Op.pick (Operand.tmp 166) (Operand.tmp 169) (Operand.const (Value.bool false)), type := 4, pos := "law.go:98", after := #[{ on := 15, ground := Ground.data }, { on := 18, ground := Ground.data }], guard := none }) (v := ?_) rfl (by kernel_rfl) (fun _ _ _ h => h) (Or.inl ⟨by rfl, ?_⟩) (by assumption) ?_
  rotate_left
  · (intro wz hSw; (try dsimp only at hSw); go_simp; (try with_reducible rfl))
  (try simp only [Act.put, List.setIfInBounds_toArray, List.set_cons_zero, List.set_cons_succ])
  refine wpAnyZ_take (i := 20) (oi := { dst := some 171, op := Op.move (Operand.tmp 170), type := 4, pos := "law.go:98", after := #[{ on := 19, ground := Ground.data }, { on := 15, ground := Ground.chain }], guard := none }) (v := ?_) rfl (by kernel_rfl) (fun _ _ _ h => h) (Or.inl ⟨by rfl, ?_⟩) (by assumption) ?_
  rotate_left
  · (intro wz hSw; (try dsimp only at hSw); go_simp; (try with_reducible rfl))
  (try simp only [Act.put, List.setIfInBounds_toArray, List.set_cons_zero, List.set_cons_succ])
  refine wpAnyZ_take (i := 21) (oi := { dst := some 172, op := Op.move (Operand.tmp 21), type := 32, pos := "law.go:98", after := #[{ on := 20, ground := Ground.guard }], guard := some (20, true) }) (v := ?_) rfl (by kernel_rfl) (fun _ _ _ h => h) (Or.inl ⟨by rfl, ?_⟩) (by assumption) ?_
  rotate_left
  · (intro wz hSw; (try dsimp only at hSw); go_simp; (try with_reducible rfl))
  (try simp only [Act.put, List.setIfInBounds_toArray, List.set_cons_zero, List.set_cons_succ])
  refine wpAnyZ_take (i := 22) (oi := { dst := some 173, op := Op.move (Operand.tmp 31), type := 3, pos := "law.go:98", after := #[{ on := 20, ground := Ground.guard }], guard := some (20, true) }) (v := ?_) rfl (by kernel_rfl) (fun _ _ _ h => h) (Or.inl ⟨by rfl, ?_⟩) (by assumption) ?_
  rotate_left
  · (intro wz hSw; (try dsimp only at hSw); go_simp; (try with_reducible rfl))
  (try simp only [Act.put, List.setIfInBounds_toArray, List.set_cons_zero, List.set_cons_succ])
  refine wpAnyZ_take (i := 23) (oi := { dst := some 174, op := Op.binOp BinOp.eql 3 (Operand.tmp 172) (Operand.tmp 173) 3, type := 4, pos := "law.go:98", after := #[{ on := 21, ground := Ground.data }, { on := 22, ground := Ground.data }, { on := 20, ground := Ground.guard }], guard := some (20, true) }) (v := ?_) rfl (by kernel_rfl) (fun _ _ _ h => h) (Or.inl ⟨by rfl, ?_⟩) (by assumption) ?_
  rotate_left
  · (intro wz hSw; (try dsimp only at hSw); go_simp; (try with_reducible rfl))
  (try simp only [Act.put, List.setIfInBounds_toArray, List.set_cons_zero, List.set_cons_succ])
  refine wpAnyZ_take (i := 24) (oi := { dst := some 175, op := Op.pick (Operand.tmp 171) (Operand.tmp 174) (Operand.const (Value.bool false)), type := 4, pos := "law.go:98", after := #[{ on := 20, ground := Ground.data }, { on := 23, ground := Ground.data }], guard := none }) (v := ?_) rfl (by kernel_rfl) (fun _ _ _ h => h) (Or.inl ⟨by rfl, ?_⟩) (by assumption) ?_
  rotate_left
  · (intro wz hSw; (try dsimp only at hSw); go_simp; (try with_reducible rfl))
  (try simp only [Act.put, List.setIfInBounds_toArray, List.set_cons_zero, List.set_cons_succ])
  refine wpAnyZ_take (i := 25) (oi := { dst := some 176, op := Op.move (Operand.tmp 175), type := 4, pos := "law.go:98", after := #[{ on := 24, ground := Ground.data }, { on := 20, ground := Ground.chain }], guard := none }) (v := ?_) rfl (by kernel_rfl) (fun _ _ _ h => h) (Or.inl ⟨by rfl, ?_⟩) (by assumption) ?_
  rotate_left
  · (intro wz hSw; (try dsimp only at hSw); go_simp; (try with_reducible rfl))
  (try simp only [Act.put, List.setIfInBounds_toArray, List.set_cons_zero, List.set_cons_succ])
  refine wpAnyZ_ready (rs := [26]) (by kernel_rfl) (by simp) ?_
  refine AllReadyZ.cons (o := { dst := some 177, op := Op.call { callee := Callee.value (Operand.func 10), args := #[], argTypes := #[] }, type := 4, pos := "law.go:98", after := #[{ on := 25, ground := Ground.chain }, { on := 25, ground := Ground.guard }], guard := some (25, true) }) rfl (fun KK hKK => ?_) AllReadyZ.nil
  go_simp
  refine (awake_any w30).mono ?_
  rintro e w31 ⟨rfl, hk⟩
  clear hHeld
  replace kr := kr.trans hk
  replace OC := Lib.hid (OCr.out.kept kr)
  replace OD := Lib.hid (ODr.out.kept kr)
  replace OR := Lib.hid (ORr.out.kept kr)
  replace OS := Lib.hid (OSr.out.kept kr)
  replace HV3 := Lib.hid (HV3r.out.go kr (Ext.refl _ _))
  replace HV4 := Lib.hid (HV4r.out.go kr (Ext.refl _ _))
  replace HV7 := Lib.hid (HV7r.out.go kr (Ext.refl _ _))
  replace HV8 := Lib.hid (HV8r.out.go kr (Ext.refl _ _))
  replace K := Kr.trans kr
  clear hk
  go_wp2_with fail
  refine hKK.out _ _ ?_ (fun hHeld => ?_)
  · exact kr
  clear hKK KK
  (try simp only [Act.put, List.setIfInBounds_toArray, List.set_cons_zero, List.set_cons_succ])
  refine wpAnyZ_take (i := 27) (oi := { dst := some 178, op := Op.pick (Operand.tmp 176) (Operand.tmp 177) (Operand.const (Value.bool false)), type := 4, pos := "law.go:98", after := #[{ on := 25, ground := Ground.data }, { on := 26, ground := Ground.data }], guard := none }) (v := ?_) rfl (by kernel_rfl) (fun _ _ _ h => h) (Or.inl ⟨by rfl, ?_⟩) (by assumption) ?_
  rotate_left
  · (intro wz hSw; (try dsimp only at hSw); go_simp; (try with_reducible rfl))
  (try simp only [Act.put, List.setIfInBounds_toArray, List.set_cons_zero, List.set_cons_succ])
  refine wpAnyZ_take (i := 28) (oi := { dst := some 10, op := Op.assign (Operand.tmp 178), type := 4, pos := "law.go:98", after := #[{ on := 27, ground := Ground.data }, { on := 26, ground := Ground.chain }, { on := 0, ground := Ground.phase }, { on := 1, ground := Ground.phase }, { on := 2, ground := Ground.phase }, { on := 3, ground := Ground.phase }, { on := 4, ground := Ground.phase }, { on := 5, ground := Ground.phase }, { on := 6, ground := Ground.phase }, { on := 7, ground := Ground.phase }, { on := 8, ground := Ground.phase }, { on := 9, ground := Ground.phase }, { on := 10, ground := Ground.phase }, { on := 11, ground := Ground.phase }, { on := 12, ground := Ground.phase }, { on := 13, ground := Ground.phase }, { on := 14, ground := Ground.phase }, { on := 15, ground := Ground.phase }, { on := 16, ground := Ground.phase }, { on := 17, ground := Ground.phase }, { on := 18, ground := Ground.phase }, { on := 19, ground := Ground.phase }, { on := 20, ground := Ground.phase }, { on := 21, ground := Ground.phase }, { on := 22, ground := Ground.phase }, { on := 23, ground := Ground.phase }, { on := 24, ground := Ground.phase }, { on := 25, ground := Ground.phase }, { on := 26, ground := Ground.phase }, { on := 27, ground := Ground.phase }], guard := none }) (v := ?_) rfl (by kernel_rfl) (fun _ _ _ h => h) (Or.inl ⟨by rfl, ?_⟩) (by assumption) ?_
  rotate_left
  · (intro wz hSw; (try dsimp only at hSw); go_simp; (try with_reducible rfl))
  (try simp only [Act.put, List.setIfInBounds_toArray, List.set_cons_zero, List.set_cons_succ])
  refine wpAnyZ_done (by kernel_rfl) ?_ _
  clear CC0 CC1 CC2 CD0 CD1 CD2 CR0 CR1 CR2 CS0 CS1 CS2 OCr ODr ORr OSr HV3r HV4r HV7r HV8r Kr zr hHeld kr
  go_wp2
  go_ret
  exact ⟨rfl, K⟩
end Go.Proofs.Ytjinnkbnllnllaa
