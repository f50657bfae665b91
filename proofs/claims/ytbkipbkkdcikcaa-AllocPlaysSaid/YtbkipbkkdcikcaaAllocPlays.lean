/- AllocPlays: for every number, list and acts, whatever is taken and given: what is told, and what is free, is what the document says. No condition. -/
import Derived.Test.YtbkipbkkdcikcaaRef11
import Derived.Test.YtbkipbkkdcikcaaL11Awake
import Derived.Test.YtbkipbkkdcikcaaL11Open
import Derived.Test.YtbkipbkkdcikcaaRowEnd
namespace Go.Proofs.Ytbkipbkkdcikcaa
open Go.ChangeShapes Go.WideShapes Go.ChangeAt Go.RowKit

theorem turn_give (tk : List Bool) (q : Nat) : turnedL (fl tk) q true = fl (giveT tk q) := by
  unfold turnedL
  rw [if_pos (by omega), Int.toNat_natCast]
  unfold giveT
  split
  · rw [Int.toNat_natCast, fl_set]; rfl
  · rename_i h
    apply List.ext_getElem?
    intro i
    rw [List.getElem?_set]
    by_cases e : q = i
    · subst e
      rw [if_pos rfl]
      split
      · rename_i hq
        rw [fl_length] at hq
        have : tk[q]? = some false := by
          rw [List.getElem?_eq_getElem hq]
          rcases Bool.eq_false_or_eq_true tk[q] with h1 | h1
          · exfalso; apply h; simp [giveR, List.getElem?_eq_getElem hq, h1]
          · rw [h1]
        rw [fl_at this]; rfl
      · rename_i hq
        rw [List.getElem?_eq_none (by omega)]
    · rw [if_neg e]
theorem turn_take (tk : List Bool) : turnedL (fl tk) (leastR tk) false = fl (takeT tk) := by
  unfold leastR takeT turnedL
  cases frees tk with
  | nil => simp
  | cons x l => simp only [Int.natCast_nonneg, if_true, Int.toNat_natCast, fl_set]; rfl
theorem giveT_length (tk : List Bool) (x : Int) : (giveT tk x).length = tk.length := by unfold giveT; split <;> simp
theorem takeT_length (tk : List Bool) : (takeT tk).length = tk.length := by unfold takeT; split <;> simp
theorem take_least (tk : List Bool) : (takeR tk).2 = decide (0 ≤ leastR tk) ∧ ((takeR tk).1 : Int) = max (leastR tk) 0 ∧ leastR tk ≤ tk.length ∧ -1 ≤ leastR tk := by
  unfold takeR leastR
  cases h : frees tk with
  | nil => exact ⟨rfl, rfl, by simp only []; omega, by simp⟩
  | cons x l =>
    have hx : x < tk.length := (List.getElem?_eq_some_iff.1 (mem_frees.1 (by rw [h]; simp))).1
    exact ⟨by simp, by simp only []; omega, by simp only []; omega, by simp only []; omega⟩

theorem rTurned_fl (tk : List Bool) (n : Int) (t : Bool) (A : Option Addr) (c : Nat) (w : World) (hr : Row [] w A (bools (fl tk))) (hl : tk.length ≤ 256) :
    Calls Try.prog 15 #[.slice A tk.length c, .int .i64 n, .bool t] w (TurnedPost w (fl tk) n t) := by
  have := rTurned_any (fl tk) n t A c w hr (by rw [fl_length]; exact hl)
  rwa [fl_length] at this

def PlayRel (w : World) (g : Nat) (m : List Int) (lv iv : Value) (wr : World) : Prop :=
  ∃ (k : Nat) (tk : List Bool) (A : Option Addr) (c : Nat) (V : Nat → Prop), k ≤ m.length ∧ k ≤ 100 ∧ iv = .int .i64 k ∧ lv = .slice A tk.length c ∧ Row [] wr A (bools (fl tk)) ∧
    (∀ b o, 0 < tk.length → A = some ⟨b, o, none⟩ → V b) ∧ (∀ j, V j → j < wr.heap.size) ∧ (∀ j, ¬ V j → w.heap.size ≤ j) ∧ PoolV wr V g tk ∧ tk.length ≤ 256 ∧ Kept w wr

set_option maxRecDepth 100000 in
set_option maxHeartbeats 2000000 in
theorem allocPlays_main (n : Nat) (l m : List Int) (v u : Value) (w : World) (h : IntsAt [] w v l) (h' : IntsAt [] w u m) (hn : n ≤ 256) (hl : l.length ≤ 300) :
    Calls Try.prog 4 #[.int .i64 n, v, u] w fun e w' => e = .returned (.bool true) ∧ Kept w w' := by
  have H := Lib.hid h
  obtain ⟨A, c, rfl, hlc, hm, hr⟩ := h
  clear hr
  obtain ⟨D, dc, rfl, hdc, hdm, hdr⟩ := h'
  have HD := Lib.hid hdr
  clear hdr
  unfold maxLen at hm hdm
  go_enter Try.func4, Try.ntmps4
  go_wp2_with fail
  refine (aNew_yes n l _ _ H.out hn).mono ?_
  rintro e w1 ⟨g, rfl, hp1, hk1⟩
  have HP1 := Lib.hid hp1
  clear hp1
  go_wp2_with fail
  refine (rNew_yes n l _ _ (H.out.go hk1 (Ext.refl _ _)) hn).mono ?_
  rintro e w2 ⟨b, rfl, hb2, ho2, hk2⟩
  have HTL := Lib.hid (takenOf_length n l)
  generalize takenOf n l = tk at *
  have HP2 := Lib.hid (HP1.out.guard hk2)
  have HR2 := Lib.hid (ho2.row (V := []) (by simp))
  have hbz := ho2.lt
  have hkw2 := hk1.trans hk2
  clear ho2 hk2 hk1 HP1
  have HSAME : Hid (Calls Try.prog 13 #[.pointer (some ⟨g, 0, none⟩), .slice (some ⟨b, 0, none⟩) n n] w2 fun e w' => e = .returned (.bool true) ∧ Kept w2 w') := by
    have := same_any _ g tk _ n _ HP2.out HR2.out (by rw [HTL.out]; exact hn)
    rw [HTL.out] at this
    exact this
  go_wp2_with fail
  refine HSAME.out.mono ?_
  rintro e w3 ⟨rfl, hk3⟩
  have hkw3 := hkw2.trans hk3
  clear HSAME
  go_wp2_with fail
  go_loopw [8, 10] (fun lv iv wr => PlayRel w g m lv iv wr) (fun _ iv _ => m.length - (intOf iv).toNat)
  case atStart =>
    refine ⟨0, tk, some ⟨b, 0, none⟩, n, _, Nat.zero_le _, Nat.zero_le _, rfl, by rw [HTL.out], HR2.out.kept hk3, fun b' o _ e => ?_, fun j hj => Nat.lt_of_lt_of_le hj.1 hk3.size, fun j hj => ?_, HP2.out.kept hk3, by rw [HTL.out]; exact hn, hkw3⟩
    · cases e; exact ⟨hbz, .inr hb2⟩
    · rcases Nat.lt_or_ge j w.heap.size with h | h
      · exact absurd ⟨Nat.lt_of_lt_of_le h hkw2.size, .inl h⟩ hj
      · exact h
  case round =>
    obtain ⟨k, tk, B, bc, V, hk, hk100, rfl, rfl, hrow, hv3, hv1, hv2, hpool, htl, hkw⟩ := hrel
    have HROW := Lib.hid hrow
    have HV3 := Lib.hid hv3
    have HV1 := Lib.hid hv1
    have HV2 := Lib.hid hv2
    have HP := Lib.hid hpool
    clear hrow hv3 hv1 hv2 hpool HP2 HR2 HTL hkw2 hkw3 hbz hb2
    by_cases hlt : k < m.length ∧ k < 100
    · obtain ⟨hlt1, hlt2⟩ := hlt
      obtain ⟨b', o', rfl, hb', _, hcd⟩ := HD.out.kept hkw (by rw [ints_length]; omega)
      have g1 : wr.cell? ⟨b', o' + k, none⟩ = some (.int .i64 m[k]) := hcd _ _ (ints_at hlt1)
      have j0 : (0 : Int) ≤ (k : Int) := by omega
      have j1 : (k : Int) < (m.length : Int) := by omega
      have j2 : (k : Int) < 100 := by omega
      clear hcd
      by_cases hq0 : 0 ≤ m[k]
      · obtain ⟨q, hq⟩ := Int.eq_ofNat_of_zero_le hq0
        rw [hq] at g1
        have q0 : (0 : Int) ≤ (q : Int) := by omega
        have HTURN := Lib.hid (turn_give tk q)
        have HLEN := Lib.hid (giveT_length tk q)
        clear hq hq0
        by_cases hql : q < tk.length
        · have q1 : (q : Int) < (tk.length : Int) := by omega
          obtain ⟨t, ht⟩ : ∃ t, tk[q]? = some t := ⟨_, List.getElem?_eq_getElem hql⟩
          obtain ⟨b2, o2, rfl, hb2, _, hc2⟩ := HROW.out (by rw [bools_length, fl_length]; omega)
          have g2 : wr.cell? ⟨b2, o2 + q, none⟩ = some (.bool (!t)) := hc2 _ _ (bools_at (fl_at ht))
          have HG : Hid (giveR tk (q : Int) = t) := by show _ = _; simp [giveR, ht]
          clear hc2 ht
          go_wp2_with fail
          refine (pGive_v V g _ q _ HP.out HV1.out).mono ?_
          rintro e w3 ⟨rfl, hp3, hk3⟩
          rw [HG.out]
          have htt : (t != t) = false := by cases t <;> rfl
          have htt' : (t != !!t) = false := by cases t <;> rfl
          have HROW3 := Lib.hid (HROW.out.spared (by rw [bools_length, fl_length]; exact HV3.out) hk3)
          have hkw3 : Kept w w3 := Below.trans hkw (hk3.below HV2.out hkw.size)
          have hz3 := hk3.size
          have HP3 := Lib.hid hp3
          clear hp3 hk3 HP HROW hkw
          go_wp2_with fail
          refine (rTurned_fl tk _ true _ _ _ HROW3.out htl).mono ?_
          rintro e w4 ⟨A4, c4, rfl, hr4, hk4, hn4, hc4, hc5⟩
          rw [HTURN.out] at hr4
          rw [fl_length] at hn4 hc4
          rw [fl_length]
          have HP4 := Lib.hid (HP3.out.guard hk4)
          have HR4 := Lib.hid hr4
          have HN4 := Lib.hid hn4
          have hkw4 := hkw3.trans hk4
          have hz4 := hk4.size
          clear hr4 hk4 hn4 HROW3 hkw3 HP3
          rw [← HLEN.out]
          go_wp2_with fail
          refine (same_any _ g _ _ _ _ HP4.out HR4.out (by rw [HLEN.out]; exact htl)).mono ?_
          rintro e w5 ⟨rfl, hk5⟩
          go_wp2
          go_roundw
          case rel =>
            refine ⟨k + 1, giveT tk q, A4, c4, _, by omega, by omega, by go_num, rfl, HR4.out.kept hk5, fun b o hb e => ?_, fun j hj => Nat.lt_of_lt_of_le hj.1 hk5.size, fun j hj => ?_, HP4.out.kept hk5, by rw [HLEN.out]; exact htl, hkw4.trans hk5⟩
            · rw [HLEN.out] at hb
              obtain ⟨b', o', e', hb'⟩ := HN4.out hb
              rw [e] at e'
              cases e'
              obtain ⟨b'', o'', e'', hb'', _⟩ := HR4.out (by rw [bools_length, fl_length, HLEN.out]; exact hb)
              rw [e] at e''
              cases e''
              exact ⟨hb'', .inr hb'⟩
            · rcases Nat.lt_or_ge j w.heap.size with h | h
              · exfalso
                refine hj ⟨Nat.lt_of_lt_of_le h hkw4.size, .inl ?_⟩
                exact Classical.byContradiction fun hn => by have := HV2.out j hn; omega
              · exact h
          case measure => simp [intOf]; omega
        · have q1 : (tk.length : Int) ≤ (q : Int) := by omega
          have HG : Hid (giveR tk (q : Int) = false) := by show _ = _; simp [giveR, List.getElem?_eq_none (show tk.length ≤ q by omega)]
          go_wp2_with fail
          refine (pGive_v V g _ q _ HP.out HV1.out).mono ?_
          rintro e w3 ⟨rfl, hp3, hk3⟩
          rw [HG.out]
          have HROW3 := Lib.hid (HROW.out.spared (by rw [bools_length, fl_length]; exact HV3.out) hk3)
          have hkw3 : Kept w w3 := Below.trans hkw (hk3.below HV2.out hkw.size)
          have hz3 := hk3.size
          have HP3 := Lib.hid hp3
          clear hp3 hk3 HP HROW hkw
          go_wp2_with fail
          refine (rTurned_fl tk _ true _ _ _ HROW3.out htl).mono ?_
          rintro e w4 ⟨A4, c4, rfl, hr4, hk4, hn4, hc4, hc5⟩
          rw [HTURN.out] at hr4
          rw [fl_length] at hn4 hc4
          rw [fl_length]
          have HP4 := Lib.hid (HP3.out.guard hk4)
          have HR4 := Lib.hid hr4
          have HN4 := Lib.hid hn4
          have hkw4 := hkw3.trans hk4
          have hz4 := hk4.size
          clear hr4 hk4 hn4 HROW3 hkw3 HP3
          rw [← HLEN.out]
          go_wp2_with fail
          refine (same_any _ g _ _ _ _ HP4.out HR4.out (by rw [HLEN.out]; exact htl)).mono ?_
          rintro e w5 ⟨rfl, hk5⟩
          go_wp2
          go_roundw
          case rel =>
            refine ⟨k + 1, giveT tk q, A4, c4, _, by omega, by omega, by go_num, rfl, HR4.out.kept hk5, fun b o hb e => ?_, fun j hj => Nat.lt_of_lt_of_le hj.1 hk5.size, fun j hj => ?_, HP4.out.kept hk5, by rw [HLEN.out]; exact htl, hkw4.trans hk5⟩
            · rw [HLEN.out] at hb
              obtain ⟨b', o', e', hb'⟩ := HN4.out hb
              rw [e] at e'
              cases e'
              obtain ⟨b'', o'', e'', hb'', _⟩ := HR4.out (by rw [bools_length, fl_length, HLEN.out]; exact hb)
              rw [e] at e''
              cases e''
              exact ⟨hb'', .inr hb'⟩
            · rcases Nat.lt_or_ge j w.heap.size with h | h
              · exfalso
                refine hj ⟨Nat.lt_of_lt_of_le h hkw4.size, .inl ?_⟩
                exact Classical.byContradiction fun hn => by have := HV2.out j hn; omega
              · exact h
          case measure => simp [intOf]; omega
      · have q1 : m[k] < 0 := by omega
        generalize m[k] = y at *
        clear hq0
        obtain ⟨e1, e2, e3, e4⟩ := take_least tk
        have E1 := Lib.hid e1
        have E2 := Lib.hid e2
        have HTURN := Lib.hid (turn_take tk)
        have HLEN := Lib.hid (takeT_length tk)
        clear e1 e2
        go_wp2_with fail
        refine (pTake_v V g _ _ HP.out).mono ?_
        rintro e w3 ⟨rfl, hp3, hk3⟩
        rw [E1.out, E2.out]
        have HROW3 := Lib.hid (HROW.out.spared (by rw [bools_length, fl_length]; exact HV3.out) hk3)
        have hkw3 : Kept w w3 := Below.trans hkw (hk3.below HV2.out hkw.size)
        have hz3 := hk3.size
        have HP3 := Lib.hid hp3
        clear hp3 hk3 HP HROW hkw
        go_wp2_with fail
        refine (rLeast_any tk _ _ _ HROW3.out htl).mono ?_
        rintro e w9 ⟨rfl, rfl⟩
        generalize leastR tk = z at *
        have hbb : (decide (0 ≤ z) != decide (0 ≤ z)) = false := by cases decide (0 ≤ z) <;> rfl
        have hzz : (max z 0 != max z 0) = false := by simp
        go_wp2_with fail
        refine (rTurned_fl tk _ false _ _ _ HROW3.out htl).mono ?_
        rintro e w4 ⟨A4, c4, rfl, hr4, hk4, hn4, hc4, hc5⟩
        rw [HTURN.out] at hr4
        rw [fl_length] at hn4 hc4
        rw [fl_length]
        have HP4 := Lib.hid (HP3.out.guard hk4)
        have HR4 := Lib.hid hr4
        have HN4 := Lib.hid hn4
        have hkw4 := hkw3.trans hk4
        have hz4 := hk4.size
        clear hr4 hk4 hn4 HROW3 hkw3 HP3
        rw [← HLEN.out]
        go_wp2_with fail
        refine (same_any _ g _ _ _ _ HP4.out HR4.out (by rw [HLEN.out]; exact htl)).mono ?_
        rintro e w5 ⟨rfl, hk5⟩
        go_wp2
        go_roundw
        case rel =>
          refine ⟨k + 1, takeT tk, A4, c4, _, by omega, by omega, by go_num, rfl, HR4.out.kept hk5, fun b o hb e => ?_, fun j hj => Nat.lt_of_lt_of_le hj.1 hk5.size, fun j hj => ?_, HP4.out.kept hk5, by rw [HLEN.out]; exact htl, hkw4.trans hk5⟩
          · rw [HLEN.out] at hb
            obtain ⟨b', o', e', hb'⟩ := HN4.out hb
            rw [e] at e'
            cases e'
            obtain ⟨b'', o'', e'', hb'', _⟩ := HR4.out (by rw [bools_length, fl_length, HLEN.out]; exact hb)
            rw [e] at e''
            cases e''
            exact ⟨hb'', .inr hb'⟩
          · rcases Nat.lt_or_ge j w.heap.size with h | h
            · exfalso
              refine hj ⟨Nat.lt_of_lt_of_le h hkw4.size, .inl ?_⟩
              exact Classical.byContradiction fun hn => by have := HV2.out j hn; omega
            · exact h
        case measure => simp [intOf]; omega
    · have hlt' : ¬ ((k : Int) < (m.length : Int) ∧ (k : Int) < 100) := by omega
      by_cases h1 : k < m.length
      · have j1 : (k : Int) < (m.length : Int) := by omega
        have j2 : ¬ (k : Int) < 100 := by omega
        go_wp2_with fail
        refine (awake11 _).mono ?_
        rintro e w5 ⟨rfl, hk5⟩
        go_wp2
        go_ret
        exact ⟨rfl, hkw.trans hk5⟩
      · have j1 : ¬ (k : Int) < (m.length : Int) := by omega
        go_wp2_with fail
        refine (awake11 _).mono ?_
        rintro e w5 ⟨rfl, hk5⟩
        go_wp2
        go_ret
        exact ⟨rfl, hkw.trans hk5⟩

set_option maxRecDepth 100000 in
set_option maxHeartbeats 1000000 in
theorem allocPlays_walk (n : Int) (l m : List Int) (v u : Value) (w : World) (h : IntsAt [] w v l) (h' : IntsAt [] w u m) :
    Calls Try.prog 4 #[.int .i64 n, v, u] w fun e w' => e = .returned (.bool true) ∧ Kept w w' := by
  by_cases h2 : l.length ≤ 300
  · by_cases h0 : n < 0 ∨ 256 < n
    · have H := Lib.hid h
      obtain ⟨A, c, rfl, hlc, hm, hr⟩ := h
      obtain ⟨D, dc, rfl, hdc, hdm, hdr⟩ := h'
      clear hr hdr
      unfold maxLen at hm
      have H0 := Lib.hid h0
      clear h0
      go_enter Try.func4, Try.ntmps4
      go_wp2_with fail
      refine (aNew_no n l _ _ H.out H0.out).mono ?_
      rintro e w1 ⟨rfl, rfl⟩
      go_wp2_with fail
      refine (rNew_no n l _ _ H.out H0.out).mono ?_
      rintro e w1 ⟨rfl, rfl⟩
      go_wp2_with fail
      refine (awake11 _).mono ?_
      rintro e w5 ⟨rfl, hk5⟩
      go_wp2
      go_ret
      exact ⟨rfl, hk5⟩
    · obtain ⟨k, rfl⟩ := Int.eq_ofNat_of_zero_le (show 0 ≤ n by omega)
      exact allocPlays_main k l m v u w h h' (by omega) h2
  · obtain ⟨A, c, rfl, hlc, hm, hr⟩ := h
    obtain ⟨D, dc, rfl, hdc, hdm, hdr⟩ := h'
    clear hr hdr
    unfold maxLen at hm
    have h2' : 300 < l.length := by omega
    go_enter Try.func4, Try.ntmps4
    go_wp2_with fail
    refine (awake11 _).mono ?_
    rintro e w5 ⟨rfl, hk5⟩
    go_wp2
    go_ret
    exact ⟨rfl, hk5⟩

set_option maxRecDepth 100000 in
theorem allocPlays_lifted (os : Os) (started : os.Started) (H : Type) (enc : TypeId × Value → H) :
    ReturnsInHanded {} Try.checked os 4 .any (Rows.allocPlaysSpec.pre6 enc Try.prog Try.f4 Rows.allocPlaysRow.domain false) (Rows.allocPlaysSpec.post enc Try.prog Try.f4 false true false false) := by
  refine returnsInHanded_of_change_sized (C := Try.checked) Try.own started (by kernel_rfl) Try.func4
    (ChangeSpec.witness6 (enc := enc) (C := Try.checked) false ⟨#[], #[.int .i64 0, .slice none 0 0, .slice none 0 0], []⟩ 8 (by kernel_rfl) (by kernel_rfl) (by kernel_rfl) (by kernel_rfl)) ?_
  intro W base args ds gs before hval0 hW hcnd hsz0 _
  have hval : ∀ (j : Nat) t v, Try.f4.params[j]? = some t → args[j]? = some v → Value.okWide Try.prog W .any base t v := hval0
  have hW' := hW
  obtain ⟨p, q, hA0, hV, rfl, hfz, hnd⟩ := hW
  have hA : DataW.TrodAll enc Try.prog W 0 (fun _ => true) true Try.f4.params.toList args.toList ds p := hA0
  rw [Try.params4] at hA hval
  obtain ⟨v0, v1, v2, d0, d1, d2, p0, p1, p2, rfl, rfl, rfl, h0, h1, h2⟩ := trodAll_three hA
  obtain ⟨rfl, rfl⟩ := trodVars_none hV
  obtain ⟨a0, rfl, rfl, rfl, w0⟩ := open_int Try.underlying3 (hval 0 3 v0 rfl rfl) h0
  obtain ⟨l, hl⟩ := open_intsAt (hval 1 22 v1 rfl rfl) h1
  obtain ⟨m, hm⟩ := open_intsAt (hval 2 22 v2 rfl rfl) h2
  refine (allocPlays_walk a0 l m v1 v2 W hl hm).mono fun e W' ⟨he, hg⟩ => ?_
  subst he
  exact ⟨_, rfl, law_post Try.laidOut (by kernel_rfl) (by kernel_rfl) Try.underlying4 rfl hW' rfl rfl rfl hg⟩

theorem allocPlays_holds : Rows.AllocPlaysSaid :=
  OpenClaim.holds_of_wide 4 Try.f4 rfl rfl rfl rfl rfl rfl rfl ⟨rfl, rfl, rfl, rfl, rfl⟩ rfl rfl rfl rfl rfl (by kernel_rfl) Try.func4 (by kernel_rfl)
    (of_decide_eq_true (by kernel_rfl)) (by unfold Func.isWrapper; first | (rw [if_pos (by decide +kernel)]; kernel_rfl) | (rw [if_neg (by decide +kernel)]; exact ⟨rfl, rfl⟩))
    (fun os started H enc _ => allocPlays_lifted os started H enc)
#print axioms allocPlays_holds
end Go.Proofs.Ytbkipbkkdcikcaa
