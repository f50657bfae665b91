/- AllocBack: for every number and list, what was taken of a pool, and is given, can be given once, and leaves it as it was. No condition. -/
import Derived.Test.YtbkipbkkdcikcaaL11Awake
import Derived.Test.YtbkipbkkdcikcaaL11Open
import Derived.Test.YtbkipbkkdcikcaaPoolFree
import Derived.Test.YtbkipbkkdcikcaaRowEnd
namespace Go.Proofs.Ytbkipbkkdcikcaa
open Go.ChangeShapes Go.WideShapes Go.ChangeAt Go.RowKit

theorem give_back {tk : List Bool} {x : Nat} (h : tk[x]? = some false) : giveR (tk.set x true) x = true ∧ giveT (tk.set x true) x = tk ∧ giveR tk x = false ∧ giveT tk x = tk := by
  have hx := (List.getElem?_eq_some_iff.1 h).1
  have h1 : giveR (tk.set x true) x = true := by simp [giveR, hx]
  have h2 : giveR tk x = false := by simp [giveR, h]
  refine ⟨h1, ?_, h2, by simp [giveT, h2]⟩
  simp only [giveT, h1, if_true, Int.toNat_natCast, List.set_set]
  apply List.ext_getElem?
  intro i
  rw [List.getElem?_set]
  by_cases e : x = i
  · subst e; rw [if_pos rfl, if_pos hx, h]
  · rw [if_neg e]
theorem take_some {tk : List Bool} {x : Nat} {l : List Nat} (h : frees tk = x :: l) : takeR tk = (x, true) ∧ takeT tk = tk.set x true := by simp [takeR, takeT, h]
theorem take_none {tk : List Bool} (h : frees tk = []) : takeR tk = (0, false) ∧ takeT tk = tk := by simp [takeR, takeT, h]

set_option maxRecDepth 100000 in
set_option maxHeartbeats 1000000 in
theorem allocBack_main (n : Nat) (l : List Int) (v : Value) (w : World) (h : IntsAt [] w v l) (hn : n ≤ 256) (hl : l.length ≤ 300) :
    Calls Try.prog 5 #[.int .i64 n, v] w fun e w' => e = .returned (.bool true) ∧ Kept w w' := by
  have H := Lib.hid h
  obtain ⟨A, c, rfl, hlc, hm, hr⟩ := h
  clear hr
  unfold maxLen at hm
  go_enter Try.func5, Try.ntmps5
  go_wp2_with fail
  refine (aNew_yes n l _ _ H.out hn).mono ?_
  rintro e w1 ⟨g, rfl, hp1, hk1⟩
  have hLl := frees_le (takenOf n l)
  rw [takenOf_length] at hLl
  generalize takenOf n l = tk at *
  have HP1 := Lib.hid hp1
  clear hp1
  go_wp2_with fail
  refine (pFree_v [] _ g _ _ HP1.out (fun _ h => by cases h)).mono ?_
  rintro e w2 ⟨B, bc, rfl, hi2, hp2, hk2, hnew⟩
  have HP2 := Lib.hid (HP1.out.guard hk2)
  have hz2 : w.heap.size ≤ w2.heap.size := Nat.le_trans hk1.size hk2.size
  obtain ⟨B', bc', e, hi3, hi4, hi5⟩ := hi2
  cases e
  have HROW := Lib.hid hi5
  have HNEW := Lib.hid hnew
  obtain ⟨V, hV⟩ : ∃ V : Nat → Prop, V = fun j => j < w2.heap.size ∧ (j < w.heap.size ∨ w1.heap.size ≤ j) := ⟨_, rfl⟩
  rw [← hV] at HP2
  have HV1 : Hid (∀ k, V k → k < w2.heap.size) := fun k hk => by rw [hV] at hk; exact hk.1
  have HV2 : Hid (∀ k, ¬ V k → w.heap.size ≤ k) := fun k hk => by
    rcases Nat.lt_or_ge k w.heap.size with h | h
    · exact absurd (by rw [hV]; exact ⟨Nat.lt_of_lt_of_le h hz2, .inl h⟩) hk
    · exact h
  have HV3 : Hid (∀ b o, 0 < (nats (frees tk)).length → B = some ⟨b, o, none⟩ → V b) := fun b o hb e => by
    rw [nats_length, ← zs_length] at hb
    obtain ⟨b', o', e', hb'⟩ := HNEW.out hb
    rw [e] at e'
    cases e'
    obtain ⟨b'', o'', e'', hb'', _⟩ := HROW.out (by rw [ints_length]; exact hb)
    rw [e] at e''
    cases e''
    rw [hV]; exact ⟨hb'', .inr hb'⟩
  rw [ints_zs] at HROW
  have hkw2 := hk1.trans hk2
  have HZ := Lib.hid (zs_length (frees tk))
  rw [zs_length] at hi3
  clear hk1 hk2 hV hp2 hi5 hnew HNEW HP1
  unfold maxLen at hi4
  rw [HZ.out]
  go_wp2_with fail
  refine (pTake_v V g _ _ HP2.out).mono ?_
  rintro e w3 ⟨rfl, hp3, hk3⟩
  have HP3 := Lib.hid hp3
  have hkw3 : Kept w w3 := Below.trans hkw2 (hk3.below HV2.out hz2)
  have HROW3 := Lib.hid (HROW.out.spared HV3.out hk3)
  have hz3 := hk3.size
  clear hp3 hk3 HP2 HROW hkw2
  cases hL : frees tk with
  | nil =>
    obtain ⟨e1, _⟩ := take_none hL
    rw [e1]
    clear e1 hLl hi3
    go_wp2_with fail
    refine (awake11 _).mono ?_
    rintro e w5 ⟨rfl, hk5⟩
    go_wp2
    go_ret
    exact ⟨rfl, hkw3.trans hk5⟩
  | cons x L =>
    obtain ⟨e1, e2⟩ := take_some hL
    have hx : tk[x]? = some false := mem_frees.1 (by rw [hL]; simp)
    obtain ⟨r1, r2, r3, r4⟩ := give_back hx
    rw [e1]
    rw [e2] at HP3
    rw [hL] at HROW3 HZ hi3 hLl
    have HHL := Lib.hid hL
    have R1 := Lib.hid r1
    have R2 := Lib.hid r2
    have R3 := Lib.hid r3
    have R4 := Lib.hid r4
    clear e1 e2 hx r1 r2 r3 r4 hL
    generalize hm : (x :: L).length = m at *
    have hm0 : 0 < m := by rw [← hm]; simp
    have HM := Lib.hid hm
    clear hm
    go_wp2_with fail
    refine (pGive_v V g _ x _ HP3.out (fun k hk => Nat.lt_of_lt_of_le (HV1.out k hk) hz3)).mono ?_
    rintro e w4 ⟨rfl, hp4, hk4⟩
    rw [R1.out]
    rw [R2.out] at hp4
    have HP4 := Lib.hid hp4
    have hkw4 : Kept w w4 := Below.trans hkw3 (hk4.below HV2.out (Nat.le_trans hz2 hz3))
    have HROW4 := Lib.hid (HROW3.out.spared (by rw [← HHL.out]; exact HV3.out) hk4)
    have hz4 := Nat.le_trans hz3 hk4.size
    clear hp4 hk4 HP3 HROW3 hkw3
    go_wp2_with fail
    refine (pGive_v V g _ x _ HP4.out (fun k hk => Nat.lt_of_lt_of_le (HV1.out k hk) hz4)).mono ?_
    rintro e w5 ⟨rfl, hp5, hk5⟩
    rw [R3.out]
    rw [R4.out] at hp5
    have HP5 := Lib.hid hp5
    have hkw5 : Kept w w5 := Below.trans hkw4 (hk5.below HV2.out (Nat.le_trans hz2 hz4))
    have HROW5 := Lib.hid (HROW4.out.spared (by rw [← HHL.out]; exact HV3.out) hk5)
    clear hp5 hk5 HP4 HROW4 hkw4
    go_wp2_with fail
    refine (pFree_v [] V g _ _ HP5.out (fun _ h => by cases h)).mono ?_
    rintro e w6 ⟨D, dc, rfl, hi6, _, hk6, _⟩
    obtain ⟨D', dc', e, hd1, hd2, hd3⟩ := hi6
    cases e
    unfold maxLen at hd2
    rw [HHL.out, ints_zs] at hd3
    rw [HHL.out, HZ.out] at hd1
    rw [HHL.out, HZ.out]
    have hkw6 := hkw5.trans hk6
    have hb6 := HROW5.out.kept hk6
    obtain ⟨b, o, rfl, hb, _, hcb⟩ := hb6 (by simp [nats])
    obtain ⟨b1, o1, rfl, hb1, _, hcd⟩ := hd3 (by simp [nats])
    have g0 : w6.cell? ⟨b, o, none⟩ = some (.int .i64 (x : Int)) := hcb 0 _ rfl
    have HCB := Lib.hid hcb
    have HCD := Lib.hid hcd
    clear hcb hcd HROW5 hkw5 hk6 HP5 hb6 hd3
    have i0 : (0 : Int) < (m : Int) := by omega
    have e0 : ((m : Int) == 0) = false := beq_f (by omega)
    go_wp2_with fail
    go_loopw [85] (fun iv wr => ∃ (k q : Nat), k ≤ m ∧ iv = .int .i64 k ∧ wr = w6.drewN q) (fun iv _ => m - (intOf iv).toNat)
    case atStart => exact ⟨0, 0, Nat.zero_le _, rfl, rfl⟩
    case round =>
      obtain ⟨k, q, hk, rfl, rfl⟩ := hrel
      by_cases hlt : k < m
      · have hk' : k < (x :: L).length := by rw [HM.out]; exact hlt
        have g1 : w6.cell? ⟨b, o + k, none⟩ = some (.int .i64 (at0 (x :: L) k : Nat)) := HCB.out k _ (nats_at hk')
        have g2 : w6.cell? ⟨b1, o1 + k, none⟩ = some (.int .i64 (at0 (x :: L) k : Nat)) := HCD.out k _ (nats_at hk')
        generalize at0 (x :: L) k = y at *
        have j0 : (0 : Int) ≤ (k : Int) := by omega
        have j1 : (k : Int) < (m : Int) := by omega
        go_wp2_with fail
        go_quiet (fail)
        go_wp2
        go_roundw
        case rel => exact ⟨k + 1, _, by omega, by go_num, rfl⟩
        case measure => simp [intOf]; omega
      · go_wp2_with fail
        refine (awake11 _).mono ?_
        rintro e w7 ⟨rfl, hk7⟩
        go_wp2
        go_ret
        exact ⟨rfl, (hkw6.drewN q).trans hk7⟩

set_option maxRecDepth 100000 in
set_option maxHeartbeats 1000000 in
theorem allocBack_walk (n : Int) (l : List Int) (v : Value) (w : World) (h : IntsAt [] w v l) :
    Calls Try.prog 5 #[.int .i64 n, v] w fun e w' => e = .returned (.bool true) ∧ Kept w w' := by
  by_cases h0 : n < 0
  · have H := Lib.hid h
    obtain ⟨A, c, rfl, hlc, hm, hr⟩ := h
    clear hr
    go_enter Try.func5, Try.ntmps5
    go_wp2_with fail
    refine (aNew_no n l _ _ H.out (.inl h0)).mono ?_
    rintro e w1 ⟨rfl, rfl⟩
    go_wp2_with fail
    refine (awake11 _).mono ?_
    rintro e w5 ⟨rfl, hk5⟩
    go_wp2
    go_ret
    exact ⟨rfl, hk5⟩
  · by_cases h1 : 256 < n
    · have H := Lib.hid h
      obtain ⟨A, c, rfl, hlc, hm, hr⟩ := h
      clear hr
      go_enter Try.func5, Try.ntmps5
      go_wp2_with fail
      refine (aNew_no n l _ _ H.out (.inr h1)).mono ?_
      rintro e w1 ⟨rfl, rfl⟩
      go_wp2_with fail
      refine (awake11 _).mono ?_
      rintro e w5 ⟨rfl, hk5⟩
      go_wp2
      go_ret
      exact ⟨rfl, hk5⟩
    · obtain ⟨m, rfl⟩ := Int.eq_ofNat_of_zero_le (show 0 ≤ n by omega)
      by_cases h2 : l.length ≤ 300
      · exact allocBack_main m l v w h (by omega) h2
      · have H := Lib.hid h
        obtain ⟨A, c, rfl, hlc, hm, hr⟩ := h
        clear hr
        unfold maxLen at hm
        have h2' : 300 < l.length := by omega
        go_enter Try.func5, Try.ntmps5
        go_wp2_with fail
        refine (aNew_yes m l _ _ H.out (by omega)).mono ?_
        rintro e w1 ⟨g, rfl, hp1, hk1⟩
        clear hp1
        go_wp2_with fail
        refine (awake11 _).mono ?_
        rintro e w5 ⟨rfl, hk5⟩
        go_wp2
        go_ret
        exact ⟨rfl, hk1.trans hk5⟩

set_option maxRecDepth 100000 in
theorem allocBack_lifted (os : Os) (started : os.Started) (H : Type) (enc : TypeId × Value → H) :
    ReturnsInHanded {} Try.checked os 5 .any (Rows.allocBackSpec.pre6 enc Try.prog Try.f5 Rows.allocBackRow.domain false) (Rows.allocBackSpec.post enc Try.prog Try.f5 false true false false) := by
  refine returnsInHanded_of_change_sized (C := Try.checked) Try.own started (by kernel_rfl) Try.func5
    (ChangeSpec.witness6 (enc := enc) (C := Try.checked) false ⟨#[], #[.int .i64 0, .slice none 0 0], []⟩ 8 (by kernel_rfl) (by kernel_rfl) (by kernel_rfl) (by kernel_rfl)) ?_
  intro W base args ds gs before hval0 hW hcnd hsz0 _
  have hval : ∀ (j : Nat) t v, Try.f5.params[j]? = some t → args[j]? = some v → Value.okWide Try.prog W .any base t v := hval0
  have hW' := hW
  obtain ⟨p, q, hA0, hV, rfl, hfz, hnd⟩ := hW
  have hA : DataW.TrodAll enc Try.prog W 0 (fun _ => true) true Try.f5.params.toList args.toList ds p := hA0
  rw [Try.params5] at hA hval
  obtain ⟨v0, v1, d0, d1, p0, p1, rfl, rfl, rfl, h0, h1⟩ := trodAll_two hA
  obtain ⟨rfl, rfl⟩ := trodVars_none hV
  obtain ⟨a0, rfl, rfl, rfl, w0⟩ := open_int Try.underlying3 (hval 0 3 v0 rfl rfl) h0
  obtain ⟨l, hl⟩ := open_intsAt (hval 1 22 v1 rfl rfl) h1
  refine (allocBack_walk a0 l v1 W hl).mono fun e W' ⟨he, hg⟩ => ?_
  subst he
  exact ⟨_, rfl, law_post Try.laidOut (by kernel_rfl) (by kernel_rfl) Try.underlying4 rfl hW' rfl rfl rfl hg⟩

theorem allocBack_holds : Rows.AllocBackSaid :=
  OpenClaim.holds_of_wide 5 Try.f5 rfl rfl rfl rfl rfl rfl rfl ⟨rfl, rfl, rfl, rfl, rfl⟩ rfl rfl rfl rfl rfl (by kernel_rfl) Try.func5 (by kernel_rfl)
    (of_decide_eq_true (by kernel_rfl)) (by unfold Func.isWrapper; first | (rw [if_pos (by decide +kernel)]; kernel_rfl) | (rw [if_neg (by decide +kernel)]; exact ⟨rfl, rfl⟩))
    (fun os started H enc _ => allocBack_lifted os started H enc)
#print axioms allocBack_holds
end Go.Proofs.Ytbkipbkkdcikcaa
