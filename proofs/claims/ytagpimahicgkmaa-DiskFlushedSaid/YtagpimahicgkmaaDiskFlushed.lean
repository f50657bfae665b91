/- DiskFlushed: for every disk, number and list, a flush turns nothing that is read; behind one a crash turns nothing; a crash that keeps all is a flush; what a sector reads behind a crash is what it was, or one of the writes that waited there. No condition. -/
import Derived.Test.YtagpimahicgkmaaDiskFlW
import Derived.Test.YtagpimahicgkmaaRowEnd
import Derived.Test.YtagpimahicgkmaaOpen
namespace Go.Proofs.Ytagpimahicgkmaa
open Go.ChangeShapes Go.WideShapes Go.ChangeAt Go.RowKit

set_option maxRecDepth 100000 in
set_option maxHeartbeats 1000000 in
theorem diskFlushed_walk (d : Dk) (keep : List Int) (at_ : Int) (v u : Value) (w : World) (h : DkAt [] w v d) (hu : IntsAt [] w u keep) (hreach : d.cache.length * 24 ≤ 140737488351232) :
    Calls Try.prog 6 #[v, .int .i64 at_, u] w fun e w' => e = .returned (.bool true) ∧ Kept w w' := by
  by_cases hall : smallB d = true ∧ rightB d = true ∧ 0 ≤ at_ ∧ at_ < d.sec.length ∧ keep.length ≤ 200
  · obtain ⟨a1, a2, a3, a4, a5⟩ := hall
    obtain ⟨n, rfl⟩ := Int.eq_ofNat_of_zero_le a3
    exact diskFlushed_main d keep n v u w h hu hreach a1 a2 (by omega) a5
  · have HALL := Lib.hid hall
    clear hall
    have H := Lib.hid h
    obtain ⟨s, c, rfl, hs, hc⟩ := h
    obtain ⟨B, bc, rfl, bl, bm, _⟩ := hu
    unfold maxLen at bm
    clear hs hc
    obtain ⟨A0, k0, A1, k1, rfl, rfl⟩ := H.out.form
    rcases Bool.eq_false_or_eq_true (smallB d) with hsm | hsm
    · rcases Bool.eq_false_or_eq_true (rightB d) with hr | hr
      · obtain ⟨_, hl2, _, _⟩ := right_parts hr
        by_cases h0 : 0 ≤ at_
        · by_cases h1 : at_ < d.sec.length
          · have h5 : 200 < keep.length := by
              rcases Nat.lt_or_ge 200 keep.length with h | h
              · exact h
              · exact absurd ⟨hsm, hr, h0, h1, h⟩ HALL.out
            go_enter Try.func6, Try.ntmps6
            go_wp2_with fail
            refine (ref_any [] d _ _ (H.out.go ((Kept.refl w).alloc _) (Ext.refl _ _)) (fun _ h => by cases h) (by omega)).mono ?_
            rintro e w1 ⟨s1, c1, rfl, hd1, hk1⟩
            go_wp2_with fail
            refine (small_any [] d _ _ hd1).mono ?_
            rw [hsm]
            rintro e w2 ⟨rfl, hk2'⟩
            have HO1 := Lib.hid ((Own.new w _ [Value.slice A0 d.sec.length k0, Value.slice A1 d.cache.length k1]).kept (hk1.trans hk2'))
            have hkw2 : Kept w w2 := ((Kept.refl w).alloc _).trans (hk1.trans hk2')
            clear hd1 hk1 hk2'
            obtain ⟨q1, q2, _, _⟩ := HO1.out.two
            go_wp2_with fail
            refine (right_any [] d _ _ (H.out.go hkw2 (Ext.refl _ _))).mono ?_
            rw [hr]
            rintro e w3 ⟨rfl, hk3⟩
            have HO1' := Lib.hid (HO1.out.kept hk3)
            have hkw3 := hkw2.trans hk3
            clear HO1 q1 q2 hk3 hkw2
            obtain ⟨q1, q2, _, _⟩ := HO1'.out.two
            go_wp2_with fail
            refine (awake9 _).mono ?_
            rintro e w9 ⟨rfl, hk9⟩
            go_wp2
            go_ret
            exact ⟨rfl, hkw3.trans hk9⟩
          · have h1' : (d.sec.length : Int) ≤ at_ := by omega
            go_enter Try.func6, Try.ntmps6
            go_wp2_with fail
            refine (ref_any [] d _ _ (H.out.go ((Kept.refl w).alloc _) (Ext.refl _ _)) (fun _ h => by cases h) (by omega)).mono ?_
            rintro e w1 ⟨s1, c1, rfl, hd1, hk1⟩
            go_wp2_with fail
            refine (small_any [] d _ _ hd1).mono ?_
            rw [hsm]
            rintro e w2 ⟨rfl, hk2'⟩
            have HO1 := Lib.hid ((Own.new w _ [Value.slice A0 d.sec.length k0, Value.slice A1 d.cache.length k1]).kept (hk1.trans hk2'))
            have hkw2 : Kept w w2 := ((Kept.refl w).alloc _).trans (hk1.trans hk2')
            clear hd1 hk1 hk2'
            obtain ⟨q1, q2, _, _⟩ := HO1.out.two
            go_wp2_with fail
            refine (right_any [] d _ _ (H.out.go hkw2 (Ext.refl _ _))).mono ?_
            rw [hr]
            rintro e w3 ⟨rfl, hk3⟩
            have HO1' := Lib.hid (HO1.out.kept hk3)
            have hkw3 := hkw2.trans hk3
            clear HO1 q1 q2 hk3 hkw2
            obtain ⟨q1, q2, _, _⟩ := HO1'.out.two
            go_wp2_with fail
            refine (awake9 _).mono ?_
            rintro e w9 ⟨rfl, hk9⟩
            go_wp2
            go_ret
            exact ⟨rfl, hkw3.trans hk9⟩
        · have h0' : at_ < 0 := by omega
          go_enter Try.func6, Try.ntmps6
          go_wp2_with fail
          refine (ref_any [] d _ _ (H.out.go ((Kept.refl w).alloc _) (Ext.refl _ _)) (fun _ h => by cases h) (by omega)).mono ?_
          rintro e w1 ⟨s1, c1, rfl, hd1, hk1⟩
          go_wp2_with fail
          refine (small_any [] d _ _ hd1).mono ?_
          rw [hsm]
          rintro e w2 ⟨rfl, hk2'⟩
          have HO1 := Lib.hid ((Own.new w _ [Value.slice A0 d.sec.length k0, Value.slice A1 d.cache.length k1]).kept (hk1.trans hk2'))
          have hkw2 : Kept w w2 := ((Kept.refl w).alloc _).trans (hk1.trans hk2')
          clear hd1 hk1 hk2'
          obtain ⟨q1, q2, _, _⟩ := HO1.out.two
          go_wp2_with fail
          refine (right_any [] d _ _ (H.out.go hkw2 (Ext.refl _ _))).mono ?_
          rw [hr]
          rintro e w3 ⟨rfl, hk3⟩
          have HO1' := Lib.hid (HO1.out.kept hk3)
          have hkw3 := hkw2.trans hk3
          clear HO1 q1 q2 hk3 hkw2
          obtain ⟨q1, q2, _, _⟩ := HO1'.out.two
          go_wp2_with fail
          refine (awake9 _).mono ?_
          rintro e w9 ⟨rfl, hk9⟩
          go_wp2
          go_ret
          exact ⟨rfl, hkw3.trans hk9⟩
      · skip
        go_enter Try.func6, Try.ntmps6
        go_wp2_with fail
        refine (ref_any [] d _ _ (H.out.go ((Kept.refl w).alloc _) (Ext.refl _ _)) (fun _ h => by cases h) (by omega)).mono ?_
        rintro e w1 ⟨s1, c1, rfl, hd1, hk1⟩
        go_wp2_with fail
        refine (small_any [] d _ _ hd1).mono ?_
        rw [hsm]
        rintro e w2 ⟨rfl, hk2'⟩
        have HO1 := Lib.hid ((Own.new w _ [Value.slice A0 d.sec.length k0, Value.slice A1 d.cache.length k1]).kept (hk1.trans hk2'))
        have hkw2 : Kept w w2 := ((Kept.refl w).alloc _).trans (hk1.trans hk2')
        clear hd1 hk1 hk2'
        obtain ⟨q1, q2, _, _⟩ := HO1.out.two
        go_wp2_with fail
        refine (right_any [] d _ _ (H.out.go hkw2 (Ext.refl _ _))).mono ?_
        rw [hr]
        rintro e w3 ⟨rfl, hk3⟩
        have HO1' := Lib.hid (HO1.out.kept hk3)
        have hkw3 := hkw2.trans hk3
        clear HO1 q1 q2 hk3 hkw2
        obtain ⟨q1, q2, _, _⟩ := HO1'.out.two
        go_wp2_with fail
        refine (awake9 _).mono ?_
        rintro e w9 ⟨rfl, hk9⟩
        go_wp2
        go_ret
        exact ⟨rfl, hkw3.trans hk9⟩
    · skip
      go_enter Try.func6, Try.ntmps6
      go_wp2_with fail
      refine (ref_any [] d _ _ (H.out.go ((Kept.refl w).alloc _) (Ext.refl _ _)) (fun _ h => by cases h) (by omega)).mono ?_
      rintro e w1 ⟨s1, c1, rfl, hd1, hk1⟩
      go_wp2_with fail
      refine (small_any [] d _ _ hd1).mono ?_
      rw [hsm]
      rintro e w2 ⟨rfl, hk2'⟩
      have HO1 := Lib.hid ((Own.new w _ [Value.slice A0 d.sec.length k0, Value.slice A1 d.cache.length k1]).kept (hk1.trans hk2'))
      have hkw2 : Kept w w2 := ((Kept.refl w).alloc _).trans (hk1.trans hk2')
      clear hd1 hk1 hk2'
      obtain ⟨q1, q2, _, _⟩ := HO1.out.two
      go_wp2_with fail
      refine (awake9 _).mono ?_
      rintro e w9 ⟨rfl, hk9⟩
      go_wp2
      go_ret
      exact ⟨rfl, hkw2.trans hk9⟩

theorem Try.own : ownKnob Try.prog.godebug = none := by kernel_rfl
theorem Try.laidOut : laidOutB Try.prog = true := by kernel_rfl

set_option maxRecDepth 100000 in
theorem diskFlushed_lifted (os : Os) (started : os.Started) (H : Type) (enc : TypeId × Value → H) :
    ReturnsInHanded {} Try.checked os 6 .any (Rows.diskFlushedSpec.pre6 enc Try.prog Try.f6 Rows.diskFlushedRow.domain false) (Rows.diskFlushedSpec.post enc Try.prog Try.f6 false true false false) := by
  refine returnsInHanded_of_change_sized (C := Try.checked) Try.own started (by kernel_rfl) Try.func6
    (ChangeSpec.witness6 (enc := enc) (C := Try.checked) false ⟨#[], #[.agg #[.slice none 0 0, .slice none 0 0], .int .i64 0, .slice none 0 0], []⟩ 8 (by kernel_rfl) (by kernel_rfl) (by kernel_rfl) (by kernel_rfl)) ?_
  intro W base args ds gs before hval0 hW hcnd hsz0 _
  have hval : ∀ (j : Nat) t v, Try.f6.params[j]? = some t → args[j]? = some v → Value.okWide Try.prog W .any base t v := hval0
  have hsz : (DataW.weightsEach Try.prog (Try.f6.params.toList ++ Rows.diskFlushedSpec.plain.varTypes Try.prog) (ds ++ gs)).all (· ≤ reachBytes) = true := hsz0
  have hW' := hW
  obtain ⟨p, q, hA0, hV, rfl, hfz, hnd⟩ := hW
  have hA : DataW.TrodAll enc Try.prog W 0 (fun _ => true) true Try.f6.params.toList args.toList ds p := hA0
  rw [Try.params6] at hA hval hsz
  obtain ⟨v0, v1, v2, d0, d1, d2, p0, p1, p2, rfl, rfl, rfl, h0, h1, h2⟩ := trodAll_three hA
  obtain ⟨rfl, rfl⟩ := trodVars_none hV
  obtain ⟨k, hk, hkr⟩ := open_dk (hval 0 25 v0 rfl rfl) h0 (fun n hn => by
    have := List.all_eq_true.1 hsz n (DataW.weights_mem_each (j := 0) rfl rfl n hn)
    simpa using this)
  obtain ⟨a1, rfl, rfl, rfl, w1⟩ := open_int Try.underlying3 (hval 1 3 v1 rfl rfl) h1
  obtain ⟨l, hl⟩ := open_intsAt (hval 2 44 v2 rfl rfl) h2
  refine (diskFlushed_walk k l a1 v0 v2 W hk hl hkr).mono fun e W' ⟨he, hg⟩ => ?_
  subst he
  exact ⟨_, rfl, law_post Try.laidOut (by kernel_rfl) (by kernel_rfl) Try.underlying4 rfl hW' rfl rfl rfl hg⟩

theorem diskFlushed_holds : Rows.DiskFlushedSaid :=
  OpenClaim.holds_of_wide 6 Try.f6 rfl rfl rfl rfl rfl rfl rfl ⟨rfl, rfl, rfl, rfl, rfl⟩ rfl rfl rfl rfl rfl (by kernel_rfl) Try.func6 (by kernel_rfl)
    (of_decide_eq_true (by kernel_rfl)) (by unfold Func.isWrapper; first | (rw [if_pos (by decide +kernel)]; kernel_rfl) | (rw [if_neg (by decide +kernel)]; exact ⟨rfl, rfl⟩))
    (fun os started H enc _ => diskFlushed_lifted os started H enc)
#print axioms diskFlushed_holds
end Go.Proofs.Ytagpimahicgkmaa
