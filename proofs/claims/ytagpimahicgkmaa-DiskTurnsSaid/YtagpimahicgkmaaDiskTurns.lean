/- DiskTurns: for every disk, write, number and list: what any sector reads, what a disk is with a write more, flushed, and behind a crash, is what the document says, or refused. No condition. -/
import Derived.Test.YtagpimahicgkmaaDiskTuW
import Derived.Test.YtagpimahicgkmaaRowEnd
import Derived.Test.YtagpimahicgkmaaOpen
namespace Go.Proofs.Ytagpimahicgkmaa
open Go.ChangeShapes Go.WideShapes Go.ChangeAt Go.RowKit

set_option maxRecDepth 100000 in
set_option maxHeartbeats 1000000 in
theorem diskTurns_walk (d : Dk) (x : Wr) (keep : List Int) (at_ : Int) (v u : Value) (w : World) (h : DkAt [] w v d) (hu : IntsAt [] w u keep) (hreach : d.cache.length * 24 ≤ 140737488351232) (hat : at_ ≤ 9223372036854775807) :
    Calls Try.prog 5 #[v, .agg #[.int .i64 x.at_, .string x.data], .int .i64 at_, u] w fun e w' => e = .returned (.bool true) ∧ Kept w w' := by
  by_cases hall : smallB d = true ∧ x.data.size ≤ 100 ∧ keep.length ≤ 200
  · obtain ⟨a1, a2, a3⟩ := hall
    exact diskTurns_main d x keep at_ v u w h hu hreach hat a1 a2 a3
  · have HALL := Lib.hid hall
    clear hall
    have H := Lib.hid h
    obtain ⟨s, c, rfl, hs, hc⟩ := h
    obtain ⟨B, bc, rfl, bl, bm, _⟩ := hu
    unfold maxLen at bm
    clear hs hc
    obtain ⟨A0, k0, A1, k1, rfl, rfl⟩ := H.out.form
    rcases Bool.eq_false_or_eq_true (smallB d) with hsm | hsm
    · by_cases h1 : x.data.size ≤ 100
      · have h2 : 200 < keep.length := by
          rcases Nat.lt_or_ge 200 keep.length with h | h
          · exact h
          · exact absurd ⟨hsm, h1, h⟩ HALL.out
        have h1' : (x.data.size : Int) ≤ 100 := by omega
        go_enter Try.func5, Try.ntmps5
        go_wp2_with fail
        refine (ref_any [] d _ _ (H.out.go (((Kept.refl w).alloc _).alloc _) (Ext.refl _ _)) (fun _ h => by cases h) (by omega)).mono ?_
        rintro e w1 ⟨s1, c1, rfl, hd1, hk1⟩
        obtain ⟨R0, r0, R1, r1, rfl, rfl⟩ := hd1.form
        have HO1 := Lib.hid ((((Own.new w _ [Value.slice A0 d.sec.length k0, Value.slice A1 d.cache.length k1]).alloc _).kept hk1).alloc (.cells #[Value.slice R0 d.sec.length r0, Value.slice R1 d.cache.length r1] 37))
        have HO2 := Lib.hid (((Own.new1 w _ _ [Value.int .i64 x.at_, .string x.data]).kept hk1).alloc (.cells #[Value.slice R0 d.sec.length r0, Value.slice R1 d.cache.length r1] 37))
        have hkx : Kept w (w1.alloc (.cells #[Value.slice R0 d.sec.length r0, Value.slice R1 d.cache.length r1] 37)) := ((((Kept.refl w).alloc _).alloc _).trans hk1).alloc _
        have HX := Lib.hid (hd1.go ((Kept.refl w1).alloc (.cells #[Value.slice R0 d.sec.length r0, Value.slice R1 d.cache.length r1] 37)) (Ext.refl _ _))
        have hz1 : w.heap.size < w1.heap.size := Nat.lt_of_lt_of_le (by simp; omega) hk1.size
        clear hd1 hk1
        go_wp2_with fail
        refine (small_any [] d _ _ HX.out).mono ?_
        rw [hsm]
        rintro e w2 ⟨rfl, hk2'⟩
        have HO2' := Lib.hid (HO2.out.kept hk2')
        have hkw2 := hkx.trans hk2'
        clear HO1 HO2 HX hk2' hkx
        obtain ⟨q3, q4, _, _⟩ := HO2'.out.two
        go_wp2_with fail
        refine (awake9 _).mono ?_
        rintro e w9 ⟨rfl, hk9⟩
        go_wp2
        go_ret
        exact ⟨rfl, hkw2.trans hk9⟩
      · have h1' : 100 < x.data.size := by omega
        clear h1
        go_enter Try.func5, Try.ntmps5
        go_wp2_with fail
        refine (ref_any [] d _ _ (H.out.go (((Kept.refl w).alloc _).alloc _) (Ext.refl _ _)) (fun _ h => by cases h) (by omega)).mono ?_
        rintro e w1 ⟨s1, c1, rfl, hd1, hk1⟩
        obtain ⟨R0, r0, R1, r1, rfl, rfl⟩ := hd1.form
        have HO1 := Lib.hid ((((Own.new w _ [Value.slice A0 d.sec.length k0, Value.slice A1 d.cache.length k1]).alloc _).kept hk1).alloc (.cells #[Value.slice R0 d.sec.length r0, Value.slice R1 d.cache.length r1] 37))
        have HO2 := Lib.hid (((Own.new1 w _ _ [Value.int .i64 x.at_, .string x.data]).kept hk1).alloc (.cells #[Value.slice R0 d.sec.length r0, Value.slice R1 d.cache.length r1] 37))
        have hkx : Kept w (w1.alloc (.cells #[Value.slice R0 d.sec.length r0, Value.slice R1 d.cache.length r1] 37)) := ((((Kept.refl w).alloc _).alloc _).trans hk1).alloc _
        have HX := Lib.hid (hd1.go ((Kept.refl w1).alloc (.cells #[Value.slice R0 d.sec.length r0, Value.slice R1 d.cache.length r1] 37)) (Ext.refl _ _))
        have hz1 : w.heap.size < w1.heap.size := Nat.lt_of_lt_of_le (by simp; omega) hk1.size
        clear hd1 hk1
        go_wp2_with fail
        refine (small_any [] d _ _ HX.out).mono ?_
        rw [hsm]
        rintro e w2 ⟨rfl, hk2'⟩
        have HO2' := Lib.hid (HO2.out.kept hk2')
        have hkw2 := hkx.trans hk2'
        clear HO1 HO2 HX hk2' hkx
        obtain ⟨q3, q4, _, _⟩ := HO2'.out.two
        go_wp2_with fail
        refine (awake9 _).mono ?_
        rintro e w9 ⟨rfl, hk9⟩
        go_wp2
        go_ret
        exact ⟨rfl, hkw2.trans hk9⟩
    · skip
      go_enter Try.func5, Try.ntmps5
      go_wp2_with fail
      refine (ref_any [] d _ _ (H.out.go (((Kept.refl w).alloc _).alloc _) (Ext.refl _ _)) (fun _ h => by cases h) (by omega)).mono ?_
      rintro e w1 ⟨s1, c1, rfl, hd1, hk1⟩
      obtain ⟨R0, r0, R1, r1, rfl, rfl⟩ := hd1.form
      have HO1 := Lib.hid ((((Own.new w _ [Value.slice A0 d.sec.length k0, Value.slice A1 d.cache.length k1]).alloc _).kept hk1).alloc (.cells #[Value.slice R0 d.sec.length r0, Value.slice R1 d.cache.length r1] 37))
      have HO2 := Lib.hid (((Own.new1 w _ _ [Value.int .i64 x.at_, .string x.data]).kept hk1).alloc (.cells #[Value.slice R0 d.sec.length r0, Value.slice R1 d.cache.length r1] 37))
      have hkx : Kept w (w1.alloc (.cells #[Value.slice R0 d.sec.length r0, Value.slice R1 d.cache.length r1] 37)) := ((((Kept.refl w).alloc _).alloc _).trans hk1).alloc _
      have HX := Lib.hid (hd1.go ((Kept.refl w1).alloc (.cells #[Value.slice R0 d.sec.length r0, Value.slice R1 d.cache.length r1] 37)) (Ext.refl _ _))
      have hz1 : w.heap.size < w1.heap.size := Nat.lt_of_lt_of_le (by simp; omega) hk1.size
      clear hd1 hk1
      go_wp2_with fail
      refine (small_any [] d _ _ HX.out).mono ?_
      rw [hsm]
      rintro e w2 ⟨rfl, hk2'⟩
      have HO2' := Lib.hid (HO2.out.kept hk2')
      have hkw2 := hkx.trans hk2'
      clear HO1 HO2 HX hk2' hkx
      obtain ⟨q3, q4, _, _⟩ := HO2'.out.two
      go_wp2_with fail
      refine (awake9 _).mono ?_
      rintro e w9 ⟨rfl, hk9⟩
      go_wp2
      go_ret
      exact ⟨rfl, hkw2.trans hk9⟩

theorem Try.own : ownKnob Try.prog.godebug = none := by kernel_rfl
theorem Try.laidOut : laidOutB Try.prog = true := by kernel_rfl

set_option maxRecDepth 100000 in
theorem diskTurns_lifted (os : Os) (started : os.Started) (H : Type) (enc : TypeId × Value → H) :
    ReturnsInHanded {} Try.checked os 5 .any (Rows.diskTurnsSpec.pre6 enc Try.prog Try.f5 Rows.diskTurnsRow.domain false) (Rows.diskTurnsSpec.post enc Try.prog Try.f5 false true false false) := by
  refine returnsInHanded_of_change_sized (C := Try.checked) Try.own started (by kernel_rfl) Try.func5
    (ChangeSpec.witness6 (enc := enc) (C := Try.checked) false ⟨#[], #[.agg #[.slice none 0 0, .slice none 0 0], .agg #[.int .i64 0, .string .empty], .int .i64 0, .slice none 0 0], []⟩ 8 (by kernel_rfl) (by kernel_rfl) (by kernel_rfl) (by kernel_rfl)) ?_
  intro W base args ds gs before hval0 hW hcnd hsz0 _
  have hval : ∀ (j : Nat) t v, Try.f5.params[j]? = some t → args[j]? = some v → Value.okWide Try.prog W .any base t v := hval0
  have hsz : (DataW.weightsEach Try.prog (Try.f5.params.toList ++ Rows.diskTurnsSpec.plain.varTypes Try.prog) (ds ++ gs)).all (· ≤ reachBytes) = true := hsz0
  have hW' := hW
  obtain ⟨p, q, hA0, hV, rfl, hfz, hnd⟩ := hW
  have hA : DataW.TrodAll enc Try.prog W 0 (fun _ => true) true Try.f5.params.toList args.toList ds p := hA0
  rw [Try.params5] at hA hval hsz
  obtain ⟨v0, v1, v2, v3, d0, d1, d2, d3, p0, p1, p2, p3, rfl, rfl, rfl, h0, h1, h2, h3⟩ := trodAll_four hA
  obtain ⟨rfl, rfl⟩ := trodVars_none hV
  obtain ⟨k, hk, hkr⟩ := open_dk (hval 0 25 v0 rfl rfl) h0 (fun n hn => by
    have := List.all_eq_true.1 hsz n (DataW.weights_mem_each (j := 0) rfl rfl n hn)
    simpa using this)
  obtain ⟨x, rfl⟩ := open_wr (hval 1 33 v1 rfl rfl) h1
  obtain ⟨a2, rfl, rfl, rfl, w2⟩ := open_int Try.underlying3 (hval 2 3 v2 rfl rfl) h2
  obtain ⟨l, hl⟩ := open_intsAt (hval 3 44 v3 rfl rfl) h3
  have hb : a2 ≤ 9223372036854775807 := by
    simp [Lit.wf, IntKind.min, IntKind.max, IntKind.signed, IntKind.bits] at w2; omega
  refine (diskTurns_walk k x l a2 v0 v3 W hk hl hkr hb).mono fun e W' ⟨he, hg⟩ => ?_
  subst he
  exact ⟨_, rfl, law_post Try.laidOut (by kernel_rfl) (by kernel_rfl) Try.underlying4 rfl hW' rfl rfl rfl hg⟩

theorem diskTurns_holds : Rows.DiskTurnsSaid :=
  OpenClaim.holds_of_wide 5 Try.f5 rfl rfl rfl rfl rfl rfl rfl ⟨rfl, rfl, rfl, rfl, rfl⟩ rfl rfl rfl rfl rfl (by kernel_rfl) Try.func5 (by kernel_rfl)
    (of_decide_eq_true (by kernel_rfl)) (by unfold Func.isWrapper; first | (rw [if_pos (by decide +kernel)]; kernel_rfl) | (rw [if_neg (by decide +kernel)]; exact ⟨rfl, rfl⟩))
    (fun os started H enc _ => diskTurns_lifted os started H enc)
#print axioms diskTurns_holds
end Go.Proofs.Ytagpimahicgkmaa
