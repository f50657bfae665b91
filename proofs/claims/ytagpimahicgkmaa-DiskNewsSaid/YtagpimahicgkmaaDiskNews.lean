/- DiskNews: for every number, disk.New returns a disk of that many sectors of zero bytes with an empty cache, or ErrArg if the number is not from 1 to 1024. No condition. -/
import Derived.Test.YtagpimahicgkmaaL9Awake
import Derived.Test.YtagpimahicgkmaaRowEnd
import Derived.ProofKit
import Derived.OpenShut
namespace Go.Proofs.Ytagpimahicgkmaa
open Go.ChangeShapes Go.WideShapes Go.ChangeAt Go.RowKit

theorem right_zero (m : Nat) (h1 : 1 ≤ m) (h2 : m ≤ 1024) : rightB ⟨List.replicate m zero64, []⟩ = true := by
  have : (List.replicate m zero64).all (·.size == 64) = true := by
    rw [List.all_eq_true]; intro x hx; rw [List.eq_of_mem_replicate hx]; rfl
  simp only [rightB, this, List.length_replicate, h1, h2, List.all_nil, decide_true, Bool.and_self]

set_option maxRecDepth 100000 in
set_option maxHeartbeats 400000 in
theorem diskNews_walk (n : Int) (w : World) :
    Calls Try.prog 3 #[.int .i64 n] w fun e w' => e = .returned (.bool true) ∧ Kept w w' := by
  by_cases h : 1 ≤ n ∧ n ≤ 1024
  · obtain ⟨h1, h2⟩ := h
    obtain ⟨m, rfl⟩ := Int.eq_ofNat_of_zero_le (show 0 ≤ n by omega)
    have HN : Hid (newR m = (⟨List.replicate m zero64, []⟩, 0)) := by show _ = _; simp [newR, h1, h2]
    have hz := zero_lit
    have HR := Lib.hid (right_zero m (by omega) (by omega))
    go_enter Try.func3, Try.ntmps3
    go_wp2_with fail
    refine (new_any [] m _ (fun _ h => by cases h)).mono ?_
    rw [HN.out]
    rintro e w1 ⟨s1, c1, rfl, hd1, hk1⟩
    obtain ⟨A1, k1, A1', k1', rfl, rfl⟩ := hd1.form
    simp only [List.length_replicate, List.length_nil] at hd1 ⊢
    obtain ⟨_, _, hl, hm, _, _, hr, _⟩ := hd1.rows
    obtain ⟨b, o, rfl, hb, _, hc⟩ := hr (by simp [strs]; omega)
    have HC := Lib.hid hc
    have HD := Lib.hid hd1
    clear hc hr hd1
    go_wp2_with fail
    go_loop [47] (fun i => ∃ k : Nat, k ≤ m ∧ i = .int .i64 k) (fun i => m - (intOf i).toNat)
    case atStart => exact ⟨0, Nat.zero_le _, rfl⟩
    case round =>
      obtain ⟨k, hk, rfl⟩ := hrel
      by_cases hlt : k < m
      · have g1 : w1.cell? ⟨b, o + k, none⟩ = some (.string zero64) := by
          rw [HC.out k _ (strs_at (by simpa using hlt))]; simp
        go_wp2
        go_round
        case rel => exact ⟨k + 1, by omega, by go_num⟩
        case measure => simp [intOf]; omega
      · go_wp2_with fail
        refine (right_any [] _ _ _ (HD.out.go ((Kept.refl w1).alloc _) (Ext.refl _ _))).mono ?_
        rw [HR.out]
        rintro e w2 ⟨rfl, hk2⟩
        go_wp2_with fail
        refine (awake9 _).mono ?_
        rintro e w3 ⟨rfl, hk3⟩
        go_wp2
        go_ret
        exact ⟨rfl, ((hk1.alloc _).trans hk2).trans hk3⟩
  · have HN : Hid (newR n = (⟨[], []⟩, 1)) := by show _ = _; rw [newR, if_neg h]
    by_cases h1 : n < 1
    · go_enter Try.func3, Try.ntmps3
      go_wp2_with fail
      refine (new_any [] n _ (fun _ h => by cases h)).mono ?_
      rw [HN.out]
      rintro e w1 ⟨s1, c1, rfl, hd1, hk1⟩
      obtain ⟨A1, k1, A1', k1', rfl, rfl⟩ := hd1.form
      simp only [List.length_nil] at hd1 ⊢
      clear hd1
      go_wp2_with fail
      refine (awake9 _).mono ?_
      rintro e w3 ⟨rfl, hk3⟩
      go_wp2
      go_ret
      exact ⟨rfl, (hk1.alloc _).trans hk3⟩
    · have h2 : 1024 < n := by omega
      go_enter Try.func3, Try.ntmps3
      go_wp2_with fail
      refine (new_any [] n _ (fun _ h => by cases h)).mono ?_
      rw [HN.out]
      rintro e w1 ⟨s1, c1, rfl, hd1, hk1⟩
      obtain ⟨A1, k1, A1', k1', rfl, rfl⟩ := hd1.form
      simp only [List.length_nil] at hd1 ⊢
      clear hd1
      go_wp2_with fail
      refine (awake9 _).mono ?_
      rintro e w3 ⟨rfl, hk3⟩
      go_wp2
      go_ret
      exact ⟨rfl, (hk1.alloc _).trans hk3⟩

theorem Try.own : ownKnob Try.prog.godebug = none := by kernel_rfl

set_option maxRecDepth 100000 in
theorem diskNews_lifted (os : Os) (started : os.Started) (H : Type) (enc : TypeId × Value → H) :
    ReturnsInHanded {} Try.checked os 3 .any (Rows.diskNewsSpec.pre6 enc Try.prog Try.f3 Rows.diskNewsRow.domain false) (Rows.diskNewsSpec.post enc Try.prog Try.f3 false true false false) := by
  refine returnsInHanded_of_change (C := Try.checked) Try.own started (by kernel_rfl) Try.func3
    (ChangeSpec.witness6 (enc := enc) (C := Try.checked) false ⟨#[], #[.int .i64 0], []⟩ 8 (by kernel_rfl) (by kernel_rfl) (by kernel_rfl) (by kernel_rfl)) ?_
  intro W base args ds gs before hval0 hW hcnd _
  have hval : ∀ (j : Nat) t v, Try.f3.params[j]? = some t → args[j]? = some v → Value.okWide Try.prog W .any base t v := hval0
  have hW' := hW
  obtain ⟨p, q, hA0, hV, rfl, hfz, hnd⟩ := hW
  have hA : DataW.TrodAll enc Try.prog W 0 (fun _ => true) true Try.f3.params.toList args.toList ds p := hA0
  rw [Try.params3] at hA hval
  obtain ⟨v0, vs0, d0, ds0, p0, q0, hargs, rfl, rfl, h0, r0⟩ := trodAll_cons hA
  obtain ⟨rfl, rfl, rfl⟩ := trodAll_nil r0
  obtain rfl : args = #[v0] := by cases args; simp_all
  obtain ⟨rfl, rfl⟩ := trodVars_none hV
  obtain ⟨a0, rfl, rfl, rfl, w0⟩ := open_int Try.underlying3 (hval 0 3 v0 rfl rfl) h0
  clear hA0 hval0
  simp only [List.append_nil] at hW'
  refine (diskNews_walk a0 W).mono fun e W' ⟨he, hg⟩ => ?_
  subst he
  exact ⟨_, rfl, post_of_below (pa := []) (pv := []) hW' (fun _ _ _ => (trodAll_cons_mk (shut_bool Try.underlying4 _) trodAll_mk0)) (fun sp _ => (trodAll_cons_mk (shut_int Try.underlying3 w0) trodAll_mk0)) (fun _ _ => rfl) rfl
    hg (ok_one (by kernel_rfl) rfl (okWide_bool_mk Try.underlying4 _))⟩

theorem diskNews_holds : Rows.DiskNewsSaid :=
  OpenClaim.holds_of_wide 3 Try.f3 rfl rfl rfl rfl rfl rfl rfl ⟨rfl, rfl, rfl, rfl, rfl⟩ rfl rfl rfl rfl rfl (by kernel_rfl) Try.func3 (by kernel_rfl)
    (of_decide_eq_true (by kernel_rfl)) (by unfold Func.isWrapper; first | (rw [if_pos (by decide +kernel)]; kernel_rfl) | (rw [if_neg (by decide +kernel)]; exact ⟨rfl, rfl⟩))
    (fun os started H enc _ => diskNews_lifted os started H enc)
#print axioms diskNews_holds
end Go.Proofs.Ytagpimahicgkmaa
