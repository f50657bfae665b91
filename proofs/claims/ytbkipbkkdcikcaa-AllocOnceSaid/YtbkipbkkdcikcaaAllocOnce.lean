/- AllocOnce: for every number and list, what is taken of a pool, again and again, rises, and is none of those that were taken, until there is none left. No condition. -/
import Derived.Test.YtbkipbkkdcikcaaL11Awake
import Derived.Test.YtbkipbkkdcikcaaL11Open
import Derived.Test.YtbkipbkkdcikcaaRowEnd
namespace Go.Proofs.Ytbkipbkkdcikcaa
open Go.ChangeShapes Go.WideShapes Go.ChangeAt Go.RowKit

theorem frees_not {n : Nat} {l : List Int} {x : Nat} (h : x ∈ frees (takenOf n l)) : x < n ∧ ∀ j, (hj : j < l.length) → l[j] ≠ (x : Int) := by
  have h1 := mem_frees.1 h
  have h2 : x < n := by have := (List.getElem?_eq_some_iff.1 h1).1; rwa [takenOf_length] at this
  refine ⟨h2, fun j hj e => ?_⟩
  simp only [takenOf, List.getElem?_map, List.getElem?_range h2, Option.map_some, Option.some.injEq] at h1
  have : l.contains (x : Int) = true := by rw [List.contains_iff_mem, ← e]; exact List.getElem_mem hj
  rw [this] at h1; cases h1
def lastOf (L : List Nat) (k : Nat) : Int := if k = 0 then -1 else (L.getD (k - 1) 0 : Nat)
theorem lastOf_lt {L : List Nat} (h : L.Pairwise (· < ·)) {k : Nat} (hk : k < L.length) : lastOf L k < (L[k] : Int) := by
  unfold lastOf
  split
  · omega
  · have h1 : k - 1 < L.length := by omega
    have := List.pairwise_iff_getElem.1 h (k - 1) k h1 hk (by omega)
    simp only [List.getD_eq_getElem?_getD, List.getElem?_eq_getElem h1, Option.getD_some]
    omega
theorem lastOf_succ {L : List Nat} {k : Nat} (hk : k < L.length) : lastOf L (k + 1) = (L[k] : Int) := by
  simp [lastOf, List.getElem?_eq_getElem hk]

set_option maxRecDepth 100000 in
set_option maxHeartbeats 1000000 in
theorem allocOnce_main (n : Nat) (l : List Int) (v : Value) (w : World) (h : IntsAt [] w v l) (hn : n ≤ 256) (hl : l.length ≤ 300) :
    Calls Try.prog 3 #[.int .i64 n, v] w fun e w' => e = .returned (.bool true) ∧ Kept w w' := by
  have H := Lib.hid h
  obtain ⟨A, c, rfl, hlc, hm, hr⟩ := h
  have HR := Lib.hid hr
  clear hr
  unfold maxLen at hm
  go_enter Try.func3, Try.ntmps3
  go_wp2_with fail
  refine (aNew_yes n l _ _ H.out hn).mono ?_
  rintro e w1 ⟨g, rfl, hp1, hk1⟩
  have HP1 := Lib.hid hp1
  clear hp1
  have HNOT := Lib.hid (fun x (hx : x ∈ frees (takenOf n l)) => frees_not hx)
  have HUP := Lib.hid (frees_up (takenOf n l))
  have hLl := frees_le (takenOf n l)
  rw [takenOf_length] at hLl
  go_wp2_with fail
  refine (pLen_any w.heap.size g _ _ HP1.out).mono ?_
  rintro e w2 ⟨rfl, rfl⟩
  have HF : ∃ tk, Hid (PoolAt w1 w.heap.size g tk ∧ frees tk = frees (takenOf n l)) := ⟨_, HP1.out, rfl⟩
  clear HP1
  obtain ⟨tk0, HF⟩ := HF
  generalize frees (takenOf n l) = L at *
  have m1 : lastOf L 0 = -1 := rfl
  have M1 := Lib.hid m1
  clear m1
  go_wp2_with fail
  go_loopw [6, 8] (fun lv i wr => ∃ (k : Nat) (tk : List Bool) (z : Int), k ≤ L.length ∧ i = .int .i64 k ∧ lv = .int .i64 z ∧ Hid (z = lastOf L k) ∧ Hid (PoolAt wr w.heap.size g tk) ∧ Hid (frees tk = L.drop k) ∧ Kept w wr) (fun _ i _ => L.length - (intOf i).toNat)
  case atStart => exact ⟨0, tk0, -1, Nat.zero_le _, rfl, rfl, rfl, HF.out.1, HF.out.2, hk1⟩
  case round =>
    obtain ⟨k, tk, z, hk, rfl, rfl, HZ, HP, HD, hkw⟩ := hrel
    have hz := hkw.size
    by_cases hlt : k < L.length
    · have HR1 : Hid (takeR tk = (L[k], true)) := by
        show _ = _; unfold takeR; rw [HD.out, List.drop_eq_getElem_cons hlt]
      have HR2 : Hid (frees (takeT tk) = L.drop (k + 1)) := by
        have e : frees tk = L[k] :: L.drop (k + 1) := by rw [HD.out, List.drop_eq_getElem_cons hlt]
        have e2 : takeT tk = tk.set L[k] true := by unfold takeT; rw [e]
        show _ = _
        rw [e2]; exact frees_take e
      have hlast := lastOf_lt HUP.out hlt
      rw [← HZ.out] at hlast
      have HS := Lib.hid (lastOf_succ hlt)
      obtain ⟨hxn, hxl⟩ := HNOT.out L[k] (List.getElem_mem hlt)
      have HXL := Lib.hid hxl
      clear hxl
      generalize L[k] = x at *
      have hxn' : (x : Int) < (n : Int) := by omega
      go_wp2_with fail
      refine (pTake_any w.heap.size g _ _ HP.out hz).mono ?_
      rintro e w3 ⟨rfl, hp3, hk3⟩
      rw [HR1.out]
      have HP3 := Lib.hid hp3
      have hkw3 : Kept w w3 := Below.trans hkw hk3
      clear hp3 hk3
      go_wp2_with fail
      go_loop [64] (fun iv => ∃ j : Nat, j ≤ l.length ∧ iv = .int .i64 j) (fun iv => l.length - (intOf iv).toNat)
      case atStart => exact ⟨0, Nat.zero_le _, rfl⟩
      case round =>
        obtain ⟨j, hj, rfl⟩ := hrel
        by_cases hjl : j < l.length
        · obtain ⟨b, o, rfl, hb, _, hc⟩ := HR.out.kept hkw3 (by rw [ints_length]; omega)
          have g1 : w3.cell? ⟨b, o + j, none⟩ = some (.int .i64 l[j]) := hc _ _ (ints_at hjl)
          have g2 := beq_f (HXL.out j hjl)
          clear hc
          generalize l[j] = y at *
          go_wp2
          go_round
          case rel => exact ⟨j + 1, by omega, by go_num⟩
          case measure => simp [intOf]; omega
        · go_wp2
          go_roundw
          case rel => exact ⟨k + 1, takeT tk, _, by omega, by go_num, rfl, by show _ = _; rw [HS.out], HP3, HR2, hkw3⟩
          case measure => simp [intOf]; omega
    · have HR1 : Hid (takeR tk = (0, false)) := by
        show _ = _; unfold takeR; rw [HD.out, List.drop_of_length_le (by omega)]
      have HR2 : Hid (frees (takeT tk) = []) := by
        have e : frees tk = [] := by rw [HD.out, List.drop_of_length_le (by omega)]
        have e2 : takeT tk = tk := by unfold takeT; rw [e]
        show _ = _
        rw [e2]; exact e
      go_wp2_with fail
      refine (pTake_any w.heap.size g _ _ HP.out hz).mono ?_
      rintro e w3 ⟨rfl, hp3, hk3⟩
      rw [HR1.out]
      have HP3 := Lib.hid hp3
      have hkw3 : Kept w w3 := Below.trans hkw hk3
      clear hp3 hk3
      go_wp2_with fail
      refine (pLen_any w.heap.size g _ _ HP3.out).mono ?_
      rw [HR2.out]
      rintro e w4 ⟨rfl, rfl⟩
      go_wp2_with fail
      refine (awake11 _).mono ?_
      rintro e w5 ⟨rfl, hk5⟩
      go_wp2
      go_ret
      exact ⟨rfl, hkw3.trans hk5⟩

set_option maxRecDepth 100000 in
set_option maxHeartbeats 1000000 in
theorem allocOnce_walk (n : Int) (l : List Int) (v : Value) (w : World) (h : IntsAt [] w v l) :
    Calls Try.prog 3 #[.int .i64 n, v] w fun e w' => e = .returned (.bool true) ∧ Kept w w' := by
  by_cases h0 : n < 0
  · have H := Lib.hid h
    obtain ⟨A, c, rfl, hlc, hm, hr⟩ := h
    clear hr
    go_enter Try.func3, Try.ntmps3
    go_wp2_with fail
    refine (aNew_no n l _ _ H.out (.inl h0)).mono ?_
    rintro e w1 ⟨rfl, rfl⟩
    go_wp2_with fail
    refine (awake11 _).mono ?_
    rintro e w5 ⟨rfl, hk5⟩
    go_wp2
    go_ret
    exact ⟨rfl, hk5⟩
  · by_cases h1 : 256 < n
    · have H := Lib.hid h
      obtain ⟨A, c, rfl, hlc, hm, hr⟩ := h
      clear hr
      go_enter Try.func3, Try.ntmps3
      go_wp2_with fail
      refine (aNew_no n l _ _ H.out (.inr h1)).mono ?_
      rintro e w1 ⟨rfl, rfl⟩
      go_wp2_with fail
      refine (awake11 _).mono ?_
      rintro e w5 ⟨rfl, hk5⟩
      go_wp2
      go_ret
      exact ⟨rfl, hk5⟩
    · obtain ⟨m, rfl⟩ := Int.eq_ofNat_of_zero_le (show 0 ≤ n by omega)
      by_cases h2 : l.length ≤ 300
      · exact allocOnce_main m l v w h (by omega) h2
      · have H := Lib.hid h
        obtain ⟨A, c, rfl, hlc, hm, hr⟩ := h
        clear hr
        unfold maxLen at hm
        have h2' : 300 < l.length := by omega
        go_enter Try.func3, Try.ntmps3
        go_wp2_with fail
        refine (aNew_yes m l _ _ H.out (by omega)).mono ?_
        rintro e w1 ⟨g, rfl, hp1, hk1⟩
        clear hp1
        go_wp2_with fail
        refine (awake11 _).mono ?_
        rintro e w5 ⟨rfl, hk5⟩
        go_wp2
        go_ret
        exact ⟨rfl, hk1.trans hk5⟩

set_option maxRecDepth 100000 in
theorem allocOnce_lifted (os : Os) (started : os.Started) (H : Type) (enc : TypeId × Value → H) :
    ReturnsInHanded {} Try.checked os 3 .any (Rows.allocOnceSpec.pre6 enc Try.prog Try.f3 Rows.allocOnceRow.domain false) (Rows.allocOnceSpec.post enc Try.prog Try.f3 false true false false) := by
  refine returnsInHanded_of_change_sized (C := Try.checked) Try.own started (by kernel_rfl) Try.func3
    (ChangeSpec.witness6 (enc := enc) (C := Try.checked) false ⟨#[], #[.int .i64 0, .slice none 0 0], []⟩ 8 (by kernel_rfl) (by kernel_rfl) (by kernel_rfl) (by kernel_rfl)) ?_
  intro W base args ds gs before hval0 hW hcnd hsz0 _
  have hval : ∀ (j : Nat) t v, Try.f3.params[j]? = some t → args[j]? = some v → Value.okWide Try.prog W .any base t v := hval0
  have hW' := hW
  obtain ⟨p, q, hA0, hV, rfl, hfz, hnd⟩ := hW
  have hA : DataW.TrodAll enc Try.prog W 0 (fun _ => true) true Try.f3.params.toList args.toList ds p := hA0
  rw [Try.params3] at hA hval
  obtain ⟨v0, v1, d0, d1, p0, p1, rfl, rfl, rfl, h0, h1⟩ := trodAll_two hA
  obtain ⟨rfl, rfl⟩ := trodVars_none hV
  obtain ⟨a0, rfl, rfl, rfl, w0⟩ := open_int Try.underlying3 (hval 0 3 v0 rfl rfl) h0
  obtain ⟨l, hl⟩ := open_intsAt (hval 1 22 v1 rfl rfl) h1
  refine (allocOnce_walk a0 l v1 W hl).mono fun e W' ⟨he, hg⟩ => ?_
  subst he
  exact ⟨_, rfl, law_post Try.laidOut (by kernel_rfl) (by kernel_rfl) Try.underlying4 rfl hW' rfl rfl rfl hg⟩

theorem allocOnce_holds : Rows.AllocOnceSaid :=
  OpenClaim.holds_of_wide 3 Try.f3 rfl rfl rfl rfl rfl rfl rfl ⟨rfl, rfl, rfl, rfl, rfl⟩ rfl rfl rfl rfl rfl (by kernel_rfl) Try.func3 (by kernel_rfl)
    (of_decide_eq_true (by kernel_rfl)) (by unfold Func.isWrapper; first | (rw [if_pos (by decide +kernel)]; kernel_rfl) | (rw [if_neg (by decide +kernel)]; exact ⟨rfl, rfl⟩))
    (fun os started H enc _ => allocOnce_lifted os started H enc)
#print axioms allocOnce_holds
end Go.Proofs.Ytbkipbkkdcikcaa
