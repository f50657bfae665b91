/- AllocLens: for every number and list, those of a pool that are free and those that are taken are all of it; one more that is taken is one less that is free. No condition. -/
import Derived.Test.YtbkipbkkdcikcaaL11Awake
import Derived.Test.YtbkipbkkdcikcaaL11Open
import Derived.Test.YtbkipbkkdcikcaaPoolFree
import Derived.Test.YtbkipbkkdcikcaaRowEnd
namespace Go.Proofs.Ytbkipbkkdcikcaa
open Go.ChangeShapes Go.WideShapes Go.ChangeAt Go.RowKit

theorem take_some {tk : List Bool} {x : Nat} {l : List Nat} (h : frees tk = x :: l) : takeR tk = (x, true) ∧ takeT tk = tk.set x true := by simp [takeR, takeT, h]
theorem take_none {tk : List Bool} (h : frees tk = []) : takeR tk = (0, false) ∧ takeT tk = tk := by simp [takeR, takeT, h]


def hasI (l : List Int) (x : Int) : Bool := l.contains x
theorem hasI_nil (x : Int) : hasI [] x = false := rfl
theorem hasI_snoc {l : List Int} {m : Nat} (h : m < l.length) (x : Int) : hasI (l.take (m + 1)) x = (hasI (l.take m) x || (l[m] == x)) := by
  unfold hasI
  rw [List.take_succ_eq_append_getElem h, List.contains_append]
  congr 1
  rw [Bool.eq_iff_iff]
  simp only [List.contains_cons, List.contains_nil, Bool.or_false, beq_iff_eq]
  exact eq_comm
/-- Is place k the first of x in l? -/
def firstAt (l : List Int) (x : Int) (k : Nat) : Bool := (l[k]? == some x) && !hasI (l.take k) x
theorem firstAt_eq {l : List Int} {k : Nat} (h : k < l.length) (x : Int) : firstAt l x k = ((l[k] == x) && !hasI (l.take k) x) := by
  unfold firstAt
  rw [List.getElem?_eq_getElem h]
  rfl
def one (b : Bool) : Nat := if b then 1 else 0
/-- How many of the first m places are the first of x. -/
def cntTo (l : List Int) (x : Int) : Nat → Nat
  | 0 => 0
  | m + 1 => cntTo l x m + one (firstAt l x m)
theorem cntTo_succ (l : List Int) (x : Int) (m : Nat) : cntTo l x (m + 1) = cntTo l x m + one (firstAt l x m) := rfl
theorem cntTo_eq (l : List Int) (x : Int) : ∀ m, m ≤ l.length → cntTo l x m = one (hasI (l.take m) x)
  | 0, _ => rfl
  | m + 1, h => by
    rw [cntTo_succ, cntTo_eq l x m (by omega), hasI_snoc (show m < l.length by omega), firstAt_eq (show m < l.length by omega)]
    generalize hasI (l.take m) x = a
    generalize (l[m] == x) = b
    cases a <;> cases b <;> rfl
theorem cntTo_all (l : List Int) (x : Int) : cntTo l x l.length = one (hasI l x) := by
  have := cntTo_eq l x l.length (Nat.le_refl _)
  rwa [List.take_of_length_le (Nat.le_refl _)] at this
/-- How many of the numbers below i are taken. -/
def tkTo (l : List Int) : Nat → Nat
  | 0 => 0
  | i + 1 => tkTo l i + one (hasI l i)
theorem one_le (b : Bool) : one b ≤ 1 := by cases b <;> decide
theorem tkTo_succ (l : List Int) (i : Nat) : tkTo l (i + 1) = tkTo l i + cntTo l i l.length := by rw [cntTo_all]; rfl
theorem tkTo_le (l : List Int) : ∀ i, tkTo l i ≤ i
  | 0 => Nat.le_refl _
  | i + 1 => by have := tkTo_le l i; have := one_le (hasI l i); simp only [tkTo]; omega
theorem cntTo_le (l : List Int) (x : Int) (m : Nat) (h : m ≤ l.length) : cntTo l x m ≤ 1 := by
  rw [cntTo_eq l x m h]; exact one_le _
theorem tk_frees (n : Nat) (l : List Int) : (frees (takenOf n l)).length + tkTo l n = n := by
  have h : ∀ m, m ≤ n → (freesTo (takenOf n l) m).length + tkTo l m = m := by
    intro m
    induction m with
    | zero => intro _; rfl
    | succ m ih =>
      intro hm
      have := ih (by omega)
      have e : (takenOf n l)[m]? = some (hasI l m) := by
        unfold takenOf hasI
        rw [List.getElem?_map, List.getElem?_range (show m < n by omega)]
        rfl
      simp only [tkTo]
      rcases Bool.eq_false_or_eq_true (hasI l m) with h | h
      · rw [h] at e; rw [← freesTo_taken e, h]; simp only [one, if_true]; omega
      · rw [h] at e; rw [← freesTo_free e, List.length_append, h]; have e1 : one false = 0 := rfl; rw [e1, List.length_singleton]; omega
  have := h n (Nat.le_refl _)
  rw [← freesTo_all, takenOf_length]
  exact this

set_option maxRecDepth 100000 in
set_option maxHeartbeats 1000000 in
theorem allocLens_main (n : Nat) (l : List Int) (v : Value) (w : World) (h : IntsAt [] w v l) (hn : n ≤ 256) (hl : l.length ≤ 300) :
    Calls Try.prog 7 #[.int .i64 n, v] w fun e w' => e = .returned (.bool true) ∧ Kept w w' := by
  have H := Lib.hid h
  obtain ⟨A, c, rfl, hlc, hm, hr⟩ := h
  have HR := Lib.hid hr
  clear hr
  unfold maxLen at hm
  go_enter Try.func7, Try.ntmps7
  go_wp2_with fail
  refine (aNew_yes n l _ _ H.out hn).mono ?_
  rintro e w1 ⟨g, rfl, hp1, hk1⟩
  have HTF := Lib.hid (tk_frees n l)
  generalize takenOf n l = tk at *
  have HP1 := Lib.hid hp1
  clear hp1
  go_wp2_with fail
  refine (pFree_v [] _ g _ _ HP1.out (fun _ h => by cases h)).mono ?_
  rintro e w2 ⟨B, bc, rfl, hi2, hp2, hk2, hnew⟩
  obtain ⟨B', bc', e, hi3, hi4, hi5⟩ := hi2
  cases e
  have HP2 := Lib.hid hp2
  have hkw2 := hk1.trans hk2
  rw [zs_length] at hi3
  rw [zs_length]
  unfold maxLen at hi4
  clear hp2 hk1 hk2 hi5 hnew HP1
  have hz2 := hkw2.size
  go_wp2_with fail
  go_loop [7, 43] (fun cv iv => ∃ i : Nat, i ≤ n ∧ iv = .int .i64 i ∧ cv = .int .i64 (tkTo l i : Nat)) (fun _ iv => n - (intOf iv).toNat)
  case atStart => exact ⟨0, Nat.zero_le _, rfl, rfl⟩
  case round =>
    obtain ⟨i, hi, rfl, rfl⟩ := hrel
    have hti := tkTo_le l i
    by_cases hlt : i < n
    · have HS := Lib.hid (tkTo_succ l i)
      go_wp2_with fail
      go_loop [7, 48] (fun cv kv => ∃ k : Nat, k ≤ l.length ∧ kv = .int .i64 k ∧ cv = .int .i64 (tkTo l i + cntTo l i k : Nat)) (fun _ kv => l.length - (intOf kv).toNat)
      case atStart => exact ⟨0, Nat.zero_le _, rfl, rfl⟩
      case round =>
        obtain ⟨k, hk, rfl, rfl⟩ := hrel
        by_cases hkl : k < l.length
        · obtain ⟨b, o, rfl, hb, _, hc⟩ := HR.out.kept hkw2 (by rw [ints_length]; omega)
          have g1 : w2.cell? ⟨b, o + k, none⟩ = some (.int .i64 l[k]) := hc _ _ (ints_at hkl)
          have HC := Lib.hid hc
          clear hc
          have hck := cntTo_le l i k hk
          have HSC := Lib.hid (cntTo_succ l i k)
          have HFA := Lib.hid (firstAt_eq hkl (i : Int))
          obtain ⟨t0, ht0⟩ : ∃ t0, (l[k] == (i : Int)) = t0 := ⟨_, rfl⟩
          rw [ht0] at HFA
          generalize l[k] = y at *
          go_wp2_with fail
          go_loop [11, 60] (fun fv jv => ∃ j : Nat, j ≤ k ∧ jv = .int .i64 j ∧ fv = .bool (t0 && !hasI (l.take j) (i : Int))) (fun _ jv => k - (intOf jv).toNat)
          case atStart => exact ⟨0, Nat.zero_le _, rfl, by rw [List.take_zero, hasI_nil, Bool.not_false, Bool.and_true]⟩
          case round =>
            obtain ⟨j, hj, rfl, rfl⟩ := hrel
            by_cases hjk : j < k
            · have g2 : w2.cell? ⟨b, o + j, none⟩ = some (.int .i64 l[j]) := HC.out _ _ (ints_at (by omega))
              have HT := Lib.hid (hasI_snoc (show j < l.length by omega) (i : Int))
              generalize hasI (l.take j) (i : Int) = t1 at *
              obtain ⟨t2, ht2⟩ : ∃ t2, (l[j] == (i : Int)) = t2 := ⟨_, rfl⟩
              rw [ht2] at HT
              have ht3 : (l[j] != (i : Int)) = !t2 := by rw [← ht2]; rfl
              clear ht2
              generalize l[j] = z at *
              cases t0 <;> cases t1 <;> cases t2
              all_goals
                simp only [Bool.not_true, Bool.not_false, Bool.and_true, Bool.and_false, Bool.true_and, Bool.false_and] at ht3 ⊢
                go_wp2
                go_round
                case rel => exact ⟨j + 1, by omega, by go_num, by first | rfl | (rw [HT.out]; rfl)⟩
                case measure => simp [intOf]; omega
            · obtain rfl : j = k := by omega
              rw [← HFA.out]
              cases hf : firstAt l i j with
              | true =>
                rw [hf] at HSC
                go_wp2
                go_round
                case rel => exact ⟨j + 1, by omega, by go_num, by rw [HSC.out]; simp only [one, if_true]; go_num⟩
                case measure => simp [intOf]; omega
              | false =>
                rw [hf] at HSC
                go_wp2
                go_round
                case rel => exact ⟨j + 1, by omega, by go_num, by rw [HSC.out]; rfl⟩
                case measure => simp [intOf]; omega
        · obtain rfl : k = l.length := by omega
          rw [← HS.out]
          go_wp2
          go_round
          case rel => exact ⟨i + 1, by omega, by go_num, rfl⟩
          case measure => simp [intOf]; omega
    · obtain rfl : i = n := by omega
      go_wp2_with fail
      refine (pLen_v _ g _ _ HP2.out).mono ?_
      rintro e w3 ⟨rfl, rfl⟩
      go_wp2_with fail
      refine (pTake_any _ g _ _ HP2.out hz2).mono ?_
      rintro e w4 ⟨rfl, hp4, hk4⟩
      have hkw4 : Kept w w4 := Below.trans hkw2 hk4
      have HP4 := Lib.hid hp4
      have htf := HTF.out
      clear hp4 hk4
      cases hL : frees tk with
      | nil =>
        obtain ⟨e1, _⟩ := take_none hL
        rw [e1]
        rw [hL] at htf hi3
        simp only [List.length_nil] at htf hi3 ⊢
        have e2 : (0 : Int) + (tkTo l i : Int) = (i : Int) := by omega
        have e3 : (tkTo l i : Int) = (i : Int) := by omega
        have HHH := Lib.hid htf
        clear e1 htf
        rw [e3]
        go_wp2_with fail
        refine (awake11 _).mono ?_
        rintro e w5 ⟨rfl, hk5⟩
        go_wp2
        go_ret
        exact ⟨rfl, hkw4.trans hk5⟩
      | cons x L =>
        obtain ⟨e1, e2⟩ := take_some hL
        have e4 := frees_take hL
        rw [e1]
        rw [e2] at HP4
        rw [hL] at htf hi3
        have e3 : ((x :: L).length : Int) + (tkTo l i : Int) = (i : Int) := by omega
        have HE4 := Lib.hid e4
        have hz : 0 < (x :: L).length := by simp
        have HLL : Hid ((x :: L).length = L.length + 1) := rfl
        generalize (x :: L).length = m at *
        clear e1 e2 e4 htf hL
        have hm0 : (0 : Int) < (m : Int) := by omega
        go_wp2_with fail
        refine (pLen_v _ g _ _ HP4.out).mono ?_
        rw [HE4.out]
        rintro e w5 ⟨rfl, rfl⟩
        have e5 : (m : Int) - 1 = (L.length : Int) := by have := HLL.out; omega
        go_wp2_with fail
        refine (awake11 _).mono ?_
        rintro e w6 ⟨rfl, hk6⟩
        go_wp2
        go_ret
        exact ⟨rfl, hkw4.trans hk6⟩

set_option maxRecDepth 100000 in
set_option maxHeartbeats 1000000 in
theorem allocLens_walk (n : Int) (l : List Int) (v : Value) (w : World) (h : IntsAt [] w v l) :
    Calls Try.prog 7 #[.int .i64 n, v] w fun e w' => e = .returned (.bool true) ∧ Kept w w' := by
  by_cases h0 : n < 0
  · have H := Lib.hid h
    obtain ⟨A, c, rfl, hlc, hm, hr⟩ := h
    clear hr
    go_enter Try.func7, Try.ntmps7
    go_wp2_with fail
    refine (aNew_no n l _ _ H.out (.inl h0)).mono ?_
    rintro e w1 ⟨rfl, rfl⟩
    go_wp2_with fail
    refine (awake11 _).mono ?_
    rintro e w5 ⟨rfl, hk5⟩
    go_wp2
    go_ret
    exact ⟨rfl, hk5⟩
  · by_cases h1 : 256 < n
    · have H := Lib.hid h
      obtain ⟨A, c, rfl, hlc, hm, hr⟩ := h
      clear hr
      go_enter Try.func7, Try.ntmps7
      go_wp2_with fail
      refine (aNew_no n l _ _ H.out (.inr h1)).mono ?_
      rintro e w1 ⟨rfl, rfl⟩
      go_wp2_with fail
      refine (awake11 _).mono ?_
      rintro e w5 ⟨rfl, hk5⟩
      go_wp2
      go_ret
      exact ⟨rfl, hk5⟩
    · obtain ⟨m, rfl⟩ := Int.eq_ofNat_of_zero_le (show 0 ≤ n by omega)
      by_cases h2 : l.length ≤ 300
      · exact allocLens_main m l v w h (by omega) h2
      · have H := Lib.hid h
        obtain ⟨A, c, rfl, hlc, hm, hr⟩ := h
        clear hr
        unfold maxLen at hm
        have h2' : 300 < l.length := by omega
        go_enter Try.func7, Try.ntmps7
        go_wp2_with fail
        refine (aNew_yes m l _ _ H.out (by omega)).mono ?_
        rintro e w1 ⟨g, rfl, hp1, hk1⟩
        clear hp1
        go_wp2_with fail
        refine (awake11 _).mono ?_
        rintro e w5 ⟨rfl, hk5⟩
        go_wp2
        go_ret
        exact ⟨rfl, hk1.trans hk5⟩

set_option maxRecDepth 100000 in
theorem allocLens_lifted (os : Os) (started : os.Started) (H : Type) (enc : TypeId × Value → H) :
    ReturnsInHanded {} Try.checked os 7 .any (Rows.allocLensSpec.pre6 enc Try.prog Try.f7 Rows.allocLensRow.domain false) (Rows.allocLensSpec.post enc Try.prog Try.f7 false true false false) := by
  refine returnsInHanded_of_change_sized (C := Try.checked) Try.own started (by kernel_rfl) Try.func7
    (ChangeSpec.witness6 (enc := enc) (C := Try.checked) false ⟨#[], #[.int .i64 0, .slice none 0 0], []⟩ 8 (by kernel_rfl) (by kernel_rfl) (by kernel_rfl) (by kernel_rfl)) ?_
  intro W base args ds gs before hval0 hW hcnd hsz0 _
  have hval : ∀ (j : Nat) t v, Try.f7.params[j]? = some t → args[j]? = some v → Value.okWide Try.prog W .any base t v := hval0
  have hW' := hW
  obtain ⟨p, q, hA0, hV, rfl, hfz, hnd⟩ := hW
  have hA : DataW.TrodAll enc Try.prog W 0 (fun _ => true) true Try.f7.params.toList args.toList ds p := hA0
  rw [Try.params7] at hA hval
  obtain ⟨v0, v1, d0, d1, p0, p1, rfl, rfl, rfl, h0, h1⟩ := trodAll_two hA
  obtain ⟨rfl, rfl⟩ := trodVars_none hV
  obtain ⟨a0, rfl, rfl, rfl, w0⟩ := open_int Try.underlying3 (hval 0 3 v0 rfl rfl) h0
  obtain ⟨l, hl⟩ := open_intsAt (hval 1 22 v1 rfl rfl) h1
  refine (allocLens_walk a0 l v1 W hl).mono fun e W' ⟨he, hg⟩ => ?_
  subst he
  exact ⟨_, rfl, law_post Try.laidOut (by kernel_rfl) (by kernel_rfl) Try.underlying4 rfl hW' rfl rfl rfl hg⟩

theorem allocLens_holds : Rows.AllocLensSaid :=
  OpenClaim.holds_of_wide 7 Try.f7 rfl rfl rfl rfl rfl rfl rfl ⟨rfl, rfl, rfl, rfl, rfl⟩ rfl rfl rfl rfl rfl (by kernel_rfl) Try.func7 (by kernel_rfl)
    (of_decide_eq_true (by kernel_rfl)) (by unfold Func.isWrapper; first | (rw [if_pos (by decide +kernel)]; kernel_rfl) | (rw [if_neg (by decide +kernel)]; exact ⟨rfl, rfl⟩))
    (fun os started H enc _ => allocLens_lifted os started H enc)
#print axioms allocLens_holds
end Go.Proofs.Ytbkipbkkdcikcaa
