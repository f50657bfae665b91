/- Walks: mailsacklaw10.refs, ref, few. -/
import Derived.Test.YtagpimahicgkmaaDoorWalE
import Derived.Test.YtagpimahicgkmaaDoorRfSmall
import Derived.Test.YtagpimahicgkmaaDoorMa
namespace Go.Proofs.YtagpimahicgkmaaDoor
open Go.RowKit

theorem Tryd.elRw : Elem Tryd.prog 27 82 2 24 wrC :=
  Elem.of (z := .agg #[.int .i64 0, .string ⟨#[]⟩]) (by kernel_rfl) (by kernel_rfl) rfl (by omega) (fun _ => rfl)
theorem wrsAt_own {V : List Nat} {w : World} {base : Nat} {t : TypeId} {A : Option Addr} {n c : Nat} {l : List Wr} (h : w.ownsRow base t 2 (.slice A n c) l.length (l.flatMap wrC)) (hV : ∀ k ∈ V, k < base) (hn : n = l.length) : WrsAt V w (.slice A n c) l := by
  subst hn
  obtain ⟨A9, c9, e9, h91, h92, h93⟩ := own_form (V := V) h hV
  exact ⟨A9, c9, e9, h91, h92, h93⟩
def fewB (l : List Wr) : Bool := l.all (fun x => decide (x.data.size ≤ 100)) && decide (l.length ≤ 40)
theorem few_no {l : List Wr} {i : Nat} (hi : i < l.length) (h : 100 < l[i].data.size) : fewB l = false := by
  unfold fewB
  rw [all_not (fun x : Wr => decide (x.data.size ≤ 100)) l i hi (by simpa using h), Bool.false_and]
theorem few_len {l : List Wr} (h : fewB l = true) : l.length ≤ 40 := by
  simp only [fewB, Bool.and_eq_true, decide_eq_true_eq] at h; exact h.2
theorem few_end {l : List Wr} (h : l.all (fun x => decide (x.data.size ≤ 100)) = true) : fewB l = decide (l.length ≤ 40) := by
  unfold fewB; rw [h, Bool.true_and]
theorem ret_v {a b : Value} (h : a = b) : Ending.returned a = .returned b := by rw [h]

set_option maxRecDepth 100000 in
set_option maxHeartbeats 1000000 in
theorem refs_any (V : List Nat) (l : List Wr) (u : Value) (w : World) (hu : WrsAt [] w u l) (hV : Old V w) (hreach : l.length * 24 ≤ 140737488355328) :
    Calls Tryd.prog 24 #[u] w fun e w' => ∃ r, e = .returned r ∧ WrsAt V w' r l ∧ Kept w w' := by
  have HOV := Lib.hid hV
  obtain ⟨A, c, rfl, hc1, hc2, hrow⟩ := hu
  unfold maxLen at hc2
  have HROW := Lib.hid hrow
  clear hrow hV
  go_enter Tryd.func24, Tryd.ntmps24
  go_wp2_with fail
  go_loopw [3, 8] (fun ov iv wq => ∃ (k : Nat) (B : Option Addr) (cap : Nat), k ≤ l.length ∧ iv = .int .i64 k ∧ ov = .slice B k cap ∧ wq.ownsRow w.heap.size 82 2 (.slice B k cap) (l.take k).length ((l.take k).flatMap wrC) ∧ Kept w wq) (fun _ iv _ => l.length - (intOf iv).toNat)
  case atStart => exact ⟨0, none, 0, Nat.zero_le _, rfl, rfl, World.ownsRow_nil _ _ _ _, Kept.refl _⟩
  case round =>
    obtain ⟨k, B, cap, hk, rfl, rfl, ho, K⟩ := hrel
    have HO := Lib.hid ho
    clear ho
    by_cases hlt : k < l.length
    · skip
      obtain ⟨b2, o2, rfl, hb2, _, hcs2⟩ := (HROW.out.kept K) (by rw [wrs_length]; omega)
      have g1 : wr.cell? ⟨b2, o2 + k * 2, none⟩ = some (.int .i64 l[k].at_) := hcs2 _ _ (wrs_at hlt).1
      have g2 : wr.cell? ⟨b2, o2 + k * 2 + 1, none⟩ = some (.string l[k].data) := hcs2 _ _ (wrs_at hlt).2
      have zb2 := hb2
      clear hcs2
      have HM : Hid (l.take (k + 1) = l.take k ++ [l[k]]) := by show _ = _; rw [List.take_succ_eq_append_getElem hlt]
      have hml : (l.take k).length = k := by rw [List.length_take]; omega
      generalize l[k] = x at *
      generalize l.take k = M at *
      have HML := Lib.hid hml
      clear hml
      go_upto_region 6 with (at_builtin; go_must (refine Tryd.elRw.wpList_app rfl (.tmp 12) (.tmp 14) rfl w.heap.size _ M rfl ((HO.out.alloc _).alloc _) [] (some ⟨wr.heap.size + 1, 0, none⟩) 1 [x] rfl ((Own.new1 wr _ 82 ([x].flatMap wrC)).row (by simp)) (wrC_one _) (by rw [HML.out]; unfold maxLen; simp only [List.length_cons, List.length_nil]; omega) (by rw [HML.out]; simp only [List.length_cons, List.length_nil]; omega) (by have := K.size; simp; omega) ?_; intro v9 w9 hap hgr hat))
      rw [← HM.out] at hap
      have K9 := ((K.alloc _).alloc _).grown hgr (fun k e => (HO.out.lt k e).1)
      obtain ⟨A9, c9, rfl, _, _, _⟩ := own_form (V := []) hap (by simp)
      have e : (l.take (k + 1)).length = k + 1 := by rw [List.length_take]; omega
      rw [e] at hap ⊢
      have HE9 := Lib.hid e
      have HO9 := Lib.hid hap
      clear hap hgr hat e
      go_wp2
      go_roundw
      case rel => exact ⟨k + 1, A9, c9, by omega, by go_num, rfl, by rw [HE9.out]; exact HO9.out, K9⟩
      case measure => simp [intOf]; omega
    · obtain rfl : k = l.length := by omega
      rw [List.take_length] at HO
      go_wp2
      go_ret
      exact ⟨_, rfl, wrsAt_own HO.out HOV.out rfl, K⟩
set_option maxRecDepth 100000 in
set_option maxHeartbeats 1000000 in
theorem few_any (l : List Wr) (u : Value) (w : World) (hu : WrsAt [] w u l) :
    Calls Tryd.prog 12 #[u] w fun e w' => e = .returned (.bool (fewB l)) ∧ Kept w w' := by
  obtain ⟨A, c, rfl, hc1, hc2, hrow⟩ := hu
  unfold maxLen at hc2
  have HROW := Lib.hid hrow
  clear hrow
  go_enter Tryd.func12, Tryd.ntmps12
  go_wp2_with fail
  go_loopw [7] (fun iv wq => ∃ (k : Nat), k ≤ l.length ∧ iv = .int .i64 k ∧ Hid ((l.take k).all (fun x => decide (x.data.size ≤ 100)) = true) ∧ Kept w wq) (fun iv _ => l.length - (intOf iv).toNat)
  case atStart => exact ⟨0, Nat.zero_le _, rfl, rfl, Kept.refl _⟩
  case round =>
    obtain ⟨k, hk, rfl, HA, K⟩ := hrel
    by_cases hlt : k < l.length
    · skip
      obtain ⟨b2, o2, rfl, hb2, _, hcs2⟩ := (HROW.out.kept K) (by rw [wrs_length]; omega)
      have g1 : wr.cell? ⟨b2, o2 + k * 2, none⟩ = some (.int .i64 l[k].at_) := hcs2 _ _ (wrs_at hlt).1
      have g2 : wr.cell? ⟨b2, o2 + k * 2 + 1, none⟩ = some (.string l[k].data) := hcs2 _ _ (wrs_at hlt).2
      have zb2 := hb2
      clear hcs2
      by_cases h1 : 100 < l[k].data.size
      · have HF := Lib.hid (few_no hlt h1)
        generalize l[k] = x at *
        have h1' : (100 : Int) < (x.data.size : Int) := by omega
        go_wp2
        go_ret
        exact ⟨ret_bool HF.out.symm, K.alloc _⟩
      · have HA2 := Lib.hid (all_take_succ _ _ _ hlt HA.out (by simp; omega))
        generalize l[k] = x at *
        have h1' : ¬ (100 : Int) < (x.data.size : Int) := by omega
        go_wp2
        go_roundw
        case rel => exact ⟨k + 1, by omega, by go_num, HA2, K.alloc _⟩
        case measure => simp [intOf]; omega
    · have HE := Lib.hid (few_end (all_of_take _ _ k (by omega) HA.out))
      go_wp2
      go_ret
      exact ⟨ret_bool (by rw [HE.out]; first | rfl | (rw [Bool.eq_iff_iff]; simp; omega)), K⟩
set_option maxRecDepth 100000 in
set_option maxHeartbeats 1000000 in
theorem ref10_any (V : List Nat) (d : Dk) (v : Value) (w : World) (h : DkAt V w v d) (hV : Old V w) (hreach : d.cache.length * 24 ≤ 140737488355328) :
    Calls Tryd.prog 11 #[v] w fun e w' => ∃ s' c', e = .returned (.agg #[s', c']) ∧ DkAt V w' (.agg #[s', c']) d ∧ Kept w w' := by
  have HOV := Lib.hid hV
  have HD := Lib.hid h
  have HRE := Lib.hid hreach
  obtain ⟨_, _, rfl, _, _⟩ := h
  obtain ⟨A0, c0, B0, e0, rfl, rfl⟩ := HD.out.form
  clear hV hreach
  generalize hn0 : d.sec.length = n0 at *
  generalize hm0 : d.cache.length = m0 at *
  have HM0 := Lib.hid hm0
  clear hn0 hm0
  go_enter Tryd.func11, Tryd.ntmps11
  go_wp2_with fail
  have OD := Lib.hid ((Own.newAt w w.heap.size 25 [.slice A0 n0 c0, .slice B0 m0 e0] (by simp)).alloc (.cells #[.slice none 0 0, .slice none 0 0] 29))
  have OR := Lib.hid (Own.newAt (w.alloc (.cells #[.slice A0 n0 c0, .slice B0 m0 e0] 25)) (w.heap.size + 1) 29 [.slice none 0 0, .slice none 0 0] (by simp))
  have K := (((Kept.refl w).alloc (.cells #[.slice A0 n0 c0, .slice B0 m0 e0] 25)).alloc (.cells #[.slice none 0 0, .slice none 0 0] 29))
  generalize ((w.alloc (.cells #[.slice A0 n0 c0, .slice B0 m0 e0] 25)).alloc (.cells #[.slice none 0 0, .slice none 0 0] 29)) = w1 at *
  obtain ⟨cD0, cD1, fD0, fD1⟩ := OD.out.two
  obtain ⟨cR0, cR1, fR0, fR1⟩ := OR.out.two
  clear cD0 cD1 fD0 fD1 cR0 cR1 fR0 fR1
  replace HD := Lib.hid (HD.out.go K (Ext.cons (k := w.heap.size + 1) (by omega) (Ext.refl _ _)))
  go_upto_region 1 with fail
  have CD0 : ∀ W', Kept w1 W' → W'.cell? ⟨w.heap.size, 0, none⟩ = some (.slice A0 n0 c0) := fun W' hk => (OD.out.kept hk).cell? 0
  have CD1 : ∀ W', Kept w1 W' → W'.cell? ⟨w.heap.size, 1, none⟩ = some (.slice B0 m0 e0) := fun W' hk => (OD.out.kept hk).cell? 1
  have CR0 : ∀ W', Kept w1 W' → W'.cell? ⟨(w.heap.size + 1), 0, none⟩ = some (.slice none 0 0) := fun W' hk => (OR.out.kept hk).cell? 0
  have CR1 : ∀ W', Kept w1 W' → W'.cell? ⟨(w.heap.size + 1), 1, none⟩ = some (.slice none 0 0) := fun W' hk => (OR.out.kept hk).cell? 1
  refine wp_region_Z (S := fun W' => Kept w1 W') (Z := [6]) (by kernel_rfl) ((Kept.refl _).drew) (fun hHeld => ?_)
  have kr := (Kept.refl w1).drew
  have Kr := K
  have zr := K.size
  have ODr := OD
  have ORr := OR
  have HDr := HD
  replace OD := Lib.hid (ODr.out.kept kr)
  replace OR := Lib.hid (ORr.out.kept kr)
  replace HD := Lib.hid (HDr.out.go kr (Ext.refl _ _))
  replace K := Kr.trans kr
  generalize w1.drew = w2 at *
  refine wpAnyZ_take (i := 0) (oi := { dst := some 3, op := Op.fieldAddr 25 (Operand.tmp 1) 0, type := 0, pos := "law.go:26", after := #[], guard := none }) (v := ?_) rfl (by kernel_rfl) (fun _ _ _ h => h) (Or.inl ⟨by rfl, ?_⟩) (by assumption) ?_
  rotate_left
  · (intro wz hSw; (try dsimp only at hSw); go_simp; (try with_reducible rfl))
  (try simp only [Act.put, List.setIfInBounds_toArray, List.set_cons_zero, List.set_cons_succ])
  refine wpAnyZ_take (i := 1) (oi := { dst := some 4, op := Op.load 22 (Operand.tmp 3), type := 22, pos := "law.go:26", after := #[{ on := 0, ground := Ground.data }], guard := none }) (v := ?_) rfl (by kernel_rfl) (fun _ _ _ h => h) (Or.inl ⟨by rfl, ?_⟩) (by assumption) ?_
  rotate_left
  · (intro wz hSw; (try dsimp only at hSw); go_simp; (try with_reducible rfl))
  (try simp only [Act.put, List.setIfInBounds_toArray, List.set_cons_zero, List.set_cons_succ])
  refine wpAnyZ_take (i := 2) (oi := { dst := some 5, op := Op.fieldAddr 25 (Operand.tmp 1) 1, type := 0, pos := "law.go:26", after := #[], guard := none }) (v := ?_) rfl (by kernel_rfl) (fun _ _ _ h => h) (Or.inl ⟨by rfl, ?_⟩) (by assumption) ?_
  rotate_left
  · (intro wz hSw; (try dsimp only at hSw); go_simp; (try with_reducible rfl))
  (try simp only [Act.put, List.setIfInBounds_toArray, List.set_cons_zero, List.set_cons_succ])
  refine wpAnyZ_take (i := 3) (oi := { dst := some 6, op := Op.load 23 (Operand.tmp 5), type := 23, pos := "law.go:26", after := #[{ on := 2, ground := Ground.data }], guard := none }) (v := ?_) rfl (by kernel_rfl) (fun _ _ _ h => h) (Or.inl ⟨by rfl, ?_⟩) (by assumption) ?_
  rotate_left
  · (intro wz hSw; (try dsimp only at hSw); go_simp; (try with_reducible rfl))
  (try simp only [Act.put, List.setIfInBounds_toArray, List.set_cons_zero, List.set_cons_succ])
  refine wpAnyZ_ready (rs := [4]) (by kernel_rfl) (by simp) ?_
  refine AllReadyZ.cons (o := { dst := some 7, op := Op.call { callee := Callee.value (Operand.func 24), args := #[Operand.tmp 6], argTypes := #[23] }, type := 27, pos := "law.go:26", after := #[{ on := 3, ground := Ground.data }], guard := none }) rfl (fun KK hKK => ?_) AllReadyZ.nil
  go_simp
  refine (refs_any ((w.heap.size + 1) :: V) d.cache _ w2 (by obtain ⟨_, _, e, _, h2⟩ := (HD.out.weak (U := []) (fun _ hk => by cases hk)); cases e; exact h2) (Old.cons OR.out.lt (HOV.out.go K)) (by rw [HM0.out]; exact HRE.out)).mono ?_
  rintro e w3 ⟨r1, rfl, hr1, hk⟩
  clear hHeld
  replace kr := kr.trans hk
  replace OD := Lib.hid (ODr.out.kept kr)
  replace OR := Lib.hid (ORr.out.kept kr)
  replace HD := Lib.hid (HDr.out.go kr (Ext.refl _ _))
  replace K := Kr.trans kr
  obtain ⟨B1, e1, rfl, q1, q2, q3⟩ := hr1
  have HD2 : Hid (DkAt ((w.heap.size + 1) :: V) w3 (.agg #[.slice A0 n0 c0, .slice B1 d.cache.length e1]) d) := by
    obtain ⟨_, _, e, h1, h2⟩ := HD.out
    cases e
    exact ⟨_, _, rfl, h1, ⟨_, _, rfl, q1, q2, q3⟩⟩
  rw [HM0.out] at HD2 ⊢
  clear q1 q2 q3
  clear hk
  go_simp
  refine hKK.out _ _ ?_ (fun hHeld => ?_)
  · exact kr
  clear hKK KK
  (try simp only [Act.put, List.setIfInBounds_toArray, List.set_cons_zero, List.set_cons_succ])
  refine wpAnyZ_take (i := 5) (oi := { dst := some 8, op := Op.build 29 #[(0, Operand.tmp 4), (1, Operand.tmp 7)], type := 29, pos := "law.go:26", after := #[{ on := 1, ground := Ground.data }, { on := 4, ground := Ground.data }], guard := none }) (v := ?_) rfl (by kernel_rfl) (fun _ _ _ h => h) (Or.inl ⟨by rfl, ?_⟩) (by assumption) ?_
  rotate_left
  · (intro wz hSw; (try dsimp only at hSw); go_simp; (try with_reducible rfl))
  (try simp only [Act.put, List.setIfInBounds_toArray, List.set_cons_zero, List.set_cons_succ])
  refine wpAnyZ_ready (rs := [6]) (by kernel_rfl) (by simp) ?_
  refine AllReadyZ.late (o := { dst := none, op := Op.store 29 (Operand.tmp 2) (Operand.tmp 8), type := 0, pos := "law.go:26", after := #[{ on := 5, ground := Ground.data }, { on := 4, ground := Ground.chain }, { on := 0, ground := Ground.phase }, { on := 1, ground := Ground.phase }, { on := 2, ground := Ground.phase }, { on := 3, ground := Ground.phase }, { on := 4, ground := Ground.phase }, { on := 5, ground := Ground.phase }], guard := none }) rfl (by simp) (fun KK hKK => ?_) AllReadyZ.nil
  obtain ⟨cR0, cR1, fR0, fR1⟩ := OR.out.two
  go_simp
  clear cR0 cR1 fR0 fR1
  replace OD : Hid (Own ((w3.setCell ⟨(w.heap.size + 1), 0, none⟩ (.slice A0 n0 c0)).setCell ⟨(w.heap.size + 1), 1, none⟩ (.slice B1 m0 e1)) w.heap.size 25 [.slice A0 n0 c0, .slice B0 m0 e0]) := Lib.hid ((OD.out.far (p := ⟨(w.heap.size + 1), 0, none⟩) (by first | omega | (simp; omega) | simp) (.slice A0 n0 c0)).far (p := ⟨(w.heap.size + 1), 1, none⟩) (by first | omega | (simp; omega) | simp) (.slice B1 m0 e1))
  replace OR : Hid (Own ((w3.setCell ⟨(w.heap.size + 1), 0, none⟩ (.slice A0 n0 c0)).setCell ⟨(w.heap.size + 1), 1, none⟩ (.slice B1 m0 e1)) (w.heap.size + 1) 29 [.slice A0 n0 c0, .slice B1 m0 e1]) := Lib.hid ((OR.out.set_ 0 (.slice A0 n0 c0)).set_ 1 (.slice B1 m0 e1))
  replace HD := Lib.hid ((HD.out.put (p := ⟨(w.heap.size + 1), 0, none⟩) (by simp) (.slice A0 n0 c0)).put (p := ⟨(w.heap.size + 1), 1, none⟩) (by simp) (.slice B1 m0 e1))
  replace HD2 := Lib.hid ((HD2.out.put (p := ⟨(w.heap.size + 1), 0, none⟩) (by simp) (.slice A0 n0 c0)).put (p := ⟨(w.heap.size + 1), 1, none⟩) (by simp) (.slice B1 m0 e1))
  replace K := ((K.setCell (p := ⟨(w.heap.size + 1), 0, none⟩) (by first | exact Nat.le_refl _ | (simp only []; omega) | simp) (.slice A0 n0 c0)).setCell (p := ⟨(w.heap.size + 1), 1, none⟩) (by first | exact Nat.le_refl _ | (simp only []; omega) | simp) (.slice B1 m0 e1))
  generalize ((w3.setCell ⟨(w.heap.size + 1), 0, none⟩ (.slice A0 n0 c0)).setCell ⟨(w.heap.size + 1), 1, none⟩ (.slice B1 m0 e1)) = w4 at *
  refine hKK.out _ _ ?_
  clear hKK KK
  (try simp only [Act.put, List.setIfInBounds_toArray, List.set_cons_zero, List.set_cons_succ])
  refine wpAnyZ_done (by kernel_rfl) ?_ _
  clear CD0 CD1 CR0 CR1 ODr ORr HDr Kr zr hHeld kr
  obtain ⟨cD0, cD1, fD0, fD1⟩ := OD.out.two
  obtain ⟨cR0, cR1, fR0, fR1⟩ := OR.out.two
  go_wp2
  refine bodyPost_ret (v := .agg #[.slice A0 n0 c0, .slice B1 m0 e1]) (by simp [results, Tryd.results11, go_sem, cR0, cR1]) rfl ?_
  exact ⟨_, _, rfl, HD2.out.weak (fun _ hk => List.mem_cons_of_mem _ hk), K⟩
end Go.Proofs.YtagpimahicgkmaaDoor
