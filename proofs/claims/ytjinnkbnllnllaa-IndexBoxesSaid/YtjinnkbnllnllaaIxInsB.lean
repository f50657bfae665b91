/- Walk: slices.Insert of one element, over mailboxes that the call owns. -/
import Derived.Test.YtjinnkbnllnllaaCopyW
import Derived.Test.YtjinnkbnllnllaaIxDelB
namespace Go.Proofs.Ytjinnkbnllnllaa
open Go.RowKit

theorem ovB_any (w : World) (g o vb n c : Nat) (V : List Value) (cur : Array Value) (hv : Own w vb 40 V) (hg : w.heap[g]? = some (.cells cur 40 (0, 0))) (hne : vb ≠ g) (hc : cur.size ≠ 0) :
    (callFunc 70 #[.slice (some ⟨vb, 0, none⟩) 1 1, .slice (some ⟨g, o, none⟩) n c]).run Try.prog w = .ok (.value (.bool false)) w := by
  have hz : ∀ w, (Go.sizeOf 40).run Try.prog w = .ok 4 w := fun w => by
    obtain ⟨i, hi, hz, hsz, hb⟩ := info_parts Try.infoBx
    simp [sizeOf, typeInfo, hi, hsz]
  rw [run_callFunc_extern Try.func70 (by kernel_rfl) (by kernel_rfl) (by kernel_rfl) (e := Extern.SlicesOverlaps.overlaps #[22, 22] #[4]) (by kernel_rfl),
    Lib.run_overlaps_apart w 22 4 40 Try.underlying22 4 hz ⟨vb, 0, none⟩ ⟨g, o, none⟩ 1 1 n c hne 40 40 V.toArray.size cur.size (by unfold Own at hv; simp [World.shape?, hv]) (by simp [World.shape?, hg]) hc (hv.frozen 0) (hv.frozen _)]
  rfl

set_option maxRecDepth 100000 in
set_option maxHeartbeats 1000000 in
theorem insB_shift (base g cap k vb : Nat) (l : List Bp) (a0 : Bp) (cur : Array Value) (w : World) (hg : w.heap[g]? = some (.cells cur 40 (0, 0))) (hbase : base ≤ g) (hcur : cur.size = cap * 4) (htake : cur.toList.take (l.length * 4) = l.flatMap bxc) (hcap : l.length + 1 ≤ cap) (hcm : cap ≤ maxLen) (hk : k < l.length) (hl : l.length ≤ 1000)
    (h1 : ∀ u ∈ l.flatMap bxc, u.oneCell' = true) (h1v : ∀ u ∈ bxc a0, u.oneCell' = true) (hv : Own w vb 40 (bxc a0)) (hvb : vb ≠ g) :
    Calls Try.prog 66 #[.slice (some ⟨g, 0, none⟩) l.length cap, .int .i64 k, .slice (some ⟨vb, 0, none⟩) 1 1] w fun e w' => e = .returned (.slice (some ⟨g, 0, none⟩) (l.length + 1) cap) ∧ w'.ownsRow base 40 4 (.slice (some ⟨g, 0, none⟩) (l.length + 1) cap) (l.length + 1) ((l.take k ++ a0 :: l.drop k).flatMap bxc) ∧ w.grownBy w' (some g) := by
  obtain ⟨T, hT⟩ : ∃ T, T = (l.take k).flatMap bxc := ⟨_, rfl⟩
  obtain ⟨D, hD⟩ : ∃ D, D = (l.drop k).flatMap bxc := ⟨_, rfl⟩
  have hTl : T.length = k * 4 := by rw [hT, Try.elB.cells_length, List.length_take, Nat.min_eq_left (by omega)]
  have hDl : D.length = (l.length - k) * 4 := by rw [hD, Try.elB.cells_length, List.length_drop]
  have hTD : l.flatMap bxc = T ++ D := by rw [hT, hD, ← List.flatMap_append, List.take_append_drop]
  have hVl : (bxc a0).length = 4 := Try.elB.len a0
  have HRES : Hid ((l.take k ++ a0 :: l.drop k).flatMap bxc = T ++ bxc a0 ++ D) := by show _ = _; rw [List.flatMap_append, List.flatMap_cons, hT, hD, List.append_assoc]
  have hsz : (Try.prog.info? 40).map (·.size) = some 4 := by kernel_rfl
  have hcl : cur.toList.length = cap * 4 := by simpa using hcur
  rw [hTD] at htake h1
  clear hT hD hTD
  generalize hV : bxc a0 = V at *
  generalize hn : l.length = n at *
  have ht : cur.toList.take (T.length + D.length) = T ++ D := by rw [← htake]; congr 1; omega
  obtain ⟨R1, hR1⟩ : ∃ R1, R1 = cur.toList.take (T.length + 4) ++ D ++ cur.toList.drop (T.length + 4 + D.length) := ⟨_, rfl⟩
  obtain ⟨R2, hR2⟩ : ∃ R2, R2 = R1.take T.length ++ V ++ R1.drop (T.length + V.length) := ⟨_, rfl⟩
  obtain ⟨hL1, hL2, hF⟩ := shift_list hVl ht (by omega) hR1 hR2
  have hs1 : ∀ j v, D[j]? = some v → w.cell? ⟨g, T.length + j, none⟩ = some v := fun j v hj => by
    have hlt := (List.getElem?_eq_some_iff.1 hj).1
    rw [cell_of_row w g _ cur _ (0, 0) hg]
    have e : cur[T.length + j]? = (cur.toList.take (T.length + D.length))[T.length + j]? := by rw [List.getElem?_take_of_lt (by omega)]; simp
    rw [e, ht, List.getElem?_append_right (by omega), show T.length + j - T.length = j by omega, hj]
  obtain ⟨W1, hW1⟩ : ∃ W1, W1 = w.drew.setRow g R1.toArray := ⟨_, rfl⟩
  obtain ⟨W2, hW2⟩ : ∃ W2, W2 = W1.setRow g R2.toArray := ⟨_, rfl⟩
  have hg1 : W1.heap[g]? = some (.cells R1.toArray 40 (0, 0)) := by rw [hW1]; exact setRow_heap w.drew g cur _ 40 (0, 0) hg
  have hv1 : Own W1 vb 40 V := own_of_heap hv (by rw [hW1]; exact setRow_other w.drew g vb _ hvb)
  have hcp1 : ∀ ty dl dc sl sc, dl = n - k → n - k ≤ sl → (Builtin.copy_ #[22, 22] ty #[.slice (some ⟨g, (k + 1) * 4, none⟩) dl dc, .slice (some ⟨g, k * 4, none⟩) sl sc]).run Try.prog w.drew = .ok (goInt (Nat.min sl dl)) W1 := fun ty dl dc sl sc e1 e2 => by
    have hm : Nat.min sl dl = n - k := by simp only [Nat.min_def]; split <;> omega
    have := run_copy_wide (P := Try.prog) w.drew 22 22 ty 40 4 g (T.length + 4) dl dc ⟨g, T.length, none⟩ sl sc cur 40 D Try.underlying22 hsz hg (by rw [hm]; exact hDl) (fun j v hj => by rw [add_none]; exact hs1 j v hj) (by rw [hcur]; omega) (fun v hv => h1 v (List.mem_append.2 (.inr hv)))
    rw [← hR1, ← hW1, hTl] at this
    rw [show k * 4 + 4 = (k + 1) * 4 by omega, show k * 4 = k * 4 by omega] at this
    exact this
  have hcp2 : ∀ ty dl dc, 1 ≤ dl → (Builtin.copy_ #[22, 22] ty #[.slice (some ⟨g, k * 4, none⟩) dl dc, .slice (some ⟨vb, 0, none⟩) 1 1]).run Try.prog W1 = .ok (goInt (Nat.min 1 dl)) W2 := fun ty dl dc e1 => by
    have hm : Nat.min 1 dl = 1 := by simp only [Nat.min_def]; split <;> omega
    have := run_copy_wide (P := Try.prog) W1 22 22 ty 40 4 g T.length dl dc ⟨vb, 0, none⟩ 1 1 R1.toArray 40 V Try.underlying22 hsz hg1 (by rw [hm]; omega) (fun j v hj => by rw [add_none, Nat.zero_add, hv1.cell?]; exact hj) (by simp; omega) h1v
    simp only [List.toList_toArray] at this
    rw [← hR2, ← hW2, hTl] at this
    rw [show k * 4 = k * 4 by omega] at this
    exact this
  have hov := fun o m c => ovB_any w g o vb m c V cur hv hg hvb (by omega)
  have HEND : Hid (W2.ownsRow base 40 4 (.slice (some ⟨g, 0, none⟩) (n + 1) cap) (n + 1) (T ++ V ++ D) ∧ w.grownBy W2 (some g)) := by
    refine ⟨⟨by simp only [List.length_append]; omega, .inr ⟨g, cap, R2.toArray, rfl, hbase, ?_, by omega, hcm, by simp; omega, ?_⟩⟩, ?_⟩
    · rw [hW2]; exact setRow_heap W1 g _ _ 40 (0, 0) hg1
    · simp only [List.toList_toArray]
      rw [← hF]; congr 1; omega
    · rw [hW2, hW1]
      exact grown_trans (grown_of_drew (grown_setRow (w := w.drew) g _)) (grown_setRow g _)
  have HCP1 := Lib.hid hcp1
  have HCP2 := Lib.hid hcp2
  have HOV := Lib.hid hov
  clear hcp1 hcp2 hW1 hW2 hR1 hR2 hL1 hL2 hF hs1 hg1 hv1 ht htake h1 h1v hTl hDl hVl hcl hcur hg hv hV hn hsz
  unfold maxLen at hcm
  have z1 : ((k : Int) == (n : Int)) = false := beq_f (by omega)
  have z2 : ¬ ((cap : Int) < (n : Int) + 1) := by omega
  have kw : IntKind.i64.wrap ((k : Int) + 1) = (k : Int) + 1 := IntWalk.i64_in _ (by omega)
  have i0 : (0 : Int) ≤ (k : Int) := by omega
  have i1 : (k : Int) ≤ (n : Int) := by omega
  have i2 : (0 : Int) ≤ (k : Int) + 1 := by omega
  have i3 : (k : Int) + 1 ≤ (n : Int) + 1 := by omega
  have i4 : ((k : Int) + 1).toNat = k + 1 := by omega
  have i5 : (k : Int) ≤ (n : Int) + 1 := by omega
  have i6 : (k : Int) ≤ (cap : Int) := by omega
  have i7 : (n : Int) + 1 ≤ (cap : Int) := by omega
  have i8 : ((n : Int) + 1).toNat = n + 1 := by omega
  have i9 : ¬ cap = k + 1 := by omega
  have i10 : ¬ cap = k := by omega
  go_enter Try.func66, Try.ntmps66
  go_wp2_with (simp only [hov])
  refine region_tail 8 (by kernel_rfl) (by kernel_rfl) ?_
  simp only [List.take_succ_cons, List.take_zero, List.drop_succ_cons, List.drop_zero]
  repeat still_step
  refine wpStill_nil ?_
  go_wp2
  rw [HCP1.out]
  rotate_left
  · omega
  · omega
  go_wp2
  rw [HCP2.out]
  rotate_left
  · omega
  go_wp2
  go_ret
  exact ⟨rfl, by rw [HRES.out]; exact HEND.out.1, HEND.out.2⟩

set_option maxRecDepth 100000 in
set_option maxHeartbeats 1000000 in
theorem insB_grow (base g cap k vb : Nat) (l : List Bp) (a0 : Bp) (w : World) (hown : w.ownsRow base 40 4 (.slice (some ⟨g, 0, none⟩) l.length cap) l.length (l.flatMap bxc)) (hbase : base ≤ w.heap.size) (hcap : l.length = cap) (hk : k < l.length) (hl : l.length ≤ 1000)
    (h1 : ∀ u ∈ l.flatMap bxc, u.oneCell' = true) (h1v : ∀ u ∈ bxc a0, u.oneCell' = true) (hv : Own w vb 40 (bxc a0)) :
    Calls Try.prog 66 #[.slice (some ⟨g, 0, none⟩) l.length cap, .int .i64 k, .slice (some ⟨vb, 0, none⟩) 1 1] w fun e w' => ∃ G, e = .returned (.slice (some ⟨w.heap.size, 0, none⟩) (l.length + 1) G) ∧ w'.ownsRow base 40 4 (.slice (some ⟨w.heap.size, 0, none⟩) (l.length + 1) G) (l.length + 1) ((l.take k ++ a0 :: l.drop k).flatMap bxc) ∧ Kept w w' := by
  obtain ⟨T, hT⟩ : ∃ T, T = (l.take k).flatMap bxc := ⟨_, rfl⟩
  obtain ⟨D, hD⟩ : ∃ D, D = (l.drop k).flatMap bxc := ⟨_, rfl⟩
  have hTl : T.length = k * 4 := by rw [hT, Try.elB.cells_length, List.length_take, Nat.min_eq_left (by omega)]
  have hDl : D.length = (l.length - k) * 4 := by rw [hD, Try.elB.cells_length, List.length_drop]
  have hTD : l.flatMap bxc = T ++ D := by rw [hT, hD, ← List.flatMap_append, List.take_append_drop]
  have hVl : (bxc a0).length = 4 := Try.elB.len a0
  have HRES : Hid ((l.take k ++ a0 :: l.drop k).flatMap bxc = T ++ bxc a0 ++ D) := by show _ = _; rw [List.flatMap_append, List.flatMap_cons, hT, hD, List.append_assoc]
  obtain ⟨ii, hi, hz, hisz, hib⟩ := info_parts Try.infoBx
  have hsz : (Try.prog.info? 40).map (·.size) = some 4 := by kernel_rfl
  rw [hTD] at hown h1
  clear hT hD hTD
  generalize hV : bxc a0 = V at *
  generalize hn : l.length = n at *
  have hgw : g < w.heap.size := (ownBlock_of hown rfl).2
  have hcell : ∀ j v, (T ++ D)[j]? = some v → w.cell? ⟨g, j, none⟩ = some v := fun j v hj => by
    have hlt := (List.getElem?_eq_some_iff.1 hj).1
    simp only [List.length_append] at hlt
    rw [World.ownsRow.cellAt hown j (by omega)]; exact hj
  have hold : (Builtin.firstCells ii.size k (.slice (some ⟨g, 0, none⟩) k cap)).run Try.prog w.drew = .ok T.toArray w.drew := by
    rw [hisz]
    exact run_firstCells_some w.drew 4 k ⟨g, 0, none⟩ k cap T hTl (fun j v hj => by
      rw [add_none, Nat.zero_add]
      exact hcell j v (by rw [List.getElem?_append_left (List.getElem?_eq_some_iff.1 hj).1]; exact hj))
  obtain ⟨G, hG⟩ : ∃ G, G = grownCap w (n + 1) cap 40 := ⟨_, rfl⟩
  obtain ⟨Z, hZ⟩ : ∃ Z, Z = (Builtin.zeroCells (Value.agg #[.string .empty, .int .i64 0, .int .i64 0, .slice none 0 0]).cells (n + 1 - k)).toList ++ (Builtin.zeroCells (Value.agg #[.string .empty, .int .i64 0, .int .i64 0, .slice none 0 0]).cells (G - (n + 1))).toList := ⟨_, rfl⟩
  obtain ⟨W1, hW1⟩ : ∃ W1, W1 = w.drew.alloc (.cells (T ++ Z).toArray 40) := ⟨_, rfl⟩
  have hGn : n + 1 ≤ G := by rw [hG]; exact grownCap_ge w _ _ _
  have hG63 : G ≤ maxLen := by rw [hG]; exact grownCap_le_maxLen w (n + 1) cap 40 (by unfold maxLen; omega)
  have hZl : Z.length = (G - k) * 4 := by
    rw [hZ, List.length_append]
    simp only [Array.length_toList, size_zeroCells]
    rw [show (Value.agg #[.string .empty, .int .i64 0, .int .i64 0, .slice none 0 0]).cells.size = 4 from rfl]
    omega
  have hrz : ∀ ty, (Builtin.append_ #[22, 3] ty #[.slice (some ⟨g, 0, none⟩) k cap, .int .i64 ((n : Int) + 1 - (k : Int))]).run Try.prog w = .ok (.slice (some ⟨w.heap.size, 0, none⟩) (n + 1) G) W1 := fun ty => by
    have h := Lib.run_append_grow_zeros w 22 3 ty 40 ii _ .i64 .i64 Try.underlying22 Try.underlying3 hi hz (some ⟨g, 0, none⟩) k cap T hold (n + 1 - k) (by omega) (by omega) (by omega) (by omega) (by rw [hib]; omega) (by rw [hib, show k + (n + 1 - k) = n + 1 by omega]; exact growslice_fits (by omega) (by omega))
    rw [show k + (n + 1 - k) = n + 1 by omega, ← hG] at h
    rw [show (n : Int) + 1 - (k : Int) = ((n + 1 - k : Nat) : Int) by omega, h, hW1, hZ]
    congr 3
    apply Array.ext'
    simp
  obtain ⟨R1, hR1⟩ : ∃ R1, R1 = (T ++ Z).take T.length ++ V ++ (T ++ Z).drop (T.length + V.length) := ⟨_, rfl⟩
  obtain ⟨R2, hR2⟩ : ∃ R2, R2 = R1.take (T.length + 4) ++ D ++ R1.drop (T.length + 4 + D.length) := ⟨_, rfl⟩
  obtain ⟨hL1, hL2, hF⟩ := grow_list hVl (by omega) hR1 hR2
  obtain ⟨W2, hW2⟩ : ∃ W2, W2 = W1.setRow w.heap.size R1.toArray := ⟨_, rfl⟩
  obtain ⟨W3, hW3⟩ : ∃ W3, W3 = W2.drew.setRow w.heap.size R2.toArray := ⟨_, rfl⟩
  have hg1 : W1.heap[w.heap.size]? = some (.cells (T ++ Z).toArray 40 (0, 0)) := by rw [hW1]; exact heap_alloc_new w.drew _
  have hg2 : W2.heap[w.heap.size]? = some (.cells R1.toArray 40 (0, 0)) := by rw [hW2]; exact setRow_heap W1 _ _ _ 40 (0, 0) hg1
  have hg3 : W3.heap[w.heap.size]? = some (.cells R2.toArray 40 (0, 0)) := by rw [hW3]; exact setRow_heap W2.drew _ _ _ 40 (0, 0) hg2
  have hk1 : Kept w W1 := by rw [hW1]; exact (Kept.refl w).drew.alloc _
  have hk2 : Kept w W2 := by rw [hW2]; exact below_setRow hk1 (Nat.le_refl _) _
  have hk3 : Kept w W3 := by rw [hW3]; exact below_setRow hk2.drew (Nat.le_refl _) _
  have hv1 : Own W1 vb 40 V := hv.kept hk1
  have hcpA : ∀ ty dl dc, 1 ≤ dl → (Builtin.copy_ #[22, 22] ty #[.slice (some ⟨w.heap.size, k * 4, none⟩) dl dc, .slice (some ⟨vb, 0, none⟩) 1 1]).run Try.prog W1 = .ok (goInt (Nat.min 1 dl)) W2 := fun ty dl dc e1 => by
    have hm : Nat.min 1 dl = 1 := by simp only [Nat.min_def]; split <;> omega
    have := run_copy_wide (P := Try.prog) W1 22 22 ty 40 4 w.heap.size T.length dl dc ⟨vb, 0, none⟩ 1 1 (T ++ Z).toArray 40 V Try.underlying22 hsz hg1 (by rw [hm]; omega) (fun j v hj => by rw [add_none, Nat.zero_add, hv1.cell?]; exact hj) (by simp; omega) h1v
    simp only [List.toList_toArray] at this
    rw [← hR1, ← hW2, hTl] at this
    rw [show k * 4 = k * 4 by omega] at this
    exact this
  have hcpB : ∀ ty dl dc sl sc, dl = n - k → n - k ≤ sl → (Builtin.copy_ #[22, 22] ty #[.slice (some ⟨w.heap.size, (k + 1) * 4, none⟩) dl dc, .slice (some ⟨g, k * 4, none⟩) sl sc]).run Try.prog W2.drew = .ok (goInt (Nat.min sl dl)) W3 := fun ty dl dc sl sc e1 e2 => by
    have hm : Nat.min sl dl = n - k := by simp only [Nat.min_def]; split <;> omega
    have := run_copy_wide (P := Try.prog) W2.drew 22 22 ty 40 4 w.heap.size (T.length + 4) dl dc ⟨g, T.length, none⟩ sl sc R1.toArray 40 D Try.underlying22 hsz hg2 (by rw [hm]; exact hDl) (fun j v hj => by
      rw [add_none]
      refine (hk2.cell (p := ⟨g, T.length + j, none⟩) hgw).trans (hcell _ v ?_)
      rw [List.getElem?_append_right (by omega), show T.length + j - T.length = j by omega]; exact hj) (by simp; omega) (fun v hv => h1 v (List.mem_append.2 (.inr hv)))
    simp only [List.toList_toArray] at this
    rw [← hR2, ← hW3, hTl] at this
    rw [show k * 4 + 4 = (k + 1) * 4 by omega, show k * 4 = k * 4 by omega] at this
    exact this
  have HEND : Hid (W3.ownsRow base 40 4 (.slice (some ⟨w.heap.size, 0, none⟩) (n + 1) G) (n + 1) (T ++ V ++ D) ∧ Kept w W3) := by
    refine ⟨⟨by simp only [List.length_append]; omega, .inr ⟨_, G, R2.toArray, rfl, hbase, hg3, hGn, hG63, by simp; omega, ?_⟩⟩, hk3⟩
    simp only [List.toList_toArray]
    rw [← hF]; congr 1; omega
  have HRZ := Lib.hid hrz
  have HCA := Lib.hid hcpA
  have HCB := Lib.hid hcpB
  clear hrz hcpA hcpB hW1 hW2 hW3 hR1 hR2 hL1 hL2 hF hcell hg1 hg2 hg3 hv1 hk1 hk2 hk3 h1 h1v hTl hDl hVl hown hv hV hn hsz hold hi hz hisz hib hZ hZl hG
  unfold maxLen at hG63
  subst hcap
  have z1 : ((k : Int) == (n : Int)) = false := beq_f (by omega)
  have z2 : (n : Int) < (n : Int) + 1 := by omega
  have z3 : IntKind.i64.wrap ((n : Int) + 1 - (k : Int)) = (n : Int) + 1 - (k : Int) := IntWalk.i64_in _ (by omega)
  have kw : IntKind.i64.wrap ((k : Int) + 1) = (k : Int) + 1 := IntWalk.i64_in _ (by omega)
  have i0 : (0 : Int) ≤ (k : Int) := by omega
  have i1 : (k : Int) ≤ (n : Int) := by omega
  have i2 : (0 : Int) ≤ (k : Int) + 1 := by omega
  have i3 : (k : Int) + 1 ≤ (n : Int) + 1 := by omega
  have i4 : ((k : Int) + 1).toNat = k + 1 := by omega
  have i5 : (k : Int) ≤ (n : Int) + 1 := by omega
  have i8 : ((n : Int) + 1).toNat = n + 1 := by omega
  have i9 : ¬ G = k + 1 := by omega
  have i10 : ¬ G = k := by omega
  have i11 : ¬ n = k := by omega
  go_enter Try.func66, Try.ntmps66
  go_wp2_with (at_builtin; refine Lib.wpList_append_run _ rfl _ _ _ _ rfl _ _ rfl rfl _ _ (HRZ.out _) ?_)
  rw [HCA.out]
  rotate_left
  · omega
  go_wp2
  refine region_tail 8 (by kernel_rfl) (by kernel_rfl) ?_
  simp only [List.take_succ_cons, List.take_zero, List.drop_succ_cons, List.drop_zero]
  repeat still_step
  refine wpStill_nil ?_
  go_wp2
  rw [HCB.out]
  rotate_left
  · omega
  · omega
  go_wp2
  go_ret
  exact ⟨G, rfl, by rw [HRES.out]; exact HEND.out.1, HEND.out.2⟩

set_option maxRecDepth 100000 in
set_option maxHeartbeats 1000000 in
theorem insB_end (base vb : Nat) (v : Value) (l : List Bp) (a0 : Bp) (w : World) (hown : w.ownsRow base 40 4 v l.length (l.flatMap bxc)) (hbase : base ≤ w.heap.size) (hl : l.length ≤ 1000)
    (h1v : ∀ u ∈ bxc a0, u.oneCell' = true) (hv : Own w vb 40 (bxc a0)) :
    Calls Try.prog 66 #[v, .int .i64 l.length, .slice (some ⟨vb, 0, none⟩) 1 1] w fun e w' => ∃ v', e = .returned v' ∧ w'.ownsRow base 40 4 v' (l.length + 1) ((l ++ [a0]).flatMap bxc) ∧ w.grownBy w' v.ownBlock ∧ (v'.ownBlock = v.ownBlock ∨ v'.ownBlock = some w.heap.size) := by
  obtain ⟨A, c, rfl, hc1, hc2, _⟩ := own_form (V := []) hown (by simp)
  have HOWN := Lib.hid hown
  have HV := Lib.hid hv
  have H1V : Hid (∀ u ∈ [a0].flatMap bxc, u.oneCell' = true) := fun u hu => h1v u (by simpa using hu)
  clear hown hv h1v
  unfold maxLen at hc2
  generalize hn : l.length = n at *
  have HN := Lib.hid hn
  clear hn
  obtain ⟨RL, hRL⟩ : ∃ RL, RL = (l ++ [a0]).flatMap bxc := ⟨_, rfl⟩
  rw [← hRL]
  have HRL := Lib.hid hRL
  clear hRL
  by_cases hcn : c = n
  · have hcn2 := hcn.symm
    subst hcn2
    go_enter Try.func66, Try.ntmps66
    go_wp2_with (at_builtin; go_must (
      refine Try.elB.wpList_app rfl (.tmp 23) (.tmp 24) rfl base _ l rfl (by rw [HN.out]; exact HOWN.out) [] (some ⟨vb, 0, none⟩) 1 [a0] rfl (by rw [List.flatMap_singleton]; exact HV.out.row (by simp)) H1V.out (by rw [HN.out]; unfold maxLen; simp; omega) (by rw [HN.out]; simp; omega) hbase ?_
      intro v3 w3 hown3 hg3 hat3
      have hlen : (l ++ [a0]).length = n + 1 := by rw [List.length_append, HN.out]; rfl
      rw [hlen, ← HRL.out] at hown3
      have HO3 := Lib.hid hown3
      have hg3' : w.grownBy w3 (Value.slice A n n).ownBlock := hg3
      have hat3' : v3.ownBlock = (Value.slice A n n).ownBlock ∨ v3.ownBlock = some w.heap.size := hat3
      obtain ⟨A3, c3, rfl, _, _, _⟩ := own_form (V := []) hown3 (by simp)
      have HG3 := Lib.hid hg3'
      have HA3 := Lib.hid hat3'
      clear hown3 hg3 hat3 hlen hg3' hat3'))
    go_wp2
    go_ret
    exact ⟨_, rfl, HO3.out, HG3.out, HA3.out⟩
  · have hcn1 : n < c := by omega
    go_enter Try.func66, Try.ntmps66
    go_wp2_with (at_builtin; go_must (
      refine Try.elB.wpList_app rfl (.tmp 23) (.tmp 24) rfl base _ l rfl (by rw [HN.out]; exact HOWN.out) [] (some ⟨vb, 0, none⟩) 1 [a0] rfl (by rw [List.flatMap_singleton]; exact HV.out.row (by simp)) H1V.out (by rw [HN.out]; unfold maxLen; simp; omega) (by rw [HN.out]; simp; omega) hbase ?_
      intro v3 w3 hown3 hg3 hat3
      have hlen : (l ++ [a0]).length = n + 1 := by rw [List.length_append, HN.out]; rfl
      rw [hlen, ← HRL.out] at hown3
      have HO3 := Lib.hid hown3
      have hg3' : w.grownBy w3 (Value.slice A n c).ownBlock := hg3
      have hat3' : v3.ownBlock = (Value.slice A n c).ownBlock ∨ v3.ownBlock = some w.heap.size := hat3
      obtain ⟨A3, c3, rfl, _, _, _⟩ := own_form (V := []) hown3 (by simp)
      have HG3 := Lib.hid hg3'
      have HA3 := Lib.hid hat3'
      clear hown3 hg3 hat3 hlen hg3' hat3'))
    go_wp2
    go_ret
    exact ⟨_, rfl, HO3.out, HG3.out, HA3.out⟩

/-- Insert of one element at k. -/
theorem insB_any (base k vb : Nat) (v : Value) (l : List Bp) (a0 : Bp) (w : World) (hown : w.ownsRow base 40 4 v l.length (l.flatMap bxc)) (hbase : base ≤ w.heap.size) (hk : k ≤ l.length) (hl : l.length ≤ 1000)
    (h1 : ∀ u ∈ l.flatMap bxc, u.oneCell' = true) (h1v : ∀ u ∈ bxc a0, u.oneCell' = true) (hv : Own w vb 40 (bxc a0)) (hvb : v.ownBlock ≠ some vb) :
    Calls Try.prog 66 #[v, .int .i64 k, .slice (some ⟨vb, 0, none⟩) 1 1] w fun e w' => ∃ v', e = .returned v' ∧ w'.ownsRow base 40 4 v' (l.length + 1) ((l.take k ++ a0 :: l.drop k).flatMap bxc) ∧ w.grownBy w' v.ownBlock ∧ (v'.ownBlock = v.ownBlock ∨ v'.ownBlock = some w.heap.size) := by
  by_cases he : k = l.length
  · subst he
    rw [List.take_of_length_le (Nat.le_refl _), List.drop_of_length_le (Nat.le_refl _)]
    exact insB_end base vb v l a0 w hown hbase hl h1v hv
  · rcases hown.2 with ⟨_, h0⟩ | ⟨g, cap, cur, rfl, hg, hh, hn, hcm, hsz, ht⟩
    · omega
    · by_cases hc : l.length + 1 ≤ cap
      · refine (insB_shift base g cap k vb l a0 cur w hh hg hsz ht hc hcm (by omega) hl h1 h1v hv (fun e => hvb (by rw [e]; rfl))).mono ?_
        rintro e w' ⟨rfl, h2, h3⟩
        exact ⟨_, rfl, h2, h3, .inl rfl⟩
      · refine (insB_grow base g cap k vb l a0 w hown hbase (by omega) (by omega) hl h1 h1v hv).mono ?_
        rintro e w' ⟨G, rfl, h2, h3⟩
        exact ⟨_, rfl, h2, ⟨h3.os, h3.tape, h3.output, h3.size, fun j hj _ => h3.block j hj⟩, .inr rfl⟩
end Go.Proofs.Ytjinnkbnllnllaa
