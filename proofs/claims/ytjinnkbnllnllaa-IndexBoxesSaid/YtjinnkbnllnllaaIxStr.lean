/- Walks over []string: slices.Clone, slices.Delete of one element. -/
import Derived.Test.YtjinnkbnllnllaaIxDel
import Derived.Test.YtjinnkbnllnllaaElem
namespace Go.Proofs.Ytjinnkbnllnllaa
open Go.RowKit

theorem strs_append (a b : List ByteArray) : strs (a ++ b) = strs a ++ strs b := by simp [strs]
theorem strs_one (l : List ByteArray) : ∀ v ∈ strs l, v.oneCell' = true := by
  intro v hv
  obtain ⟨s, _, rfl⟩ := List.mem_map.1 hv
  rfl
def strc (s : ByteArray) : List Value := [.string s]
theorem strs_flat (l : List ByteArray) : l.flatMap strc = strs l := by
  induction l with
  | nil => rfl
  | cons a l ih => rw [List.flatMap_cons, ih]; rfl
theorem Try.infoS : (Try.prog.info? 9).map (fun i => (i.zero, i.size, i.bytes)) = some (some (.string .empty), 1, 16) := by kernel_rfl
theorem Try.elS : Elem Try.prog 23 9 1 16 strc :=
  Elem.of (z := .string .empty) (by kernel_rfl) (by kernel_rfl) rfl (by omega) (fun _ => rfl)

set_option maxHeartbeats 1000000 in
theorem cloneS_any (l : List ByteArray) (A : Option Addr) (c : Nat) (w : World) (hr : Row [] w A (strs l)) (hl : l.length ≤ 1000) :
    Calls Try.prog 50 #[.slice A l.length c] w fun e w' => ∃ v, e = .returned v ∧ w'.ownsRow w.heap.size 9 1 v l.length (strs l) ∧ Kept w w' := by
  have hnil := fun W a n k => Lib.run_eql_slice_nil (P := Try.prog) W 23 9 a n k 0 0 Try.underlying23
  rcases A with _ | ad
  · have hl0 : l = [] := by
      cases l with
      | nil => rfl
      | cons a l =>
        obtain ⟨_, _, e, _⟩ := hr (by rw [strs_length]; simp)
        cases e
    subst hl0
    clear hr
    go_enter Try.func50, Try.ntmps50
    go_wp2
    go_ret
    exact ⟨_, rfl, World.ownsRow_nil _ _ _ _, Kept.refl _⟩
  · have HR := Lib.hid hr
    clear hr
    go_enter Try.func50, Try.ntmps50
    go_wp2_with (at_builtin; go_must (
      refine Try.elS.wpList_app rfl (.tmp 5) (.tmp 6) rfl w.heap.size _ [] rfl (World.ownsRow_made w #[] 0 (Nat.le_refl _) (Nat.zero_le _) rfl) [] (some ad) c l rfl (by rw [strs_flat]; exact HR.out.kept ((Kept.refl w).alloc _)) (by rw [strs_flat]; exact strs_one l) (by unfold maxLen; simp; omega) (by simp; omega) (by simp) ?_
      intro v3 w3 hown3 hg3 hat3
      rw [List.nil_append, strs_flat] at hown3
      have hk3 : Kept w w3 := ((Kept.refl w).alloc _).grown hg3 (fun bb hb => by have hb' : some w.heap.size = some bb := hb; injection hb' with hb'; omega)
      have HO3 := Lib.hid hown3
      clear hown3 hg3 hat3))
    go_wp2
    go_ret
    exact ⟨_, rfl, HO3.out, hk3⟩

theorem wpList_fits_S {w : World} {ops : Array Oper} {rest : List Oper} {o : Oper} {a : Act} {Q : Exit → Act → World → Prop} (hgd : o.guard = none) (s x : Operand)
    (ho : o.op = .call { callee := .builtin .append, args := #[s, x], argTypes := #[23, 23] })
    (base g n cap : Nat) (l : List ByteArray) (hs : a.eval s = .slice (some ⟨g, 0, none⟩) n cap) (hown : w.ownsRow base 9 1 (.slice (some ⟨g, 0, none⟩) n cap) n (strs l))
    (ad : Addr) (m c : Nat) (l2 : List ByteArray) (hx : a.eval x = .slice (some ad) m c) (hm : l2.length = m) (hnews : ∀ j u, (strs l2)[j]? = some u → w.cell? (ad.add j) = some u) (hroom : n + m ≤ cap)
    (h : ∀ w', w'.ownsRow base 9 1 (.slice (some ⟨g, 0, none⟩) (n + m) cap) (n + m) (strs (l ++ l2)) → w.grownBy w' (some g) → wpList Try.prog ops Q rest (a.put o.dst (.slice (some ⟨g, 0, none⟩) (n + m) cap)) w') : wpList Try.prog ops Q (o :: rest) a w := by
  obtain ⟨i, hi, hz, hsz, hb⟩ := info_parts Try.infoS
  obtain ⟨w', hrun, h2, h3⟩ := run_append_fits (P := Try.prog) w base 23 o.type 9 i 1 Try.underlying23 hi hsz g n cap (strs l) hown ad m c (strs l2) (by rw [strs_length, hm, Nat.mul_one]) hnews (strs_one l2) hroom
  rw [← strs_append] at h2
  refine wpList_plain hgd fun K hK => ?_
  unfold Oper.wp execOp
  simp only [ho, resolve, invoke, builtin, Sem.run_bind, Sem.run_pure, Result.andThen_ok, List.map_toArray, List.map_cons, List.map_nil, hs, hx, hrun]
  exact hK _ _ (h w' h2 h3)

def str1 : List Value := [.string .empty]
theorem run_clear_S (w : World) (ty : TypeId) (g o c : Nat) (hc : ∀ j, j < 1 → (w.cell? ⟨g, o + j, none⟩).isSome = true) (hf : ∀ j, j < 1 → w.frozen? ⟨g, o + j, none⟩ = false) :
    (Builtin.clear_ #[23] ty #[.slice (some ⟨g, o, none⟩) 1 c]).run Try.prog w = .ok (.tuple #[]) (w.setCells g o str1) := by
  obtain ⟨i, hi, hz, hsz, hb⟩ := info_parts Try.infoS
  have hzv : (zeroValue 9).run Try.prog w = .ok (.string .empty) w := by
    simp [zeroValue, typeInfo, hi, hz]
  have hzc : (Builtin.zeroCells (Value.string .empty).cells 1).toList = str1 := by kernel_rfl
  have hst := run_storeCells_cells (P := Try.prog) g o str1 0 w (by simpa [str1] using hc) (by simpa [str1] using hf) (by intro v hv; simp [str1] at hv; subst hv; rfl)
  simp only [Nat.add_zero] at hst
  simp [Builtin.clear_, run_underlying Try.underlying23, hzv, hzc, hst]
theorem erase_eqS (l : List ByteArray) (k : Nat) : l.take k ++ l.drop (k + 1) = l.eraseIdx k := by rw [List.eraseIdx_eq_take_drop_succ]

set_option maxRecDepth 100000 in
set_option maxHeartbeats 1000000 in
theorem delS_any (base g cap k : Nat) (l : List ByteArray) (w : World) (h : w.ownsRow base 9 1 (.slice (some ⟨g, 0, none⟩) l.length cap) l.length (strs l)) (hk : k < l.length) (hl : l.length ≤ 1000) :
    Calls Try.prog 49 #[.slice (some ⟨g, 0, none⟩) l.length cap, .int .i64 k, .int .i64 ((k : Int) + 1)] w fun e w' => ∃ n', e = .returned (.slice (some ⟨g, 0, none⟩) n' cap) ∧ n' = (l.eraseIdx k).length ∧ w'.ownsRow base 9 1 (.slice (some ⟨g, 0, none⟩) n' cap) n' (strs (l.eraseIdx k)) ∧ w.grownBy w' (some g) := by
  have H := Lib.hid h
  have hcap : l.length ≤ cap ∧ cap ≤ maxLen := by
    rcases h.2 with ⟨e, _⟩ | ⟨_, _, _, e, _, _, h1, h2, _⟩
    · cases e
    · cases e; exact ⟨h1, h2⟩
  obtain ⟨hc1, hc2⟩ := hcap
  unfold maxLen at hc2
  generalize hn : l.length = n at *
  have HN := Lib.hid hn
  clear hn h
  have e0 : ((k : Int) == (k : Int) + 1) = false := beq_f (by omega)
  have i0 : (0 : Int) ≤ (k : Int) := by omega
  have i1 : (k : Int) ≤ (n : Int) := by omega
  have i2 : (0 : Int) ≤ (k : Int) + 1 := by omega
  have i3 : (k : Int) + 1 ≤ (n : Int) := by omega
  have i4 : ((k : Int) + 1).toNat = k + 1 := by omega
  have i5 : (k : Int) ≤ (k : Int) + 1 := by omega
  have i6 : (k : Int) ≤ (cap : Int) := by omega
  have i7 : (k : Int) + 1 ≤ (cap : Int) := by omega
  obtain ⟨n1, hn1⟩ : ∃ n1, n = n1 + 1 := ⟨n - 1, by omega⟩
  have HN1 : Hid (k + (n - (k + 1)) = n1) := by show _ = _; omega
  have HLE : Hid (n1 = (l.eraseIdx k).length) := by show _ = _; rw [List.length_eraseIdx, HN.out, if_pos hk]; omega
  have hn1a : n1 < n := by omega
  have hn1b : n ≤ n1 + 1 := by omega
  have j1 : (n1 : Int) ≤ (n : Int) := by omega
  have j2 : (n : Int) ≤ (cap : Int) := by omega
  have j3 : n - n1 = 1 := by omega
  have j4 : ¬ cap = n1 := by omega
  clear hn1
  have HSP : Hid (strs l = strs (l.take k) ++ strs (l.drop k)) := by show _ = _; rw [← strs_append, List.take_append_drop]
  have HT : Hid (w.drew.ownsRow base 9 1 (.slice (some ⟨g, 0, none⟩) k cap) k (strs (l.take k))) := by
    have h1 := H.out
    rw [HSP.out] at h1
    exact ownsRow_take h1 k (by omega) (by rw [strs_length, List.length_take, HN.out, Nat.min_eq_left (by omega), Nat.mul_one])
  have HD : Hid (∀ j u, (strs (l.drop (k + 1)))[j]? = some u → w.drew.cell? ((⟨g, (k + 1), none⟩ : Addr).add j) = some u) := fun j u hu => by
    have hj := (List.getElem?_eq_some_iff.1 hu).1
    rw [strs_length, List.length_drop, HN.out] at hj
    rw [add_none]
    have e : strs l = strs (l.take (k + 1)) ++ strs (l.drop (k + 1)) := by rw [← strs_append, List.take_append_drop]
    have hc : w.cell? ⟨g, (k + 1) + j, none⟩ = (strs l)[(k + 1) + j]? := World.ownsRow.cellAt H.out _ (by omega)
    have hlen : (strs (l.take (k + 1))).length = (k + 1) := by rw [strs_length, List.length_take, HN.out, Nat.min_eq_left (by omega)]
    show w.cell? _ = _
    rw [hc, e, List.getElem?_append_right (by omega), hlen, show k + 1 + j - (k + 1) = j by omega, hu]
  by_cases hcc : cap = k + 1
  · obtain rfl : n1 = k := by omega
    obtain rfl : n = n1 + 1 := by omega
    subst hcc
    have HE0 : Hid (l.drop (n1 + 1) = []) := by show _ = _; exact List.drop_of_length_le (by rw [HN.out]; exact by omega)
    have HE1 : Hid (l.take n1 ++ [] = l.eraseIdx n1) := by show _ = _; rw [← erase_eqS, HE0.out]
    clear j1 j2 j3 j4 i1 i3 i6 i7 hn1a hn1b hc1
    have i7 : (n1 : Int) ≤ (n1 : Int) + 1 := by omega
    go_enter Try.func49, Try.ntmps49
    go_wp2_with fail
    refine region_tail 6 (by kernel_rfl) (by kernel_rfl) ?_
    simp only [List.take_succ_cons, List.take_zero, List.drop_succ_cons, List.drop_zero]
    repeat still_step
    refine wpStill_nil ?_
    go_wp2_with (at_builtin; go_must (
      refine wpList_fits_S rfl (.tmp 22) (.tmp 25) rfl base g n1 (n1 + 1) (l.take n1) rfl HT.out ⟨g, 0, none⟩ 0 0 [] rfl rfl (fun j u hu => by cases hu) (by omega) ?_
      rw [HE1.out, Nat.add_zero]
      intro w3 hown3 hg3
      have hclr := fun ty => run_clear_S w3 ty g (n1) 1 (fun j hj => ownsRow_there hown3 _ (by omega)) (fun j hj => World.ownsRow.frozenAt hown3 _)
      have HO3 := Lib.hid hown3
      have HG3 := Lib.hid (grown_of_drew hg3)
      clear hown3 hg3))
    go_wp2
    go_ret
    obtain ⟨h5, h6⟩ := ownsRow_setCells (w := w3) str1 (n1) w3 HO3.out (by omega)
    exact ⟨n1, rfl, HLE.out, h5, grown_trans HG3.out h6⟩
  · go_enter Try.func49, Try.ntmps49
    go_wp2_with fail
    refine region_tail 6 (by kernel_rfl) (by kernel_rfl) ?_
    simp only [List.take_succ_cons, List.take_zero, List.drop_succ_cons, List.drop_zero]
    repeat still_step
    refine wpStill_nil ?_
    go_wp2_with (at_builtin; go_must (
      refine wpList_fits_S rfl (.tmp 22) (.tmp 25) rfl base g k cap (l.take k) rfl HT.out ⟨g, (k + 1), none⟩ (n - (k + 1)) (cap - (k + 1)) (l.drop (k + 1)) rfl (by rw [List.length_drop, HN.out]) HD.out (by omega) ?_
      rw [HN1.out, erase_eqS]
      intro w3 hown3 hg3
      have hclr := fun ty => run_clear_S w3 ty g (n1) (cap - n1) (fun j hj => ownsRow_there hown3 _ (by omega)) (fun j hj => World.ownsRow.frozenAt hown3 _)
      have HO3 := Lib.hid hown3
      have HG3 := Lib.hid (grown_of_drew hg3)
      clear hown3 hg3))
    go_wp2
    go_ret
    obtain ⟨h5, h6⟩ := ownsRow_setCells (w := w3) str1 (n1) w3 HO3.out (by omega)
    exact ⟨n1, rfl, HLE.out, h5, grown_trans HG3.out h6⟩
end Go.Proofs.Ytjinnkbnllnllaa
