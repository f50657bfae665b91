/- Walk: slices.Delete of one element, over mailboxes that the call owns. -/
import Derived.Test.YtjinnkbnllnllaaIxWith
import Derived.Test.YtjinnkbnllnllaaElem
namespace Go.Proofs.Ytjinnkbnllnllaa
open Go.RowKit

theorem Try.elB : Elem Try.prog 22 40 4 56 bxc :=
  Elem.of Try.underlying22 Try.infoBx rfl (by omega) bxc_four

theorem wpList_fits_Bx {w : World} {ops : Array Oper} {rest : List Oper} {o : Oper} {a : Act} {Q : Exit → Act → World → Prop} (hgd : o.guard = none) (s x : Operand)
    (ho : o.op = .call { callee := .builtin .append, args := #[s, x], argTypes := #[22, 22] })
    (base g n cap : Nat) (l : List Bp) (hs : a.eval s = .slice (some ⟨g, 0, none⟩) n cap) (hown : w.ownsRow base 40 4 (.slice (some ⟨g, 0, none⟩) n cap) n (bxs l))
    (ad : Addr) (m c : Nat) (l2 : List Bp) (hx : a.eval x = .slice (some ad) m c) (hm : l2.length = m) (hnews : ∀ j u, (bxs l2)[j]? = some u → w.cell? (ad.add j) = some u) (h1 : ∀ u ∈ bxs l2, u.oneCell' = true) (hroom : n + m ≤ cap)
    (h : ∀ w', w'.ownsRow base 40 4 (.slice (some ⟨g, 0, none⟩) (n + m) cap) (n + m) (bxs (l ++ l2)) → w.grownBy w' (some g) → wpList Try.prog ops Q rest (a.put o.dst (.slice (some ⟨g, 0, none⟩) (n + m) cap)) w') : wpList Try.prog ops Q (o :: rest) a w := by
  obtain ⟨i, hi, hz, hsz, hb⟩ := info_parts Try.infoBx
  obtain ⟨w', hrun, h2, h3⟩ := run_append_fits (P := Try.prog) w base 22 o.type 40 i 4 Try.underlying22 hi hsz g n cap (bxs l) hown ad m c (bxs l2) (by rw [bxs_length, hm]) hnews h1 hroom
  rw [← bxs_append] at h2
  refine wpList_plain hgd fun K hK => ?_
  unfold Oper.wp execOp
  simp only [ho, resolve, invoke, builtin, Sem.run_bind, Sem.run_pure, Result.andThen_ok, List.map_toArray, List.map_cons, List.map_nil, hs, hx, hrun]
  exact hK _ _ (h w' h2 h3)

def bx4 : List Value := [.string .empty, .int .i64 0, .int .i64 0, .slice none 0 0]
theorem run_clear_oneB (w : World) (ty : TypeId) (g o c : Nat) (hc : ∀ j, j < 4 → (w.cell? ⟨g, o + j, none⟩).isSome = true) (hf : ∀ j, j < 4 → w.frozen? ⟨g, o + j, none⟩ = false) :
    (Builtin.clear_ #[22] ty #[.slice (some ⟨g, o, none⟩) 1 c]).run Try.prog w = .ok (.tuple #[]) (w.setCells g o bx4) := by
  obtain ⟨i, hi, hz, hsz, hb⟩ := info_parts Try.infoBx
  have hzv : (zeroValue 40).run Try.prog w = .ok (.agg #[.string .empty, .int .i64 0, .int .i64 0, .slice none 0 0]) w := by
    simp [zeroValue, typeInfo, hi, hz]
  have hzc : (Builtin.zeroCells (Value.agg #[.string .empty, .int .i64 0, .int .i64 0, .slice none 0 0]).cells 1).toList = bx4 := by kernel_rfl
  have hst := run_storeCells_cells (P := Try.prog) g o bx4 0 w (by simpa [bx4] using hc) (by simpa [bx4] using hf) (by intro v hv; simp only [bx4, List.mem_cons, List.not_mem_nil, or_false] at hv; rcases hv with rfl | rfl | rfl | rfl <;> rfl)
  simp only [Nat.add_zero] at hst
  simp [Builtin.clear_, run_underlying Try.underlying22, hzv, hzc, hst]
theorem erase_eqB (l : List Bp) (k : Nat) : l.take k ++ l.drop (k + 1) = l.eraseIdx k := by rw [List.eraseIdx_eq_take_drop_succ]

set_option maxRecDepth 100000 in
set_option maxHeartbeats 1000000 in
theorem delB_any (base g cap k : Nat) (l : List Bp) (w : World) (h : w.ownsRow base 40 4 (.slice (some ⟨g, 0, none⟩) l.length cap) l.length (bxs l)) (hk : k < l.length) (hl : l.length ≤ 1000) (hf : ∀ p ∈ l, ∃ A n c, p.2 = .slice A n c) :
    Calls Try.prog 67 #[.slice (some ⟨g, 0, none⟩) l.length cap, .int .i64 k, .int .i64 ((k : Int) + 1)] w fun e w' => ∃ n', e = .returned (.slice (some ⟨g, 0, none⟩) n' cap) ∧ n' = (l.eraseIdx k).length ∧ w'.ownsRow base 40 4 (.slice (some ⟨g, 0, none⟩) n' cap) n' (bxs (l.eraseIdx k)) ∧ w.grownBy w' (some g) := by
  have H := Lib.hid h
  have HONE : Hid (∀ u ∈ bxs (l.drop (k + 1)), u.oneCell' = true) := bxs_one _ (fun p hp => hf p (List.mem_of_mem_drop hp))
  clear hf
  have hcap : l.length ≤ cap ∧ cap ≤ maxLen := by
    rcases h.2 with ⟨e, _⟩ | ⟨_, _, _, e, _, _, h1, h2, _⟩
    · cases e
    · cases e; exact ⟨h1, h2⟩
  obtain ⟨hc1, hc2⟩ := hcap
  unfold maxLen at hc2
  generalize hn : l.length = n at *
  have HN := Lib.hid hn
  clear hn h
  have e0 : ((k : Int) == (k : Int) + 1) = false := beq_f (by omega)
  have i0 : (0 : Int) ≤ (k : Int) := by omega
  have i1 : (k : Int) ≤ (n : Int) := by omega
  have i2 : (0 : Int) ≤ (k : Int) + 1 := by omega
  have i3 : (k : Int) + 1 ≤ (n : Int) := by omega
  have i4 : ((k : Int) + 1).toNat = k + 1 := by omega
  have i5 : (k : Int) ≤ (k : Int) + 1 := by omega
  have i6 : (k : Int) ≤ (cap : Int) := by omega
  have i7 : (k : Int) + 1 ≤ (cap : Int) := by omega
  obtain ⟨n1, hn1⟩ : ∃ n1, n = n1 + 1 := ⟨n - 1, by omega⟩
  have HN1 : Hid (k + (n - (k + 1)) = n1) := by show _ = _; omega
  have HLE : Hid (n1 = (l.eraseIdx k).length) := by show _ = _; rw [List.length_eraseIdx, HN.out, if_pos hk]; omega
  have hn1a : n1 < n := by omega
  have hn1b : n ≤ n1 + 1 := by omega
  have j1 : (n1 : Int) ≤ (n : Int) := by omega
  have j2 : (n : Int) ≤ (cap : Int) := by omega
  have j3 : n - n1 = 1 := by omega
  have j4 : ¬ cap = n1 := by omega
  clear hn1
  have HSP : Hid (bxs l = bxs (l.take k) ++ bxs (l.drop k)) := by show _ = _; rw [← bxs_append, List.take_append_drop]
  have HT : Hid (w.drew.ownsRow base 40 4 (.slice (some ⟨g, 0, none⟩) k cap) k (bxs (l.take k))) := by
    have h1 := H.out
    rw [HSP.out] at h1
    exact ownsRow_take h1 k (by omega) (by rw [bxs_length, List.length_take, HN.out, Nat.min_eq_left (by omega)])
  have HD : Hid (∀ j u, (bxs (l.drop (k + 1)))[j]? = some u → w.drew.cell? ((⟨g, (k + 1) * 4, none⟩ : Addr).add j) = some u) := fun j u hu => by
    have hj := (List.getElem?_eq_some_iff.1 hu).1
    rw [bxs_length, List.length_drop, HN.out] at hj
    rw [add_none]
    have e : bxs l = bxs (l.take (k + 1)) ++ bxs (l.drop (k + 1)) := by rw [← bxs_append, List.take_append_drop]
    have hc : w.cell? ⟨g, (k + 1) * 4 + j, none⟩ = (bxs l)[(k + 1) * 4 + j]? := World.ownsRow.cellAt H.out _ (by omega)
    have hlen : (bxs (l.take (k + 1))).length = (k + 1) * 4 := by rw [bxs_length, List.length_take, HN.out, Nat.min_eq_left (by omega)]
    show w.cell? _ = _
    rw [hc, e, List.getElem?_append_right (by omega), hlen, show (k + 1) * 4 + j - (k + 1) * 4 = j by omega, hu]
  by_cases hcc : cap = k + 1
  · obtain rfl : n1 = k := by omega
    obtain rfl : n = n1 + 1 := by omega
    subst hcc
    have HE0 : Hid (l.drop (n1 + 1) = []) := by show _ = _; exact List.drop_of_length_le (by rw [HN.out]; exact Nat.le_refl _)
    have HE1 : Hid (l.take n1 ++ [] = l.eraseIdx n1) := by show _ = _; rw [← erase_eqB, HE0.out]
    clear j1 j2 j3 j4 i1 i3 i6 i7 hn1a hn1b hc1
    have i7 : (n1 : Int) ≤ (n1 : Int) + 1 := by omega
    go_enter Try.func67, Try.ntmps67
    go_wp2_with fail
    refine region_tail 6 (by kernel_rfl) (by kernel_rfl) ?_
    simp only [List.take_succ_cons, List.take_zero, List.drop_succ_cons, List.drop_zero]
    repeat still_step
    refine wpStill_nil ?_
    go_wp2_with (at_builtin; go_must (
      refine wpList_fits_Bx rfl (.tmp 22) (.tmp 25) rfl base g n1 (n1 + 1) (l.take n1) rfl HT.out ⟨g, 0, none⟩ 0 0 [] rfl rfl (fun j u hu => by cases hu) (fun u hu => by cases hu) (by omega) ?_
      rw [HE1.out, Nat.add_zero]
      intro w3 hown3 hg3
      have hclr := fun ty => run_clear_oneB w3 ty g (n1 * 4) 1 (fun j hj => ownsRow_there hown3 _ (by omega)) (fun j hj => World.ownsRow.frozenAt hown3 _)
      have HO3 := Lib.hid hown3
      have HG3 := Lib.hid (grown_of_drew hg3)
      clear hown3 hg3))
    go_wp2
    go_ret
    obtain ⟨h5, h6⟩ := ownsRow_setCells (w := w3) bx4 (n1 * 4) w3 HO3.out (Nat.le_refl _)
    exact ⟨n1, rfl, HLE.out, h5, grown_trans HG3.out h6⟩
  · go_enter Try.func67, Try.ntmps67
    go_wp2_with fail
    refine region_tail 6 (by kernel_rfl) (by kernel_rfl) ?_
    simp only [List.take_succ_cons, List.take_zero, List.drop_succ_cons, List.drop_zero]
    repeat still_step
    refine wpStill_nil ?_
    go_wp2_with (at_builtin; go_must (
      refine wpList_fits_Bx rfl (.tmp 22) (.tmp 25) rfl base g k cap (l.take k) rfl HT.out ⟨g, (k + 1) * 4, none⟩ (n - (k + 1)) (cap - (k + 1)) (l.drop (k + 1)) rfl (by rw [List.length_drop, HN.out]) HD.out HONE.out (by omega) ?_
      rw [HN1.out, erase_eqB]
      intro w3 hown3 hg3
      have hclr := fun ty => run_clear_oneB w3 ty g (n1 * 4) (cap - n1) (fun j hj => ownsRow_there hown3 _ (by omega)) (fun j hj => World.ownsRow.frozenAt hown3 _)
      have HO3 := Lib.hid hown3
      have HG3 := Lib.hid (grown_of_drew hg3)
      clear hown3 hg3))
    go_wp2
    go_ret
    obtain ⟨h5, h6⟩ := ownsRow_setCells (w := w3) bx4 (n1 * 4) w3 HO3.out (Nat.le_refl _)
    exact ⟨n1, rfl, HLE.out, h5, grown_trans HG3.out h6⟩
end Go.Proofs.Ytjinnkbnllnllaa
