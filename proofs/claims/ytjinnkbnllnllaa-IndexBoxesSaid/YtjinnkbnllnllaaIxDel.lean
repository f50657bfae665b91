/- Walk: slices.Delete of one element, over mails that the call owns. -/
import Derived.Test.YtjinnkbnllnllaaIxClone
import Derived.Test.YtjinnkbnllnllaaTail
import Derived.Deep.Cut
namespace Go.Proofs.Ytjinnkbnllnllaa
open Go.RowKit

theorem ownsRow_take {w : World} {base : Nat} {e : TypeId} {size g cap n : Nat} {xs ys : List Value} (h : w.ownsRow base e size (.slice (some ⟨g, 0, none⟩) n cap) n (xs ++ ys)) (i : Nat) (hi : i ≤ n) (hx : xs.length = i * size) : w.ownsRow base e size (.slice (some ⟨g, 0, none⟩) i cap) i xs := by
  obtain ⟨_, h2⟩ := h
  rcases h2 with ⟨h0, _⟩ | ⟨g', cap', cur, hv, hg, hh, hn, hcap, hsz, htake⟩
  · cases h0
  · cases hv
    refine ⟨hx, .inr ⟨g, cap, cur, rfl, hg, hh, by omega, hcap, hsz, ?_⟩⟩
    have h3 : (cur.toList.take (n * size)).take (i * size) = (xs ++ ys).take (i * size) := by rw [htake]
    rw [List.take_take, Nat.min_eq_left (Nat.mul_le_mul_right _ hi)] at h3
    rw [h3, ← hx]
    exact List.take_left

theorem wpList_fits_Ml {w : World} {ops : Array Oper} {rest : List Oper} {o : Oper} {a : Act} {Q : Exit → Act → World → Prop} (hgd : o.guard = none) (s x : Operand)
    (ho : o.op = .call { callee := .builtin .append, args := #[s, x], argTypes := #[38, 38] })
    (base g n cap : Nat) (l : List Ml) (hs : a.eval s = .slice (some ⟨g, 0, none⟩) n cap) (hown : w.ownsRow base 47 4 (.slice (some ⟨g, 0, none⟩) n cap) n (mls l))
    (ad : Addr) (m c : Nat) (l2 : List Ml) (hx : a.eval x = .slice (some ad) m c) (hm : l2.length = m) (hnews : ∀ j u, (mls l2)[j]? = some u → w.cell? (ad.add j) = some u) (hroom : n + m ≤ cap)
    (h : ∀ w', w'.ownsRow base 47 4 (.slice (some ⟨g, 0, none⟩) (n + m) cap) (n + m) (mls (l ++ l2)) → w.grownBy w' (some g) → wpList Try.prog ops Q rest (a.put o.dst (.slice (some ⟨g, 0, none⟩) (n + m) cap)) w') : wpList Try.prog ops Q (o :: rest) a w := by
  obtain ⟨i, hi, hz, hsz, hb⟩ := info_parts Try.infoMl
  obtain ⟨w', hrun, h2, h3⟩ := run_append_fits (P := Try.prog) w base 38 o.type 47 i 4 Try.underlying38 hi hsz g n cap (mls l) hown ad m c (mls l2) (by rw [mls_length, hm]) hnews (mls_one l2) hroom
  rw [← mls_append] at h2
  refine wpList_plain hgd fun K hK => ?_
  unfold Oper.wp execOp
  simp only [ho, resolve, invoke, builtin, Sem.run_bind, Sem.run_pure, Result.andThen_ok, List.map_toArray, List.map_cons, List.map_nil, hs, hx, hrun]
  exact hK _ _ (h w' h2 h3)

def ml4 : List Value := [.int .i64 0, .int .i64 0, .int .i64 0, .int .i64 0]
theorem run_clear_one (w : World) (ty : TypeId) (g o c : Nat) (hc : ∀ j, j < 4 → (w.cell? ⟨g, o + j, none⟩).isSome = true) (hf : ∀ j, j < 4 → w.frozen? ⟨g, o + j, none⟩ = false) :
    (Builtin.clear_ #[38] ty #[.slice (some ⟨g, o, none⟩) 1 c]).run Try.prog w = .ok (.tuple #[]) (w.setCells g o ml4) := by
  obtain ⟨i, hi, hz, hsz, hb⟩ := info_parts Try.infoMl
  have hzv : (zeroValue 47).run Try.prog w = .ok (.agg #[.int .i64 0, .int .i64 0, .int .i64 0, .int .i64 0]) w := by
    simp [zeroValue, typeInfo, hi, hz]
  have hzc : (Builtin.zeroCells (Value.agg #[.int .i64 0, .int .i64 0, .int .i64 0, .int .i64 0]).cells 1).toList = ml4 := by kernel_rfl
  have hst := run_storeCells_cells (P := Try.prog) g o ml4 0 w (by simpa [ml4] using hc) (by simpa [ml4] using hf) (by intro v hv; simp [ml4] at hv; subst hv; rfl)
  simp only [Nat.add_zero] at hst
  simp [Builtin.clear_, run_underlying Try.underlying38, hzv, hzc, hst]
theorem ownsRow_setCells {w : World} {base : Nat} {e : TypeId} {size g cap n : Nat} {xs : List Value} : ∀ (vs : List Value) (o : Nat) (w : World), w.ownsRow base e size (.slice (some ⟨g, 0, none⟩) n cap) n xs → n * size ≤ o → (w.setCells g o vs).ownsRow base e size (.slice (some ⟨g, 0, none⟩) n cap) n xs ∧ w.grownBy (w.setCells g o vs) (some g)
  | [], o, w, h, ho => ⟨h, World.grownBy.refl _ _⟩
  | v :: vs, o, w, h, ho => by
    have h1 := World.ownsRow.stored h o v
    have h2 : xs.set o v = xs := List.set_eq_of_length_le (by rw [h.1]; exact ho)
    rw [h2] at h1
    have h3 := ownsRow_setCells (w := w) vs (o + 1) _ h1.1 (by omega)
    exact ⟨h3.1, ⟨h3.2.os.trans h1.2.os, h3.2.tape.trans h1.2.tape, h3.2.output.trans h1.2.output, Nat.le_trans h1.2.size h3.2.size, fun j hj hn => (h3.2.block j (Nat.lt_of_lt_of_le hj h1.2.size) hn).trans (h1.2.block j hj hn)⟩⟩
theorem ownsRow_there {w : World} {base : Nat} {e : TypeId} {size g cap n : Nat} {xs : List Value} (h : w.ownsRow base e size (.slice (some ⟨g, 0, none⟩) n cap) n xs) (j : Nat) (hj : j < cap * size) : (w.cell? ⟨g, j, none⟩).isSome = true := by
  rcases h.2 with ⟨e, _⟩ | ⟨g', cap', cur, e, _, hh, _, _, hs, _⟩
  · cases e
  · cases e
    rw [cell_of_row w g j cur _ (0, 0) hh]
    simp [hs, hj]
theorem grown_trans {a b c : World} {r : Option Nat} (h : a.grownBy b r) (k : b.grownBy c r) : a.grownBy c r :=
  ⟨k.os.trans h.os, k.tape.trans h.tape, k.output.trans h.output, Nat.le_trans h.size k.size, fun j hj hn => (k.block j (Nat.lt_of_lt_of_le hj h.size) hn).trans (h.block j hj hn)⟩
theorem grown_of_drew {a b : World} {r : Option Nat} (h : a.drew.grownBy b r) : a.grownBy b r := ⟨h.os, h.tape, h.output, h.size, h.block⟩
theorem erase_eq (l : List Ml) (k : Nat) : l.take k ++ l.drop (k + 1) = l.eraseIdx k := by rw [List.eraseIdx_eq_take_drop_succ]

set_option maxRecDepth 100000 in
set_option maxHeartbeats 1000000 in
theorem del_any (base g cap k : Nat) (l : List Ml) (w : World) (h : w.ownsRow base 47 4 (.slice (some ⟨g, 0, none⟩) l.length cap) l.length (mls l)) (hk : k < l.length) (hl : l.length ≤ 1000) :
    Calls Try.prog 37 #[.slice (some ⟨g, 0, none⟩) l.length cap, .int .i64 k, .int .i64 ((k : Int) + 1)] w fun e w' => ∃ n', e = .returned (.slice (some ⟨g, 0, none⟩) n' cap) ∧ n' = (l.eraseIdx k).length ∧ w'.ownsRow base 47 4 (.slice (some ⟨g, 0, none⟩) n' cap) n' (mls (l.eraseIdx k)) ∧ w.grownBy w' (some g) := by
  have H := Lib.hid h
  have hcap : l.length ≤ cap ∧ cap ≤ maxLen := by
    rcases h.2 with ⟨e, _⟩ | ⟨_, _, _, e, _, _, h1, h2, _⟩
    · cases e
    · cases e; exact ⟨h1, h2⟩
  obtain ⟨hc1, hc2⟩ := hcap
  unfold maxLen at hc2
  generalize hn : l.length = n at *
  have HN := Lib.hid hn
  clear hn h
  have e0 : ((k : Int) == (k : Int) + 1) = false := beq_f (by omega)
  have i0 : (0 : Int) ≤ (k : Int) := by omega
  have i1 : (k : Int) ≤ (n : Int) := by omega
  have i2 : (0 : Int) ≤ (k : Int) + 1 := by omega
  have i3 : (k : Int) + 1 ≤ (n : Int) := by omega
  have i4 : ((k : Int) + 1).toNat = k + 1 := by omega
  have i5 : (k : Int) ≤ (k : Int) + 1 := by omega
  have i6 : (k : Int) ≤ (cap : Int) := by omega
  have i7 : (k : Int) + 1 ≤ (cap : Int) := by omega
  obtain ⟨n1, hn1⟩ : ∃ n1, n = n1 + 1 := ⟨n - 1, by omega⟩
  have HN1 : Hid (k + (n - (k + 1)) = n1) := by show _ = _; omega
  have HLE : Hid (n1 = (l.eraseIdx k).length) := by show _ = _; rw [List.length_eraseIdx, HN.out, if_pos hk]; omega
  have hn1a : n1 < n := by omega
  have hn1b : n ≤ n1 + 1 := by omega
  have j1 : (n1 : Int) ≤ (n : Int) := by omega
  have j2 : (n : Int) ≤ (cap : Int) := by omega
  have j3 : n - n1 = 1 := by omega
  have j4 : ¬ cap = n1 := by omega
  clear hn1
  have HSP : Hid (mls l = mls (l.take k) ++ mls (l.drop k)) := by show _ = _; rw [← mls_append, List.take_append_drop]
  have HT : Hid (w.drew.ownsRow base 47 4 (.slice (some ⟨g, 0, none⟩) k cap) k (mls (l.take k))) := by
    have h1 := H.out
    rw [HSP.out] at h1
    exact ownsRow_take h1 k (by omega) (by rw [mls_length, List.length_take, HN.out, Nat.min_eq_left (by omega)])
  have HD : Hid (∀ j u, (mls (l.drop (k + 1)))[j]? = some u → w.drew.cell? ((⟨g, (k + 1) * 4, none⟩ : Addr).add j) = some u) := fun j u hu => by
    have hj := (List.getElem?_eq_some_iff.1 hu).1
    rw [mls_length, List.length_drop, HN.out] at hj
    rw [add_none]
    have e : mls l = mls (l.take (k + 1)) ++ mls (l.drop (k + 1)) := by rw [← mls_append, List.take_append_drop]
    have hc : w.cell? ⟨g, (k + 1) * 4 + j, none⟩ = (mls l)[(k + 1) * 4 + j]? := World.ownsRow.cellAt H.out _ (by omega)
    have hlen : (mls (l.take (k + 1))).length = (k + 1) * 4 := by rw [mls_length, List.length_take, HN.out, Nat.min_eq_left (by omega)]
    show w.cell? _ = _
    rw [hc, e, List.getElem?_append_right (by omega), hlen, show (k + 1) * 4 + j - (k + 1) * 4 = j by omega, hu]
  by_cases hcc : cap = k + 1
  · obtain rfl : n1 = k := by omega
    obtain rfl : n = n1 + 1 := by omega
    subst hcc
    have HE0 : Hid (l.drop (n1 + 1) = []) := by show _ = _; exact List.drop_of_length_le (by rw [HN.out]; exact Nat.le_refl _)
    have HE1 : Hid (l.take n1 ++ [] = l.eraseIdx n1) := by show _ = _; rw [← erase_eq, HE0.out]
    clear j1 j2 j3 j4 i1 i3 i6 i7 hn1a hn1b hc1
    have i7 : (n1 : Int) ≤ (n1 : Int) + 1 := by omega
    go_enter Try.func37, Try.ntmps37
    go_wp2_with fail
    refine region_tail 6 (by kernel_rfl) (by kernel_rfl) ?_
    simp only [List.take_succ_cons, List.take_zero, List.drop_succ_cons, List.drop_zero]
    repeat still_step
    refine wpStill_nil ?_
    go_wp2_with (at_builtin; go_must (
      refine wpList_fits_Ml rfl (.tmp 22) (.tmp 25) rfl base g n1 (n1 + 1) (l.take n1) rfl HT.out ⟨g, 0, none⟩ 0 0 [] rfl rfl (fun j u hu => by cases hu) (by omega) ?_
      rw [HE1.out, Nat.add_zero]
      intro w3 hown3 hg3
      have hclr := fun ty => run_clear_one w3 ty g (n1 * 4) 1 (fun j hj => ownsRow_there hown3 _ (by omega)) (fun j hj => World.ownsRow.frozenAt hown3 _)
      have HO3 := Lib.hid hown3
      have HG3 := Lib.hid (grown_of_drew hg3)
      clear hown3 hg3))
    go_wp2
    go_ret
    obtain ⟨h5, h6⟩ := ownsRow_setCells (w := w3) ml4 (n1 * 4) w3 HO3.out (Nat.le_refl _)
    exact ⟨n1, rfl, HLE.out, h5, grown_trans HG3.out h6⟩
  · go_enter Try.func37, Try.ntmps37
    go_wp2_with fail
    refine region_tail 6 (by kernel_rfl) (by kernel_rfl) ?_
    simp only [List.take_succ_cons, List.take_zero, List.drop_succ_cons, List.drop_zero]
    repeat still_step
    refine wpStill_nil ?_
    go_wp2_with (at_builtin; go_must (
      refine wpList_fits_Ml rfl (.tmp 22) (.tmp 25) rfl base g k cap (l.take k) rfl HT.out ⟨g, (k + 1) * 4, none⟩ (n - (k + 1)) (cap - (k + 1)) (l.drop (k + 1)) rfl (by rw [List.length_drop, HN.out]) HD.out (by omega) ?_
      rw [HN1.out, erase_eq]
      intro w3 hown3 hg3
      have hclr := fun ty => run_clear_one w3 ty g (n1 * 4) (cap - n1) (fun j hj => ownsRow_there hown3 _ (by omega)) (fun j hj => World.ownsRow.frozenAt hown3 _)
      have HO3 := Lib.hid hown3
      have HG3 := Lib.hid (grown_of_drew hg3)
      clear hown3 hg3))
    go_wp2
    go_ret
    obtain ⟨h5, h6⟩ := ownsRow_setCells (w := w3) ml4 (n1 * 4) w3 HO3.out (Nat.le_refl _)
    exact ⟨n1, rfl, HLE.out, h5, grown_trans HG3.out h6⟩
end Go.Proofs.Ytjinnkbnllnllaa
