/- Walk: alloc.Pool: Free. -/
import Derived.Test.YtbkipbkkdcikcaaPoolNew
import Derived.Test.YtbkipbkkdcikcaaShelf
import Derived.Sort.OwnSortedInts
namespace Go.Proofs.Ytbkipbkkdcikcaa
open Go.RowKit

/-- 'append' at two slice types of one element. -/
theorem append_types {P : Program} {t t' ty e : TypeId} (ht : P.underlying t = some (.slice e)) (ht' : P.underlying t' = some (.slice e)) (s x : Value) (w : World) :
    (Builtin.append_ #[t, t'] ty #[s, x]).run P w = (Builtin.append_ #[t, t] ty #[s, x]).run P w := by
  cases s <;> simp [Builtin.append_, run_underlying ht, run_underlying ht']

theorem wpList_app_num2 {w : World} {ops : Array Oper} {rest : List Oper} {o : Oper} {a : Act} {Q : Exit → Act → World → Prop} (hgd : o.guard = none) (s x : Operand) (t t' : TypeId) (ht : Try.prog.underlying t = some (.slice 3)) (ht' : Try.prog.underlying t' = some (.slice 3))
    (ho : o.op = .call { callee := .builtin .append, args := #[s, x], argTypes := #[t, t'] })
    (base : Nat) (v : Value) (l : List Nat) (hs : a.eval s = v) (hown : w.ownsRow base 3 1 v l.length (nats l))
    (V : List Nat) (A : Option Addr) (c : Nat) (m : List Nat) (hx : a.eval x = .slice A m.length c) (hr : Row V w A (nats m)) (h63 : (l.length + m.length) * 8 ≤ 140737488355328) (hbase : base ≤ w.heap.size)
    (h : ∀ v' w', w'.ownsRow base 3 1 v' (l ++ m).length (nats (l ++ m)) → w.grownBy w' v.ownBlock → (v'.ownBlock = v.ownBlock ∨ v'.ownBlock = some w.heap.size) → wpList Try.prog ops Q rest (a.put o.dst v') w') : wpList Try.prog ops Q (o :: rest) a w := by
  obtain ⟨i, hi, hz, hsz, hb⟩ := info_parts Try.infoInt
  obtain ⟨v', w', hrun, h2, h3, h4⟩ := run_append_any (P := Try.prog) w base t o.type 3 i _ 1 8 ht hi hz hsz hb rfl (by omega) v l.length (nats l) hown V A m.length c (nats m) (by simp [nats_length]) hr (nats_one m) (by unfold maxLen; omega) h63 hbase
  rw [← append_types ht ht'] at hrun
  refine wpList_plain hgd fun K hK => ?_
  unfold Oper.wp execOp
  simp only [ho, resolve, invoke, builtin, Sem.run_bind, Sem.run_pure, Result.andThen_ok, List.map_toArray, List.map_cons, List.map_nil, hs, hx, hrun]
  exact hK _ _ (h v' w' (by rw [nats_append, List.length_append]; exact h2) h3 h4)

def zs (l : List Nat) : List Int := l.map fun (x : Nat) => (x : Int)
theorem zs_length (l : List Nat) : (zs l).length = l.length := by simp [zs]
theorem ints_zs (l : List Nat) : ints (zs l) = nats l := by simp [ints, zs, nats]

theorem sort_zs {tk : List Bool} {fr : List Nat} (h : fr.Perm (frees tk)) : (zs fr).mergeSort (fun x y => decide (x ≤ y)) = zs (frees tk) := by
  have h1 : ((zs fr).mergeSort (fun x y => decide (x ≤ y))).Perm (zs (frees tk)) := (List.mergeSort_perm _ _).trans (h.map _)
  have h2 : ((zs fr).mergeSort (fun x y => decide (x ≤ y))).Pairwise (fun x y => decide (x ≤ y) = true) :=
    List.pairwise_mergeSort (fun a b c => by simp; omega) (fun a b => by simp; omega) _
  have h3 : (zs (frees tk)).Pairwise (fun x y => decide (x ≤ y) = true) := by
    unfold zs
    rw [List.pairwise_map]
    exact (frees_up tk).imp (fun h => by simp; omega)
  exact List.Perm.eq_of_pairwise (fun a b _ _ h4 h5 => by simp at h4 h5; omega) h2 h3 h1

theorem ownsRow_kept {w w' : World} {base : Nat} {e : TypeId} {size n : Nat} {v : Value} {xs : List Value} (h : w.ownsRow base e size v n xs) (k : Kept w w') : w'.ownsRow base e size v n xs := by
  refine ⟨h.1, ?_⟩
  rcases h.2 with e | ⟨g, cap, cur, e, hb, hh, rest⟩
  · exact .inl e
  · refine .inr ⟨g, cap, cur, e, hb, ?_, rest⟩
    rw [k.block g (Array.getElem?_eq_some_iff.1 hh).1]; exact hh
theorem PoolV.kept {w w' : World} {V : Nat → Prop} {g : Nat} {tk : List Bool} (h : PoolV w V g tk) (k : Kept w w') : PoolV w' V g tk := by
  obtain ⟨tb, fv, fr, hb1, hb2, hb3, hne, hl, ho, hot, hr, hf1, hf2, hh⟩ := h
  exact ⟨tb, fv, fr, hb1, hb2, hb3, hne, hl, ho.kept k, hot.kept k, ownsRow_kept hr k, hf1, hf2, hh⟩
/-- What was made since is spared too. -/
theorem PoolV.guard {w w' : World} {V : Nat → Prop} {g : Nat} {tk : List Bool} (h : PoolV w V g tk) (k : Kept w w') : PoolV w' (fun j => j < w'.heap.size ∧ (V j ∨ w.heap.size ≤ j)) g tk := by
  obtain ⟨tb, fv, fr, hb1, hb2, hb3, hne, hl, ho, hot, hr, hf1, hf2, hh⟩ := h
  refine ⟨tb, fv, fr, fun hg => ?_, fun hg => ?_, fun j e hg => ?_, hne, hl, ho.kept k, hot.kept k, ownsRow_kept hr k, hf1, hf2, hh⟩
  · rcases hg.2 with h | h
    · exact hb1 h
    · have := ho.lt; omega
  · rcases hg.2 with h | h
    · exact hb2 h
    · have := hot.lt; omega
  · rcases hg.2 with h | h
    · exact hb3 j e h
    · have := (hr.lt j e).2; omega
theorem PoolV.weak {w : World} {V U : Nat → Prop} {g : Nat} {tk : List Bool} (h : PoolV w V g tk) (k : ∀ j, U j → V j) : PoolV w U g tk := by
  obtain ⟨tb, fv, fr, hb1, hb2, hb3, hne, hl, ho, hot, hr, hf1, hf2, hh⟩ := h
  exact ⟨tb, fv, fr, fun hg => hb1 (k _ hg), fun hg => hb2 (k _ hg), fun j e hg => hb3 j e (k _ hg), hne, hl, ho, hot, hr, hf1, hf2, hh⟩
theorem Row.spared {V : Nat → Prop} {w w' : World} {A : Option Addr} {xs : List Value} (h : Row [] w A xs) (hA : ∀ b o, 0 < xs.length → A = some ⟨b, o, none⟩ → V b) (k : Spared V w w') : Row [] w' A xs := fun hx => by
  obtain ⟨b, o, e, hb, hv, hc⟩ := h hx
  have hk := k.block b hb (fun hn => hn (hA b o hx e))
  exact ⟨b, o, e, Nat.lt_of_lt_of_le hb k.size, hv, fun j u hu => (World.cell?_of_block (a := ⟨b, o + j, none⟩) hk).trans (hc j u hu)⟩

/-- A slice that lies in a block made since w (asked only if there is one). -/
def NewRow (w : World) (A : Option Addr) (n : Nat) : Prop := 0 < n → ∃ b o, A = some ⟨b, o, none⟩ ∧ w.heap.size ≤ b
def FreePost (V : List Nat) (w : World) (U : Nat → Prop) (g : Nat) (tk : List Bool) (e : Ending) (w' : World) : Prop :=
  ∃ A c, e = .returned (.slice A (zs (frees tk)).length c) ∧ IntsAt V w' (.slice A (zs (frees tk)).length c) (zs (frees tk)) ∧ PoolV w' U g tk ∧ Kept w w' ∧ NewRow w A (zs (frees tk)).length

set_option maxHeartbeats 1000000 in
theorem pFree_v (V : List Nat) (U : Nat → Prop) (g : Nat) (tk : List Bool) (w : World) (h : PoolV w U g tk) (hV : Old V w) :
    Calls Try.prog 17 #[.pointer (some ⟨g, 0, none⟩)] w (FreePost V w U g tk) := by
  have HP := Lib.hid h
  obtain ⟨tb, fv, fr, hv1, hv2, hv3, hne, hl, ho, hot, hr, hf1, hf2, hh⟩ := h
  clear hv1 hv2 hv3
  obtain ⟨A, c, rfl⟩ := hp_formv hr
  obtain ⟨q1, q2, _, _⟩ := ho.two
  have h1 := frees_le tk
  have h2 := hh.len
  rcases Nat.eq_zero_or_pos fr.length with h0 | h0
  · have hfe : frees tk = [] := List.eq_nil_of_length_eq_zero (by omega)
    rw [h0] at q2
    have HF := Lib.hid hfe
    clear hr hh ho hot h2 hf1 hf2 hfe h0
    go_enter Try.func17, Try.ntmps17
    go_wp2
    go_ret
    refine ⟨none, 0, by rw [HF.out]; rfl, ?_, HP.out, Kept.refl _, fun h => by rw [HF.out] at h; exact absurd h (by simp [zs])⟩
    rw [HF.out]
    exact ⟨none, 0, rfl, Nat.le_refl _, Nat.zero_le _, Row.nil _ _ _⟩
  · obtain ⟨r, c', e⟩ := hp_form hr h0
    cases e
    have hlz : (fr.length : Int) ≠ 0 := by omega
    have hlz' := beq_f hlz
    have h257 : fr.length ≤ 256 := by omega
    have HROW : Hid (Row [] w (some ⟨r, 0, none⟩) (nats fr)) := fun _ => ⟨r, 0, rfl, (hr.lt r rfl).2, by simp, fun j u hu => by
      have hj := (List.getElem?_eq_some_iff.1 hu).1
      rw [nats_length] at hj
      rw [Nat.zero_add, HpRow.cell hr hj, ← hu, nats_at hj]⟩
    have HPE := Lib.hid hh.2
    have hlf := h2
    clear hr hh ho hot hf1 hf2 h2
    have HLF := Lib.hid hlf
    clear hlf
    go_enter Try.func17, Try.ntmps17
    go_wp2_with (at_builtin; go_must (
      refine wpList_app_num2 rfl (.const (.slice none 0 0)) (.tmp 17) _ _ Try.underlying22 Try.underlying39 rfl w.heap.size _ [] rfl (World.ownsRow_nil _ _ _ _) [] (some ⟨r, 0, none⟩) c fr rfl HROW.out (by simp; omega) (Nat.le_refl _) ?_
      intro v3 w3 hown3 hg3 hat3
      rw [List.nil_append] at hown3
      obtain ⟨r3, c3, rfl⟩ := hp_form hown3 h0
      have HO3 := Lib.hid hown3
      have hk3 : Kept w w3 := (Kept.refl w).grown hg3 (fun bb hb => by cases hb)
      clear hown3 hg3 hat3))
    rcases HO3.out.2 with ⟨e, _⟩ | ⟨g', cap', cur, e, hb, hhp, hn1, hn2, hn3, hn4⟩
    · cases e
    cases e
    have hr3 : r3 < w3.heap.size := (Array.getElem?_eq_some_iff.1 hhp).1
    have hH := holds_of_blockI hhp (ss := zs fr) (by rw [zs_length]; rw [Nat.mul_one] at hn4; rw [hn4]; simp [zs, nats])
    have HHH := Lib.hid hH
    have HHP := Lib.hid hhp
    have HN3 := Lib.hid hn3
    clear hH hhp hn4 hn3 q1 q2 HO3
    have hc := Try.slices_Sort_int r3 0 c3 (zs fr) w3 HHH.out hr3 (by rw [zs_length]; omega)
    rw [zs_length, sort_zs HPE.out] at hc
    have HC := Lib.hid hc
    clear hc
    go_wp2_with fail
    refine HC.out.mono ?_
    rintro e w4 ⟨rfl, n, os, hw4⟩
    have h4 := ownsRow_sortedI (ss := zs fr) (ts := zs (frees tk)) (os := os) (n := n) (cap := c3) (by rw [zs_length, zs_length]; exact HLF.out.symm) hb HHP.out (by rw [zs_length]; exact hn1) hn2 HN3.out
    have hg4 := grownBy_sortedI (w := w3) (g := r3) (n := n) (os := os) (zs (frees tk)).toArray
    rw [← hw4] at h4 hg4
    have HE : Hid (fr.length = (zs (frees tk)).length) := by show _ = _; rw [zs_length]; exact HLF.out
    have H4 := Lib.hid h4
    have hk4 : Kept w w4 := hk3.grown hg4 (fun bb e => by injection e with e; rw [← e]; exact hb)
    clear h4 hg4 hw4 HHH HHP HC
    go_wp2
    go_ret
    have h5 := H4.out
    rw [zs_length, HE.out] at h5
    obtain ⟨A5, c5, e5, h51, h52, h53⟩ := own_form (V := V) h5 hV
    cases e5
    refine ⟨some ⟨r3, 0, none⟩, c3, by rw [← HE.out]; rfl, ⟨some ⟨r3, 0, none⟩, c3, rfl, h51, h52, h53⟩, HP.out.kept hk4, hk4, fun _ => ⟨r3, 0, rfl, hb⟩⟩
end Go.Proofs.Ytbkipbkkdcikcaa
