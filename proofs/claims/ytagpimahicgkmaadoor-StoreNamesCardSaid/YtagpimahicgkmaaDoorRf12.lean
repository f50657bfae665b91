/- Walk: mailsacklaw12.ref. -/
import Derived.Test.YtagpimahicgkmaaDoorRfP
namespace Go.Proofs.YtagpimahicgkmaaDoor
open Go.RowKit

set_option maxHeartbeats 400000 in
theorem ref12_any (V : List Nat) (d : Dk) (v : Value) (w : World) (h : DkAt V w v d) (hV : Old V w) (hreach : d.cache.length * 24 ≤ 140737488355328) :
    Calls Tryd.prog 39 #[v] w fun e w' => ∃ s' c', e = .returned (.agg #[s', c']) ∧ DkAt V w' (.agg #[s', c']) d ∧ Kept w w' := by
  obtain ⟨_, _, rfl, ⟨A, c, rfl, hl, hm, hr⟩, ⟨A', c', rfl, hl', hm', hr'⟩⟩ := h
  unfold maxLen at hm hm'
  have HS := Lib.hid hr
  have HC := Lib.hid hr'
  clear hr hr'
  go_enter Tryd.func39, Tryd.ntmps39
  go_wp2
  go_loopw [12] (fun i wr => ∃ k : Nat, k ≤ d.cache.length ∧ i = .int .i64 k ∧ ∃ B b, Own wr (w.heap.size + 1 + 1) 29 [Value.slice A d.sec.length c, .slice B k b] ∧ Own wr (w.heap.size + 1) 29 [Value.slice none 0 0, Value.slice none 0 0] ∧ wr.ownsRow (w.heap.size + 1 + 1 + 1) 82 2 (.slice B k b) k (wrs (d.cache.take k)) ∧ Kept w wr) (fun i _ => d.cache.length - (intOf i).toNat)
  case atStart => exact ⟨0, Nat.zero_le _, rfl, none, 0, Own.new2 w _ _ _ [_, _], (Own.new1 w _ _ [_, _]).alloc _, ⟨by simp [wrs], .inl ⟨rfl, rfl⟩⟩, (((Kept.refl w).alloc _).alloc _).alloc _⟩
  case round =>
    obtain ⟨k, hk, rfl, B, b, ho1, ho2, hown, hkept⟩ := hrel
    obtain ⟨q1, q2, q3, q4⟩ := ho1.two
    have HO1 := Lib.hid ho1
    have HO2 := Lib.hid ho2
    have HOwn := Lib.hid hown
    have hsz := ho1.lt
    by_cases hlt : k < d.cache.length
    · obtain ⟨b', o', rfl, hb', _, hc'⟩ := HC.out.kept hkept (by rw [wrs_length]; omega)
      have g1 : wr.cell? ⟨b', o' + k * 2, none⟩ = some (.int .i64 d.cache[k].at_) := hc' _ _ (wrs_at hlt).1
      have g2 : wr.cell? ⟨b', o' + k * 2 + 1, none⟩ = some (.string d.cache[k].data) := hc' _ _ (wrs_at hlt).2
      have HT := Lib.hid (take_snoc d.cache k hlt)
      have hl1 : (d.cache.take k).length = k := by simp; omega
      clear hc' ho1 ho2 hown
      generalize d.cache[k] = x at *
      have HL := Lib.hid hl1
      clear hl1
      have hb3 : ∀ bb, (Value.slice B k b).ownBlock = some bb → w.heap.size + 1 + 1 + 1 ≤ bb := fun bb hb => (ownBlock_of HOwn.out hb).1
      have HB3 := Lib.hid hb3
      clear hb3
      go_upto_region 6 with (at_builtin; go_must (
        refine wpList_app_rw rfl (.tmp 17) (.tmp 19) rfl (w.heap.size + 1 + 1 + 1) _ (d.cache.take k) rfl (by rw [HL.out]; exact (HOwn.out.alloc _).alloc _) [] (some ⟨wr.heap.size + 1, 0, none⟩) 1 [x] rfl ((Own.new1 wr _ _ (wrs [x])).row (by simp)) (by rw [HL.out]; simp; omega) (by simp; omega) ?_
        intro v3 w3 hown3 hg3 hat3
        obtain ⟨A3, c3, rfl, hc3, hm3, hr3⟩ := own_form (V := []) hown3 (by simp)
        have HOwn3 := Lib.hid hown3
        have HO1x := Lib.hid (((HO1.out.alloc (.cells #[.int .i64 x.at_, .string x.data] 38)).alloc (.cells (wrs [x]).toArray 82)).appd hg3 (fun bb hb => by have := HB3.out bb hb; omega))
        have HO2x := Lib.hid (((HO2.out.alloc (.cells #[.int .i64 x.at_, .string x.data] 38)).alloc (.cells (wrs [x]).toArray 82)).appd hg3 (fun bb hb => by have := HB3.out bb hb; omega))
        have hkx : Kept w w3 := ((hkept.alloc _).alloc _).grown hg3 (fun bb hb => by have := HB3.out bb hb; omega)
        have hlen : (d.cache.take k ++ [x]).length = k + 1 := by rw [HT.out]; simp; omega
        have HLen := Lib.hid hlen
        rw [hlen]
        clear hown3 hg3 hr3 hat3 hlen q1 q2 q3 q4
        obtain ⟨q1, q2, q3, q4⟩ := HO1x.out.two))
      go_wp2
      go_roundw
      case rel =>
        refine ⟨k + 1, by omega, by go_num, A3, c3, HO1x.out.set_ 1 _, HO2x.out.far (by simp) _, ?_, hkx.setCell (by simp; omega) _⟩
        have := ownsRow_setCell_below HOwn3.out (a := ⟨w.heap.size + 1 + 1, 1, none⟩) (by simp) (.slice A3 (k + 1) c3)
        rw [HT.out] at this
        rw [HT.out] at HLen
        rw [HLen.out] at this
        exact this
      case measure => simp [intOf]; omega
    · have HK : Hid (k = d.cache.length) := by show k = _; omega
      obtain ⟨p1, p2, p3, p4⟩ := ho2.two
      clear ho1 ho2 hown
      go_wp2
      have ho3 := HO2.out.put2 (.slice A d.sec.length c) (.slice B k b)
      obtain ⟨r1, r2, _, _⟩ := ho3.two
      refine bodyPost_ret (v := .agg #[.slice A d.sec.length c, .slice B k b]) ?_ rfl ?_
      · simp [results, Tryd.results39, go_sem, r1, r2]
      · refine ⟨_, _, rfl, ?_, (hkept.setCell (by simp) _).setCell (by simp) _⟩
        obtain ⟨B', b'', eB, hB1, hB2, hB3⟩ := own_form (V := (w.heap.size + 1) :: V) HOwn.out (fun j hj => by
          rcases List.mem_cons.1 hj with rfl | hj
          · omega
          · have := hV j hj; omega)
        simp only [Value.slice.injEq, true_and] at eB
        obtain ⟨rfl, rfl⟩ := eB
        rw [HK.out] at hB1 hB3 ⊢
        rw [List.take_of_length_le (Nat.le_refl _)] at hB3
        have hD : DkAt ((w.heap.size + 1) :: V) wr (.agg #[.slice A d.sec.length c, .slice B d.cache.length b]) d :=
          ⟨_, _, rfl, ⟨A, c, rfl, hl, by unfold maxLen; omega, HS.out.go hkept (Ext.cons (by omega) (Ext.refl _ _))⟩, ⟨B, b, rfl, hB1, hB2, hB3⟩⟩
        exact ((hD.put (by simp) _).put (by simp) _).weak (fun _ h => List.mem_cons_of_mem _ h)
end Go.Proofs.YtagpimahicgkmaaDoor
