/- Walk: mailsackref09.Crash. -/
import Derived.Test.YtagpimahicgkmaaDoorRfOps
namespace Go.Proofs.YtagpimahicgkmaaDoor
open Go.RowKit

theorem strs_append (a b : List ByteArray) : strs (a ++ b) = strs a ++ strs b := by simp [strs]
/-- 'append' to a row of strings that the call owns. -/
theorem wpList_app_str {w : World} {ops : Array Oper} {rest : List Oper} {o : Oper} {a : Act} {Q : Exit → Act → World → Prop} (hgd : o.guard = none) (s x : Operand)
    (ho : o.op = .call { callee := .builtin .append, args := #[s, x], argTypes := #[22, 22] })
    (base : Nat) (v : Value) (l : List ByteArray) (hs : a.eval s = v) (hown : w.ownsRow base 9 1 v l.length (strs l))
    (V : List Nat) (A : Option Addr) (c : Nat) (m : List ByteArray) (hx : a.eval x = .slice A m.length c) (hr : Row V w A (strs m)) (h63 : (l.length + m.length) * 16 ≤ 140737488355328) (hbase : base ≤ w.heap.size)
    (h : ∀ v' w', w'.ownsRow base 9 1 v' (l ++ m).length (strs (l ++ m)) → w.grownBy w' v.ownBlock → (v'.ownBlock = v.ownBlock ∨ v'.ownBlock = some w.heap.size) → wpList Tryd.prog ops Q rest (a.put o.dst v') w') : wpList Tryd.prog ops Q (o :: rest) a w := by
  obtain ⟨i, hi, hz, hsz, hb⟩ := info_parts Tryd.infoStr
  refine wpList_append_any w hgd s x _ ho base _ i _ 1 16 Tryd.underlying22 hi hz hsz hb rfl (by omega) v l.length (strs l) hs hown V A m.length c (strs m) hx (by simp [strs_length]) hr (strs_one m) (by unfold maxLen; omega) h63 hbase ?_
  intro v' w' h1 h2 h3
  exact h v' w' (by rw [strs_append, List.length_append]; exact h1) h2 h3

theorem rl_take (d : Dk) (p : Nat → Bool) {k : Nat} (h : k < d.sec.length) : (rcrashL d p).take k ++ [rcAt d.sec[k] d.cache p k d.cache.length] = (rcrashL d p).take (k + 1) := by
  rw [List.take_succ_eq_append_getElem (by simpa [rcrashL] using h)]
  congr 2
  simp [rcrashL, List.getElem?_eq_getElem h]

set_option maxRecDepth 100000 in
set_option maxHeartbeats 1000000 in
theorem rcrash_any (V : List Nat) (d : Dk) (keep : List Int) (v u : Value) (w : World) (h : DkAt V w v d) (hu : IntsAt [] w u keep) (hV : Old V w) (hs : d.sec.length ≤ 1024) :
    Calls Tryd.prog 60 #[v, u] w fun e w' => ∃ s' c', e = .returned (.agg #[s', c']) ∧ DkAt V w' (.agg #[s', c']) ⟨rcrashL d fun (i : Nat) => hasB keep i, []⟩ ∧ Kept w w' := by
  obtain ⟨_, _, rfl, ⟨A, c, rfl, hl, hm, hr⟩, ⟨A', c', rfl, hl', hm', hr'⟩⟩ := h
  have HU := Lib.hid hu
  obtain ⟨B, bc, rfl, bl, bm, _⟩ := hu
  unfold maxLen at hm hm' bm
  have HA := Lib.hid hr
  have HC := Lib.hid hr'
  clear hr hr'
  generalize hp : (fun (i : Nat) => hasB keep i) = p at *
  have HP := Lib.hid hp
  clear hp
  have HLen : Hid ((rcrashL d p).length = d.sec.length) := by show _ = _; simp [rcrashL]
  go_enter Tryd.func60, Tryd.ntmps60
  go_wp2
  go_loopw [6] (fun i wr => ∃ k : Nat, k ≤ d.sec.length ∧ i = .int .i64 k ∧ ∃ E b, Own wr w.heap.size 29 [Value.slice A d.sec.length c, Value.slice A' d.cache.length c'] ∧ Own wr (w.heap.size + 1) 29 [Value.slice none 0 0, Value.slice none 0 0] ∧ Own wr (w.heap.size + 1 + 1) 29 [Value.slice E k b, Value.slice none 0 0] ∧ wr.ownsRow (w.heap.size + 1 + 1 + 1) 9 1 (.slice E k b) k (strs ((rcrashL d p).take k)) ∧ Kept w wr) (fun i _ => d.sec.length - (intOf i).toNat)
  case atStart => exact ⟨0, Nat.zero_le _, rfl, none, 0, ((Own.new w _ [_, _]).alloc _).alloc _, (Own.new1 w _ _ [_, _]).alloc _, Own.new2 w _ _ _ [_, _], ⟨by simp [strs], .inl ⟨rfl, rfl⟩⟩, (((Kept.refl w).alloc _).alloc _).alloc _⟩
  case round =>
    obtain ⟨k, hk, rfl, E, b, ho1, ho2, ho3, hown, hkept⟩ := hrel
    obtain ⟨wo, rfl⟩ : ∃ wo : World, wo = wr := ⟨_, rfl⟩
    have HO1 := Lib.hid ho1
    have HO2 := Lib.hid ho2
    have HO3 := Lib.hid ho3
    have HOwn := Lib.hid hown
    obtain ⟨q1, q2, _, _⟩ := ho1.two
    by_cases hlt : k < d.sec.length
    · obtain ⟨bs, os, rfl, hbs, _, hcs⟩ := HA.out.kept hkept (by rw [strs_length]; omega)
      have g0 : wo.cell? ⟨bs, os + k, none⟩ = some (.string d.sec[k]) := hcs _ _ (strs_at hlt)
      have HT := Lib.hid (rl_take d p hlt)
      clear hcs ho1 ho2 ho3 hown
      generalize d.sec[k] = sk at *
      go_wp2
      go_loop [7, 8] (fun s i => ∃ j : Nat, j ≤ d.cache.length ∧ i = .int .i64 j ∧ s = .string (rcAt sk d.cache p k j)) (fun _ i => d.cache.length - (intOf i).toNat)
      case atStart => exact ⟨0, Nat.zero_le _, rfl, rfl⟩
      case round =>
        obtain ⟨j, hj, rfl, rfl⟩ := hrel
        by_cases hltj : j < d.cache.length
        · obtain ⟨b', o', rfl, hb', _, hc'⟩ := HC.out.kept hkept (by rw [wrs_length]; omega)
          have g1 : wo.cell? ⟨b', o' + j * 2, none⟩ = some (.int .i64 d.cache[j].at_) := hc' _ _ (wrs_at hltj).1
          have g2 : wo.cell? ⟨b', o' + j * 2 + 1, none⟩ = some (.string d.cache[j].data) := hc' _ _ (wrs_at hltj).2
          clear hc'
          by_cases hq : d.cache[j].at_ = k
          · rcases Bool.eq_false_or_eq_true (p j) with hpj | hpj
            · have HY := Lib.hid (rcAt_yes (s := sk) hltj hq hpj)
              have HI : Hid (hasB keep j = true) := by show _ = _; exact (congrFun HP.out j).trans hpj
              rw [hq] at g1
              generalize rcAt sk d.cache p k j = r at *
              generalize d.cache[j].data = y at *
              clear hq hpj
              go_wp2_with fail
              refine (in_any [] keep j _ _ (HU.out.go hkept (Ext.refl _ _))).mono ?_
              rw [HI.out]
              rintro e w1 ⟨rfl, rfl⟩
              go_wp2
              go_round
              case rel => exact ⟨j + 1, by omega, by go_num, by rw [HY.out]⟩
              case measure => simp [intOf]; omega
            · have HY := Lib.hid (rcAt_no (s := sk) (n := k) hltj (.inr hpj))
              have HI : Hid (hasB keep j = false) := by show _ = _; exact (congrFun HP.out j).trans hpj
              rw [hq] at g1
              generalize rcAt sk d.cache p k j = r at *
              generalize d.cache[j].data = y at *
              clear hq hpj
              go_wp2_with fail
              refine (in_any [] keep j _ _ (HU.out.go hkept (Ext.refl _ _))).mono ?_
              rw [HI.out]
              rintro e w1 ⟨rfl, rfl⟩
              go_wp2
              go_round
              case rel => exact ⟨j + 1, by omega, by go_num, by rw [HY.out]⟩
              case measure => simp [intOf]; omega
          · have HY := Lib.hid (rcAt_no (s := sk) (p := p) hltj (.inl hq))
            have t1 := beq_f hq
            generalize rcAt sk d.cache p k j = r at *
            generalize d.cache[j].at_ = z at *
            clear hq
            go_wp2
            go_round
            case rel => exact ⟨j + 1, by omega, by go_num, by rw [HY.out]⟩
            case measure => simp [intOf]; omega
        · have HJ : Hid (j = d.cache.length) := by show j = _; omega
          rw [← HJ.out] at HT
          generalize rcAt sk d.cache p k j = r at *
          obtain ⟨p1, p2, p3, p4⟩ := HO3.out.two
          have hz := HO3.out.lt
          have HB3 : Hid (∀ bb, (Value.slice E k b).ownBlock = some bb → w.heap.size + 1 + 1 + 1 ≤ bb) := fun bb hb => (ownBlock_of HOwn.out hb).1
          have HL : Hid (((rcrashL d p).take k).length = k) := by show _ = _; rw [List.length_take, HLen.out]; omega
          go_upto_region 4 with (at_builtin; go_must (
            refine wpList_app_str rfl (.tmp 49) (.tmp 51) rfl (w.heap.size + 1 + 1 + 1) _ ((rcrashL d p).take k) rfl (by rw [HL.out]; exact HOwn.out.alloc _) [] (some ⟨wo.heap.size, 0, none⟩) 1 [r] rfl ((Own.new wo _ (strs [r])).row (by simp)) (by rw [HL.out]; simp; omega) (by simp; omega) ?_
            intro v3 w3 hown3 hg3 hat3
            obtain ⟨A3, c3, rfl, hc3, hm3, hr3⟩ := own_form (V := []) hown3 (by simp)
            have HO1x := Lib.hid ((HO1.out.alloc (.cells (strs [r]).toArray 9)).appd hg3 (fun bb hb => by have := HB3.out bb hb; omega))
            have HO2x := Lib.hid ((HO2.out.alloc (.cells (strs [r]).toArray 9)).appd hg3 (fun bb hb => by have := HB3.out bb hb; omega))
            have HO3x := Lib.hid ((HO3.out.alloc (.cells (strs [r]).toArray 9)).appd hg3 (fun bb hb => by have := HB3.out bb hb; omega))
            have hkx : Kept w w3 := (hkept.alloc _).grown hg3 (fun bb hb => by have := HB3.out bb hb; omega)
            have hlen : ((rcrashL d p).take k ++ [r]).length = k + 1 := by rw [List.length_append, HL.out]; rfl
            rw [hlen] at hown3 hc3
            rw [hlen]
            rw [HT.out] at hown3
            have HOwn3 := Lib.hid hown3
            clear hown3 hg3 hr3 hat3 hlen q1 q2 p1 p2 p3 p4
            obtain ⟨q1, q2, q3, q4⟩ := HO3x.out.two))
          go_wp2
          go_roundw
          case rel =>
            refine ⟨k + 1, by omega, by go_num, A3, c3, HO1x.out.far (by simp; omega) _, HO2x.out.far (by simp) _, HO3x.out.set_ 0 _, ?_, hkx.setCell (by simp; omega) _⟩
            exact ownsRow_setCell_below HOwn3.out (a := ⟨w.heap.size + 1 + 1, 0, none⟩) (by simp) (.slice A3 (k + 1) c3)
          case measure => simp [intOf]; omega
    · have HK : Hid (k = d.sec.length) := by show k = _; omega
      obtain ⟨p1, p2, p3, p4⟩ := ho2.two
      obtain ⟨p5, p6, _, _⟩ := ho3.two
      clear ho1 ho2 ho3 hown
      go_wp2
      have ho5 := HO2.out.put2 (.slice E k b) (.slice none 0 0)
      obtain ⟨r1, r2, _, _⟩ := ho5.two
      refine bodyPost_ret (v := .agg #[.slice E k b, .slice none 0 0]) ?_ rfl ?_
      · simp [results, Tryd.results60, go_sem, r1, r2]
      · refine ⟨_, _, rfl, ?_, (hkept.setCell (by simp) _).setCell (by simp) _⟩
        obtain ⟨B', b'', eB, hB1, hB2, hB3⟩ := own_form (V := (w.heap.size + 1) :: V) HOwn.out (fun j hj => by
          rcases List.mem_cons.1 hj with rfl | hj
          · omega
          · have := hV j hj; omega)
        simp only [Value.slice.injEq, true_and] at eB
        obtain ⟨rfl, rfl⟩ := eB
        rw [HK.out] at hB1 hB3 ⊢
        rw [List.take_of_length_le (Nat.le_of_eq HLen.out)] at hB3
        have hD : DkAt ((w.heap.size + 1) :: V) wo (.agg #[.slice E d.sec.length b, .slice none 0 0]) ⟨rcrashL d p, []⟩ :=
          ⟨_, _, rfl, ⟨E, b, by rw [HLen.out], by rw [HLen.out]; exact hB1, hB2, hB3⟩, wrsAt_nil _ _⟩
        exact ((hD.put (by simp) _).put (by simp) _).weak (fun _ h => List.mem_cons_of_mem _ h)
end Go.Proofs.YtagpimahicgkmaaDoor
