/- Walks: mailsackref09.in, All, Read. -/
import Derived.Test.YtagpimahicgkmaaDoorMa
import Derived.Test.YtagpimahicgkmaaDoorDkRead
import Derived.Deep.Cut
namespace Go.Proofs.YtagpimahicgkmaaDoor
open Go.RowKit

def hasB (l : List Int) (n : Int) : Bool := l.contains n

set_option maxRecDepth 100000 in
set_option maxHeartbeats 400000 in
theorem in_any (V : List Nat) (l : List Int) (n : Int) (v : Value) (w : World) (h : IntsAt V w v l) :
    Calls Tryd.prog 84 #[v, .int .i64 n] w fun e w' => e = .returned (.bool (hasB l n)) ∧ w = w' := by
  obtain ⟨A, c, rfl, hl, hm, hr⟩ := h
  unfold maxLen at hm
  have HS := Lib.hid hr
  clear hr
  go_enter Tryd.func84, Tryd.ntmps84
  go_wp2
  go_loop [5] (fun i => ∃ k : Nat, k ≤ l.length ∧ i = .int .i64 k ∧ Hid ((l.take k).contains n = false)) (fun i => l.length - (intOf i).toNat)
  case atStart => exact ⟨0, Nat.zero_le _, rfl, rfl⟩
  case round =>
    obtain ⟨k, hk, rfl, HA⟩ := hrel
    by_cases hlt : k < l.length
    · obtain ⟨b, o, rfl, hb, _, hc⟩ := HS.out (by rw [ints_length]; omega)
      have g1 : w.cell? ⟨b, o + k, none⟩ = some (.int .i64 l[k]) := hc _ _ (ints_at hlt)
      clear hc
      by_cases hq : l[k] = n
      · have HY : Hid (l.contains n = true) := by show _ = _; rw [List.contains_iff_mem]; exact hq ▸ List.getElem_mem hlt
        rw [hq] at g1
        clear hq
        go_wp2
        go_ret
        exact ⟨ret_bool HY.out.symm, rfl⟩
      · have HY : Hid ((l.take (k + 1)).contains n = false) := by
          show _ = _
          rw [List.take_succ_eq_append_getElem hlt, List.contains_append, HA.out]
          simpa using fun h => hq h.symm
        have t1 := beq_f hq
        generalize l[k] = x at *
        clear hq
        go_wp2
        go_round
        case rel => exact ⟨k + 1, by omega, by go_num, HY⟩
        case measure => simp [intOf]; omega
    · have HY : Hid (l.contains n = false) := by
        show _ = _
        have := HA.out
        rwa [List.take_of_length_le (by omega)] at this
      go_wp2
      go_ret
      exact ⟨ret_bool HY.out.symm, rfl⟩

theorem Tryd.infoInt : (Tryd.prog.info? 3).map (fun i => (i.zero, i.size, i.bytes)) = some (some (.int .i64 0), 1, 8) := by kernel_rfl
theorem ints_one (l : List Int) : ∀ v ∈ ints l, v.oneCell' = true := by
  intro v hv; simp only [ints, List.mem_map] at hv; obtain ⟨s, _, rfl⟩ := hv; rfl
theorem ints_append (a b : List Int) : ints (a ++ b) = ints a ++ ints b := by simp [ints]

/-- 'append' to a row of ints that the call owns. -/
theorem wpList_app_int {w : World} {ops : Array Oper} {rest : List Oper} {o : Oper} {a : Act} {Q : Exit → Act → World → Prop} (hgd : o.guard = none) (s x : Operand)
    (ho : o.op = .call { callee := .builtin .append, args := #[s, x], argTypes := #[57, 57] })
    (base : Nat) (v : Value) (l : List Int) (hs : a.eval s = v) (hown : w.ownsRow base 3 1 v l.length (ints l))
    (V : List Nat) (A : Option Addr) (c : Nat) (m : List Int) (hx : a.eval x = .slice A m.length c) (hr : Row V w A (ints m)) (h63 : (l.length + m.length) * 8 ≤ 140737488355328) (hbase : base ≤ w.heap.size)
    (h : ∀ v' w', w'.ownsRow base 3 1 v' (l ++ m).length (ints (l ++ m)) → w.grownBy w' v.ownBlock → (v'.ownBlock = v.ownBlock ∨ v'.ownBlock = some w.heap.size) → wpList Tryd.prog ops Q rest (a.put o.dst v') w') : wpList Tryd.prog ops Q (o :: rest) a w := by
  obtain ⟨i, hi, hz, hsz, hb⟩ := info_parts Tryd.infoInt
  refine wpList_append_any w hgd s x _ ho base _ i _ 1 8 Tryd.underlying57 hi hz hsz hb rfl (by omega) v l.length (ints l) hs hown V A m.length c (ints m) hx (by simp [ints_length]) hr (ints_one m) (by unfold maxLen; omega) h63 hbase ?_
  intro v' w' h1 h2 h3
  exact h v' w' (by rw [ints_append, List.length_append]; exact h1) h2 h3


set_option maxRecDepth 100000 in
set_option maxHeartbeats 400000 in
theorem all_any (V : List Nat) (n : Nat) (w : World) (hV : Old V w) (hn : n ≤ 1000000) :
    Calls Tryd.prog 61 #[.int .i64 n] w fun e w' => ∃ A c, e = .returned (.slice A n c) ∧ IntsAt V w' (.slice A n c) (upTo n) ∧ Kept w w' := by
  go_enter Tryd.func61, Tryd.ntmps61
  go_wp2
  go_loopw [3, 4] (fun v i wr => ∃ k : Nat, k ≤ n ∧ i = .int .i64 k ∧ ∃ A c, v = .slice A k c ∧ wr.ownsRow w.heap.size 3 1 (.slice A k c) k (ints (upTo k)) ∧ Kept w wr) (fun _ i _ => n - (intOf i).toNat)
  case atStart => exact ⟨0, Nat.zero_le _, rfl, none, 0, rfl, ⟨rfl, .inl ⟨rfl, rfl⟩⟩, Kept.refl _⟩
  case round =>
    obtain ⟨k, hk, rfl, A, c, rfl, hown, hkept⟩ := hrel
    have HOwn := Lib.hid hown
    clear hown
    by_cases hlt : k < n
    · have HB : Hid (∀ bb, (Value.slice A k c).ownBlock = some bb → w.heap.size ≤ bb) := fun bb hb => (ownBlock_of HOwn.out hb).1
      have hz := hkept.size
      go_upto_region 4 with (at_builtin; go_must (
        refine wpList_app_int rfl (.tmp 10) (.tmp 12) rfl w.heap.size _ (upTo k) rfl (by rw [upTo_length]; exact HOwn.out.alloc _) [] (some ⟨wr.heap.size, 0, none⟩) 1 [(k : Int)] rfl ((Own.new wr _ (ints [(k : Int)])).row (by simp)) (by rw [upTo_length]; simp; omega) (by simp; omega) ?_
        intro v3 w3 hown3 hg3 hat3
        obtain ⟨A3, c3, rfl, hc3, hm3, hr3⟩ := own_form (V := []) hown3 (by simp)
        have hk3 : Kept w w3 := (hkept.alloc _).grown hg3 (fun bb hb => HB.out bb hb)
        rw [upTo_succ, upTo_length] at hown3
        rw [upTo_succ, upTo_length]
        have HOwn3 := Lib.hid hown3
        clear hown3 hg3 hr3 hat3))
      go_wp2
      go_roundw
      case rel => exact ⟨k + 1, by omega, by go_num, A3, c3, rfl, HOwn3.out, hk3⟩
      case measure => simp [intOf]; omega
    · obtain rfl : k = n := by omega
      go_wp2
      go_ret
      obtain ⟨B, cc, e, h1, h2, h3⟩ := own_form (V := V) HOwn.out hV
      simp only [Value.slice.injEq, true_and] at e
      obtain ⟨rfl, rfl⟩ := e
      exact ⟨A, c, rfl, ⟨A, c, by rw [upTo_length], by rw [upTo_length]; exact h1, h2, h3⟩, hkept⟩

set_option maxRecDepth 100000 in
set_option maxHeartbeats 400000 in
theorem rread_any (V : List Nat) (d : Dk) (n : Nat) (v : Value) (w : World) (h : DkAt V w v d) (hn : n < d.sec.length) :
    Calls Tryd.prog 53 #[v, .int .i64 n] w fun e w' => e = .returned (.string (readD d n)) ∧ Kept w w' := by
  obtain ⟨_, _, rfl, ⟨A, c, rfl, hl, hm, hr⟩, ⟨A', c', rfl, hl', hm', hr'⟩⟩ := h
  unfold maxLen at hm hm'
  have HC := Lib.hid hr'
  obtain ⟨b, o, rfl, hb, _, hc⟩ := hr (by rw [strs_length]; omega)
  have g0 : w.cell? ⟨b, o + n, none⟩ = some (.string d.sec[n]) := hc _ _ (strs_at hn)
  have HR : Hid (readD d n = readTo n d.sec[n] d.cache) := by show _ = _; simp [readD, List.getElem?_eq_getElem hn]
  clear hc hr hr'
  generalize d.sec[n] = sn at *
  go_enter Tryd.func53, Tryd.ntmps53
  go_wp2
  go_loop [5, 6] (fun s i => ∃ k : Nat, k ≤ d.cache.length ∧ i = .int .i64 k ∧ s = .string (readTo n sn (d.cache.take k))) (fun _ i => d.cache.length - (intOf i).toNat)
  case atStart => exact ⟨0, Nat.zero_le _, rfl, rfl⟩
  case round =>
    obtain ⟨k, hk, rfl, rfl⟩ := hrel
    by_cases hlt : k < d.cache.length
    · obtain ⟨b', o', rfl, hb', _, hc'⟩ := HC.out (by rw [wrs_length]; omega)
      have g1 : (w.alloc (Obj.cells #[Value.slice (some ⟨b, o, none⟩) d.sec.length c, Value.slice (some ⟨b', o', none⟩) d.cache.length c'] 29)).cell? ⟨b', o' + k * 2, none⟩ = some (.int .i64 d.cache[k].at_) := by
        rw [World.cell?_alloc_lt _ _ _ hb']; exact hc' _ _ (wrs_at hlt).1
      have g2 : (w.alloc (Obj.cells #[Value.slice (some ⟨b, o, none⟩) d.sec.length c, Value.slice (some ⟨b', o', none⟩) d.cache.length c'] 29)).cell? ⟨b', o' + k * 2 + 1, none⟩ = some (.string d.cache[k].data) := by
        rw [World.cell?_alloc_lt _ _ _ hb']; exact hc' _ _ (wrs_at hlt).2
      clear hc'
      have HT := Lib.hid (readTo_take (at_ := n) (s := sn) hlt)
      generalize readTo n sn (d.cache.take k) = r at *
      by_cases hq : d.cache[k].at_ = n
      · rw [if_pos hq] at HT
        rw [hq] at g1
        generalize d.cache[k].data = y at *
        clear hq
        go_wp2
        go_round
        case rel => exact ⟨k + 1, by omega, by go_num, by rw [HT.out]⟩
        case measure => simp [intOf]; omega
      · rw [if_neg hq] at HT
        have t1 := beq_f hq
        generalize d.cache[k].at_ = z at *
        clear hq
        go_wp2
        go_round
        case rel => exact ⟨k + 1, by omega, by go_num, by rw [HT.out]⟩
        case measure => simp [intOf]; omega
    · have HT : Hid (readTo n sn (d.cache.take k) = readD d n) := by show _ = _; rw [HR.out, List.take_of_length_le (by omega)]
      go_wp2
      go_ret
      exact ⟨by rw [← HT.out]; rfl, (Kept.refl w).alloc _⟩
end Go.Proofs.YtagpimahicgkmaaDoor
