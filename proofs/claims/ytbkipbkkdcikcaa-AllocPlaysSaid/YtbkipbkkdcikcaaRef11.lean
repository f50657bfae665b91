/- Walks: mailsackref11.New, Least, Turned, Free; mailsacklaw11.same. -/
import Derived.Test.YtbkipbkkdcikcaaPoolFree
import Derived.Test.YtbkipbkkdcikcaaL11Awake
namespace Go.Proofs.Ytbkipbkkdcikcaa
open Go.RowKit

/-- Which are free, as the document keeps them. -/
def fl (tk : List Bool) : List Bool := tk.map (!·)
theorem fl_length (tk : List Bool) : (fl tk).length = tk.length := by simp [fl]
theorem fl_at {tk : List Bool} {k : Nat} {b : Bool} (h : tk[k]? = some b) : (fl tk)[k]? = some (!b) := by simp [fl, h]
theorem fl_set (tk : List Bool) (k : Nat) (b : Bool) : fl (tk.set k b) = (fl tk).set k (!b) := by simp [fl, List.map_set]
theorem bools_append (a b : List Bool) : bools (a ++ b) = bools a ++ bools b := by simp [bools]
theorem bools_one (l : List Bool) : ∀ v ∈ bools l, v.oneCell' = true := by
  intro v hv; simp only [bools, List.mem_map] at hv; obtain ⟨s, _, rfl⟩ := hv; rfl

/-- 'append' to a row of bools that the call owns. -/
theorem wpList_app_bool {w : World} {ops : Array Oper} {rest : List Oper} {o : Oper} {a : Act} {Q : Exit → Act → World → Prop} (hgd : o.guard = none) (s x : Operand)
    (ho : o.op = .call { callee := .builtin .append, args := #[s, x], argTypes := #[30, 30] })
    (base : Nat) (v : Value) (l : List Bool) (hs : a.eval s = v) (hown : w.ownsRow base 4 1 v l.length (bools l))
    (V : List Nat) (A : Option Addr) (c : Nat) (m : List Bool) (hx : a.eval x = .slice A m.length c) (hr : Row V w A (bools m)) (h63 : l.length + m.length ≤ 140737488355328) (hbase : base ≤ w.heap.size)
    (h : ∀ v' w', w'.ownsRow base 4 1 v' (l ++ m).length (bools (l ++ m)) → w.grownBy w' v.ownBlock → (v'.ownBlock = v.ownBlock ∨ v'.ownBlock = some w.heap.size) → wpList Try.prog ops Q rest (a.put o.dst v') w') : wpList Try.prog ops Q (o :: rest) a w := by
  obtain ⟨i, hi, hz, hsz, hb⟩ := info_parts Try.infoBool
  refine wpList_append_any w hgd s x _ ho base _ i _ 1 1 Try.underlying30 hi hz hsz hb rfl (by omega) v l.length (bools l) hs hown V A m.length c (bools m) hx (by simp [bools_length]) hr (bools_one m) (by unfold maxLen; omega) (by omega) hbase ?_
  intro v' w' h1 h2 h3
  exact h v' w' (by rw [bools_append, List.length_append]; exact h1) h2 h3

/-- The least number that is free, or -1. -/
def leastR (tk : List Bool) : Int := match frees tk with | [] => -1 | x :: _ => (x : Int)

theorem freesTo_head {tk : List Bool} {k : Nat} (hn : freesTo tk k = []) (h : tk[k]? = some false) : leastR tk = k := by
  have hm : k ∈ frees tk := mem_frees.2 h
  have hu := frees_up tk
  unfold leastR
  cases hl : frees tk with
  | nil => rw [hl] at hm; cases hm
  | cons x l =>
    rw [hl] at hm hu
    rw [List.pairwise_cons] at hu
    rcases List.mem_cons.1 hm with e | e
    · simp [e]
    · have hx : x < k := hu.1 k e
      have : x ∈ freesTo tk k := by
        have h1 : x ∈ frees tk := by rw [hl]; simp
        simp only [freesTo, List.mem_filter, List.mem_range, beq_iff_eq]
        exact ⟨hx, mem_frees.1 h1⟩
      rw [hn] at this; cases this

set_option maxHeartbeats 400000 in
theorem rLeast_any (tk : List Bool) (A : Option Addr) (c : Nat) (w : World) (hr : Row [] w A (bools (fl tk))) (hl : tk.length ≤ 256) :
    Calls Try.prog 16 #[.slice A tk.length c] w fun e w' => e = .returned (.int .i64 (leastR tk)) ∧ w = w' := by
  have HR := Lib.hid hr
  clear hr
  go_enter Try.func16, Try.ntmps16
  go_wp2_with fail
  go_loop [3] (fun iv => ∃ k : Nat, k ≤ tk.length ∧ iv = .int .i64 k ∧ Hid (freesTo tk k = [])) (fun iv => tk.length - (intOf iv).toNat)
  case atStart => exact ⟨0, Nat.zero_le _, rfl, rfl⟩
  case round =>
    obtain ⟨k, hk, rfl, HN⟩ := hrel
    by_cases hlt : k < tk.length
    · obtain ⟨b, o, rfl, hb, _, hc⟩ := HR.out (by rw [bools_length, fl_length]; omega)
      obtain ⟨t, ht⟩ : ∃ t, tk[k]? = some t := ⟨_, List.getElem?_eq_getElem hlt⟩
      have g1 : w.cell? ⟨b, o + k, none⟩ = some (.bool (!t)) := hc _ _ (bools_at (fl_at ht))
      clear hc
      cases t with
      | false =>
        have HE := Lib.hid (freesTo_head HN.out ht)
        clear ht
        rw [Bool.not_false] at g1
        go_wp2
        go_ret
        exact ⟨ret_int HE.out.symm, rfl⟩
      | true =>
        have HE : Hid (freesTo tk (k + 1) = []) := by show _ = _; rw [← freesTo_taken ht]; exact HN.out
        clear ht
        rw [Bool.not_true] at g1
        go_wp2
        go_round
        case rel => exact ⟨k + 1, by omega, by go_num, HE⟩
        case measure => simp [intOf]; omega
    · obtain rfl : k = tk.length := by omega
      have HE : Hid (leastR tk = -1) := by show _ = _; have := HN.out; rw [freesTo_all] at this; simp [leastR, this]
      go_wp2
      go_ret
      exact ⟨ret_int HE.out.symm, rfl⟩

/-- A list with one place turned, if it is there. -/
def turnedL (l : List Bool) (n : Int) (b : Bool) : List Bool := if 0 ≤ n then l.set n.toNat b else l
theorem turnedL_length (l : List Bool) (n : Int) (b : Bool) : (turnedL l n b).length = l.length := by unfold turnedL; split <;> simp
theorem turnedL_at {l : List Bool} {n : Int} {b t : Bool} {k : Nat} (h : l[k]? = some t) : (turnedL l n b)[k]? = some (if (k : Int) = n then b else t) := by
  unfold turnedL
  have hk := (List.getElem?_eq_some_iff.1 h).1
  by_cases h0 : 0 ≤ n
  · rw [if_pos h0, List.getElem?_set]
    by_cases e : n.toNat = k
    · rw [if_pos e, if_pos (by omega), if_pos (by omega)]
    · rw [if_neg e, if_neg (by omega), h]
  · rw [if_neg h0, if_neg (by omega), h]
theorem take_snoc' {l : List Bool} {k : Nat} {t : Bool} (h : l[k]? = some t) : l.take k ++ [t] = l.take (k + 1) := by
  obtain ⟨hk, e⟩ := List.getElem?_eq_some_iff.1 h
  rw [List.take_succ_eq_append_getElem hk, e]

def TurnedPost (w : World) (l : List Bool) (n : Int) (b : Bool) (e : Ending) (w' : World) : Prop :=
  ∃ A c, e = .returned (.slice A l.length c) ∧ Row [] w' A (bools (turnedL l n b)) ∧ Kept w w' ∧ NewRow w A l.length ∧ l.length ≤ c ∧ c ≤ maxLen

set_option maxHeartbeats 400000 in
theorem rTurned_any (l : List Bool) (n : Int) (t : Bool) (A : Option Addr) (c : Nat) (w : World) (hr : Row [] w A (bools l)) (hl : l.length ≤ 256) :
    Calls Try.prog 15 #[.slice A l.length c, .int .i64 n, .bool t] w (TurnedPost w l n t) := by
  have HR := Lib.hid hr
  clear hr
  have HTL := Lib.hid (turnedL_length l n t)
  have HAT := Lib.hid (fun k s (h : l[k]? = some s) => turnedL_at (n := n) (b := t) h)
  generalize hmm : turnedL l n t = m at *
  have HMM := Lib.hid hmm
  clear hmm
  go_enter Try.func15, Try.ntmps15
  go_wp2_with fail
  go_loopw [7, 8] (fun v iv wr => ∃ (k : Nat) (B : Option Addr) (bc : Nat), k ≤ l.length ∧ iv = .int .i64 k ∧ v = .slice B k bc ∧ wr.ownsRow w.heap.size 4 1 (.slice B k bc) k (bools (m.take k)) ∧ Kept w wr) (fun _ iv _ => l.length - (intOf iv).toNat)
  case atStart => exact ⟨0, none, 0, Nat.zero_le _, rfl, rfl, World.ownsRow_nil _ _ _ _, Kept.refl _⟩
  case round =>
    obtain ⟨k, B, bc, hk, rfl, rfl, hown, hkept⟩ := hrel
    have HOwn := Lib.hid hown
    clear hown
    by_cases hlt : k < l.length
    · obtain ⟨b, o, rfl, hb, _, hc⟩ := HR.out.kept hkept (by rw [bools_length]; omega)
      obtain ⟨s, hs⟩ : ∃ s, l[k]? = some s := ⟨_, List.getElem?_eq_getElem hlt⟩
      have g1 : wr.cell? ⟨b, o + k, none⟩ = some (.bool s) := hc _ _ (bools_at hs)
      have HY := Lib.hid (take_snoc' (HAT.out k s hs))
      have HB : Hid (∀ bb, (Value.slice B k bc).ownBlock = some bb → w.heap.size ≤ bb) := fun bb hb => (HOwn.out.lt bb hb).1
      have hz := hkept.size
      have HL : Hid ((m.take k).length = k) := by show _ = _; rw [List.length_take, HTL.out]; omega
      have i0 : (0 : Int) ≤ (k : Int) := by omega
      have i1 : (k : Int) < (l.length : Int) := by omega
      clear hc hs
      by_cases hq : (k : Int) = n
      · rw [if_pos hq] at HY
        subst hq
        go_wp2_with (at_builtin; go_must (
          refine wpList_app_bool rfl (.tmp 18) (.tmp 20) rfl w.heap.size _ (m.take k) rfl (by rw [HL.out]; exact HOwn.out.alloc _) [] (some ⟨wr.heap.size, 0, none⟩) 1 [t] rfl ((Own.new wr _ (bools [t])).row (by simp)) (by rw [HL.out]; simp; omega) (by simp; omega) ?_
          intro v3 w3 hown3 hg3 hat3
          obtain ⟨A3, c3, rfl, hc3, hm3, hr3⟩ := own_form (V := []) hown3 (by simp)
          have hk3 : Kept w w3 := (hkept.alloc _).grown hg3 (fun bb hb => HB.out bb hb)
          have hlen : (m.take k ++ [t]).length = k + 1 := by rw [List.length_append, HL.out]; rfl
          rw [hlen, HY.out] at hown3
          rw [hlen]
          have HOwn3 := Lib.hid hown3
          clear hown3 hg3 hr3 hat3 hlen hc3 g1))
        go_wp2
        go_roundw
        case rel => exact ⟨k + 1, A3, c3, by omega, by go_num, rfl, HOwn3.out, hk3⟩
        case measure => simp [intOf]; omega
      · rw [if_neg hq] at HY
        have hq' := beq_f hq
        clear hq
        go_wp2_with (at_builtin; go_must (
          refine wpList_app_bool rfl (.tmp 22) (.tmp 27) rfl w.heap.size _ (m.take k) rfl (by rw [HL.out]; exact HOwn.out.alloc _) [] (some ⟨wr.heap.size, 0, none⟩) 1 [s] rfl ((Own.new wr _ (bools [s])).row (by simp)) (by rw [HL.out]; simp; omega) (by simp; omega) ?_
          intro v3 w3 hown3 hg3 hat3
          obtain ⟨A3, c3, rfl, hc3, hm3, hr3⟩ := own_form (V := []) hown3 (by simp)
          have hk3 : Kept w w3 := (hkept.alloc _).grown hg3 (fun bb hb => HB.out bb hb)
          have hlen : (m.take k ++ [s]).length = k + 1 := by rw [List.length_append, HL.out]; rfl
          rw [hlen, HY.out] at hown3
          rw [hlen]
          have HOwn3 := Lib.hid hown3
          clear hown3 hg3 hr3 hat3 hlen hc3 g1))
        go_wp2
        go_roundw
        case rel => exact ⟨k + 1, A3, c3, by omega, by go_num, rfl, HOwn3.out, hk3⟩
        case measure => simp [intOf]; omega
    · obtain rfl : k = l.length := by omega
      go_wp2
      go_ret
      have h5 := HOwn.out
      rw [← HTL.out, List.take_of_length_le (Nat.le_refl _), HTL.out] at h5
      obtain ⟨A5, c5, e5, h51, h52, h53⟩ := own_form (V := []) h5 (by simp)
      cases e5
      refine ⟨B, bc, rfl, by rw [HMM.out]; exact h53, hkept, fun hp => ?_, h51, h52⟩
      rcases h5.2 with ⟨_, h0⟩ | ⟨r, c', _, e, hb, _⟩
      · omega
      · cases e; exact ⟨r, 0, rfl, hb⟩

set_option maxHeartbeats 400000 in
theorem rFree_any (tk : List Bool) (A : Option Addr) (c : Nat) (w : World) (hr : Row [] w A (bools (fl tk))) (hl : tk.length ≤ 256) :
    Calls Try.prog 20 #[.slice A tk.length c] w fun e w' => ∃ B bc, e = .returned (.slice B (zs (frees tk)).length bc) ∧ IntsAt [] w' (.slice B (zs (frees tk)).length bc) (zs (frees tk)) ∧ Kept w w' := by
  have HR := Lib.hid hr
  clear hr
  go_enter Try.func20, Try.ntmps20
  go_wp2_with fail
  go_loopw [3, 4] (fun v iv wr => ∃ (k : Nat) (B : Option Addr) (bc : Nat), k ≤ tk.length ∧ iv = .int .i64 k ∧ v = .slice B (freesTo tk k).length bc ∧ wr.ownsRow w.heap.size 3 1 (.slice B (freesTo tk k).length bc) (freesTo tk k).length (nats (freesTo tk k)) ∧ Kept w wr) (fun _ iv _ => tk.length - (intOf iv).toNat)
  case atStart => exact ⟨0, none, 0, Nat.zero_le _, rfl, rfl, World.ownsRow_nil _ _ _ _, Kept.refl _⟩
  case round =>
    obtain ⟨k, B, bc, hk, rfl, rfl, hown, hkept⟩ := hrel
    have HOwn := Lib.hid hown
    clear hown
    by_cases hlt : k < tk.length
    · obtain ⟨b, o, rfl, hb, _, hc⟩ := HR.out.kept hkept (by rw [bools_length, fl_length]; omega)
      obtain ⟨t, ht⟩ : ∃ t, tk[k]? = some t := ⟨_, List.getElem?_eq_getElem hlt⟩
      have g1 : wr.cell? ⟨b, o + k, none⟩ = some (.bool (!t)) := hc _ _ (bools_at (fl_at ht))
      have hz := hkept.size
      have hfl := freesTo_le tk k
      have i0 : (0 : Int) ≤ (k : Int) := by omega
      have i1 : (k : Int) < (tk.length : Int) := by omega
      clear hc
      cases t with
      | true =>
        have HY := Lib.hid (freesTo_taken ht)
        clear ht
        rw [Bool.not_true] at g1
        go_wp2
        go_roundw
        case rel => exact ⟨k + 1, B, bc, by omega, by go_num, by rw [← HY.out], by rw [← HY.out]; exact HOwn.out, hkept⟩
        case measure => simp [intOf]; omega
      | false =>
        have HY := Lib.hid (freesTo_free ht)
        have HB : Hid (∀ bb, (Value.slice B (freesTo tk k).length bc).ownBlock = some bb → w.heap.size ≤ bb) := fun bb hb => (HOwn.out.lt bb hb).1
        clear ht
        rw [Bool.not_false] at g1
        go_wp2_with (at_builtin; go_must (
          refine wpList_app_num rfl (.tmp 15) (.tmp 17) _ Try.underlying22 rfl w.heap.size _ (freesTo tk k) rfl (HOwn.out.alloc _) [] (some ⟨wr.heap.size, 0, none⟩) 1 [k] rfl ((Own.new wr _ (nats [k])).row (by simp)) (by simp; omega) (by simp; omega) ?_
          intro v3 w3 hown3 hg3 hat3
          obtain ⟨B3, c3, rfl⟩ := hp_formv hown3
          have hk3 : Kept w w3 := (hkept.alloc _).grown hg3 (fun bb hb => HB.out bb hb)
          rw [HY.out] at hown3
          rw [HY.out]
          have HOwn3 := Lib.hid hown3
          clear hown3 hg3 hat3 g1))
        go_wp2
        go_roundw
        case rel => exact ⟨k + 1, B3, c3, by omega, by go_num, rfl, HOwn3.out, hk3⟩
        case measure => simp [intOf]; omega
    · obtain rfl : k = tk.length := by omega
      go_wp2
      go_ret
      have h5 := HOwn.out
      rw [freesTo_all] at h5
      obtain ⟨A5, c5, e5, h51, h52, h53⟩ := own_form (V := []) h5 (by simp)
      cases e5
      exact ⟨B, bc, by rw [zs_length, freesTo_all]; rfl, ⟨B, bc, rfl, by rw [zs_length]; exact h51, h52, by rw [ints_zs]; exact h53⟩, hkept⟩

set_option maxHeartbeats 1000000 in
theorem same_any (U : Nat → Prop) (g : Nat) (tk : List Bool) (A : Option Addr) (c : Nat) (w : World) (h : PoolV w U g tk) (hr : Row [] w A (bools (fl tk))) (hl : tk.length ≤ 256) :
    Calls Try.prog 13 #[.pointer (some ⟨g, 0, none⟩), .slice A tk.length c] w fun e w' => e = .returned (.bool true) ∧ Kept w w' := by
  have H := Lib.hid h
  have HR := Lib.hid hr
  have hLl := frees_le tk
  have HZ := Lib.hid (zs_length (frees tk))
  clear h hr
  go_enter Try.func13, Try.ntmps13
  go_wp2_with fail
  refine (pFree_v [] _ g _ _ H.out (fun _ h => by cases h)).mono ?_
  rintro e w1 ⟨B, bc, rfl, hi1, hp1, hk1, _⟩
  obtain ⟨_, _, e, hi2, hi3, hi4⟩ := hi1
  cases e
  rw [ints_zs] at hi4
  rw [HZ.out] at hi2
  rw [HZ.out]
  have HP1 := Lib.hid hp1
  have HB := Lib.hid hi4
  unfold maxLen at hi3
  clear hp1 hi4
  go_wp2_with fail
  refine (rFree_any tk _ _ _ (HR.out.kept hk1) hl).mono ?_
  rintro e w2 ⟨D, dc, rfl, hd1, hk2⟩
  obtain ⟨_, _, e, hd2, hd3, hd4⟩ := hd1
  cases e
  rw [ints_zs] at hd4
  rw [HZ.out] at hd2
  rw [HZ.out]
  have HD := Lib.hid hd4
  have HB2 := Lib.hid (HB.out.kept hk2)
  have HP2 := Lib.hid (HP1.out.kept hk2)
  unfold maxLen at hd3
  have hkw := hk1.trans hk2
  clear hd4 hk1 hk2 HB HP1
  go_wp2_with fail
  refine (pLen_v _ g _ _ HP2.out).mono ?_
  rintro e w3 ⟨rfl, rfl⟩
  generalize hm : (frees tk).length = m at *
  have HM := Lib.hid hm
  clear hm
  go_wp2_with fail
  go_loopw [26] (fun iv wr => ∃ (k q : Nat), k ≤ m ∧ iv = .int .i64 k ∧ wr = w2.drewN q) (fun iv _ => m - (intOf iv).toNat)
  case atStart => exact ⟨0, 0, Nat.zero_le _, rfl, rfl⟩
  case round =>
    obtain ⟨k, q, hk, rfl, rfl⟩ := hrel
    by_cases hlt : k < m
    · have hk' : k < (frees tk).length := by rw [HM.out]; exact hlt
      obtain ⟨b, o, rfl, hb, _, hcb⟩ := HB2.out (by rw [nats_length]; omega)
      obtain ⟨b1, o1, rfl, hb1, _, hcd⟩ := HD.out (by rw [nats_length]; omega)
      have g1 : w2.cell? ⟨b, o + k, none⟩ = some (.int .i64 (at0 (frees tk) k : Nat)) := hcb k _ (nats_at hk')
      have g2 : w2.cell? ⟨b1, o1 + k, none⟩ = some (.int .i64 (at0 (frees tk) k : Nat)) := hcd k _ (nats_at hk')
      clear hcb hcd
      generalize at0 (frees tk) k = y at *
      have j0 : (0 : Int) ≤ (k : Int) := by omega
      have j1 : (k : Int) < (m : Int) := by omega
      go_wp2_with fail
      go_quiet (fail)
      go_wp2
      go_roundw
      case rel => exact ⟨k + 1, _, by omega, by go_num, rfl⟩
      case measure => simp [intOf]; omega
    · go_wp2
      go_ret
      exact ⟨rfl, hkw.drewN q⟩

/-- Which of n numbers are free, k of them reckoned. -/
theorem rNew_no (n : Int) (l : List Int) (v : Value) (w : World) (h : IntsAt [] w v l) (hn : n < 0 ∨ 256 < n) :
    Calls Try.prog 12 #[.int .i64 n, v] w fun e w' => e = .returned (.tuple #[.slice none 0 0, .bool false]) ∧ w = w' := by
  obtain ⟨A, c, rfl, hl, hm, hr⟩ := h
  clear hr
  rcases hn with hn | hn
  · go_enter Try.func12, Try.ntmps12
    go_wp2
    go_ret2
    exact ⟨rfl, rfl⟩
  · have hn0 : ¬ n < 0 := by omega
    go_enter Try.func12, Try.ntmps12
    go_wp2
    go_ret2
    exact ⟨rfl, rfl⟩

def RNewPost (w : World) (n : Nat) (l : List Int) (e : Ending) (w' : World) : Prop :=
  ∃ b, e = .returned (.tuple #[.slice (some ⟨b, 0, none⟩) n n, .bool true]) ∧ w.heap.size ≤ b ∧ Own w' b 4 (bools (fl (takenOf n l))) ∧ Kept w w'

def hasN (l : List Int) (x : Int) : Bool := l.contains x
theorem hasN_snoc {l : List Int} {m : Nat} (h : m < l.length) (x : Int) : hasN (l.take (m + 1)) x = (hasN (l.take m) x || (l[m] == x)) := by
  unfold hasN
  rw [List.take_succ_eq_append_getElem h, List.contains_append]
  congr 1
  rw [Bool.eq_iff_iff]
  simp only [List.contains_cons, List.contains_nil, Bool.or_false, beq_iff_eq]
  exact eq_comm
/-- The first i of n numbers reckoned. -/
def rowTo (n : Nat) (l : List Int) (i : Nat) : List Bool := (List.range n).map fun (x : Nat) => decide (x < i) && !hasN l (x : Int)
theorem rowTo_length (n : Nat) (l : List Int) (i : Nat) : (rowTo n l i).length = n := by simp [rowTo]
theorem rowTo_zero (n : Nat) (l : List Int) : bools (rowTo n l 0) = List.replicate n (.bool false) := by
  apply List.ext_getElem
  · simp [rowTo, bools]
  · intro i h1 h2; simp [rowTo, bools]
theorem rowTo_succ {n : Nat} {l : List Int} {i : Nat} : (rowTo n l i).set i (!hasN l (i : Int)) = rowTo n l (i + 1) := by
  apply List.ext_getElem
  · simp [rowTo]
  · intro k h1 h2
    rw [List.getElem_set]
    by_cases e : i = k
    · subst e; simp [rowTo]
    · rw [if_neg e]
      simp only [rowTo, List.getElem_map, List.getElem_range]
      congr 1
      rw [Bool.eq_iff_iff]; simp; omega
theorem rowTo_all (n : Nat) (l : List Int) : rowTo n l n = fl (takenOf n l) := by
  apply List.ext_getElem
  · simp [rowTo, fl, takenOf]
  · intro k h1 h2
    have hk : k < n := by simpa [rowTo] using h1
    simp only [rowTo, fl, takenOf, List.getElem_map, List.getElem_range, hk, decide_true, Bool.true_and]
    rfl

set_option maxHeartbeats 1000000 in
theorem rNew_yes (n : Nat) (l : List Int) (v : Value) (w : World) (h : IntsAt [] w v l) (hn : n ≤ 256) :
    Calls Try.prog 12 #[.int .i64 n, v] w (RNewPost w n l) := by
  obtain ⟨A, c, rfl, hl, hm, hr⟩ := h
  unfold maxLen at hm
  have HR := Lib.hid hr
  clear hr
  have hmk := run_mkBools n (by omega)
  go_enter Try.func12, Try.ntmps12
  go_wp2_with fail
  go_loopw [7] (fun iv wr => ∃ i : Nat, i ≤ n ∧ iv = .int .i64 i ∧ Own wr w.heap.size 4 (bools (rowTo n l i)) ∧ Kept w wr) (fun iv _ => n - (intOf iv).toNat)
  case atStart => exact ⟨0, Nat.zero_le _, rfl, by rw [rowTo_zero]; simpa using Own.new w 4 (List.replicate n (.bool false)), (Kept.refl w).alloc _⟩
  case round =>
    obtain ⟨i, hi, rfl, ho, hk⟩ := hrel
    have HO := Lib.hid ho
    by_cases hlt : i < n
    · obtain ⟨u, g3⟩ : ∃ u, wr.cell? ⟨w.heap.size, i, none⟩ = some u := ⟨_, ho.cell (i := i) (by rw [bools_length, rowTo_length]; exact hlt)⟩
      have g4 := ho.frozen i
      have i0 : (0 : Int) ≤ (i : Int) := by omega
      have i1 : (i : Int) < (n : Int) := by omega
      clear ho
      go_wp2_with fail
      go_loopw [28] (fun jv wx => ∃ j : Nat, j ≤ l.length ∧ jv = .int .i64 j ∧ Own wx w.heap.size 4 (bools ((rowTo n l i).set i (!hasN (l.take j) (i : Int)))) ∧ Kept w wx) (fun jv _ => l.length - (intOf jv).toNat)
      case atStart => exact ⟨0, Nat.zero_le _, rfl, by rw [bools_set]; exact HO.out.set_ _ _, hk.setCell (Nat.le_refl _) _⟩
      case round =>
        obtain ⟨j, hj, rfl, ho2, hk2⟩ := hrel
        have HO2 := Lib.hid ho2
        by_cases hjl : j < l.length
        · obtain ⟨b, o, rfl, hb, _, hc⟩ := HR.out.kept hk2 (by rw [ints_length]; omega)
          have g1 : wr.cell? ⟨b, o + j, none⟩ = some (.int .i64 l[j]) := hc _ _ (ints_at hjl)
          obtain ⟨u2, g5⟩ : ∃ u, wr.cell? ⟨w.heap.size, i, none⟩ = some u := ⟨_, ho2.cell (i := i) (by rw [bools_length, List.length_set, rowTo_length]; exact hlt)⟩
          have g6 := ho2.frozen i
          have HS := Lib.hid (hasN_snoc hjl (i : Int))
          clear hc ho2
          by_cases hq : l[j] = (i : Int)
          · rw [hq] at g1 HS
            clear hq
            go_wp2
            go_roundw
            case rel =>
              refine ⟨j + 1, by omega, by go_num, ?_, hk2.setCell (Nat.le_refl _) _⟩
              have := HO2.out.set_ i (.bool false)
              rw [← bools_set, List.set_set] at this
              rw [HS.out]
              simpa using this
            case measure => simp [intOf]; omega
          · have e1 := beq_f hq
            rw [e1, Bool.or_false] at HS
            clear hq
            generalize l[j] = y at *
            go_wp2
            go_roundw
            case rel => exact ⟨j + 1, by omega, by go_num, by rw [HS.out]; exact HO2.out, hk2⟩
            case measure => simp [intOf]; omega
        · obtain rfl : j = l.length := by omega
          rw [List.take_of_length_le (Nat.le_refl _), rowTo_succ] at HO2
          clear ho2
          go_wp2
          go_roundw
          case rel => exact ⟨i + 1, by omega, by go_num, HO2.out, hk2⟩
          case measure => simp [intOf]; omega
    · obtain rfl : i = n := by omega
      rw [rowTo_all] at HO
      clear ho
      go_wp2
      go_ret2
      exact ⟨w.heap.size, rfl, Nat.le_refl _, HO.out, hk⟩
end Go.Proofs.Ytbkipbkkdcikcaa
