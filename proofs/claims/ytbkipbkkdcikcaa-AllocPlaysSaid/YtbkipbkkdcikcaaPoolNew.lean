/- Walk: alloc.New. -/
import Derived.Test.YtbkipbkkdcikcaaPoolGive
import Derived.Laws.MakeOwn
import Derived.Deep.Onto
namespace Go.Proofs.Ytbkipbkkdcikcaa
open Go.RowKit

def ints (l : List Int) : List Value := l.map (Value.int .i64)
theorem ints_length (l : List Int) : (ints l).length = l.length := by simp [ints]
theorem ints_at {l : List Int} {k : Nat} (h : k < l.length) : (ints l)[k]? = some (.int .i64 l[k]) := by simp [ints, h]
def IntsAt (V : List Nat) (w : World) (v : Value) (l : List Int) : Prop :=
  ∃ A c, v = .slice A l.length c ∧ l.length ≤ c ∧ c ≤ maxLen ∧ Row V w A (ints l)
theorem IntsAt.go {V U : List Nat} {w w' : World} {v : Value} {l : List Int} (h : IntsAt V w v l) (k : Kept w w') (hU : Ext U w V) : IntsAt U w' v l := by
  obtain ⟨A, c, e, h1, h2, h3⟩ := h; exact ⟨A, c, e, h1, h2, h3.go k hU⟩

/-- Which of n numbers are taken. -/
def takenOf (n : Nat) (l : List Int) : List Bool := (List.range n).map fun (i : Nat) => l.contains (i : Int)
theorem takenOf_length (n : Nat) (l : List Int) : (takenOf n l).length = n := by simp [takenOf]
theorem takenOf_nil (n : Nat) : bools (takenOf n []) = List.replicate n (.bool false) := by
  apply List.ext_getElem
  · simp [takenOf, bools]
  · intro i h1 h2; simp [takenOf, bools]
theorem takenOf_in {n : Nat} {l : List Int} {j k : Nat} (h : j < l.length) (hk : l[j] = (k : Int)) : takenOf n (l.take (j + 1)) = (takenOf n (l.take j)).set k true := by
  apply List.ext_getElem
  · simp [takenOf]
  · intro i h1 h2
    rw [List.getElem_set]
    simp only [takenOf, List.getElem_map, List.getElem_range, List.take_succ_eq_append_getElem h, List.contains_append, hk]
    by_cases e : k = i
    · subst e; simp
    · rw [if_neg e]
      have : ([(k : Int)].contains (i : Int)) = false := by simp; omega
      rw [this, Bool.or_false]
theorem takenOf_out {n : Nat} {l : List Int} {j : Nat} (h : j < l.length) (hk : l[j] < 0 ∨ (n : Int) ≤ l[j]) : takenOf n (l.take (j + 1)) = takenOf n (l.take j) := by
  apply List.ext_getElem
  · simp [takenOf]
  · intro i h1 h2
    have hi : i < n := by simpa [takenOf] using h1
    simp only [takenOf, List.getElem_map, List.getElem_range, List.take_succ_eq_append_getElem h, List.contains_append]
    have : ([l[j]].contains (i : Int)) = false := by simp; omega
    rw [this, Bool.or_false]
def freesTo (tk : List Bool) (k : Nat) : List Nat := (List.range k).filter fun i => tk[i]? == some false
theorem freesTo_free {tk : List Bool} {k : Nat} (h : tk[k]? = some false) : freesTo tk k ++ [k] = freesTo tk (k + 1) := by simp [freesTo, List.range_succ, h]
theorem freesTo_taken {tk : List Bool} {k : Nat} (h : tk[k]? = some true) : freesTo tk k = freesTo tk (k + 1) := by simp [freesTo, List.range_succ, h]
theorem freesTo_all (tk : List Bool) : freesTo tk tk.length = frees tk := rfl
theorem freesTo_le (tk : List Bool) (k : Nat) : (freesTo tk k).length ≤ k := by
  have := List.length_filter_le (fun i => tk[i]? == some false) (List.range k)
  simpa [freesTo] using this

theorem Try.underBool : Try.prog.underlying 4 = some .bool := by kernel_rfl

/-- What New makes: a pool, or none. -/
def newOk (n : Int) : Bool := decide (0 ≤ n) && decide (n ≤ 256)

set_option maxHeartbeats 1000000 in
theorem aNew_no (n : Int) (l : List Int) (v : Value) (w : World) (h : IntsAt [] w v l) (hn : n < 0 ∨ 256 < n) :
    Calls Try.prog 8 #[.int .i64 n, v] w fun e w' => e = .returned (.pointer none) ∧ w = w' := by
  obtain ⟨A, c, rfl, hl, hm, hr⟩ := h
  clear hr
  rcases hn with hn | hn
  · go_enter Try.func8, Try.ntmps8
    go_wp2
    go_ret
    exact ⟨rfl, rfl⟩
  · have hn0 : ¬ n < 0 := by omega
    go_enter Try.func8, Try.ntmps8
    go_wp2
    go_ret
    exact ⟨rfl, rfl⟩
theorem Try.infoBool : (Try.prog.info? 4).map (fun i => (i.zero, i.size, i.bytes)) = some (some (.bool false), 1, 1) := by kernel_rfl
theorem run_mkBools (n : Nat) (hn : n ≤ 1000000) (W : World) : (Instr.makeSlice 30 (.int .i64 (n : Int)) (.int .i64 (n : Int))).run Try.prog W =
    .ok (.slice (some ⟨W.heap.size, 0, none⟩) n n) (W.alloc (.cells (Array.replicate n (Value.bool false)) 4)) := by
  obtain ⟨i, hi, hz, hs, hb⟩ := info_parts Try.infoBool
  have := run_make (P := Try.prog) W 30 4 i _ Try.underlying30 hi hz .i64 .i64 n n (by omega) (by omega) (by rw [hb]; omega) (by omega)
  rw [this, hs]
  simp [Value.cells, madeCells_one]

set_option maxHeartbeats 1000000 in
theorem hinit_zero (g c : Nat) (A : Option Addr) (w : World) (h : w.cell? ⟨g, 1, none⟩ = some (.slice A 0 c)) :
    Calls Try.prog 18 #[.iface 43 (.pointer (some ⟨g, 1, none⟩))] w fun e w' => e = .returned (.tuple #[]) ∧ w = w' := by
  have hm := fun W fuel => meth_val (g := g) (v := .slice A 0 c) Try.metLen W fuel
  go_enter Try.func18, Try.ntmps18
  go_wp2_with fail
  refine (nLen_any _ _ _ _ (by unfold maxLen; omega)).mono ?_
  rintro e w1 ⟨rfl, rfl⟩
  go_wp2_with fail
  go_loop [3] (fun iv => iv = .int .i64 (-1)) (fun _ => 0)
  case atStart => rfl
  case round =>
    subst hrel
    go_wp2
    go_end0
    exact ⟨rfl, rfl⟩

def NewPost (w : World) (n : Nat) (l : List Int) (e : Ending) (w' : World) : Prop :=
  ∃ g, e = .returned (.pointer (some ⟨g, 0, none⟩)) ∧ PoolAt w' w.heap.size g (takenOf n l) ∧ Kept w w'

set_option maxHeartbeats 1000000 in
theorem aNew_yes (n : Nat) (l : List Int) (v : Value) (w : World) (h : IntsAt [] w v l) (hn : n ≤ 256) :
    Calls Try.prog 8 #[.int .i64 n, v] w (NewPost w n l) := by
  obtain ⟨A, c, rfl, hl, hm, hr⟩ := h
  unfold maxLen at hm
  have HR := Lib.hid hr
  clear hr
  have hmk := run_mkBools n (by omega)
  go_enter Try.func8, Try.ntmps8
  go_wp2_with fail
  go_loopw [22] (fun i wr => ∃ j : Nat, j ≤ l.length ∧ i = .int .i64 j ∧ Own wr w.heap.size 4 (bools (takenOf n (l.take j))) ∧ Own wr (w.heap.size + 1) 41 [.slice (some ⟨w.heap.size, 0, none⟩) n n, .slice none 0 0] ∧ Kept w wr) (fun i _ => l.length - (intOf i).toNat)
  case atStart => exact ⟨0, Nat.zero_le _, rfl, by rw [List.take_zero, takenOf_nil]; simpa using (Own.new w 4 (List.replicate n (.bool false))).alloc _, Own.new1 w _ _ [_, _], ((Kept.refl w).alloc _).alloc _⟩
  case round =>
    obtain ⟨j, hj, rfl, ho1, ho2, hk⟩ := hrel
    have HO1 := Lib.hid ho1
    have HO2 := Lib.hid ho2
    obtain ⟨q1, q2, _, _⟩ := ho2.two
    by_cases hlt : j < l.length
    · obtain ⟨b, o, rfl, hb, _, hc⟩ := HR.out.kept hk (by rw [ints_length]; omega)
      have g1 : wr.cell? ⟨b, o + j, none⟩ = some (.int .i64 l[j]) := hc _ _ (ints_at hlt)
      clear hc
      by_cases h0 : 0 ≤ l[j]
      · obtain ⟨m, hm⟩ := Int.eq_ofNat_of_zero_le h0
        by_cases h1 : m < n
        · have HY := Lib.hid (takenOf_in (n := n) hlt hm)
          rw [hm] at g1
          obtain ⟨u, g3⟩ : ∃ u, wr.cell? ⟨w.heap.size, m, none⟩ = some u := ⟨_, ho1.cell (i := m) (by rw [bools_length, takenOf_length]; exact h1)⟩
          have g4 := ho1.frozen m
          have i0 : (0 : Int) ≤ (m : Int) := by omega
          have i1 : (m : Int) < (n : Int) := by omega
          clear ho1 ho2 hm h0
          go_wp2
          go_roundw
          case rel => exact ⟨j + 1, by omega, by go_num, by rw [HY.out, bools_set]; exact HO1.out.set_ _ _, HO2.out.far (by simp) _, hk.setCell (Nat.le_refl _) _⟩
          case measure => simp [intOf]; omega
        · have HY := Lib.hid (takenOf_out (n := n) hlt (.inr (by omega)))
          rw [hm] at g1
          have i0 : (0 : Int) ≤ (m : Int) := by omega
          have i1 : (n : Int) ≤ (m : Int) := by omega
          clear ho1 ho2 hm h0
          go_wp2
          go_roundw
          case rel => exact ⟨j + 1, by omega, by go_num, by rw [HY.out]; exact HO1.out, HO2.out, hk⟩
          case measure => simp [intOf]; omega
      · have HY := Lib.hid (takenOf_out (n := n) hlt (.inl (by omega)))
        have h0' : l[j] < 0 := by omega
        generalize l[j] = x at *
        clear ho1 ho2 h0
        go_wp2
        go_roundw
        case rel => exact ⟨j + 1, by omega, by go_num, by rw [HY.out]; exact HO1.out, HO2.out, hk⟩
        case measure => simp [intOf]; omega
    · obtain rfl : j = l.length := by omega
      rw [List.take_of_length_le (Nat.le_refl _)] at HO1
      have HTL := Lib.hid (takenOf_length n l)
      generalize htk : takenOf n l = tk at *
      have HTK := Lib.hid htk
      clear htk
      clear ho1 ho2
      go_wp2_with fail
      go_loopw [45] (fun i wr => ∃ (k : Nat) (B : Option Addr) (bc : Nat), k ≤ n ∧ i = .int .i64 k ∧ Own wr w.heap.size 4 (bools tk) ∧ Own wr (w.heap.size + 1) 41 [.slice (some ⟨w.heap.size, 0, none⟩) n n, .slice B (freesTo tk k).length bc] ∧ wr.ownsRow (w.heap.size + 1 + 1) 3 1 (.slice B (freesTo tk k).length bc) (freesTo tk k).length (nats (freesTo tk k)) ∧ Kept w wr) (fun i _ => n - (intOf i).toNat)
      case atStart => exact ⟨0, none, 0, Nat.zero_le _, rfl, HO1.out, HO2.out, World.ownsRow_nil _ _ _ _, hk⟩
      case round =>
        obtain ⟨k, B, bc, hkn, rfl, ho1, ho2, hrow, hk2⟩ := hrel
        have HO1 := Lib.hid ho1
        have HO2 := Lib.hid ho2
        have HRow := Lib.hid hrow
        obtain ⟨q1, q2, q3, q4⟩ := ho2.two
        by_cases hlt : k < n
        · obtain ⟨t, ht⟩ : ∃ t, tk[k]? = some t := ⟨_, List.getElem?_eq_getElem (by rw [HTL.out]; exact hlt)⟩
          have g1 : wr.cell? ⟨w.heap.size, k, none⟩ = some (.bool t) := by rw [ho1.cell?, bools_at ht]
          have i0 : (0 : Int) ≤ (k : Int) := by omega
          have i1 : (k : Int) < (n : Int) := by omega
          have hz := ho2.lt
          have hfl := freesTo_le tk k
          clear ho1 ho2 hrow
          cases t with
          | true =>
            have HY := Lib.hid (freesTo_taken ht)
            clear ht
            go_wp2
            go_roundw
            case rel => exact ⟨k + 1, B, bc, by omega, by go_num, HO1.out, by rw [← HY.out]; exact HO2.out, by rw [← HY.out]; exact HRow.out, hk2⟩
            case measure => simp [intOf]; omega
          | false =>
            have HY := Lib.hid (freesTo_free ht)
            have HB : Hid (∀ bb, (Value.slice B (freesTo tk k).length bc).ownBlock = some bb → w.heap.size + 1 + 1 ≤ bb) := fun bb hb => (HRow.out.lt bb hb).1
            clear ht
            go_wp2_with (at_builtin; go_must (
              refine wpList_app_num rfl (.tmp 56) (.tmp 58) _ Try.underlying39 rfl (w.heap.size + 1 + 1) _ (freesTo tk k) rfl (HRow.out.alloc _) [] (some ⟨wr.heap.size, 0, none⟩) 1 [k] rfl ((Own.new wr _ (nats [k])).row (by simp)) (by simp; omega) (by simp; omega) ?_
              intro v3 w3 hown3 hg3 hat3
              obtain ⟨B3, c3, rfl⟩ := hp_formv hown3
              have HO1x := Lib.hid ((HO1.out.alloc (.cells (nats [k]).toArray 3)).appd hg3 (fun bb hb => by have := HB.out bb hb; omega))
              have HO2x := Lib.hid ((HO2.out.alloc (.cells (nats [k]).toArray 3)).appd hg3 (fun bb hb => by have := HB.out bb hb; omega))
              have hkx : Kept w w3 := (hk2.alloc _).grown hg3 (fun bb hb => by have := HB.out bb hb; omega)
              rw [HY.out] at hown3
              rw [HY.out]
              have HRow3 := Lib.hid hown3
              clear hown3 hg3 hat3 q1 q2 q3 q4 g1
              obtain ⟨q1, q2, q3, q4⟩ := HO2x.out.two))
            go_wp2
            go_roundw
            case rel => exact ⟨k + 1, B3, c3, by omega, by go_num, HO1x.out.far (by simp) _, HO2x.out.set_ 1 _, ownsRow_setCell_below HRow3.out (by simp) _, hkx.setCell (by simp) _⟩
            case measure => simp [intOf]; omega
        · obtain rfl : k = n := by omega
          have HFA : Hid (freesTo tk k = frees tk) := by show _ = _; rw [← HTL.out]; exact freesTo_all tk
          rw [HFA.out] at hrow HRow HO2 q2
          have hfl := frees_le tk
          have HB : Hid (∀ bb, (Value.slice B (frees tk).length bc).ownBlock = some bb → w.heap.size + 1 + 1 ≤ bb) := fun bb hb => (HRow.out.lt bb hb).1
          rcases Nat.eq_zero_or_pos (frees tk).length with h0 | h0
          · clear hrow ho1 ho2
            rw [h0] at q2
            go_wp2_with fail
            refine (hinit_zero _ _ _ _ q2).mono ?_
            rintro e w3 ⟨rfl, rfl⟩
            go_wp2
            go_ret
            refine ⟨w.heap.size + 1, rfl, ?_, hk2⟩
            rw [HTK.out]
            refine ⟨w.heap.size, _, frees tk, by omega, by omega, fun k e => by have := HB.out k e; omega, by omega, by rw [HTL.out]; exact hn, by rw [HTL.out]; exact HO2.out, HO1.out, World.ownsRow.mono HRow.out (by omega), fun e => ?_, fun e => ?_, ⟨fun k h1 h2 => by omega, List.Perm.refl _⟩⟩
            · have := HB.out _ e; omega
            · have := HB.out _ e; omega
          · obtain ⟨r, c', e⟩ := hp_form hrow h0
            cases e
            have hr2 : w.heap.size + 1 + 1 ≤ r := HB.out r rfl
            clear hrow ho1 ho2
            go_wp2_with fail
            refine (hinit_any _ _ _ _ (frees tk) _ (pool_at HRow.out HO2.out (by omega)) (by rw [HTL.out] at hfl; omega)).mono ?_
            rintro e w3 ⟨l3, rfl, hp3, hg3, hpe3, hh3⟩
            go_wp2
            go_ret
            have hl3 := hpe3.length_eq
            refine ⟨w.heap.size + 1, rfl, ?_, hk2.grown hg3 (fun b e => by injection e; omega)⟩
            rw [HTK.out]
            refine ⟨w.heap.size, .slice (some ⟨r, 0, none⟩) (frees tk).length bc, l3, by omega, by omega, fun k e => by have := ownBlock_eq e; omega, by omega, by rw [HTL.out]; exact hn, by rw [HTL.out]; exact HO2.out.grown hg3 (fun e => by injection e; omega), HO1.out.grown hg3 (fun e => by injection e; omega), ?_, fun e => ?_, fun e => ?_, ⟨by rw [hl3]; exact hh3, hpe3⟩⟩
            · rw [← hl3]; exact World.ownsRow.mono hp3.1 (by omega)
            · have := ownBlock_eq e; omega
            · have := ownBlock_eq e; omega
end Go.Proofs.Ytbkipbkkdcikcaa
