/- Walk: (*state).taken. A store's state in memory. -/
import Derived.Test.YtagpimahicgkmaaDoorStN
import Derived.Test.YtagpimahicgkmaaDoorMe
import Derived.Test.YtagpimahicgkmaaDoorWalE
/-! Walk: (*state).taken. -/
namespace Go.Proofs.YtagpimahicgkmaaDoor
open Go.RowKit

def intC (l : Int) : List Value := [.int .i64 l]
theorem intC_map (l : List Int) : l.flatMap intC = ints l := by
  induction l with
  | nil => rfl
  | cons a l ih => rw [List.flatMap_cons, ih]; rfl
theorem intC_one (l : List Int) : ∀ u ∈ l.flatMap intC, u.oneCell' = true := by
  intro u hu
  rw [intC_map] at hu
  obtain ⟨x, _, rfl⟩ := List.mem_map.1 hu
  rfl
theorem Tryd.elInt : Elem Tryd.prog 57 3 1 8 intC :=
  Elem.of (z := .int .i64 0) (by kernel_rfl) (by kernel_rfl) rfl (by omega) (fun _ => rfl)
/-- The blocks of a class that the slots hold. -/
def takenP (c : Nat) (t : Slot) : Bool := t.used && decide (t.cls = c)
def takenI (l : List Slot) (c : Nat) : List Int := (l.filter (takenP c)).map fun t => (t.blk : Int)
theorem taken_yes {l : List Slot} {k c : Nat} (h : k < l.length) (hu : takenP c l[k] = true) : takenI (l.take (k + 1)) c = takenI (l.take k) c ++ [(l[k].blk : Int)] := by
  unfold takenI
  rw [List.take_succ_eq_append_getElem h, List.filter_append, List.map_append, List.filter_cons, hu]; rfl
theorem taken_no {l : List Slot} {k c : Nat} (h : k < l.length) (hu : takenP c l[k] = false) : takenI (l.take (k + 1)) c = takenI (l.take k) c := by
  unfold takenI
  rw [List.take_succ_eq_append_getElem h, List.filter_append, List.map_append, List.filter_cons, hu]; simp
theorem taken_le (l : List Slot) (c : Nat) : (takenI l c).length ≤ l.length := by unfold takenI; rw [List.length_map]; exact List.length_filter_le _ _

set_option maxRecDepth 100000 in
set_option maxHeartbeats 2000000 in
theorem taken_any (l : List Slot) (g s cl : Nat) (p0 p1 wv : Value) (w : World) (ho : Own w s 127 [.slice (some ⟨g, 0, none⟩) 32 32, p0, p1, wv]) (hg : Own w g 121 (l.flatMap slotC)) (hl : l.length = 32) :
    Calls Tryd.prog 73 #[.pointer (some ⟨s, 0, none⟩), .int .i64 (cl : Int)] w fun e w' => ∃ r, e = .returned r ∧ IntsAt [] w' r (takenI l cl) ∧ Kept w w' := by
  have OL := Lib.hid hg
  have HSN := Lib.hid hl
  have c0s := ho.cell? 0
  have zs := ho.lt
  dsimp only [List.getElem?_cons_zero] at c0s
  clear hg hl ho
  go_enter Tryd.func73, Tryd.ntmps73
  go_wp2_with fail
  go_loopw [5, 13] (fun ov iv wq => ∃ (k : Nat) (B : Option Addr) (cap : Nat), k ≤ 32 ∧ iv = .int .i64 k ∧ ov = .slice B (takenI (l.take k) cl).length cap ∧ wq.ownsRow w.heap.size 3 1 (.slice B (takenI (l.take k) cl).length cap) (takenI (l.take k) cl).length ((takenI (l.take k) cl).flatMap intC) ∧ Kept w wq) (fun _ iv _ => 32 - (intOf iv).toNat)
  case atStart => exact ⟨0, none, 0, Nat.zero_le _, rfl, rfl, World.ownsRow_nil _ _ _ _, Kept.refl _⟩
  case round =>
    obtain ⟨k, B, cap, hk, rfl, rfl, ho, K⟩ := hrel
    have HO := Lib.hid ho
    have OL2 := Lib.hid (OL.out.kept K)
    clear ho
    have hnl : (takenI (l.take k) cl).length ≤ 32 := Nat.le_trans (taken_le _ _) (by rw [List.length_take]; omega)
    by_cases hlt : k < 32
    · have hlt' : k < l.length := by rw [HSN.out]; exact hlt
      obtain ⟨e0, e1, e2, e3, e4⟩ := slotC_five l[k]
      have c0 : wr.cell? ⟨g, k * 5, none⟩ = some (.bool l[k].used) := by rw [OL2.out.cell?]; exact (slot_at hlt' 0 (by omega)).trans e0
      have c1 : wr.cell? ⟨g, k * 5 + 1, none⟩ = some (.int .i64 (l[k].cls : Int)) := by rw [OL2.out.cell?]; exact (slot_at hlt' 1 (by omega)).trans e1
      have c2 : wr.cell? ⟨g, k * 5 + 2, none⟩ = some (.int .i64 (l[k].blk : Int)) := by rw [OL2.out.cell?]; exact (slot_at hlt' 2 (by omega)).trans e2
      have c3 : wr.cell? ⟨g, k * 5 + 3, none⟩ = some (.int .i64 (l[k].size : Int)) := by rw [OL2.out.cell?]; exact (slot_at hlt' 3 (by omega)).trans e3
      have c4 : wr.cell? ⟨g, k * 5 + 4, none⟩ = some (.string l[k].name) := by rw [OL2.out.cell?]; exact (slot_at hlt' 4 (by omega)).trans e4
      have zg := OL2.out.lt
      have HNY : Hid (takenP cl l[k] = true → takenI (l.take (k + 1)) cl = takenI (l.take k) cl ++ [(l[k].blk : Int)]) := taken_yes hlt'
      have HNN : Hid (takenP cl l[k] = false → takenI (l.take (k + 1)) cl = takenI (l.take k) cl) := taken_no hlt'
      clear e0 e1 e2 e3 e4
      generalize takenI (l.take k) cl = M at *
      generalize l[k] = tt at *
      obtain ⟨tu, tc, tb, tz, tn⟩ := tt
      simp only at c0 c1 c2 c3 c4 HNY HNN
      have k0 : (0 : Int) ≤ (k : Int) := by omega
      have k1 : (k : Int) < 32 := by omega
      clear hlt'
      cases tu with
      | false =>
        go_wp2
        go_roundw
        case rel => exact ⟨k + 1, B, cap, by omega, by go_num, by rw [HNN.out rfl], by rw [HNN.out rfl]; exact HO.out.alloc _, K.alloc _⟩
        case measure => simp [intOf]; omega
      | true =>
        by_cases hc : tc = cl
        · subst hc
          have HOW := Lib.hid (Own.new1 wr (.cells #[.bool true, .int .i64 (tc : Int), .int .i64 (tb : Int), .int .i64 (tz : Int), .string tn] 121) 3 ([(tb : Int)].flatMap intC))
          go_upto_region 7 with (at_builtin; go_must (refine Tryd.elInt.wpList_app rfl (.tmp 25) (.tmp 28) rfl w.heap.size _ M rfl ((HO.out.alloc _).alloc _) [] (some ⟨wr.heap.size + 1, 0, none⟩) 1 [(tb : Int)] rfl (HOW.out.row (by simp)) (intC_one _) (by unfold maxLen; simp only [List.length_cons, List.length_nil]; omega) (by simp only [List.length_cons, List.length_nil]; omega) (by have := K.size; simp; omega) ?_; intro v9 w9 hap hgr hat))
          rw [← HNY.out (by simp [takenP])] at hap
          have K9 := ((K.alloc _).alloc _).grown hgr (fun k e => (HO.out.lt k e).1)
          obtain ⟨A9, c9, rfl, _, _, _⟩ := own_form (V := []) hap (by simp)
          have HO9 := Lib.hid hap
          clear hap hgr hat
          go_wp2
          go_roundw
          case rel => exact ⟨k + 1, A9, c9, by omega, by go_num, rfl, HO9.out, K9⟩
          case measure => simp [intOf]; omega
        · have hne : ((tc : Int) == (cl : Int)) = false := by rw [beq_eq_false_iff_ne]; omega
          have hne2 : ¬ (tc : Int) = (cl : Int) := by omega
          have HP : Hid (takenP cl { used := true, cls := tc, blk := tb, size := tz, name := tn } = false) := by show _ = _; simp [takenP, hc]
          go_wp2
          go_roundw
          case rel => exact ⟨k + 1, B, cap, by omega, by go_num, by rw [HNN.out HP.out], by rw [HNN.out HP.out]; exact HO.out.alloc _, K.alloc _⟩
          case measure => simp [intOf]; omega
    · have e : l.take k = l := List.take_of_length_le (by rw [HSN.out]; omega)
      rw [e] at HO hnl ⊢
      clear e
      have HO9 := Lib.hid (own_form (V := []) HO.out (by simp))
      generalize hM : takenI l cl = M at *
      have HM := Lib.hid hM
      clear hM
      go_wp2
      go_ret
      obtain ⟨A9, c9, e9, h1, h2, h3⟩ := HO9.out
      cases e9
      exact ⟨_, rfl, by rw [HM.out]; exact ⟨_, _, rfl, h1, h2, by rw [← intC_map]; exact h3⟩, K⟩
end Go.Proofs.YtagpimahicgkmaaDoor

/-! A store's state in memory. -/
namespace Go.Proofs.YtagpimahicgkmaaDoor
open Go.RowKit

/-- A pool whose blocks are none of V is as it was where only blocks of V turn. -/
theorem PoolV.spare {V S : Nat → Prop} {w w' : World} {g : Nat} {tk : List Bool} (h : PoolV w V g tk) (k : Turn S w w') (hS : ∀ j, j < w.heap.size → S j → V j) : PoolV w' V g tk := by
  obtain ⟨tb, fv, fr, h1, h2, h3, h4, h5, h6, h7, h8, h9⟩ := h
  exact ⟨tb, fv, fr, h1, h2, h3, h4, h5, h6.turn k (fun hs => h1 (hS _ h6.lt hs)), h7.turn k (fun hs => h2 (hS _ h7.lt hs)), ownsRow_turn h8 k (fun j hj hs => h3 j hj (hS j (h8.lt j hj).2 hs)), h9⟩

/-- A state lies at s: its slots, its two pools (apart by V0 and V1), its writes; none of its blocks is one of V. -/
structure StV (V V0 V1 : Nat → Prop) (w : World) (s : Nat) (l : List Slot) (tk0 tk1 : List Bool) (ws : List Wr) (g q0 q1 : Nat) (wv : Value) : Prop where
  st : Own w s 127 [.slice (some ⟨g, 0, none⟩) 32 32, .pointer (some ⟨q0, 0, none⟩), .pointer (some ⟨q1, 0, none⟩), wv]
  sl : Own w g 121 (l.flatMap slotC)
  len : l.length = 32
  row : w.ownsRow 0 38 2 wv ws.length (ws.flatMap wrC)
  p0 : PoolV w V0 q0 tk0
  p1 : PoolV w V1 q1 tk1
  any : ∀ k, V0 k ∨ V1 k
  top : ∀ k, w.heap.size ≤ k → ¬ V k ∧ V0 k ∧ V1 k
  ns : ¬ V s ∧ V0 s ∧ V1 s
  ng : ¬ V g ∧ V0 g ∧ V1 g
  nw : ∀ k, wv.ownBlock = some k → ¬ V k ∧ V0 k ∧ V1 k
  sg : s ≠ g
  ws' : wv.ownBlock ≠ some s
  wg : wv.ownBlock ≠ some g
  sub : ∀ k, V k → V0 k ∧ V1 k
def StAt (V V0 V1 : Nat → Prop) (w : World) (s : Nat) (l : List Slot) (tk0 tk1 : List Bool) (ws : List Wr) : Prop := ∃ g q0 q1 wv, StV V V0 V1 w s l tk0 tk1 ws g q0 q1 wv
theorem StV.go {V V0 V1 : Nat → Prop} {w w' : World} {s : Nat} {l : List Slot} {tk0 tk1 : List Bool} {ws : List Wr} {g q0 q1 : Nat} {wv : Value} (h : StV V V0 V1 w s l tk0 tk1 ws g q0 q1 wv) (k : Kept w w') : StV V V0 V1 w' s l tk0 tk1 ws g q0 q1 wv :=
  ⟨h.st.kept k, h.sl.kept k, h.len, ownsRow_kept h.row k, h.p0.spare (Turn.of_kept (S := V0) k) (fun _ _ h => h), h.p1.spare (Turn.of_kept (S := V1) k) (fun _ _ h => h), h.any, fun j hj => h.top j (Nat.le_trans k.size hj), h.ns, h.ng, h.nw, h.sg, h.ws', h.wg, h.sub⟩
theorem StAt.go {V V0 V1 : Nat → Prop} {w w' : World} {s : Nat} {l : List Slot} {tk0 tk1 : List Bool} {ws : List Wr} (h : StAt V V0 V1 w s l tk0 tk1 ws) (k : Kept w w') : StAt V V0 V1 w' s l tk0 tk1 ws := by
  obtain ⟨g, q0, q1, wv, h⟩ := h; exact ⟨g, q0, q1, wv, h.go k⟩
/-- New blocks are let into V. -/
theorem StAt.guard {V V0 V1 : Nat → Prop} {w w' : World} {s : Nat} {l : List Slot} {tk0 tk1 : List Bool} {ws : List Wr} (h : StAt V V0 V1 w s l tk0 tk1 ws) (k : Kept w w') : StAt (fun j => V j ∨ (w.heap.size ≤ j ∧ j < w'.heap.size)) V0 V1 w' s l tk0 tk1 ws := by
  obtain ⟨g, q0, q1, wv, h⟩ := h
  have h1 := h.go k
  refine ⟨g, q0, q1, wv, h1.st, h1.sl, h1.len, h1.row, h1.p0, h1.p1, h1.any, fun j hj => ⟨?_, (h1.top j hj).2⟩, ⟨?_, h1.ns.2⟩, ⟨?_, h1.ng.2⟩, fun j hj => ⟨?_, (h1.nw j hj).2⟩, h1.sg, h1.ws', h1.wg, fun j hv => hv.elim (h.sub j) (fun e => (h.top j e.1).2)⟩
  · rintro (hv | hv)
    · exact (h1.top j hj).1 hv
    · omega
  · rintro (hv | hv)
    · exact h.ns.1 hv
    · have := h.st.lt; omega
  · rintro (hv | hv)
    · exact h.ng.1 hv
    · have := h.sl.lt; omega
  · rintro (hv | hv)
    · exact (h.nw j hj).1 hv
    · have := (h.row.lt j hj).2; omega
/-- What of V may turn: nothing of the state. -/
theorem StAt.weak {V U V0 V1 : Nat → Prop} {w : World} {s : Nat} {l : List Slot} {tk0 tk1 : List Bool} {ws : List Wr} (h : StAt V V0 V1 w s l tk0 tk1 ws) (k : ∀ j, U j → V j) : StAt U V0 V1 w s l tk0 tk1 ws := by
  obtain ⟨g, q0, q1, wv, h⟩ := h
  exact ⟨g, q0, q1, wv, h.st, h.sl, h.len, h.row, h.p0, h.p1, h.any, fun j hj => ⟨fun hu => (h.top j hj).1 (k j hu), (h.top j hj).2⟩, ⟨fun hu => h.ns.1 (k _ hu), h.ns.2⟩, ⟨fun hu => h.ng.1 (k _ hu), h.ng.2⟩, fun j hj => ⟨fun hu => (h.nw j hj).1 (k _ hu), (h.nw j hj).2⟩, h.sg, h.ws', h.wg, fun j hu => h.sub j (k j hu)⟩
/-- The blocks that a change of slots and writes may turn. -/
def stS (s g : Nat) (wv : Value) (k : Nat) : Prop := k = s ∨ k = g ∨ wv.ownBlock = some k
/-- The state behind a change of its slots and writes. -/
theorem StV.turn {V V0 V1 : Nat → Prop} {w w' : World} {s : Nat} {l l' : List Slot} {tk0 tk1 : List Bool} {ws ws' : List Wr} {g q0 q1 : Nat} {wv wv' : Value} (h : StV V V0 V1 w s l tk0 tk1 ws g q0 q1 wv) (k : Turn (stS s g wv) w w')
    (h1 : Own w' s 127 [.slice (some ⟨g, 0, none⟩) 32 32, .pointer (some ⟨q0, 0, none⟩), .pointer (some ⟨q1, 0, none⟩), wv']) (h2 : Own w' g 121 (l'.flatMap slotC)) (h3 : l'.length = 32)
    (h4 : w'.ownsRow 0 38 2 wv' ws'.length (ws'.flatMap wrC)) (h5 : ∀ j, wv'.ownBlock = some j → wv.ownBlock = some j ∨ w.heap.size ≤ j) : StV V V0 V1 w' s l' tk0 tk1 ws' g q0 q1 wv' ∧ Turn (fun k => ¬ V k) w w' := by
  have hs : ∀ j, stS s g wv j → ¬ V j ∧ V0 j ∧ V1 j := by
    rintro j (rfl | rfl | e)
    · exact h.ns
    · exact h.ng
    · exact h.nw j e
  refine ⟨⟨h1, h2, h3, h4, h.p0.spare k (fun j _ e => (hs j e).2.1), h.p1.spare k (fun j _ e => (hs j e).2.2), h.any, fun j hj => h.top j (Nat.le_trans k.size hj), h.ns, h.ng, fun j hj => ?_, h.sg, ?_, ?_, h.sub⟩, k.mono fun j e => (hs j e).1⟩
  · rcases h5 j hj with e | e
    · exact h.nw j e
    · exact h.top j e
  · intro e
    rcases h5 s e with e | e
    · exact h.ws' e
    · have := h.st.lt; omega
  · intro e
    rcases h5 g e with e | e
    · exact h.wg e
    · have := h.sl.lt; omega
end Go.Proofs.YtagpimahicgkmaaDoor
