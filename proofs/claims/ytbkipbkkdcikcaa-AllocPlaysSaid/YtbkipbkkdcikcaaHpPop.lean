/- Walks: Pop and Push of alloc.numbers and of container/heap over it. -/
import Derived.Test.YtbkipbkkdcikcaaHpInit
namespace Go.Proofs.Ytbkipbkkdcikcaa
open Go.RowKit

/-- Nothing has turned but the blocks of S, and new ones. -/
structure Turn (S : Nat → Prop) (w w' : World) : Prop where
  os : w'.os = w.os
  tape : w'.tape = w.tape
  output : w'.output = w.output
  size : w.heap.size ≤ w'.heap.size
  block : ∀ k, k < w.heap.size → ¬ S k → w'.heap[k]? = w.heap[k]?
theorem Turn.refl (S : Nat → Prop) (w : World) : Turn S w w := ⟨rfl, rfl, rfl, Nat.le_refl _, fun _ _ _ => rfl⟩
theorem Turn.trans {S : Nat → Prop} {a b c : World} (h : Turn S a b) (k : Turn S b c) : Turn S a c :=
  ⟨k.os.trans h.os, k.tape.trans h.tape, k.output.trans h.output, Nat.le_trans h.size k.size, fun j hj hn => (k.block j (Nat.lt_of_lt_of_le hj h.size) hn).trans (h.block j hj hn)⟩
/-- The later step may turn new blocks too. -/
theorem Turn.trans' {S T : Nat → Prop} {a b c : World} (h : Turn S a b) (k : Turn T b c) (hT : ∀ j, T j → S j ∨ a.heap.size ≤ j) : Turn S a c :=
  ⟨k.os.trans h.os, k.tape.trans h.tape, k.output.trans h.output, Nat.le_trans h.size k.size, fun j hj hn => (k.block j (Nat.lt_of_lt_of_le hj h.size) (fun ht => (hT j ht).elim hn (fun hh => by omega))).trans (h.block j hj hn)⟩
theorem Turn.mono {S T : Nat → Prop} {a b : World} (h : Turn S a b) (k : ∀ j, S j → T j) : Turn T a b := ⟨h.os, h.tape, h.output, h.size, fun j hj hn => h.block j hj (fun hs => hn (k j hs))⟩
theorem Turn.of_grown {a b : World} {r : Option Nat} (h : a.grownBy b r) : Turn (fun k => r = some k) a b := ⟨h.os, h.tape, h.output, h.size, fun j hj hn => h.block j hj (fun e => hn e.symm)⟩
theorem Turn.drewN {S : Nat → Prop} {a b : World} (h : Turn S a b) (n : Nat) : Turn S a (b.drewN n) := ⟨h.os, h.tape, h.output, h.size, h.block⟩
theorem Turn.alloc {S : Nat → Prop} {a b : World} (h : Turn S a b) (o : Obj) : Turn S a (b.alloc o) :=
  ⟨h.os, h.tape, h.output, by simp; have := h.size; omega, fun j hj hn => (Below.heap_alloc b o j (Nat.lt_of_lt_of_le hj h.size)).trans (h.block j hj hn)⟩
theorem Turn.setCell {S : Nat → Prop} {a b : World} (h : Turn S a b) {p : Addr} (hp : S p.block) (u : Value) : Turn S a (b.setCell p u) :=
  ⟨h.os, h.tape, h.output, by simpa [World.setCell] using h.size, fun j hj hn => (Below.heap_setCell b p u j (fun e => hn (by subst e; exact hp))).trans (h.block j hj hn)⟩
theorem Turn.below {S : Nat → Prop} {B : Nat} {a b : World} (h : Turn S a b) (hS : ∀ k, S k → B ≤ k) (hB : B ≤ a.heap.size) : Below B a b :=
  ⟨h.os, h.tape, h.output, h.size, fun k hk => h.block k (by omega) (fun hs => by have := hS k hs; omega)⟩
theorem Own.turn {S : Nat → Prop} {w w' : World} {g : Nat} {t : TypeId} {cs : List Value} (h : Own w g t cs) (k : Turn S w w') (hg : ¬ S g) : Own w' g t cs := (k.block g h.lt hg).trans h

theorem pool_at {w : World} {base g r c : Nat} {l : List Nat} {tv : Value} (h : HpRow w base r c l) (ho : Own w g 41 [tv, .slice (some ⟨r, 0, none⟩) l.length c]) (hne : g ≠ r) : HpAt w base g r c l := ⟨h, ho.two.2.1, hne⟩

set_option maxHeartbeats 1000000 in
theorem nPop_any (base g r c n : Nat) (l : List Nat) (tv : Value) (w : World) (h : HpRow w base r c l) (ho : Own w g 41 [tv, .slice (some ⟨r, 0, none⟩) l.length c]) (hn : l.length = n + 1) (hl : l.length ≤ 1000) :
    Calls Try.prog 64 #[.pointer (some ⟨g, 1, none⟩)] w fun e w' => e = .returned (.iface 3 (.int .i64 (at0 l n : Nat))) ∧ w' = w.setCell ⟨g, 1, none⟩ (.slice (some ⟨r, 0, none⟩) n c) := by
  have g1 := h.cell (k := n) (by omega)
  obtain ⟨_, q2, _, q4⟩ := ho.two
  have hc : l.length ≤ c ∧ c ≤ maxLen := by
    rcases h.2 with ⟨e, _⟩ | ⟨_, _, _, e, _, _, h1, h2, _⟩
    · cases e
    · cases e; exact ⟨h1, h2⟩
  unfold maxLen at hc
  obtain ⟨hc1, hc2⟩ := hc
  rw [hn] at q2 hc1
  generalize at0 l n = x at *
  clear h ho hn hl
  have i1 : ((n + 1 : Nat) : Int) - 1 = (n : Int) := by omega
  have i2 : (n : Int) + 1 - 1 = (n : Int) := by omega
  go_enter Try.func64, Try.ntmps64
  go_wp2
  go_ret
  exact ⟨rfl, rfl⟩

theorem at0_take {l : List Nat} {n k : Nat} (h : k < n) : at0 (l.take n) k = at0 l k := by simp [at0, List.getElem?_take, h]
theorem heap_take {n : Nat} {l : List Nat} (h : HeapFrom 0 n l) : HeapFrom 0 n (l.take n) := fun k h0 hk h1 => by
  rw [at0_take hk, at0_take (by omega)]; exact h k h0 hk h1
theorem take_at {l : List Nat} {n : Nat} (h : l.length = n + 1) : l.take n ++ [at0 l n] = l := by
  rw [at0_lt (by omega), ← List.take_succ_eq_append_getElem (by omega), List.take_of_length_le (by omega)]
theorem nats_take (l : List Nat) (n : Nat) : nats (l.take n) = (nats l).take n := by simp [nats]
theorem HpRow.pop {w : World} {base r c n : Nat} {l : List Nat} (h : HpRow w base r c l) (hn : l.length = n + 1) : HpRow w base r c (l.take n) := by
  have hl : (l.take n).length = n := by rw [List.length_take]; omega
  unfold HpRow
  rw [hl]
  refine ownsRow_pop (last := nats [at0 l n]) (by rw [nats_length, hl, Nat.mul_one]) ?_
  rw [← nats_append, take_at hn, ← hn]
  exact h
theorem HpRow.far {w : World} {base r c : Nat} {l : List Nat} (h : HpRow w base r c l) {p : Addr} (hp : r ≠ p.block) (u : Value) : HpRow (w.setCell p u) base r c l :=
  ownsRow_setCell_other h (fun e => hp (by injection e)) u
theorem HpRow.turn {S : Nat → Prop} {w w' : World} {base r c : Nat} {l : List Nat} (h : HpRow w base r c l) (k : Turn S w w') (hr : ¬ S r) : HpRow w' base r c l := by
  refine ⟨h.1, ?_⟩
  rcases h.2 with ⟨e, _⟩ | ⟨g, cap, cur, e, hb, hh, rest⟩
  · cases e
  · cases e
    refine .inr ⟨r, c, cur, rfl, hb, ?_, rest⟩
    rw [k.block r (Array.getElem?_eq_some_iff.1 hh).1 hr]; exact hh

def PopPost (w : World) (base g r c : Nat) (l : List Nat) (tv : Value) (e : Ending) (w' : World) : Prop :=
  ∃ l', e = .returned (.iface 3 (.int .i64 (at0 l 0 : Nat))) ∧ HpRow w' base r c l' ∧ Own w' g 41 [tv, .slice (some ⟨r, 0, none⟩) l'.length c] ∧ Turn (fun k => k = r ∨ k = g) w w' ∧ (l' ++ [at0 l 0]).Perm l ∧ HeapFrom 0 l'.length l'

set_option maxHeartbeats 1000000 in
theorem hpop_any (base g r c n : Nat) (l : List Nat) (tv : Value) (w : World) (h : HpRow w base r c l) (ho : Own w g 41 [tv, .slice (some ⟨r, 0, none⟩) l.length c]) (hne : g ≠ r) (hn : l.length = n + 1) (hl : l.length ≤ 1000) (hh : HeapFrom 0 l.length l) :
    Calls Try.prog 19 #[.iface 43 (.pointer (some ⟨g, 1, none⟩))] w (PopPost w base g r c l tv) := by
  have H := Lib.hid h
  have HO := Lib.hid ho
  have hg1 := ho.two.2.1
  have HN := Lib.hid hn
  have hn1 : n < l.length := by omega
  have hn2 : l.length ≤ n + 1 := by omega
  have HH := Lib.hid hh
  have m1 := fun W fuel => meth_val (g := g) (v := .slice (some ⟨r, 0, none⟩) l.length c) Try.metLen W fuel
  have m2 := fun W fuel => meth_val (g := g) (v := .slice (some ⟨r, 0, none⟩) l.length c) Try.metSwap W fuel
  have m3 := fun W fuel => method_ptr (fuel := fuel) Try.metPop Try.underlying43 ⟨g, 1, none⟩ W
  clear h ho hn hh
  go_enter Try.func19, Try.ntmps19
  go_wp2_with fail
  refine (nLen_any _ _ _ _ (by unfold maxLen; omega)).mono ?_
  rintro e w1 ⟨rfl, rfl⟩
  have i1 : ((l.length : Nat) : Int) - 1 = (n : Int) := by omega
  go_wp2_with fail
  refine (nSwap_at base r c l 0 n _ _ _ H.out (by omega) (by omega) (by omega) (by omega)).mono ?_
  rintro e w2 ⟨rfl, hr2, hg2⟩
  have HA := Lib.hid ((pool_at H.out HO.out hne).go hg2 hr2 (swp_length _ _ _))
  have HO2 := Lib.hid (HO.out.grown hg2 (fun e => hne (by injection e)))
  have HG2 := Lib.hid hg2
  clear hr2 hg2 hg1
  go_wp2_with fail
  refine (down_any base g r c (swp l 0 n) 0 n _ HA.out (by rw [swp_length]; omega) (by rw [swp_length]; omega) (by omega) ?_).mono ?_
  · intro k h0 hk h1
    rw [at0_swp (by omega) (by omega), at0_swp (by omega) (by omega), if_neg (by omega), if_neg (by omega), if_neg (by omega), if_neg (by omega)]
    exact HH.out k h0 (by omega) (by omega)
  rintro e w3 ⟨b, l3, rfl, hp3, hg3, hpe3, hd3, hk3⟩
  have hl3 : l3.length = n + 1 := by rw [hpe3.length_eq, swp_length]; exact HN.out
  have HO3 := Lib.hid (HO2.out.grown hg3 (fun e => hne (by injection e)))
  have hx : at0 l3 n = at0 l 0 := by rw [hk3 n (Nat.le_refl _), at0_swp (by omega) (by omega), if_pos rfl]
  have HX := Lib.hid hx
  have HL3 := Lib.hid hl3
  have HP3 := Lib.hid hp3
  have HG3 := Lib.hid hg3
  have HPE := Lib.hid (hpe3.trans (swp_perm (xs := l) (i := 0) (j := n) (by omega) (by omega)))
  have HD3 := Lib.hid hd3
  clear hp3 hg3 hpe3 hd3 hk3 hx hl3
  go_wp2_with fail
  refine (nPop_any base g r c n l3 tv _ HP3.out.1 (by rw [HL3.out, ← HN.out]; exact HO3.out) HL3.out (by rw [HL3.out]; omega)).mono ?_
  rw [HX.out]
  rintro e w4 ⟨rfl, rfl⟩
  go_wp2
  go_ret
  have hlt : (l3.take n).length = n := by rw [List.length_take, HL3.out]; omega
  refine ⟨l3.take n, rfl, (HP3.out.1.pop HL3.out).far (fun e => hne e.symm) _, ?_, ?_, ?_, ?_⟩
  · rw [hlt]; exact HO3.out.set_ 1 _
  · exact ((((Turn.of_grown HG2.out).mono (fun k e => .inl (by injection e with e; exact e.symm))).trans ((Turn.of_grown HG3.out).mono (fun k e => .inl (by injection e with e; exact e.symm)))).setCell (.inr rfl) _)
  · rw [← HX.out, take_at HL3.out]; exact HPE.out
  · rw [hlt]; exact heap_take HD3.out
end Go.Proofs.Ytbkipbkkdcikcaa
