/- What has turned of a world, block by block. Of no program. -/
import Derived.Test.YtagpimahicgkmaaDoorMem
namespace Go.Proofs.YtagpimahicgkmaaDoor
open Go.RowKit

/-- Nothing has turned but the blocks of S, and new ones. -/
structure Turn (S : Nat → Prop) (w w' : World) : Prop where
  os : w'.os = w.os
  tape : w'.tape = w.tape
  output : w'.output = w.output
  size : w.heap.size ≤ w'.heap.size
  block : ∀ k, k < w.heap.size → ¬ S k → w'.heap[k]? = w.heap[k]?
theorem Turn.refl (S : Nat → Prop) (w : World) : Turn S w w := ⟨rfl, rfl, rfl, Nat.le_refl _, fun _ _ _ => rfl⟩
theorem Turn.trans {S : Nat → Prop} {a b c : World} (h : Turn S a b) (k : Turn S b c) : Turn S a c :=
  ⟨k.os.trans h.os, k.tape.trans h.tape, k.output.trans h.output, Nat.le_trans h.size k.size, fun j hj hn => (k.block j (Nat.lt_of_lt_of_le hj h.size) hn).trans (h.block j hj hn)⟩
/-- The later step may turn new blocks too. -/
theorem Turn.trans' {S T : Nat → Prop} {a b c : World} (h : Turn S a b) (k : Turn T b c) (hT : ∀ j, T j → S j ∨ a.heap.size ≤ j) : Turn S a c :=
  ⟨k.os.trans h.os, k.tape.trans h.tape, k.output.trans h.output, Nat.le_trans h.size k.size, fun j hj hn => (k.block j (Nat.lt_of_lt_of_le hj h.size) (fun ht => (hT j ht).elim hn (fun hh => by omega))).trans (h.block j hj hn)⟩
theorem Turn.mono {S T : Nat → Prop} {a b : World} (h : Turn S a b) (k : ∀ j, S j → T j) : Turn T a b := ⟨h.os, h.tape, h.output, h.size, fun j hj hn => h.block j hj (fun hs => hn (k j hs))⟩
theorem Turn.of_grown {a b : World} {r : Option Nat} (h : a.grownBy b r) : Turn (fun k => r = some k) a b := ⟨h.os, h.tape, h.output, h.size, fun j hj hn => h.block j hj (fun e => hn e.symm)⟩
theorem Turn.drewN {S : Nat → Prop} {a b : World} (h : Turn S a b) (n : Nat) : Turn S a (b.drewN n) := ⟨h.os, h.tape, h.output, h.size, h.block⟩
theorem Turn.alloc {S : Nat → Prop} {a b : World} (h : Turn S a b) (o : Obj) : Turn S a (b.alloc o) :=
  ⟨h.os, h.tape, h.output, by simp; have := h.size; omega, fun j hj hn => (Below.heap_alloc b o j (Nat.lt_of_lt_of_le hj h.size)).trans (h.block j hj hn)⟩
theorem Turn.setCell {S : Nat → Prop} {a b : World} (h : Turn S a b) {p : Addr} (hp : S p.block) (u : Value) : Turn S a (b.setCell p u) :=
  ⟨h.os, h.tape, h.output, by simpa [World.setCell] using h.size, fun j hj hn => (Below.heap_setCell b p u j (fun e => hn (by subst e; exact hp))).trans (h.block j hj hn)⟩
theorem Turn.below {S : Nat → Prop} {B : Nat} {a b : World} (h : Turn S a b) (hS : ∀ k, S k → B ≤ k) (hB : B ≤ a.heap.size) : Below B a b :=
  ⟨h.os, h.tape, h.output, h.size, fun k hk => h.block k (by omega) (fun hs => by have := hS k hs; omega)⟩
theorem Own.turn {S : Nat → Prop} {w w' : World} {g : Nat} {t : TypeId} {cs : List Value} (h : Own w g t cs) (k : Turn S w w') (hg : ¬ S g) : Own w' g t cs := (k.block g h.lt hg).trans h

theorem Turn.cell {S : Nat → Prop} {w w' : World} (k : Turn S w w') {p : Addr} {v : Value} (h : w.cell? p = some v) (hp : ¬ S p.block) : w'.cell? p = some v :=
  (World.cell?_of_block (k.block p.block (World.block_lt_of_cell? w p h) hp)).trans h
theorem Turn.frozen {S : Nat → Prop} {w w' : World} (k : Turn S w w') {p : Addr} (hl : p.block < w.heap.size) (hp : ¬ S p.block) : w'.frozen? p = w.frozen? p :=
  World.frozen?_of_block (k.block p.block hl hp)
theorem Turn.of_kept {S : Nat → Prop} {w w' : World} (k : Kept w w') : Turn S w w' := ⟨k.os, k.tape, k.output, k.size, fun j hj _ => k.block j hj⟩
theorem Turn.drew {S : Nat → Prop} {a b : World} (h : Turn S a b) : Turn S a b.drew := ⟨h.os, h.tape, h.output, h.size, h.block⟩
end Go.Proofs.YtagpimahicgkmaaDoor
