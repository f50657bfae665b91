/- Slices of whatever element type: appending to a row of the call's own. Of no program. -/
import Derived.Test.YtagpimahicgkmaaDoorApp
import Derived.Test.YtagpimahicgkmaaDoorTurn
import Derived.Deep.Onto
namespace Go.Proofs.YtagpimahicgkmaaDoor
open Go.RowKit

/-- An element type e, with its slice type sl; f: the cells of an element. -/
structure Elem (P : Program) (sl e : TypeId) (size bytes : Nat) {α : Type} (f : α → List Value) : Prop where
  und : P.underlying sl = some (.slice e)
  info : ∃ i z, P.info? e = some i ∧ i.zero = some z ∧ i.size = size ∧ i.bytes = bytes ∧ z.cells.size = size
  pos : 0 < size
  len : ∀ x, (f x).length = size
theorem Elem.of {P : Program} {sl e : TypeId} {size bytes : Nat} {α : Type} {f : α → List Value} {z : Value} (hu : P.underlying sl = some (.slice e)) (h : (P.info? e).map (fun i => (i.zero, i.size, i.bytes)) = some (some z, size, bytes))
    (hz : z.cells.size = size) (hp : 0 < size) (hl : ∀ x, (f x).length = size) : Elem P sl e size bytes f := by
  refine ⟨hu, ?_, hp, hl⟩
  cases hi : P.info? e with
  | none => rw [hi] at h; cases h
  | some i =>
    rw [hi] at h
    simp only [Option.map_some, Option.some.injEq, Prod.mk.injEq] at h
    exact ⟨i, z, rfl, h.1, h.2.1, h.2.2, hz⟩

section
variable {P : Program} {sl e : TypeId} {size bytes : Nat} {α : Type} {f : α → List Value}
theorem Elem.cells_length (E : Elem P sl e size bytes f) (l : List α) : (l.flatMap f).length = l.length * size := by
  induction l with
  | nil => simp
  | cons a l ih => rw [List.flatMap_cons, List.length_append, ih, E.len, List.length_cons, Nat.succ_mul, Nat.add_comm]

theorem Elem.wpList_app (E : Elem P sl e size bytes f) {w : World} {ops : Array Oper} {rest : List Oper} {o : Oper} {a : Act} {Q : Exit → Act → World → Prop} (hgd : o.guard = none) (s x : Operand)
    (ho : o.op = .call { callee := .builtin .append, args := #[s, x], argTypes := #[sl, sl] })
    (base : Nat) (v : Value) (l : List α) (hs : a.eval s = v) (hown : w.ownsRow base e size v l.length (l.flatMap f))
    (V : List Nat) (A : Option Addr) (c : Nat) (m : List α) (hx : a.eval x = .slice A m.length c) (hr : Row V w A (m.flatMap f)) (h1 : ∀ u ∈ m.flatMap f, u.oneCell' = true) (hlen : l.length + m.length ≤ maxLen) (h63 : (l.length + m.length) * bytes ≤ 140737488355328) (hbase : base ≤ w.heap.size)
    (h : ∀ v' w', w'.ownsRow base e size v' (l ++ m).length ((l ++ m).flatMap f) → w.grownBy w' v.ownBlock → (v'.ownBlock = v.ownBlock ∨ v'.ownBlock = some w.heap.size) → wpList P ops Q rest (a.put o.dst v') w') : wpList P ops Q (o :: rest) a w := by
  obtain ⟨i, z, hi, hz, hsz, hb, hzs⟩ := E.info
  refine wpList_append_any w hgd s x _ ho base _ i _ size bytes E.und hi hz hsz hb hzs E.pos v l.length (l.flatMap f) hs hown V A m.length c (m.flatMap f) hx (E.cells_length m) hr h1 hlen h63 hbase ?_
  intro v' w' h1 h2 h3
  exact h v' w' (by rw [List.flatMap_append, List.length_append]; exact h1) h2 h3

theorem Elem.step_app (E : Elem P sl e size bytes f) {w : World} {ops : Array Oper} {o : Oper} {a : Act} {K : Act → World → Prop} {Q : Exit → Act → World → Prop} {F : Prop} (hgd : o.guard = none) (s x : Operand)
    (ho : o.op = .call { callee := .builtin .append, args := #[s, x], argTypes := #[sl, sl] })
    (base : Nat) (v : Value) (l : List α) (hs : a.eval s = v) (hown : w.ownsRow base e size v l.length (l.flatMap f))
    (V : List Nat) (A : Option Addr) (c : Nat) (m : List α) (hx : a.eval x = .slice A m.length c) (hr : Row V w A (m.flatMap f)) (h1 : ∀ u ∈ m.flatMap f, u.oneCell' = true) (hlen : l.length + m.length ≤ maxLen) (h63 : (l.length + m.length) * bytes ≤ 140737488355328) (hbase : base ≤ w.heap.size)
    (h : ∀ v' w', w'.ownsRow base e size v' (l ++ m).length ((l ++ m).flatMap f) → w.grownBy w' v.ownBlock → (v'.ownBlock = v.ownBlock ∨ v'.ownBlock = some w.heap.size) → K (a.put o.dst v') w') :
    if Region.wanted o (yielded ops a.tmps) = true then Oper.wp P o a w K Q else F := by
  obtain ⟨i, z, hi, hz, hsz, hb, hzs⟩ := E.info
  refine step_append_any w hgd s x _ ho base _ i _ size bytes E.und hi hz hsz hb hzs E.pos v l.length (l.flatMap f) hs hown V A m.length c (m.flatMap f) hx (E.cells_length m) hr h1 hlen h63 hbase ?_
  intro v' w' h1 h2 h3
  exact h v' w' (by rw [List.flatMap_append, List.length_append]; exact h1) h2 h3
end

/-- The own block of a slice value, as a list. -/
def ownL (v : Value) : List Nat := v.ownBlock.toList
/-- A row is as it was if what turned is none of its blocks. -/
theorem Row.turn {V U : List Nat} {S : Nat → Prop} {w w' : World} {A : Option Addr} {xs : List Value} (h : Row V w A xs) (k : Turn S w w') (hS : ∀ j, j < w.heap.size → S j → j ∈ V) (hU : Ext U w V) : Row U w' A xs := fun hx => by
  obtain ⟨b, o, e, hb, hv, hc⟩ := h hx
  refine ⟨b, o, e, Nat.lt_of_lt_of_le hb k.size, fun hm => ?_, fun j u hu => k.cell (hc j u hu) (fun hs => hv (hS b hb hs))⟩
  rcases hU b hm with h1 | h1
  · exact hv h1
  · omega
theorem ownL_grown {w : World} {v v' : Value} (h : v'.ownBlock = v.ownBlock ∨ v'.ownBlock = some w.heap.size) {V U : List Nat} (hV : Ext U w V) : Ext (ownL v' ++ U) w (ownL v ++ V) := fun k hk => by
  rcases List.mem_append.1 hk with hk | hk
  · unfold ownL at hk
    rcases h with h | h
    · rw [h] at hk; exact .inl (List.mem_append.2 (.inl hk))
    · rw [h] at hk
      have : k = w.heap.size := by simpa using hk
      exact .inr (by omega)
  · rcases hV k hk with h1 | h1
    · exact .inl (List.mem_append.2 (.inr h1))
    · exact .inr h1
theorem Row.appd {V U : List Nat} {w w' : World} {A : Option Addr} {xs : List Value} {v v' : Value} (h : Row (ownL v ++ V) w A xs) (g : w.grownBy w' v.ownBlock) (hat : v'.ownBlock = v.ownBlock ∨ v'.ownBlock = some w.heap.size) (hU : Ext U w V) : Row (ownL v' ++ U) w' A xs :=
  h.turn (Turn.of_grown g) (fun j _ hj => List.mem_append.2 (.inl (by unfold ownL; rw [hj]; simp))) (ownL_grown hat hU)
theorem ownsRow_turn {S : Nat → Prop} {w w' : World} {base : Nat} {e : TypeId} {size n : Nat} {v : Value} {xs : List Value} (h : w.ownsRow base e size v n xs) (k : Turn S w w') (hS : ∀ g, v.ownBlock = some g → ¬ S g) : w'.ownsRow base e size v n xs := by
  refine ⟨h.1, ?_⟩
  rcases h.2 with h | ⟨g, cap, cur, rfl, hg, hh, h1⟩
  · exact .inl h
  · exact .inr ⟨g, cap, cur, rfl, hg, (k.block g (Array.getElem?_eq_some_iff.1 hh).1 (hS g rfl)).trans hh, h1⟩
theorem ownsRow_kept {w w' : World} {base : Nat} {e : TypeId} {size n : Nat} {v : Value} {xs : List Value} (h : w.ownsRow base e size v n xs) (k : Kept w w') : w'.ownsRow base e size v n xs :=
  ownsRow_turn h (Turn.of_kept (S := fun _ => False) k) (fun _ _ h => h)
end Go.Proofs.YtagpimahicgkmaaDoor
