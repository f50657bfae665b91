/- Words on memory, of no program: a slice value that reads as a list of cells, kept while old blocks are kept. -/
import Derived.Below
import Derived.Laws.OwnMore
import Derived.Deep.AppendLies
import Derived.Deep.Draws
import Derived.Lib.Hide
import Derived.Laws.CopyOwn
import Derived.Laws.Rows
import Derived.Laws.MakeOwn
import Derived.Laws.World
namespace Go.Proofs.YtagpimahicgkmaaDoor
open Go.RowKit

/-- The cells xs lie behind the address A (asked only if there is one), in a block that is none of V. -/
def Row (V : List Nat) (w : World) (A : Option Addr) (xs : List Value) : Prop :=
  0 < xs.length → ∃ b o, A = some ⟨b, o, none⟩ ∧ b < w.heap.size ∧ b ∉ V ∧ ∀ j u, xs[j]? = some u → w.cell? ⟨b, o + j, none⟩ = some u

/-- The blocks of V lie in the world. -/
abbrev Old (V : List Nat) (w : World) : Prop := ∀ k ∈ V, k < w.heap.size
/-- Each block of V is one of U, or none that was there. -/
abbrev Ext (V : List Nat) (w : World) (U : List Nat) : Prop := ∀ k ∈ V, k ∈ U ∨ w.heap.size ≤ k

/-- Old blocks are kept. -/
abbrev Kept (w w' : World) : Prop := Below w.heap.size w w'

theorem Kept.refl (w : World) : Kept w w := Below.refl _ _
theorem Kept.trans {a b c : World} (h : Kept a b) (k : Kept b c) : Kept a c := Below.trans h (Below.mono k h.size)
theorem Kept.drewN {a b : World} (h : Kept a b) (n : Nat) : Kept a (b.drewN n) := ⟨h.os, h.tape, h.output, h.size, h.block⟩
theorem Kept.drew {a b : World} (h : Kept a b) : Kept a b.drew := ⟨h.os, h.tape, h.output, h.size, h.block⟩
theorem Kept.alloc {a b : World} (h : Kept a b) (o : Obj) : Kept a (b.alloc o) := Below.alloc h h.size o
theorem Kept.setCell {a b : World} (h : Kept a b) {p : Addr} (hp : a.heap.size ≤ p.block) (u : Value) : Kept a (b.setCell p u) := Below.setCell h hp u
theorem Kept.grown {a b c : World} {row : Option Nat} (h : Kept a b) (hg : b.grownBy c row) (hr : ∀ k, row = some k → a.heap.size ≤ k) : Kept a c := Below.grown h hg h.size hr

theorem Row.nil (V : List Nat) (w : World) (A : Option Addr) : Row V w A [] := fun h => absurd h (by simp)
/-- Old blocks are kept; new ones may be shut out. -/
theorem Row.go {V U : List Nat} {w w' : World} {A : Option Addr} {xs : List Value} (h : Row V w A xs) (hk : Kept w w') (hU : Ext U w V) : Row U w' A xs := fun hx => by
  obtain ⟨b, o, e, hb, hv, hc⟩ := h hx
  refine ⟨b, o, e, Nat.lt_of_lt_of_le hb hk.size, fun hm => ?_, fun j u hu => ?_⟩
  · rcases hU b hm with h1 | h1
    · exact hv h1
    · omega
  · rw [hk.cell (p := ⟨b, o + j, none⟩) hb]
    exact hc j u hu
theorem Ext.refl (V : List Nat) (w : World) : Ext V w V := fun _ h => .inl h
theorem Ext.nil (V : List Nat) (w : World) : Ext [] w V := fun _ h => by cases h
theorem Ext.cons {V U : List Nat} {w : World} {k : Nat} (hk : w.heap.size ≤ k) (h : Ext V w U) : Ext (k :: V) w U := fun j hj => by
  rcases List.mem_cons.1 hj with rfl | hj
  · exact .inr hk
  · exact h j hj
theorem Old.cons {V : List Nat} {w : World} {k : Nat} (hk : k < w.heap.size) (h : Old V w) : Old (k :: V) w := fun j hj => by
  rcases List.mem_cons.1 hj with rfl | hj
  · exact hk
  · exact h j hj
theorem Old.go {V : List Nat} {w w' : World} (h : Old V w) (hk : Kept w w') : Old V w' := fun j hj => Nat.lt_of_lt_of_le (h j hj) hk.size
theorem Row.kept {V : List Nat} {w w' : World} {A : Option Addr} {xs : List Value} (h : Row V w A xs) (hk : Kept w w') : Row V w' A xs := h.go hk (Ext.refl _ _)
theorem Row.put {V : List Nat} {w : World} {A : Option Addr} {xs : List Value} (h : Row V w A xs) {p : Addr} (hp : p.block ∈ V) (u : Value) : Row V (w.setCell p u) A xs := fun hx => by
  obtain ⟨b, o, e, hb, hv, hc⟩ := h hx
  refine ⟨b, o, e, by simpa [World.setCell] using hb, hv, fun j u' hu => ?_⟩
  rw [World.cell?_setCell_other w p _ u (fun e => hv (by subst e; exact hp))]
  exact hc j u' hu
theorem Row.at_ {V : List Nat} {w : World} {A : Option Addr} {xs : List Value} (h : Row V w A xs) {k : Nat} (hk : k < xs.length) :
    ∃ b o, A = some ⟨b, o, none⟩ ∧ b < w.heap.size ∧ b ∉ V ∧ w.cell? ⟨b, o + k, none⟩ = some xs[k] := by
  obtain ⟨b, o, e, hb, hv, hc⟩ := h (by omega)
  exact ⟨b, o, e, hb, hv, hc k _ (List.getElem?_eq_getElem hk)⟩

/-- A block that is known whole, and of which nothing is frozen. -/
def Own (w : World) (g : Nat) (t : TypeId) (cs : List Value) : Prop := w.heap[g]? = some (.cells cs.toArray t (0, 0))

section
variable {w w' : World} {g : Nat} {t : TypeId} {cs : List Value}
theorem Own.lt (h : Own w g t cs) : g < w.heap.size := by
  rcases Nat.lt_or_ge g w.heap.size with hlt | hge
  · exact hlt
  · unfold Own at h; rw [Array.getElem?_eq_none hge] at h; cases h
theorem Own.cell? (h : Own w g t cs) (i : Nat) : w.cell? ⟨g, i, none⟩ = cs[i]? := by
  have := cell_of_row w g i cs.toArray t (0, 0) h
  simpa using this
theorem Own.cell (h : Own w g t cs) {i : Nat} (hi : i < cs.length) : w.cell? ⟨g, i, none⟩ = some cs[i] := by rw [h.cell?, List.getElem?_eq_getElem hi]
theorem Own.frozen (h : Own w g t cs) (i : Nat) : w.frozen? ⟨g, i, none⟩ = false := by
  unfold Own at h
  simp [World.frozen?, h]
theorem Own.new (w : World) (t : TypeId) (cs : List Value) : Own (w.alloc (.cells cs.toArray t)) w.heap.size t cs := heap_alloc_new w _
theorem Own.newAt (w : World) (n : Nat) (t : TypeId) (cs : List Value) (hn : n = w.heap.size) : Own (w.alloc (.cells cs.toArray t)) n t cs := by subst hn; exact Own.new w t cs
theorem Own.new1 (w : World) (o : Obj) (t : TypeId) (cs : List Value) : Own ((w.alloc o).alloc (.cells cs.toArray t)) (w.heap.size + 1) t cs := by
  have := Own.new (w.alloc o) t cs; rwa [World.size_alloc] at this
theorem Own.new2 (w : World) (o o' : Obj) (t : TypeId) (cs : List Value) : Own (((w.alloc o).alloc o').alloc (.cells cs.toArray t)) (w.heap.size + 1 + 1) t cs := by
  have := Own.new ((w.alloc o).alloc o') t cs; rwa [World.size_alloc, World.size_alloc] at this
theorem Own.new3 (w : World) (o o' o'' : Obj) (t : TypeId) (cs : List Value) : Own ((((w.alloc o).alloc o').alloc o'').alloc (.cells cs.toArray t)) (w.heap.size + 1 + 1 + 1) t cs := by
  have := Own.new (((w.alloc o).alloc o').alloc o'') t cs; rwa [World.size_alloc, World.size_alloc, World.size_alloc] at this
theorem Own.drew (h : Own w g t cs) : Own w.drew g t cs := h
theorem Own.drewN (h : Own w g t cs) (n : Nat) : Own (w.drewN n) g t cs := h
theorem Own.alloc (h : Own w g t cs) (o : Obj) : Own (w.alloc o) g t cs := (Below.heap_alloc w o g h.lt).trans h
theorem Own.set_ (h : Own w g t cs) (i : Nat) (u : Value) : Own (w.setCell ⟨g, i, none⟩ u) g t (cs.set i u) := by
  unfold Own at h ⊢
  simp [World.setCell, Array.getElem?_modify, h]
theorem Own.far (h : Own w g t cs) {p : Addr} (hp : g ≠ p.block) (u : Value) : Own (w.setCell p u) g t cs := (Below.heap_setCell w p u g hp).trans h
theorem Own.below {B : Nat} (h : Own w g t cs) (hb : Below B w w') (hg : g < B) : Own w' g t cs := (hb.block g hg).trans h
theorem Own.kept (h : Own w g t cs) (hb : Kept w w') : Own w' g t cs := (hb.block g h.lt).trans h
theorem Own.grown {row : Option Nat} (h : Own w g t cs) (hb : w.grownBy w' row) (hg : some g ≠ row) : Own w' g t cs := (hb.block g h.lt hg).trans h
theorem Own.two {x y : Value} (h : Own w g t [x, y]) : w.cell? ⟨g, 0, none⟩ = some x ∧ w.cell? ⟨g, 1, none⟩ = some y ∧ w.frozen? ⟨g, 0, none⟩ = false ∧ w.frozen? ⟨g, 1, none⟩ = false :=
  ⟨h.cell? 0, h.cell? 1, h.frozen 0, h.frozen 1⟩
theorem Own.one {x : Value} (h : Own w g t [x]) : w.cell? ⟨g, 0, none⟩ = some x ∧ w.frozen? ⟨g, 0, none⟩ = false := ⟨h.cell? 0, h.frozen 0⟩
theorem Own.three {x y z : Value} (h : Own w g t [x, y, z]) : w.cell? ⟨g, 0, none⟩ = some x ∧ w.cell? ⟨g, 1, none⟩ = some y ∧ w.cell? ⟨g, 2, none⟩ = some z ∧ w.frozen? ⟨g, 0, none⟩ = false ∧ w.frozen? ⟨g, 1, none⟩ = false ∧ w.frozen? ⟨g, 2, none⟩ = false :=
  ⟨h.cell? 0, h.cell? 1, h.cell? 2, h.frozen 0, h.frozen 1, h.frozen 2⟩
theorem Own.put2 {x y : Value} (h : Own w g t [x, y]) (a b : Value) : Own ((w.setCell ⟨g, 0, none⟩ a).setCell ⟨g, 1, none⟩ b) g t [a, b] := (h.set_ 0 a).set_ 1 b
theorem Own.put3 {x y z : Value} (h : Own w g t [x, y, z]) (a b c : Value) : Own (((w.setCell ⟨g, 0, none⟩ a).setCell ⟨g, 1, none⟩ b).setCell ⟨g, 2, none⟩ c) g t [a, b, c] := ((h.set_ 0 a).set_ 1 b).set_ 2 c
theorem Own.row {V : List Nat} (h : Own w g t cs) (hV : g ∉ V) : Row V w (some ⟨g, 0, none⟩) cs := fun _ => ⟨g, 0, rfl, h.lt, hV, fun j u hu => by rw [Nat.zero_add, h.cell?, hu]⟩
end

theorem madeCells_one (v : Value) (n : Nat) : madeCells #[v] n = Array.replicate n v := by
  apply Array.ext
  · simp [madeCells]
  · intro i h1 h2; simp [madeCells, Nat.mod_one]

theorem setRow_alloc (W : World) (cur cs : Array Value) (t : TypeId) : (W.alloc (.cells cur t)).setRow W.heap.size cs = W.alloc (.cells cs t) := by
  have e : ((W.heap.push (.cells cur t)).modify W.heap.size fun
      | .cells _ elem frozen => .cells cs elem frozen
      | o => o) = W.heap.push (.cells cs t) := by
    apply Array.ext_getElem?
    intro i
    rw [Array.getElem?_modify, Array.getElem?_push, Array.getElem?_push]
    by_cases hi : i = W.heap.size
    · subst hi; simp
    · rw [if_neg (Ne.symm hi), if_neg hi, if_neg hi]
  show World.mk _ _ _ _ _ = World.mk _ _ _ _ _
  congr 1

/-- 'copy' of a whole row into a new block of just that length (one cell an element). -/
theorem run_copy_new {P : Program} (W : World) (dT ty elem : TypeId) (cur : Array Value) (t : TypeId) (b o c : Nat) (cs : List Value)
    (hu : P.underlying dT = some (.slice elem)) (hs : (P.info? elem).map (·.size) = some 1) (hcur : cur.size = cs.length)
    (hb : b < W.heap.size) (hsrc : ∀ j v, cs[j]? = some v → W.cell? ⟨b, o + j, none⟩ = some v) (h1 : ∀ v ∈ cs, v.oneCell' = true) :
    (Builtin.copy_ #[dT, dT] ty #[.slice (some ⟨W.heap.size, 0, none⟩) cs.length cs.length, .slice (some ⟨b, o, none⟩) cs.length c]).run P (W.alloc (.cells cur t)) =
      .ok (goInt cs.length) (W.alloc (.cells cs.toArray t)) := by
  have hadd : ∀ j, (⟨b, o, none⟩ : Addr).add j = ⟨b, o + j, none⟩ := fun j => by unfold Addr.add; split <;> simp_all
  have h := run_copy_row (P := P) (W.alloc (.cells cur t)) dT dT ty elem W.heap.size 0 cs.length cs.length ⟨b, o, none⟩ cs.length c cur t cs hu hs (heap_alloc_new W _) (by simp) (fun j v hv => by
    rw [hadd, World.cell?_alloc_lt _ _ _ hb]; exact hsrc j v hv) (by omega) h1
  rw [h]
  congr 1
  simp only [List.take_zero, List.nil_append, Nat.zero_add]
  rw [List.drop_of_length_le (by simp; omega), List.append_nil]
  exact setRow_alloc W cur cs.toArray t

theorem bne_t {a b : Int} (h : a ≠ b) : (a != b) = true := by simpa using h
theorem bne_f {a b : Int} (h : a = b) : (a != b) = false := by simpa using h
theorem beq_t {a b : Int} (h : a = b) : (a == b) = true := by simpa using h
theorem beq_f {a b : Int} (h : a ≠ b) : (a == b) = false := by simpa using h
theorem ret_bool {a b : Bool} (h : a = b) : Ending.returned (.bool a) = .returned (.bool b) := by rw [h]
theorem ret_int {k : IntKind} {a b : Int} (h : a = b) : Ending.returned (.int k a) = .returned (.int k b) := by rw [h]

end Go.Proofs.YtagpimahicgkmaaDoor
