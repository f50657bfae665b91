/- Words on memory, of no program: a slice value that reads as a list of cells, kept while old blocks are kept. The disk in plain Lean: sectors, pending writes; when it is right. Walks: disk.fits, disk.Right. Walks: disk.perform, disk.Flush, disk.Crash. Walk: disk.Crash. Plain: what a sector of a disk reads. Appending to a row of the call's own; the source nil or not. Of no program. Walk: disk.Put. Plain: what a sector reads behind a crash. A region that draws its order: all but its last operations only read. Of no program. What has turned of a world, block by block. Of no program. Slices of whatever element type: appending to a row of the call's own. Of no program. A region that draws its order: loads may be taken first where only LATE operations (those that wait for them) write what they read. Of no program. Plain facts on disks: what a flush and a crash do. -/
import Derived.Below
import Derived.Laws.OwnMore
import Derived.Deep.AppendLies
import Derived.Deep.Draws
import Derived.Lib.Hide
import Derived.Laws.CopyOwn
import Derived.Laws.Rows
import Derived.Laws.MakeOwn
import Derived.Laws.World
import Derived.Test.YtagpimahicgkmaaDoorRows
import Derived.WalkKit
import Derived.WalkSpells
import Derived.WalkLawsBesides
import Derived.Maps.AppendAt
import Derived.RegionTactic
import Derived.OwnWalk
import Derived.Deep.Cut
import Derived.StillTailTactics
import Derived.Deep.Onto
import Derived.Deep.RegionHeld
/-! Words on memory, of no program: a slice value that reads as a list of cells, kept while old blocks are kept. -/
namespace Go.Proofs.YtagpimahicgkmaaDoor
open Go.RowKit

/-- The cells xs lie behind the address A (asked only if there is one), in a block that is none of V. -/
def Row (V : List Nat) (w : World) (A : Option Addr) (xs : List Value) : Prop :=
  0 < xs.length → ∃ b o, A = some ⟨b, o, none⟩ ∧ b < w.heap.size ∧ b ∉ V ∧ ∀ j u, xs[j]? = some u → w.cell? ⟨b, o + j, none⟩ = some u

/-- The blocks of V lie in the world. -/
abbrev Old (V : List Nat) (w : World) : Prop := ∀ k ∈ V, k < w.heap.size
/-- Each block of V is one of U, or none that was there. -/
abbrev Ext (V : List Nat) (w : World) (U : List Nat) : Prop := ∀ k ∈ V, k ∈ U ∨ w.heap.size ≤ k

/-- Old blocks are kept. -/
abbrev Kept (w w' : World) : Prop := Below w.heap.size w w'

theorem Kept.refl (w : World) : Kept w w := Below.refl _ _
theorem Kept.trans {a b c : World} (h : Kept a b) (k : Kept b c) : Kept a c := Below.trans h (Below.mono k h.size)
theorem Kept.drewN {a b : World} (h : Kept a b) (n : Nat) : Kept a (b.drewN n) := ⟨h.os, h.tape, h.output, h.size, h.block⟩
theorem Kept.drew {a b : World} (h : Kept a b) : Kept a b.drew := ⟨h.os, h.tape, h.output, h.size, h.block⟩
theorem Kept.alloc {a b : World} (h : Kept a b) (o : Obj) : Kept a (b.alloc o) := Below.alloc h h.size o
theorem Kept.setCell {a b : World} (h : Kept a b) {p : Addr} (hp : a.heap.size ≤ p.block) (u : Value) : Kept a (b.setCell p u) := Below.setCell h hp u
theorem Kept.grown {a b c : World} {row : Option Nat} (h : Kept a b) (hg : b.grownBy c row) (hr : ∀ k, row = some k → a.heap.size ≤ k) : Kept a c := Below.grown h hg h.size hr

theorem Row.nil (V : List Nat) (w : World) (A : Option Addr) : Row V w A [] := fun h => absurd h (by simp)
/-- Old blocks are kept; new ones may be shut out. -/
theorem Row.go {V U : List Nat} {w w' : World} {A : Option Addr} {xs : List Value} (h : Row V w A xs) (hk : Kept w w') (hU : Ext U w V) : Row U w' A xs := fun hx => by
  obtain ⟨b, o, e, hb, hv, hc⟩ := h hx
  refine ⟨b, o, e, Nat.lt_of_lt_of_le hb hk.size, fun hm => ?_, fun j u hu => ?_⟩
  · rcases hU b hm with h1 | h1
    · exact hv h1
    · omega
  · rw [hk.cell (p := ⟨b, o + j, none⟩) hb]
    exact hc j u hu
theorem Ext.refl (V : List Nat) (w : World) : Ext V w V := fun _ h => .inl h
theorem Ext.nil (V : List Nat) (w : World) : Ext [] w V := fun _ h => by cases h
theorem Ext.cons {V U : List Nat} {w : World} {k : Nat} (hk : w.heap.size ≤ k) (h : Ext V w U) : Ext (k :: V) w U := fun j hj => by
  rcases List.mem_cons.1 hj with rfl | hj
  · exact .inr hk
  · exact h j hj
theorem Old.cons {V : List Nat} {w : World} {k : Nat} (hk : k < w.heap.size) (h : Old V w) : Old (k :: V) w := fun j hj => by
  rcases List.mem_cons.1 hj with rfl | hj
  · exact hk
  · exact h j hj
theorem Old.go {V : List Nat} {w w' : World} (h : Old V w) (hk : Kept w w') : Old V w' := fun j hj => Nat.lt_of_lt_of_le (h j hj) hk.size
theorem Row.kept {V : List Nat} {w w' : World} {A : Option Addr} {xs : List Value} (h : Row V w A xs) (hk : Kept w w') : Row V w' A xs := h.go hk (Ext.refl _ _)
theorem Row.put {V : List Nat} {w : World} {A : Option Addr} {xs : List Value} (h : Row V w A xs) {p : Addr} (hp : p.block ∈ V) (u : Value) : Row V (w.setCell p u) A xs := fun hx => by
  obtain ⟨b, o, e, hb, hv, hc⟩ := h hx
  refine ⟨b, o, e, by simpa [World.setCell] using hb, hv, fun j u' hu => ?_⟩
  rw [World.cell?_setCell_other w p _ u (fun e => hv (by subst e; exact hp))]
  exact hc j u' hu
theorem Row.at_ {V : List Nat} {w : World} {A : Option Addr} {xs : List Value} (h : Row V w A xs) {k : Nat} (hk : k < xs.length) :
    ∃ b o, A = some ⟨b, o, none⟩ ∧ b < w.heap.size ∧ b ∉ V ∧ w.cell? ⟨b, o + k, none⟩ = some xs[k] := by
  obtain ⟨b, o, e, hb, hv, hc⟩ := h (by omega)
  exact ⟨b, o, e, hb, hv, hc k _ (List.getElem?_eq_getElem hk)⟩

/-- A block that is known whole, and of which nothing is frozen. -/
def Own (w : World) (g : Nat) (t : TypeId) (cs : List Value) : Prop := w.heap[g]? = some (.cells cs.toArray t (0, 0))

section
variable {w w' : World} {g : Nat} {t : TypeId} {cs : List Value}
theorem Own.lt (h : Own w g t cs) : g < w.heap.size := by
  rcases Nat.lt_or_ge g w.heap.size with hlt | hge
  · exact hlt
  · unfold Own at h; rw [Array.getElem?_eq_none hge] at h; cases h
theorem Own.cell? (h : Own w g t cs) (i : Nat) : w.cell? ⟨g, i, none⟩ = cs[i]? := by
  have := cell_of_row w g i cs.toArray t (0, 0) h
  simpa using this
theorem Own.cell (h : Own w g t cs) {i : Nat} (hi : i < cs.length) : w.cell? ⟨g, i, none⟩ = some cs[i] := by rw [h.cell?, List.getElem?_eq_getElem hi]
theorem Own.frozen (h : Own w g t cs) (i : Nat) : w.frozen? ⟨g, i, none⟩ = false := by
  unfold Own at h
  simp [World.frozen?, h]
theorem Own.new (w : World) (t : TypeId) (cs : List Value) : Own (w.alloc (.cells cs.toArray t)) w.heap.size t cs := heap_alloc_new w _
theorem Own.newAt (w : World) (n : Nat) (t : TypeId) (cs : List Value) (hn : n = w.heap.size) : Own (w.alloc (.cells cs.toArray t)) n t cs := by subst hn; exact Own.new w t cs
theorem Own.new1 (w : World) (o : Obj) (t : TypeId) (cs : List Value) : Own ((w.alloc o).alloc (.cells cs.toArray t)) (w.heap.size + 1) t cs := by
  have := Own.new (w.alloc o) t cs; rwa [World.size_alloc] at this
theorem Own.new2 (w : World) (o o' : Obj) (t : TypeId) (cs : List Value) : Own (((w.alloc o).alloc o').alloc (.cells cs.toArray t)) (w.heap.size + 1 + 1) t cs := by
  have := Own.new ((w.alloc o).alloc o') t cs; rwa [World.size_alloc, World.size_alloc] at this
theorem Own.new3 (w : World) (o o' o'' : Obj) (t : TypeId) (cs : List Value) : Own ((((w.alloc o).alloc o').alloc o'').alloc (.cells cs.toArray t)) (w.heap.size + 1 + 1 + 1) t cs := by
  have := Own.new (((w.alloc o).alloc o').alloc o'') t cs; rwa [World.size_alloc, World.size_alloc, World.size_alloc] at this
theorem Own.drew (h : Own w g t cs) : Own w.drew g t cs := h
theorem Own.drewN (h : Own w g t cs) (n : Nat) : Own (w.drewN n) g t cs := h
theorem Own.alloc (h : Own w g t cs) (o : Obj) : Own (w.alloc o) g t cs := (Below.heap_alloc w o g h.lt).trans h
theorem Own.set_ (h : Own w g t cs) (i : Nat) (u : Value) : Own (w.setCell ⟨g, i, none⟩ u) g t (cs.set i u) := by
  unfold Own at h ⊢
  simp [World.setCell, Array.getElem?_modify, h]
theorem Own.far (h : Own w g t cs) {p : Addr} (hp : g ≠ p.block) (u : Value) : Own (w.setCell p u) g t cs := (Below.heap_setCell w p u g hp).trans h
theorem Own.below {B : Nat} (h : Own w g t cs) (hb : Below B w w') (hg : g < B) : Own w' g t cs := (hb.block g hg).trans h
theorem Own.kept (h : Own w g t cs) (hb : Kept w w') : Own w' g t cs := (hb.block g h.lt).trans h
theorem Own.grown {row : Option Nat} (h : Own w g t cs) (hb : w.grownBy w' row) (hg : some g ≠ row) : Own w' g t cs := (hb.block g h.lt hg).trans h
theorem Own.two {x y : Value} (h : Own w g t [x, y]) : w.cell? ⟨g, 0, none⟩ = some x ∧ w.cell? ⟨g, 1, none⟩ = some y ∧ w.frozen? ⟨g, 0, none⟩ = false ∧ w.frozen? ⟨g, 1, none⟩ = false :=
  ⟨h.cell? 0, h.cell? 1, h.frozen 0, h.frozen 1⟩
theorem Own.one {x : Value} (h : Own w g t [x]) : w.cell? ⟨g, 0, none⟩ = some x ∧ w.frozen? ⟨g, 0, none⟩ = false := ⟨h.cell? 0, h.frozen 0⟩
theorem Own.three {x y z : Value} (h : Own w g t [x, y, z]) : w.cell? ⟨g, 0, none⟩ = some x ∧ w.cell? ⟨g, 1, none⟩ = some y ∧ w.cell? ⟨g, 2, none⟩ = some z ∧ w.frozen? ⟨g, 0, none⟩ = false ∧ w.frozen? ⟨g, 1, none⟩ = false ∧ w.frozen? ⟨g, 2, none⟩ = false :=
  ⟨h.cell? 0, h.cell? 1, h.cell? 2, h.frozen 0, h.frozen 1, h.frozen 2⟩
theorem Own.put2 {x y : Value} (h : Own w g t [x, y]) (a b : Value) : Own ((w.setCell ⟨g, 0, none⟩ a).setCell ⟨g, 1, none⟩ b) g t [a, b] := (h.set_ 0 a).set_ 1 b
theorem Own.put3 {x y z : Value} (h : Own w g t [x, y, z]) (a b c : Value) : Own (((w.setCell ⟨g, 0, none⟩ a).setCell ⟨g, 1, none⟩ b).setCell ⟨g, 2, none⟩ c) g t [a, b, c] := ((h.set_ 0 a).set_ 1 b).set_ 2 c
theorem Own.row {V : List Nat} (h : Own w g t cs) (hV : g ∉ V) : Row V w (some ⟨g, 0, none⟩) cs := fun _ => ⟨g, 0, rfl, h.lt, hV, fun j u hu => by rw [Nat.zero_add, h.cell?, hu]⟩
end

theorem madeCells_one (v : Value) (n : Nat) : madeCells #[v] n = Array.replicate n v := by
  apply Array.ext
  · simp [madeCells]
  · intro i h1 h2; simp [madeCells, Nat.mod_one]

theorem setRow_alloc (W : World) (cur cs : Array Value) (t : TypeId) : (W.alloc (.cells cur t)).setRow W.heap.size cs = W.alloc (.cells cs t) := by
  have e : ((W.heap.push (.cells cur t)).modify W.heap.size fun
      | .cells _ elem frozen => .cells cs elem frozen
      | o => o) = W.heap.push (.cells cs t) := by
    apply Array.ext_getElem?
    intro i
    rw [Array.getElem?_modify, Array.getElem?_push, Array.getElem?_push]
    by_cases hi : i = W.heap.size
    · subst hi; simp
    · rw [if_neg (Ne.symm hi), if_neg hi, if_neg hi]
  show World.mk _ _ _ _ _ = World.mk _ _ _ _ _
  congr 1

/-- 'copy' of a whole row into a new block of just that length (one cell an element). -/
theorem run_copy_new {P : Program} (W : World) (dT ty elem : TypeId) (cur : Array Value) (t : TypeId) (b o c : Nat) (cs : List Value)
    (hu : P.underlying dT = some (.slice elem)) (hs : (P.info? elem).map (·.size) = some 1) (hcur : cur.size = cs.length)
    (hb : b < W.heap.size) (hsrc : ∀ j v, cs[j]? = some v → W.cell? ⟨b, o + j, none⟩ = some v) (h1 : ∀ v ∈ cs, v.oneCell' = true) :
    (Builtin.copy_ #[dT, dT] ty #[.slice (some ⟨W.heap.size, 0, none⟩) cs.length cs.length, .slice (some ⟨b, o, none⟩) cs.length c]).run P (W.alloc (.cells cur t)) =
      .ok (goInt cs.length) (W.alloc (.cells cs.toArray t)) := by
  have hadd : ∀ j, (⟨b, o, none⟩ : Addr).add j = ⟨b, o + j, none⟩ := fun j => by unfold Addr.add; split <;> simp_all
  have h := run_copy_row (P := P) (W.alloc (.cells cur t)) dT dT ty elem W.heap.size 0 cs.length cs.length ⟨b, o, none⟩ cs.length c cur t cs hu hs (heap_alloc_new W _) (by simp) (fun j v hv => by
    rw [hadd, World.cell?_alloc_lt _ _ _ hb]; exact hsrc j v hv) (by omega) h1
  rw [h]
  congr 1
  simp only [List.take_zero, List.nil_append, Nat.zero_add]
  rw [List.drop_of_length_le (by simp; omega), List.append_nil]
  exact setRow_alloc W cur cs.toArray t

theorem bne_t {a b : Int} (h : a ≠ b) : (a != b) = true := by simpa using h
theorem bne_f {a b : Int} (h : a = b) : (a != b) = false := by simpa using h
theorem beq_t {a b : Int} (h : a = b) : (a == b) = true := by simpa using h
theorem beq_f {a b : Int} (h : a ≠ b) : (a == b) = false := by simpa using h
theorem ret_bool {a b : Bool} (h : a = b) : Ending.returned (.bool a) = .returned (.bool b) := by rw [h]
theorem ret_int {k : IntKind} {a b : Int} (h : a = b) : Ending.returned (.int k a) = .returned (.int k b) := by rw [h]

end Go.Proofs.YtagpimahicgkmaaDoor

/-! The disk in plain Lean: sectors, pending writes; when it is right. -/
namespace Go.Proofs.YtagpimahicgkmaaDoor
open Go.RowKit

structure Wr where
  at_ : Int
  data : ByteArray
structure Dk where
  sec : List ByteArray
  cache : List Wr

def strs (l : List ByteArray) : List Value := l.map Value.string
def wrs (l : List Wr) : List Value := l.flatMap fun x => [.int .i64 x.at_, .string x.data]

theorem strs_length (l : List ByteArray) : (strs l).length = l.length := by simp [strs]
theorem wrs_length (l : List Wr) : (wrs l).length = l.length * 2 := by
  induction l with
  | nil => rfl
  | cons a l ih => simp only [wrs, List.flatMap_cons, List.length_append] at *; simp [ih]; omega
theorem strs_set (l : List ByteArray) (m : Nat) (s : ByteArray) : strs (l.set m s) = (strs l).set m (.string s) := by simp [strs, List.map_set]
theorem strs_at {l : List ByteArray} {k : Nat} (h : k < l.length) : (strs l)[k]? = some (.string l[k]) := by simp [strs, h]
theorem wrs_at {l : List Wr} {k : Nat} (h : k < l.length) : (wrs l)[k * 2]? = some (.int .i64 l[k].at_) ∧ (wrs l)[k * 2 + 1]? = some (.string l[k].data) := by
  induction l generalizing k with
  | nil => simp at h
  | cons a l ih =>
    cases k with
    | zero => simp [wrs]
    | succ k =>
      have := ih (k := k) (by simpa using h)
      simp only [wrs, List.flatMap_cons, List.getElem_cons_succ] at *
      rw [show (k + 1) * 2 = k * 2 + 2 by omega, show k * 2 + 2 + 1 = k * 2 + 1 + 2 by omega]
      simpa using this

/-- A slice of strings reads as l. -/
def StrsAt (V : List Nat) (w : World) (v : Value) (l : List ByteArray) : Prop :=
  ∃ A c, v = .slice A l.length c ∧ l.length ≤ c ∧ c ≤ maxLen ∧ Row V w A (strs l)
def WrsAt (V : List Nat) (w : World) (v : Value) (l : List Wr) : Prop :=
  ∃ A c, v = .slice A l.length c ∧ l.length ≤ c ∧ c ≤ maxLen ∧ Row V w A (wrs l)
def DkAt (V : List Nat) (w : World) (v : Value) (d : Dk) : Prop :=
  ∃ s c, v = .agg #[s, c] ∧ StrsAt V w s d.sec ∧ WrsAt V w c d.cache

section
variable {V U : List Nat} {w w' : World} {v : Value}
theorem StrsAt.go {l : List ByteArray} (h : StrsAt V w v l) (k : Kept w w') (hU : Ext U w V) : StrsAt U w' v l := by
  obtain ⟨A, c, e, h1, h2, h3⟩ := h; exact ⟨A, c, e, h1, h2, h3.go k hU⟩
theorem WrsAt.go {l : List Wr} (h : WrsAt V w v l) (k : Kept w w') (hU : Ext U w V) : WrsAt U w' v l := by
  obtain ⟨A, c, e, h1, h2, h3⟩ := h; exact ⟨A, c, e, h1, h2, h3.go k hU⟩
theorem DkAt.go {d : Dk} (h : DkAt V w v d) (k : Kept w w') (hU : Ext U w V) : DkAt U w' v d := by
  obtain ⟨s, c, e, h1, h2⟩ := h; exact ⟨s, c, e, h1.go k hU, h2.go k hU⟩
theorem StrsAt.put {l : List ByteArray} (h : StrsAt V w v l) {p : Addr} (hp : p.block ∈ V) (u : Value) : StrsAt V (w.setCell p u) v l := by
  obtain ⟨A, c, e, h1, h2, h3⟩ := h; exact ⟨A, c, e, h1, h2, h3.put hp u⟩
theorem WrsAt.put {l : List Wr} (h : WrsAt V w v l) {p : Addr} (hp : p.block ∈ V) (u : Value) : WrsAt V (w.setCell p u) v l := by
  obtain ⟨A, c, e, h1, h2, h3⟩ := h; exact ⟨A, c, e, h1, h2, h3.put hp u⟩
theorem DkAt.put {d : Dk} (h : DkAt V w v d) {p : Addr} (hp : p.block ∈ V) (u : Value) : DkAt V (w.setCell p u) v d := by
  obtain ⟨s, c, e, h1, h2⟩ := h; exact ⟨s, c, e, h1.put hp u, h2.put hp u⟩
theorem DkAt.weak {d : Dk} (h : DkAt V w v d) (hU : ∀ k ∈ U, k ∈ V) : DkAt U w v d := h.go (Kept.refl _) (fun k hk => .inl (hU k hk))
end

theorem DkAt.form {V : List Nat} {w : World} {s c : Value} {d : Dk} (h : DkAt V w (.agg #[s, c]) d) : ∃ A k A' k', s = .slice A d.sec.length k ∧ c = .slice A' d.cache.length k' := by
  obtain ⟨s', c', e, ⟨A, k, rfl, _⟩, ⟨A', k', rfl, _⟩⟩ := h
  simp only [Value.agg.injEq, Array.mk.injEq, List.cons.injEq, and_true] at e
  exact ⟨A, k, A', k', e.1, e.2⟩
theorem DkAt.rows {V : List Nat} {w : World} {A A' : Option Addr} {n n' k k' : Nat} {d : Dk} (h : DkAt V w (.agg #[.slice A n k, .slice A' n' k']) d) :
    d.sec.length = n ∧ d.cache.length = n' ∧ n ≤ k ∧ k ≤ maxLen ∧ n' ≤ k' ∧ k' ≤ maxLen ∧ Row V w A (strs d.sec) ∧ Row V w A' (wrs d.cache) := by
  obtain ⟨s, c, e, ⟨B, j, rfl, h1, h2, h3⟩, ⟨B', j', rfl, h4, h5, h6⟩⟩ := h
  simp only [Value.agg.injEq, Array.mk.injEq, List.cons.injEq, and_true, Value.slice.injEq] at e
  obtain ⟨⟨rfl, rfl, rfl⟩, ⟨rfl, rfl, rfl⟩⟩ := e
  exact ⟨rfl, rfl, h1, h2, h4, h5, h3, h6⟩
theorem strsAt_own {V : List Nat} {w : World} {g : Nat} {t : TypeId} {l : List ByteArray} {n : Nat} (h : Own w g t (strs l)) (hn : l.length = n) (hm : n ≤ maxLen) (hV : g ∉ V) : StrsAt V w (.slice (some ⟨g, 0, none⟩) n n) l := by
  subst hn; exact ⟨_, _, rfl, Nat.le_refl _, hm, h.row hV⟩
theorem wrsAt_nil (V : List Nat) (w : World) : WrsAt V w (.slice none 0 0) [] := ⟨_, _, rfl, Nat.le_refl _, Nat.zero_le _, Row.nil _ _ _⟩
theorem strsAt_nil (V : List Nat) (w : World) : StrsAt V w (.slice none 0 0) [] := ⟨_, _, rfl, Nat.le_refl _, Nat.zero_le _, Row.nil _ _ _⟩

def fitsB (x : Wr) (n : Nat) : Bool := decide (0 ≤ x.at_) && decide (x.at_ < n) && x.data.size == 64
def rightB (d : Dk) : Bool := decide (1 ≤ d.sec.length) && decide (d.sec.length ≤ 1024) && d.sec.all (·.size == 64) && d.cache.all (fitsB · d.sec.length)

theorem all_take_succ {α : Type} (p : α → Bool) (l : List α) (k : Nat) (h : k < l.length) (ha : (l.take k).all p = true) (hp : p l[k] = true) : (l.take (k + 1)).all p = true := by
  rw [List.take_succ_eq_append_getElem h, List.all_append, ha]; simp [hp]
theorem all_of_take {α : Type} (p : α → Bool) (l : List α) (k : Nat) (h : l.length ≤ k) (ha : (l.take k).all p = true) : l.all p = true := by
  rwa [List.take_of_length_le h] at ha
theorem all_not {α : Type} (p : α → Bool) (l : List α) (k : Nat) (h : k < l.length) (hp : p l[k] = false) : l.all p = false := by
  rw [List.all_eq_false]; exact ⟨l[k], List.getElem_mem h, by simp [hp]⟩

end Go.Proofs.YtagpimahicgkmaaDoor

/-! Walks: disk.fits, disk.Right. -/
namespace Go.Proofs.YtagpimahicgkmaaDoor
open Go.RowKit

set_option maxHeartbeats 400000 in
theorem fits_any (x : Wr) (n : Nat) (w : World) :
    Calls Tryd.prog 63 #[.agg #[.int .i64 x.at_, .string x.data], .int .i64 n] w fun e w' => e = .returned (.bool (fitsB x n)) ∧ Kept w w' := by
  obtain ⟨a, s⟩ := x
  show Calls _ _ #[.agg #[.int .i64 a, .string s], _] w _
  by_cases h1 : 0 ≤ a
  · by_cases h2 : a < n
    · go_enter Tryd.func63, Tryd.ntmps63
      go_wp2
      go_ret
      exact ⟨ret_bool (by rw [Bool.eq_iff_iff]; simp [fitsB, h1, h2]; omega), (Kept.refl w).alloc _⟩
    · go_enter Tryd.func63, Tryd.ntmps63
      go_wp2
      go_ret
      exact ⟨ret_bool (by simp [fitsB]; omega), (Kept.refl w).alloc _⟩
  · go_enter Tryd.func63, Tryd.ntmps63
    go_wp2
    go_ret
    exact ⟨ret_bool (by simp [fitsB]; omega), (Kept.refl w).alloc _⟩

theorem right_sec {sec : List ByteArray} {cache : List Wr} {k : Nat} (h : k < sec.length) (hp : sec[k].size ≠ 64) : false = rightB ⟨sec, cache⟩ := by
  have : sec.all (·.size == 64) = false := all_not _ _ _ h (by simpa using hp)
  simp only [rightB, this, Bool.and_false, Bool.false_and]

theorem right_cache {sec : List ByteArray} {cache : List Wr} {k : Nat} (h : k < cache.length) (hp : fitsB cache[k] sec.length = false) : false = rightB ⟨sec, cache⟩ := by
  have : cache.all (fitsB · sec.length) = false := all_not _ _ _ h hp
  simp only [rightB, this, Bool.and_false]
theorem right_len {sec : List ByteArray} {cache : List Wr} (h : sec.length < 1 ∨ 1024 < sec.length) : false = rightB ⟨sec, cache⟩ := by
  rcases h with h | h
  · have : decide (1 ≤ sec.length) = false := decide_eq_false (by omega)
    simp only [rightB, this, Bool.false_and]
  · have : decide (sec.length ≤ 1024) = false := decide_eq_false (by omega)
    simp only [rightB, this, Bool.false_and, Bool.and_false]
theorem right_true {sec : List ByteArray} {cache : List Wr} (h1 : 1 ≤ sec.length) (h2 : sec.length ≤ 1024) (h3 : sec.all (·.size == 64) = true) (h4 : cache.all (fitsB · sec.length) = true) : true = rightB ⟨sec, cache⟩ := by
  simp only [rightB, h1, h2, h3, h4, decide_true, Bool.and_self]

set_option maxHeartbeats 400000 in
theorem right_any (V : List Nat) (d : Dk) (v : Value) (w : World) (h : DkAt V w v d) :
    Calls Tryd.prog 27 #[v] w fun e w' => e = .returned (.bool (rightB d)) ∧ Kept w w' := by
  obtain ⟨_, _, rfl, ⟨A, c, rfl, hl, hm, hr⟩, ⟨A', c', rfl, hl', hm', hr'⟩⟩ := h
  obtain ⟨sec, cache⟩ := d
  simp only at *
  unfold maxLen at hm hm'
  by_cases h1 : 1 ≤ sec.length
  · by_cases h2 : sec.length ≤ 1024
    · obtain ⟨b, o, rfl, hb, _, hc⟩ := hr (by rw [strs_length]; omega)
      have HC := Lib.hid hc
      clear hc hr
      have HR' := Lib.hid hr'
      clear hr'
      go_enter Tryd.func27, Tryd.ntmps27
      go_wp2
      go_loop [20] (fun i => ∃ k : Nat, k ≤ sec.length ∧ i = .int .i64 k ∧ Hid ((sec.take k).all (·.size == 64) = true)) (fun i => sec.length - (intOf i).toNat)
      case atStart => exact ⟨0, Nat.zero_le _, rfl, rfl⟩
      case round =>
        obtain ⟨k, hk, rfl, HA⟩ := hrel
        by_cases hlt : k < sec.length
        · have hcell := HC.out k _ (strs_at hlt)
          have hcell' : (w.alloc (Obj.cells #[Value.slice (some ⟨b, o, none⟩) sec.length c, Value.slice A' cache.length c'] 25)).cell? ⟨b, o + k, none⟩ = some (.string sec[k]) := by
            rw [World.cell?_alloc_lt _ _ _ hb]; exact hcell
          generalize hs : sec[k] = s at *
          have HS := Lib.hid hs
          clear hs hcell
          by_cases hq : s.size = 64
          · have t1 := bne_f (a := s.size) (b := 64) (by omega)
            have HQ := Lib.hid hq
            clear hq
            go_wp2
            go_round
            case rel => exact ⟨k + 1, by omega, by go_num, all_take_succ _ _ _ hlt HA.out (by rw [HS.out]; simpa using HQ.out)⟩
            case measure => simp [intOf]; omega
          · have t1 := bne_t (a := s.size) (b := 64) (by omega)
            go_wp2
            go_ret
            exact ⟨ret_bool (right_sec hlt (by rw [HS.out]; exact hq)), (Kept.refl w).alloc _⟩
        · have HS : Hid (sec.all (·.size == 64) = true) := all_of_take _ _ k (by omega) HA.out
          clear HA
          go_wp2
          go_loopw [31] (fun i wr => ∃ k : Nat, k ≤ cache.length ∧ i = .int .i64 k ∧ Hid ((cache.take k).all (fitsB · sec.length) = true) ∧ Kept (w.alloc (Obj.cells #[Value.slice (some ⟨b, o, none⟩) sec.length c, Value.slice A' cache.length c'] 25)) wr) (fun i _ => cache.length - (intOf i).toNat)
          case atStart => exact ⟨0, Nat.zero_le _, rfl, rfl, Kept.refl _⟩
          case round =>
            obtain ⟨k', hk', rfl, HA, hkept⟩ := hrel
            by_cases hlt' : k' < cache.length
            · obtain ⟨b', o', rfl, hb', _, hc'⟩ := HR'.out (by rw [wrs_length]; omega)
              have hkw : Kept w wr := ((Kept.refl w).alloc _).trans hkept
              have g1 : wr.cell? ⟨b', o' + k' * 2, none⟩ = some (.int .i64 cache[k'].at_) := (hkw.cell hb').trans (hc' _ _ (wrs_at hlt').1)
              have g2 : wr.cell? ⟨b', o' + k' * 2 + 1, none⟩ = some (.string cache[k'].data) := (hkw.cell (p := ⟨b', _, none⟩) hb').trans (hc' _ _ (wrs_at hlt').2)
              have g3 : wr.cell? ⟨w.heap.size, 0, none⟩ = some (Value.slice (some ⟨b, o, none⟩) sec.length c) := (hkept.cell (p := ⟨w.heap.size, 0, none⟩) (by simp)).trans (by simp [go_sem])
              have hsz : w.heap.size < wr.heap.size := Nat.lt_of_lt_of_le (by simp) hkept.size
              clear hc'
              generalize hx : cache[k'] = x at *
              have HX := Lib.hid hx
              clear hx
              rcases Bool.eq_false_or_eq_true (fitsB x sec.length) with hf | hf
              · go_wp2_with (go_at_call 63; refine (fits_any _ _ _).mono ?_; rintro e w1 ⟨rfl, hk1⟩)
                go_roundw
                case rel => exact ⟨k' + 1, by omega, by go_num, all_take_succ _ _ _ hlt' HA.out (by rw [HX.out]; exact hf), (hkept.alloc _).trans hk1⟩
                case measure => simp [intOf]; omega
              · go_wp2_with (go_at_call 63; refine (fits_any _ _ _).mono ?_; rintro e w1 ⟨rfl, hk1⟩)
                go_ret
                exact ⟨ret_bool (right_cache hlt' (by rw [HX.out]; exact hf)), (hkw.alloc _).trans hk1⟩
            · have HB : Hid (cache.all (fitsB · sec.length) = true) := all_of_take _ _ k' (by omega) HA.out
              go_wp2
              go_ret
              exact ⟨ret_bool (right_true h1 h2 HS.out HB.out), ((Kept.refl w).alloc _).trans hkept⟩
    · go_enter Tryd.func27, Tryd.ntmps27
      go_wp2
      go_ret
      exact ⟨ret_bool (right_len (by omega)), (Kept.refl w).alloc _⟩
  · go_enter Tryd.func27, Tryd.ntmps27
    go_wp2
    go_ret
    exact ⟨ret_bool (right_len (by omega)), (Kept.refl w).alloc _⟩
end Go.Proofs.YtagpimahicgkmaaDoor

/-! Walks: disk.perform, disk.Flush, disk.Crash. -/
namespace Go.Proofs.YtagpimahicgkmaaDoor
open Go.RowKit

/-- The first k pending writes, those that p chooses, are performed. -/
def perfTo (l : List ByteArray) (ws : List Wr) (p : Nat → Bool) : Nat → List ByteArray
  | 0 => l
  | k + 1 => match ws[k]? with
    | some x => if p k then (perfTo l ws p k).set x.at_.toNat x.data else perfTo l ws p k
    | none => perfTo l ws p k
def perf (d : Dk) (p : Nat → Bool) : Dk := ⟨perfTo d.sec d.cache p d.cache.length, []⟩

theorem perfTo_length (l : List ByteArray) (ws : List Wr) (p : Nat → Bool) (k : Nat) : (perfTo l ws p k).length = l.length := by
  induction k with
  | zero => rfl
  | succ k ih =>
    simp only [perfTo]
    split
    · split <;> simp [ih]
    · exact ih
theorem perfTo_yes {l : List ByteArray} {ws : List Wr} {p : Nat → Bool} {k : Nat} (h : k < ws.length) (hp : p k = true) : perfTo l ws p (k + 1) = (perfTo l ws p k).set ws[k].at_.toNat ws[k].data := by
  simp [perfTo, List.getElem?_eq_getElem h, hp]
theorem perfTo_no {l : List ByteArray} {ws : List Wr} {p : Nat → Bool} {k : Nat} (h : k < ws.length) (hp : p k = false) : perfTo l ws p (k + 1) = perfTo l ws p k := by
  simp [perfTo, List.getElem?_eq_getElem h, hp]

theorem Tryd.infoStr : (Tryd.prog.info? 9).map (fun i => (i.zero, i.size, i.bytes)) = some (some (.string .empty), 1, 16) := by kernel_rfl

theorem Tryd.sizeStr : (Tryd.prog.info? 9).map (·.size) = some 1 := by kernel_rfl

theorem run_mkStrs (n : Nat) (hn : n ≤ 1024) (W : World) : (Instr.makeSlice 22 (.int .i64 (n : Int)) (.int .i64 (n : Int))).run Tryd.prog W =
    .ok (.slice (some ⟨W.heap.size, 0, none⟩) n n) (W.alloc (.cells (Array.replicate n (Value.string .empty)) 9)) := by
  obtain ⟨i, hi, hz, hs, hb⟩ := info_parts Tryd.infoStr
  have := run_make (P := Tryd.prog) W 22 9 i _ Tryd.underlying22 hi hz .i64 .i64 n n (by omega) (by omega) (by rw [hb]; omega) (by omega)
  rw [this, hs]
  simp [Value.cells, madeCells_one]

theorem right_parts {d : Dk} (h : rightB d = true) : 1 ≤ d.sec.length ∧ d.sec.length ≤ 1024 ∧ (∀ s ∈ d.sec, s.size = 64) ∧ ∀ x ∈ d.cache, 0 ≤ x.at_ ∧ x.at_ < d.sec.length ∧ x.data.size = 64 := by
  simp only [rightB, Bool.and_eq_true, decide_eq_true_eq, List.all_eq_true, beq_iff_eq, fitsB] at h
  exact ⟨h.1.1.1, h.1.1.2, h.1.2, fun x hx => ⟨(h.2 x hx).1.1, (h.2 x hx).1.2, (h.2 x hx).2⟩⟩

theorem strs_one (l : List ByteArray) : ∀ v ∈ strs l, v.oneCell' = true := by
  intro v hv; simp only [strs, List.mem_map] at hv; obtain ⟨s, _, rfl⟩ := hv; rfl

set_option maxRecDepth 100000 in
set_option maxHeartbeats 400000 in
theorem performAll_any (V : List Nat) (d : Dk) (v : Value) (w : World) (h : DkAt V w v d) (hV : Old V w) (hr : rightB d = true) :
    Calls Tryd.prog 64 #[v, .func (.func 81) #[] #[]] w fun e w' => ∃ s' c', e = .returned (.agg #[s', c']) ∧ DkAt V w' (.agg #[s', c']) (perf d fun _ => true) ∧ Kept w w' := by
  obtain ⟨h1, h2, _, hx⟩ := right_parts hr
  obtain ⟨_, _, rfl, ⟨A, c, rfl, hl, hm, hr⟩, ⟨A', c', rfl, hl', hm', hr'⟩⟩ := h
  obtain ⟨sec, cache⟩ := d
  simp only at *
  unfold maxLen at hm hm'
  obtain ⟨b, o, rfl, hb, _, hc⟩ := hr (by rw [strs_length]; omega)
  have hmk := run_mkStrs sec.length h2
  have hcp := run_copy_new (P := Tryd.prog) ((w.alloc (Obj.cells #[Value.slice (some ⟨b, o, none⟩) sec.length c, Value.slice A' cache.length c'] 25)).alloc (Obj.cells #[Value.slice none 0 0, Value.slice none 0 0] 25)) 22 3 9 (Array.replicate sec.length (Value.string ByteArray.empty)) 9 b o c (strs sec) Tryd.underlying22 Tryd.sizeStr (by simp [strs_length]) (by simp; omega) (fun j v hv => by rw [World.cell?_alloc_lt _ _ _ (by simp; omega), World.cell?_alloc_lt _ _ _ hb]; exact hc j v hv) (strs_one sec)
  rw [strs_length] at hcp
  simp only [World.size_alloc] at hcp
  have HX := Lib.hid hx
  have HR' := Lib.hid hr'
  clear hc hr hr' hx
  go_enter Tryd.func64, Tryd.ntmps64
  go_wp2_with fail
  go_loopw [19] (fun i wr => ∃ k : Nat, k ≤ cache.length ∧ i = .int .i64 k ∧ Own wr (w.heap.size + 1 + 1) 9 (strs (perfTo sec cache (fun _ => true) k)) ∧ Own wr (w.heap.size + 1) 25 [Value.slice none 0 0, Value.slice none 0 0] ∧ Kept w wr) (fun i _ => cache.length - (intOf i).toNat)
  case atStart => exact ⟨0, Nat.zero_le _, rfl, (by simpa [perfTo] using Own.new ((w.alloc _).alloc _) _ _), (by simpa using (Own.new (w.alloc _) _ [_, _]).alloc _), (((Kept.refl w).alloc _).alloc _).alloc _⟩
  case round =>
    obtain ⟨k, hk, rfl, ho1, ho2, hkept⟩ := hrel
    have HO1 := Lib.hid ho1
    have HO2 := Lib.hid ho2
    by_cases hlt : k < cache.length
    · obtain ⟨b', o', rfl, hb', _, hc'⟩ := HR'.out (by rw [wrs_length]; omega)
      have g1 : wr.cell? ⟨b', o' + k * 2, none⟩ = some (.int .i64 cache[k].at_) := (hkept.cell hb').trans (hc' _ _ (wrs_at hlt).1)
      have g2 : wr.cell? ⟨b', o' + k * 2 + 1, none⟩ = some (.string cache[k].data) := (hkept.cell (p := ⟨b', _, none⟩) hb').trans (hc' _ _ (wrs_at hlt).2)
      obtain ⟨x1, x2, x3⟩ := HX.out cache[k] (List.getElem_mem hlt)
      obtain ⟨m, hm⟩ := Int.eq_ofNat_of_zero_le x1
      have HY : Hid (perfTo sec cache (fun _ => true) (k + 1) = (perfTo sec cache (fun _ => true) k).set m cache[k].data) := by
        have := perfTo_yes (l := sec) (ws := cache) (p := fun _ => true) hlt rfl
        rw [hm] at this; exact this
      rw [hm] at g1 x2
      have hmn : m < sec.length := by omega
      have g3 : wr.cell? ⟨w.heap.size + 1 + 1, m, none⟩ = some (.string ((perfTo sec cache (fun _ => true) k)[m]'(by rw [perfTo_length]; exact hmn))) := by
        rw [ho1.cell?, strs_at]
      have g4 : wr.frozen? ⟨w.heap.size + 1 + 1, m, none⟩ = false := ho1.frozen m
      have hsz := ho1.lt
      clear hc' hm x1 x2 x3 ho1 ho2
      generalize cache[k].data = s at *
      go_wp2
      go_roundw
      case rel =>
        refine ⟨k + 1, by omega, by go_num, ?_, ?_, ?_⟩
        · rw [HY.out, strs_set]
          first | exact (HO1.out.alloc _).set_ _ _ | exact (HO1.out.set_ _ _).alloc _
        · first | exact (HO2.out.alloc _).far (by simp) _ | exact (HO2.out.far (by simp) _).alloc _
        · first | exact (hkept.alloc _).setCell (by simp; omega) _ | exact (hkept.setCell (by simp; omega) _).alloc _
      case measure => simp [intOf]; omega
    · obtain ⟨q1, q2, q3, q4⟩ := ho2.two
      have HK : Hid (k = cache.length) := by show k = _; omega
      clear ho1 ho2
      go_wp2
      have ho3 := HO2.out.put2 (Value.slice (some ⟨w.heap.size + 1 + 1, 0, none⟩) sec.length sec.length) (Value.slice none 0 0)
      obtain ⟨r1, r2, _, _⟩ := ho3.two
      refine bodyPost_ret (v := .agg #[Value.slice (some ⟨w.heap.size + 1 + 1, 0, none⟩) sec.length sec.length, .slice none 0 0]) (by simp [results, Tryd.results64, go_sem, r1, r2]) rfl ⟨_, _, rfl, ?_, ?_⟩
      · have ho4 := (HO1.out.far (p := ⟨w.heap.size + 1, 0, none⟩) (by simp) (Value.slice (some ⟨w.heap.size + 1 + 1, 0, none⟩) sec.length sec.length)).far (p := ⟨w.heap.size + 1, 1, none⟩) (by simp) (Value.slice none 0 0)
        rw [HK.out] at ho4
        exact ⟨_, _, rfl, strsAt_own ho4 (perfTo_length _ _ _ _) (by unfold maxLen; omega) (fun hh => by have := hV _ hh; omega), wrsAt_nil _ _⟩
      · exact (hkept.setCell (by simp) _).setCell (by simp) _
set_option maxRecDepth 100000 in
set_option maxHeartbeats 400000 in
theorem performSome_any (V : List Nat) (d : Dk) (v : Value) (w : World) (p : Nat → Bool) (pb kb : Nat) (h : DkAt V w v d) (hV : Old V w) (hr : rightB d = true) (hpb : pb < w.heap.size) (hkb : kb < w.heap.size) (hp : w.cell? ⟨pb, 0, none⟩ = some (.slice (some ⟨kb, 0, none⟩) d.cache.length d.cache.length)) (hkc : ∀ i, i < d.cache.length → w.cell? ⟨kb, i, none⟩ = some (.bool (p i))) :
    Calls Tryd.prog 64 #[v, .func (.func 65) #[] #[.pointer (some ⟨pb, 0, none⟩)]] w fun e w' => ∃ s' c', e = .returned (.agg #[s', c']) ∧ DkAt V w' (.agg #[s', c']) (perf d p) ∧ Kept w w' := by
  obtain ⟨h1, h2, _, hx⟩ := right_parts hr
  obtain ⟨_, _, rfl, ⟨A, c, rfl, hl, hm, hr⟩, ⟨A', c', rfl, hl', hm', hr'⟩⟩ := h
  obtain ⟨sec, cache⟩ := d
  simp only at *
  unfold maxLen at hm hm'
  obtain ⟨b, o, rfl, hb, _, hc⟩ := hr (by rw [strs_length]; omega)
  have hmk := run_mkStrs sec.length h2
  have hcp := run_copy_new (P := Tryd.prog) ((w.alloc (Obj.cells #[Value.slice (some ⟨b, o, none⟩) sec.length c, Value.slice A' cache.length c'] 25)).alloc (Obj.cells #[Value.slice none 0 0, Value.slice none 0 0] 25)) 22 3 9 (Array.replicate sec.length (Value.string ByteArray.empty)) 9 b o c (strs sec) Tryd.underlying22 Tryd.sizeStr (by simp [strs_length]) (by simp; omega) (fun j v hv => by rw [World.cell?_alloc_lt _ _ _ (by simp; omega), World.cell?_alloc_lt _ _ _ hb]; exact hc j v hv) (strs_one sec)
  rw [strs_length] at hcp
  simp only [World.size_alloc] at hcp
  have HX := Lib.hid hx
  have HP := Lib.hid hp
  have HKC := Lib.hid hkc
  have HR' := Lib.hid hr'
  clear hc hr hr' hx hp hkc
  go_enter Tryd.func64, Tryd.ntmps64
  go_wp2_with fail
  go_loopw [19] (fun i wr => ∃ k : Nat, k ≤ cache.length ∧ i = .int .i64 k ∧ Own wr (w.heap.size + 1 + 1) 9 (strs (perfTo sec cache p k)) ∧ Own wr (w.heap.size + 1) 25 [Value.slice none 0 0, Value.slice none 0 0] ∧ Kept w wr) (fun i _ => cache.length - (intOf i).toNat)
  case atStart => exact ⟨0, Nat.zero_le _, rfl, (by simpa [perfTo] using Own.new ((w.alloc _).alloc _) _ _), (by simpa using (Own.new (w.alloc _) _ [_, _]).alloc _), (((Kept.refl w).alloc _).alloc _).alloc _⟩
  case round =>
    obtain ⟨k, hk, rfl, ho1, ho2, hkept⟩ := hrel
    have HO1 := Lib.hid ho1
    have HO2 := Lib.hid ho2
    by_cases hlt : k < cache.length
    · obtain ⟨b', o', rfl, hb', _, hc'⟩ := HR'.out (by rw [wrs_length]; omega)
      have g1 : wr.cell? ⟨b', o' + k * 2, none⟩ = some (.int .i64 cache[k].at_) := (hkept.cell hb').trans (hc' _ _ (wrs_at hlt).1)
      have g2 : wr.cell? ⟨b', o' + k * 2 + 1, none⟩ = some (.string cache[k].data) := (hkept.cell (p := ⟨b', _, none⟩) hb').trans (hc' _ _ (wrs_at hlt).2)
      obtain ⟨x1, x2, x3⟩ := HX.out cache[k] (List.getElem_mem hlt)
      obtain ⟨m, hm⟩ := Int.eq_ofNat_of_zero_le x1
      have hmn : m < sec.length := by omega
      have g3 : wr.cell? ⟨w.heap.size + 1 + 1, m, none⟩ = some (.string ((perfTo sec cache p k)[m]'(by rw [perfTo_length]; exact hmn))) := by
        rw [ho1.cell?, strs_at]
      have g4 : wr.frozen? ⟨w.heap.size + 1 + 1, m, none⟩ = false := ho1.frozen m
      have hsz := ho1.lt
      have g5 : wr.cell? ⟨pb, 0, none⟩ = some (.slice (some ⟨kb, 0, none⟩) cache.length cache.length) := (hkept.cell (p := ⟨pb, 0, none⟩) hpb).trans HP.out
      have g6 : wr.cell? ⟨kb, k, none⟩ = some (.bool (p k)) := (hkept.cell (p := ⟨kb, k, none⟩) hkb).trans (HKC.out k hlt)
      have hpw : pb < wr.heap.size := Nat.lt_of_lt_of_le hpb hkept.size
      have hkw : kb < wr.heap.size := Nat.lt_of_lt_of_le hkb hkept.size
      rcases Bool.eq_false_or_eq_true (p k) with hpk | hpk
      · have HY : Hid (perfTo sec cache p (k + 1) = (perfTo sec cache p k).set m cache[k].data) := by
          have := perfTo_yes (l := sec) (ws := cache) (p := p) hlt hpk
          rw [hm] at this; exact this
        rw [hm] at g1
        rw [hpk] at g6
        clear hc' hm x1 x2 x3 ho1 ho2 hpk
        generalize cache[k].data = s at *
        go_wp2
        go_roundw
        case rel =>
          refine ⟨k + 1, by omega, by go_num, ?_, ?_, ?_⟩
          · rw [HY.out, strs_set]
            first | exact (HO1.out.alloc _).set_ _ _ | exact (HO1.out.set_ _ _).alloc _
          · first | exact (HO2.out.alloc _).far (by simp) _ | exact (HO2.out.far (by simp) _).alloc _
          · first | exact (hkept.alloc _).setCell (by simp; omega) _ | exact (hkept.setCell (by simp; omega) _).alloc _
        case measure => simp [intOf]; omega
      · have HY : Hid (perfTo sec cache p (k + 1) = perfTo sec cache p k) := perfTo_no (l := sec) (ws := cache) (p := p) hlt hpk
        rw [hm] at g1
        rw [hpk] at g6
        clear hc' hm x1 x2 x3 ho1 ho2 hpk
        generalize cache[k].data = s at *
        go_wp2
        go_roundw
        case rel => exact ⟨k + 1, by omega, by go_num, by rw [HY.out]; exact HO1.out.alloc _, HO2.out.alloc _, hkept.alloc _⟩
        case measure => simp [intOf]; omega
    · obtain ⟨q1, q2, q3, q4⟩ := ho2.two
      have HK : Hid (k = cache.length) := by show k = _; omega
      clear ho1 ho2
      go_wp2
      have ho3 := HO2.out.put2 (Value.slice (some ⟨w.heap.size + 1 + 1, 0, none⟩) sec.length sec.length) (Value.slice none 0 0)
      obtain ⟨r1, r2, _, _⟩ := ho3.two
      refine bodyPost_ret (v := .agg #[Value.slice (some ⟨w.heap.size + 1 + 1, 0, none⟩) sec.length sec.length, .slice none 0 0]) (by simp [results, Tryd.results64, go_sem, r1, r2]) rfl ⟨_, _, rfl, ?_, ?_⟩
      · have ho4 := (HO1.out.far (p := ⟨w.heap.size + 1, 0, none⟩) (by simp) (Value.slice (some ⟨w.heap.size + 1 + 1, 0, none⟩) sec.length sec.length)).far (p := ⟨w.heap.size + 1, 1, none⟩) (by simp) (Value.slice none 0 0)
        rw [HK.out] at ho4
        exact ⟨_, _, rfl, strsAt_own ho4 (perfTo_length _ _ _ _) (by unfold maxLen; omega) (fun hh => by have := hV _ hh; omega), wrsAt_nil _ _⟩
      · exact (hkept.setCell (by simp) _).setCell (by simp) _

def flushD (d : Dk) : Dk := if rightB d then perf d fun _ => true else d

set_option maxRecDepth 100000 in
set_option maxHeartbeats 400000 in
theorem flush_any (V : List Nat) (d : Dk) (v : Value) (w : World) (h : DkAt V w v d) (hV : Old V w) :
    Calls Tryd.prog 50 #[v] w fun e w' => ∃ s' c', e = .returned (.agg #[s', c']) ∧ DkAt V w' (.agg #[s', c']) (flushD d) ∧ Kept w w' := by
  have H := Lib.hid h
  obtain ⟨s, c, rfl, hs, hc⟩ := h
  clear hs hc
  rcases Bool.eq_false_or_eq_true (rightB d) with hr | hr
  · have HP := Lib.hid (fun U W v (hh : DkAt U W v d) (hu : Old U W) => performAll_any U d v W hh hu hr)
    go_enter Tryd.func50, Tryd.ntmps50
    go_wp2_with fail
    refine (right_any V d _ _ (H.out.go (((Kept.refl w).alloc _).alloc _) (Ext.refl _ _))).mono ?_
    rintro e w1 ⟨rfl, hk1⟩
    obtain ⟨q1, q2, _, _⟩ := (((Own.new w _ [s, c]).alloc _).kept hk1).two
    have HO2 := Lib.hid ((Own.new1 w _ _ [Value.slice none 0 0, Value.slice none 0 0]).kept hk1)
    go_wp2_with fail
    refine (HP.out ((w.heap.size + 1) :: V) _ _ (H.out.go ((((Kept.refl w).alloc _).alloc _).trans hk1) ?_) ?_).mono ?_
    · exact Ext.cons (by omega) (Ext.refl _ _)
    · exact Old.cons HO2.out.lt (hV.go ((((Kept.refl w).alloc _).alloc _).trans hk1))
    rintro e w2 ⟨s2, c2, rfl, hd2, hk2⟩
    obtain ⟨A2, k2, A3, k3, rfl, rfl⟩ := hd2.form
    generalize (perf d fun _ => true).sec.length = n2, (perf d fun _ => true).cache.length = n3 at *
    have HD2 := Lib.hid hd2
    clear hd2
    obtain ⟨p1, p2, p3, p4⟩ := (HO2.out.kept hk2).two
    go_wp2
    have ho3 := (HO2.out.kept hk2).put2 (.slice A2 n2 k2) (.slice A3 n3 k3)
    obtain ⟨r1, r2, _, _⟩ := ho3.two
    refine bodyPost_ret (v := .agg #[.slice A2 n2 k2, .slice A3 n3 k3]) ?_ rfl ?_
    · simp [results, Tryd.results50, go_sem, r1, r2]
    · refine ⟨_, _, rfl, ?_, ?_⟩
      · simp only [flushD, hr, if_true]
        exact ((HD2.out.put (by simp) _).put (by simp) _).weak (fun _ h => List.mem_cons_of_mem _ h)
      · exact ((((((Kept.refl w).alloc _).alloc _).trans hk1).trans hk2).setCell (by simp) _).setCell (by simp) _
  · go_enter Tryd.func50, Tryd.ntmps50
    go_wp2_with fail
    refine (right_any V d _ _ (H.out.go (((Kept.refl w).alloc _).alloc _) (Ext.refl _ _))).mono ?_
    rintro e w1 ⟨rfl, hk1⟩
    obtain ⟨q1, q2, _, _⟩ := (((Own.new w _ [s, c]).alloc _).kept hk1).two
    have HO2 := Lib.hid ((Own.new1 w _ _ [Value.slice none 0 0, Value.slice none 0 0]).kept hk1)
    have HD2 := Lib.hid (H.out.go ((((Kept.refl w).alloc _).alloc _).trans hk1) (Ext.cons (k := w.heap.size + 1) (by omega) (Ext.refl _ _)))
    obtain ⟨A2, k2, A3, k3, rfl, rfl⟩ := HD2.out.form
    generalize d.sec.length = n2, d.cache.length = n3 at *
    obtain ⟨p1, p2, p3, p4⟩ := HO2.out.two
    go_wp2
    have ho3 := HO2.out.put2 (.slice A2 n2 k2) (.slice A3 n3 k3)
    obtain ⟨r1, r2, _, _⟩ := ho3.two
    refine bodyPost_ret (v := .agg #[.slice A2 n2 k2, .slice A3 n3 k3]) ?_ rfl ?_
    · simp [results, Tryd.results50, go_sem, r1, r2]
    · refine ⟨_, _, rfl, ?_, ?_⟩
      · simp only [flushD, hr, Bool.false_eq_true, if_false]
        exact ((HD2.out.put (by simp) _).put (by simp) _).weak (fun _ h => List.mem_cons_of_mem _ h)
      · exact (((((Kept.refl w).alloc _).alloc _).trans hk1).setCell (by simp) _).setCell (by simp) _
end Go.Proofs.YtagpimahicgkmaaDoor

/-! Walk: disk.Crash. -/
namespace Go.Proofs.YtagpimahicgkmaaDoor
open Go.RowKit

def ints (l : List Int) : List Value := l.map (Value.int .i64)
theorem ints_length (l : List Int) : (ints l).length = l.length := by simp [ints]
theorem ints_at {l : List Int} {k : Nat} (h : k < l.length) : (ints l)[k]? = some (.int .i64 l[k]) := by simp [ints, h]
def IntsAt (V : List Nat) (w : World) (v : Value) (l : List Int) : Prop :=
  ∃ A c, v = .slice A l.length c ∧ l.length ≤ c ∧ c ≤ maxLen ∧ Row V w A (ints l)
theorem IntsAt.go {V U : List Nat} {w w' : World} {v : Value} {l : List Int} (h : IntsAt V w v l) (k : Kept w w') (hU : Ext U w V) : IntsAt U w' v l := by
  obtain ⟨A, c, e, h1, h2, h3⟩ := h; exact ⟨A, c, e, h1, h2, h3.go k hU⟩

def keptL (n : Nat) (keep : List Int) : List Value := (List.range n).map fun (i : Nat) => .bool (keep.contains (i : Int))
theorem keptL_length (n : Nat) (keep : List Int) : (keptL n keep).length = n := by simp [keptL]
theorem keptL_at {n : Nat} {keep : List Int} {i : Nat} (h : i < n) : (keptL n keep)[i]? = some (.bool (keep.contains (i : Int))) := by simp [keptL, h]
theorem keptL_nil (n : Nat) : keptL n [] = List.replicate n (.bool false) := by
  apply List.ext_getElem
  · simp [keptL]
  · intro i h1 h2; simp [keptL]
theorem keptL_in {n : Nat} {keep : List Int} {j k : Nat} (h : j < keep.length) (hk : keep[j] = (k : Int)) (_hn : k < n) : keptL n (keep.take (j + 1)) = (keptL n (keep.take j)).set k (.bool true) := by
  apply List.ext_getElem
  · simp [keptL]
  · intro i h1 h2
    rw [List.getElem_set]
    simp only [keptL, List.getElem_map, List.getElem_range, List.take_succ_eq_append_getElem h, List.contains_append, hk]
    by_cases e : k = i
    · subst e; simp
    · have : ¬ (i : Int) = (k : Int) := by omega
      simp [e, this]
theorem keptL_out {n : Nat} {keep : List Int} {j : Nat} (h : j < keep.length) (hk : keep[j] < 0 ∨ (n : Int) ≤ keep[j]) : keptL n (keep.take (j + 1)) = keptL n (keep.take j) := by
  apply List.ext_getElem
  · simp [keptL]
  · intro i h1 h2
    simp only [keptL, List.getElem_map, List.getElem_range, List.take_succ_eq_append_getElem h, List.contains_append]
    have hi : i < n := by simpa [keptL] using h1
    have : ¬ (i : Int) = keep[j] := by omega
    simp [this]

def crashD (d : Dk) (keep : List Int) : Dk := if rightB d then perf d (fun (i : Nat) => keep.contains (i : Int)) else d

theorem Tryd.infoBool : (Tryd.prog.info? 4).map (fun i => (i.zero, i.size, i.bytes)) = some (some (.bool false), 1, 1) := by kernel_rfl
theorem run_mkBools (n : Nat) (hn : n ≤ 1000000) (W : World) : (Instr.makeSlice 111 (.int .i64 (n : Int)) (.int .i64 (n : Int))).run Tryd.prog W =
    .ok (.slice (some ⟨W.heap.size, 0, none⟩) n n) (W.alloc (.cells (Array.replicate n (Value.bool false)) 4)) := by
  obtain ⟨i, hi, hz, hs, hb⟩ := info_parts Tryd.infoBool
  have := run_make (P := Tryd.prog) W 111 4 i _ Tryd.underlying111 hi hz .i64 .i64 n n (by omega) (by omega) (by rw [hb]; omega) (by omega)
  rw [this, hs]
  simp [Value.cells, madeCells_one]

set_option maxRecDepth 100000 in
set_option maxHeartbeats 400000 in
theorem crash_any (V : List Nat) (d : Dk) (keep : List Int) (v u : Value) (w : World) (h : DkAt V w v d) (hu : IntsAt [] w u keep) (hV : Old V w) (hcs : d.cache.length ≤ 1000000) :
    Calls Tryd.prog 28 #[v, u] w fun e w' => ∃ s' c', e = .returned (.agg #[s', c']) ∧ DkAt V w' (.agg #[s', c']) (crashD d keep) ∧ Kept w w' := by
  have H := Lib.hid h
  have HU := Lib.hid hu
  obtain ⟨s, c, rfl, hs, hc⟩ := h
  obtain ⟨B, bc, rfl, bl, bm, br⟩ := hu
  obtain ⟨A0, k0, A1, k1, rfl, rfl⟩ := H.out.form
  unfold maxLen at bm
  have HB := Lib.hid br
  clear hs hc br
  have hmk := run_mkBools d.cache.length hcs
  rcases Bool.eq_false_or_eq_true (rightB d) with hr | hr
  · go_enter Tryd.func28, Tryd.ntmps28
    go_wp2_with fail
    refine (right_any V d _ _ (H.out.go (((Kept.refl w).alloc _).alloc _) (Ext.refl _ _))).mono ?_
    rintro e w1 ⟨rfl, hk1⟩
    have HO1 := Lib.hid (((Own.new w 25 [Value.slice A0 d.sec.length k0, Value.slice A1 d.cache.length k1]).alloc (Obj.cells #[Value.slice none 0 0, Value.slice none 0 0] 25)).kept hk1)
    have HO2 := Lib.hid ((Own.new1 w _ _ [Value.slice none 0 0, Value.slice none 0 0]).kept hk1)
    obtain ⟨q1, q2, _, _⟩ := HO1.out.two
    have hkw1 : Kept w w1 := (((Kept.refl w).alloc _).alloc _).trans hk1
    have hsz : w.heap.size + 1 < w1.heap.size := HO2.out.lt
    clear hk1
    go_wp2_with fail
    go_loopw [18] (fun i wr => ∃ j : Nat, j ≤ keep.length ∧ i = .int .i64 j ∧ Own wr w1.heap.size 4 (keptL d.cache.length (keep.take j)) ∧ Own wr (w1.heap.size + 1) 111 [Value.slice (some ⟨w1.heap.size, 0, none⟩) d.cache.length d.cache.length] ∧ Kept w1 wr) (fun i _ => keep.length - (intOf i).toNat)
    case atStart => exact ⟨0, Nat.zero_le _, rfl, by have := (Own.new w1 4 (List.replicate d.cache.length (Value.bool false))); rw [← keptL_nil] at this; simpa [keptL_nil] using this.alloc (Obj.cells #[Value.slice (some ⟨w1.heap.size, 0, none⟩) d.cache.length d.cache.length] 111), Own.new1 w1 _ _ [_], ((Kept.refl w1).alloc _).alloc _⟩
    case round =>
      obtain ⟨j, hj, rfl, ho3, ho4, hkept⟩ := hrel
      have HO3 := Lib.hid ho3
      have HO4 := Lib.hid ho4
      obtain ⟨q3, q4⟩ := ho4.one
      have hkww : Kept w wr := hkw1.trans hkept
      by_cases hlt : j < keep.length
      · obtain ⟨b', o', rfl, hb', _, hc'⟩ := HB.out.kept hkww (by rw [ints_length]; omega)
        have g1 : wr.cell? ⟨b', o' + j, none⟩ = some (.int .i64 keep[j]) := hc' _ _ (ints_at hlt)
        by_cases hin : 0 ≤ keep[j] ∧ keep[j] < (d.cache.length : Int)
        · obtain ⟨m, hm⟩ := Int.eq_ofNat_of_zero_le hin.1
          have hmn : m < d.cache.length := by omega
          have HY := Lib.hid (keptL_in (n := d.cache.length) hlt hm hmn)
          rw [hm] at g1
          have g3 : wr.cell? ⟨w1.heap.size, m, none⟩ = some (.bool ((keep.take j).contains (m : Int))) := by rw [ho3.cell?, keptL_at hmn]
          have g4 := ho3.frozen m
          have hs3 := ho3.lt
          clear hc' hin hm ho3 ho4
          go_wp2
          go_roundw
          case rel =>
            refine ⟨j + 1, by omega, by go_num, ?_, ?_, ?_⟩
            · rw [HY.out]; exact HO3.out.set_ _ _
            · exact HO4.out.far (by simp) _
            · exact hkept.setCell (by simp) _
          case measure => simp [intOf]; omega
        · have HY := Lib.hid (keptL_out (n := d.cache.length) hlt (by omega))
          generalize keep[j] = x at *
          clear hc' ho3 ho4
          by_cases hx : 0 ≤ x
          all_goals
            go_wp2
            go_roundw
            case rel => exact ⟨j + 1, by omega, by go_num, by rw [HY.out]; exact HO3.out, HO4.out, hkept⟩
            case measure => simp [intOf]; omega
      · obtain ⟨p1, p2, _, _⟩ := (HO1.out.kept hkept).two
        have HP := Lib.hid (performSome_any ((w.heap.size + 1) :: V) d (.agg #[Value.slice A0 d.sec.length k0, Value.slice A1 d.cache.length k1]) wr (fun (i : Nat) => keep.contains (i : Int)) (w1.heap.size + 1) w1.heap.size (H.out.go hkww (Ext.cons (by omega) (Ext.refl _ _))) (Old.cons (by have := hkept.size; omega) (hV.go hkww)) hr ho4.lt ho3.lt q3 (fun i hi => by
          rw [ho3.cell?, keptL_at hi, List.take_of_length_le (by omega)]))
        clear ho3 ho4
        go_wp2_with fail
        refine HP.out.mono ?_
        rintro e w2 ⟨s2, c2, rfl, hd2, hk2⟩
        obtain ⟨A2, k2, A3, k3, rfl, rfl⟩ := hd2.form
        generalize (perf d fun (i : Nat) => keep.contains (i : Int)).sec.length = n2, (perf d fun (i : Nat) => keep.contains (i : Int)).cache.length = n3 at *
        have HD2 := Lib.hid hd2
        clear hd2
        have HO5 := Lib.hid ((HO2.out.kept hkept).kept hk2)
        obtain ⟨t1, t2, t3, t4⟩ := HO5.out.two
        go_wp2
        have ho6 := HO5.out.put2 (.slice A2 n2 k2) (.slice A3 n3 k3)
        obtain ⟨r1, r2, _, _⟩ := ho6.two
        refine bodyPost_ret (v := .agg #[.slice A2 n2 k2, .slice A3 n3 k3]) ?_ rfl ?_
        · simp [results, Tryd.results28, go_sem, r1, r2]
        · refine ⟨_, _, rfl, ?_, ?_⟩
          · simp only [crashD, hr, if_true]
            exact ((HD2.out.put (by simp) _).put (by simp) _).weak (fun _ h => List.mem_cons_of_mem _ h)
          · exact ((hkww.trans hk2).setCell (by simp) _).setCell (by simp) _
  · go_enter Tryd.func28, Tryd.ntmps28
    go_wp2_with fail
    refine (right_any V d _ _ (H.out.go (((Kept.refl w).alloc _).alloc _) (Ext.refl _ _))).mono ?_
    rintro e w1 ⟨rfl, hk1⟩
    obtain ⟨q1, q2, _, _⟩ := (((Own.new w _ [Value.slice A0 d.sec.length k0, Value.slice A1 d.cache.length k1]).alloc _).kept hk1).two
    have HO2 := Lib.hid ((Own.new1 w _ _ [Value.slice none 0 0, Value.slice none 0 0]).kept hk1)
    have HD2 := Lib.hid (H.out.go ((((Kept.refl w).alloc _).alloc _).trans hk1) (Ext.cons (k := w.heap.size + 1) (by omega) (Ext.refl _ _)))
    obtain ⟨p1, p2, p3, p4⟩ := HO2.out.two
    go_wp2
    have ho3 := HO2.out.put2 (Value.slice A0 d.sec.length k0) (Value.slice A1 d.cache.length k1)
    obtain ⟨r1, r2, _, _⟩ := ho3.two
    refine bodyPost_ret (v := .agg #[Value.slice A0 d.sec.length k0, Value.slice A1 d.cache.length k1]) ?_ rfl ?_
    · simp [results, Tryd.results28, go_sem, r1, r2]
    · refine ⟨_, _, rfl, ?_, ?_⟩
      · simp only [crashD, hr, Bool.false_eq_true, if_false]
        exact ((HD2.out.put (by simp) _).put (by simp) _).weak (fun _ h => List.mem_cons_of_mem _ h)
      · exact (((((Kept.refl w).alloc _).alloc _).trans hk1).setCell (by simp) _).setCell (by simp) _
end Go.Proofs.YtagpimahicgkmaaDoor

/-! Plain: what a sector of a disk reads. -/
namespace Go.Proofs.YtagpimahicgkmaaDoor
open Go.RowKit

def readTo (at_ : Int) (s : ByteArray) (l : List Wr) : ByteArray := l.foldl (fun s x => if x.at_ = at_ then x.data else s) s
def readD (d : Dk) (at_ : Nat) : ByteArray := readTo at_ (d.sec.getD at_ .empty) d.cache
theorem readTo_none {at_ : Int} {l : List Wr} (h : ∀ x ∈ l, x.at_ ≠ at_) (s : ByteArray) : readTo at_ s l = s := by
  induction l generalizing s with
  | nil => rfl
  | cons x l ih =>
    have hx := h x (by simp)
    simp only [readTo, List.foldl_cons, if_neg hx]
    exact ih (fun y hy => h y (by simp [hy])) s
theorem readTo_hit {at_ : Int} {l : List Wr} {k : Nat} (hk : k < l.length) (hx : l[k].at_ = at_) (h : ∀ x ∈ l.drop (k + 1), x.at_ ≠ at_) (s : ByteArray) : readTo at_ s l = l[k].data := by
  have e : l = l.take k ++ l[k] :: l.drop (k + 1) := by rw [← List.drop_eq_getElem_cons hk, List.take_append_drop]
  have h1 : readTo at_ s l = readTo at_ s (l.take k ++ l[k] :: l.drop (k + 1)) := congrArg _ e
  rw [h1]
  simp only [readTo, List.foldl_append, List.foldl_cons, if_pos hx]
  exact readTo_none h _
def readR (d : Dk) (at_ : Int) : ByteArray × Int := if rightB d && decide (0 ≤ at_) && decide (at_ < d.sec.length) then (readD d at_.toNat, 0) else (.empty, 1)

theorem ret2_si {s s' : ByteArray} {n n' : Int} (h : s = s') (h' : n = n') : Ending.returned (.tuple #[.string s, .int .i64 n]) = .returned (.tuple #[.string s', .int .i64 n']) := by rw [h, h']

end Go.Proofs.YtagpimahicgkmaaDoor

/-! Appending to a row of the call's own; the source nil or not. Of no program. -/
namespace Go.Proofs.YtagpimahicgkmaaDoor
open Go.RowKit

theorem add_none (b o j : Nat) : (⟨b, o, none⟩ : Addr).add j = ⟨b, o + j, none⟩ := by unfold Addr.add; split <;> simp_all

theorem own_form {V : List Nat} {w : World} {base : Nat} {e : TypeId} {size : Nat} {v : Value} {n : Nat} {xs : List Value} (h : w.ownsRow base e size v n xs) (hV : ∀ k ∈ V, k < base) :
    ∃ A c, v = .slice A n c ∧ n ≤ c ∧ c ≤ maxLen ∧ Row V w A xs := by
  rcases h.2 with ⟨rfl, rfl⟩ | ⟨g, cap, cur, rfl, hg, hh, hn, hc, hs, ht⟩
  · have : xs = [] := List.eq_nil_of_length_eq_zero (by simpa using h.1)
    subst this
    exact ⟨none, 0, rfl, Nat.le_refl _, Nat.zero_le _, Row.nil _ _ _⟩
  · refine ⟨some ⟨g, 0, none⟩, cap, rfl, hn, hc, fun _ => ⟨g, 0, rfl, ?_, fun hm => by have := hV g hm; omega, fun j u hu => ?_⟩⟩
    · rcases Nat.lt_or_ge g w.heap.size with hlt | hge
      · exact hlt
      · rw [Array.getElem?_eq_none hge] at hh; cases hh
    · rw [Nat.zero_add, cell_of_row w g j cur e (0, 0) hh]
      rw [← ht, List.getElem?_take] at hu
      split at hu
      · simpa using hu
      · cases hu

theorem Own.appd {w w' : World} {g : Nat} {t : TypeId} {cs : List Value} {v : Value} (h : Own w g t cs) (hb : w.grownBy w' v.ownBlock) (hne : ∀ b, v.ownBlock = some b → g ≠ b) : Own w' g t cs :=
  h.grown hb (fun e => hne g e.symm rfl)
theorem ownBlock_some (b o n c : Nat) : (Value.slice (some ⟨b, o, none⟩) n c).ownBlock = some b := rfl
theorem ownBlock_eq {b o n c k : Nat} (h : (Value.slice (some ⟨b, o, none⟩) n c).ownBlock = some k) : b = k := by rw [ownBlock_some] at h; injection h
theorem ownBlock_of {w : World} {base : Nat} {e : TypeId} {size : Nat} {v : Value} {n : Nat} {xs : List Value} (h : w.ownsRow base e size v n xs) {k : Nat} (hk : v.ownBlock = some k) : base ≤ k ∧ k < w.heap.size := h.lt k hk

section
variable {P : Program} (w : World)

theorem run_append_of_nil (base : Nat) (t ty e : TypeId) (i : TypeInfo) (size : Nat) (ht : P.underlying t = some (.slice e)) (hi : P.info? e = some i)
    (v : Value) (n : Nat) (xs : List Value) (hown : w.ownsRow base e size v n xs) (c : Nat) : (Builtin.append_ #[t, t] ty #[v, .slice none 0 c]).run P w = .ok v w := by
  rcases hown.2 with ⟨rfl, rfl⟩ | ⟨g, cap, cur, rfl, _, _, hnc, _⟩
  · simp [Builtin.append_, run_underlying ht, sizeOf, typeInfo, hi, Builtin.lenOf, Builtin.firstCells]
  · simp [Builtin.append_, run_underlying ht, sizeOf, typeInfo, hi, Builtin.lenOf, Builtin.firstCells, hnc, storeCells]

theorem run_append_any (base : Nat) (t ty e : TypeId) (i : TypeInfo) (z : Value) (size bytes : Nat) (ht : P.underlying t = some (.slice e)) (hi : P.info? e = some i) (hz : i.zero = some z)
    (hsize : i.size = size) (hby : i.bytes = bytes) (hzs : z.cells.size = size) (hsz : 0 < size)
    (v : Value) (n : Nat) (xs : List Value) (hown : w.ownsRow base e size v n xs)
    (V : List Nat) (A : Option Addr) (m c : Nat) (news : List Value) (hl : news.length = m * size) (hr : Row V w A news) (h1 : ∀ u ∈ news, u.oneCell' = true)
    (h63 : n + m ≤ maxLen) (hbytes : (n + m) * bytes ≤ 140737488355328) (hbase : base ≤ w.heap.size) :
    ∃ v' w', (Builtin.append_ #[t, t] ty #[v, .slice A m c]).run P w = .ok v' w' ∧ w'.ownsRow base e size v' (n + m) (xs ++ news) ∧ w.grownBy w' v.ownBlock ∧
      (v'.ownBlock = v.ownBlock ∨ v'.ownBlock = some w.heap.size) := by
  rcases A with _ | ad
  · have hm : m = 0 := by
      rcases Nat.eq_zero_or_pos m with h0 | h0
      · exact h0
      · obtain ⟨_, _, h, _⟩ := hr (by rw [hl]; exact Nat.mul_pos h0 hsz)
        cases h
    subst hm
    have hn : news = [] := List.eq_nil_of_length_eq_zero (by simpa using hl)
    subst hn
    exact ⟨v, w, run_append_of_nil w base t ty e i size ht hi v n xs hown c, by simpa using hown, World.grownBy.refl w _, .inl rfl⟩
  · have hcells : ∀ j u, news[j]? = some u → w.cell? (ad.add j) = some u := by
      intro j u hu
      obtain ⟨b, o, h, _, _, hc⟩ := hr (by have := (List.getElem?_eq_some_iff.1 hu).1; omega)
      injection h with h
      subst h
      rw [add_none]
      exact hc j u hu
    obtain ⟨v', w', hrun, h2, h3, _, h5⟩ := run_append_own_at (P := P) w base t ty e i z size bytes ht hi hz hsize hby hzs hsz v n xs hown ad m c news hl hcells h1 h63 hbytes hbase
    exact ⟨v', w', hrun, h2, h3, h5⟩

theorem wp_append_any {o : Oper} {a : Act} {K : Act → World → Prop} {Q : Exit → Act → World → Prop} (s x : Operand) (t : TypeId)
    (ho : o.op = .call { callee := .builtin .append, args := #[s, x], argTypes := #[t, t] })
    (base : Nat) (e : TypeId) (i : TypeInfo) (z : Value) (size bytes : Nat) (ht : P.underlying t = some (.slice e)) (hi : P.info? e = some i) (hz : i.zero = some z)
    (hsize : i.size = size) (hby : i.bytes = bytes) (hzs : z.cells.size = size) (hsz : 0 < size)
    (v : Value) (n : Nat) (xs : List Value) (hs : a.eval s = v) (hown : w.ownsRow base e size v n xs)
    (V : List Nat) (A : Option Addr) (m c : Nat) (news : List Value) (hx : a.eval x = .slice A m c) (hl : news.length = m * size) (hr : Row V w A news) (h1 : ∀ u ∈ news, u.oneCell' = true)
    (h63 : n + m ≤ maxLen) (hbytes : (n + m) * bytes ≤ 140737488355328) (hbase : base ≤ w.heap.size)
    (h : ∀ v' w', w'.ownsRow base e size v' (n + m) (xs ++ news) → w.grownBy w' v.ownBlock → (v'.ownBlock = v.ownBlock ∨ v'.ownBlock = some w.heap.size) → K (a.put o.dst v') w') : o.wp P a w K Q := by
  obtain ⟨v', w', hrun, h2, h3, h4⟩ := run_append_any (P := P) w base t o.type e i z size bytes ht hi hz hsize hby hzs hsz v n xs hown V A m c news hl hr h1 h63 hbytes hbase
  unfold Oper.wp execOp
  simp only [ho, resolve, invoke, builtin, Sem.run_bind, Sem.run_pure, Result.andThen_ok, List.map_toArray, List.map_cons, List.map_nil, hs, hx, hrun]
  exact h v' w' h2 h3 h4

theorem wpList_append_any {ops : Array Oper} {rest : List Oper} {o : Oper} {a : Act} {Q : Exit → Act → World → Prop} (hgd : o.guard = none) (s x : Operand) (t : TypeId)
    (ho : o.op = .call { callee := .builtin .append, args := #[s, x], argTypes := #[t, t] })
    (base : Nat) (e : TypeId) (i : TypeInfo) (z : Value) (size bytes : Nat) (ht : P.underlying t = some (.slice e)) (hi : P.info? e = some i) (hz : i.zero = some z)
    (hsize : i.size = size) (hby : i.bytes = bytes) (hzs : z.cells.size = size) (hsz : 0 < size)
    (v : Value) (n : Nat) (xs : List Value) (hs : a.eval s = v) (hown : w.ownsRow base e size v n xs)
    (V : List Nat) (A : Option Addr) (m c : Nat) (news : List Value) (hx : a.eval x = .slice A m c) (hl : news.length = m * size) (hr : Row V w A news) (h1 : ∀ u ∈ news, u.oneCell' = true)
    (h63 : n + m ≤ maxLen) (hbytes : (n + m) * bytes ≤ 140737488355328) (hbase : base ≤ w.heap.size)
    (h : ∀ v' w', w'.ownsRow base e size v' (n + m) (xs ++ news) → w.grownBy w' v.ownBlock → (v'.ownBlock = v.ownBlock ∨ v'.ownBlock = some w.heap.size) → wpList P ops Q rest (a.put o.dst v') w') : wpList P ops Q (o :: rest) a w :=
  wpList_plain hgd fun _ hK => wp_append_any w s x t ho base e i z size bytes ht hi hz hsize hby hzs hsz v n xs hs hown V A m c news hx hl hr h1 h63 hbytes hbase fun v' w' h2 h3 h4 => hK _ _ (h v' w' h2 h3 h4)

/-- At a step of a region that draws its order. -/
theorem step_append_any {ops : Array Oper} {o : Oper} {a : Act} {K : Act → World → Prop} {Q : Exit → Act → World → Prop} {E : Prop} (hgd : o.guard = none) (s x : Operand) (t : TypeId)
    (ho : o.op = .call { callee := .builtin .append, args := #[s, x], argTypes := #[t, t] })
    (base : Nat) (e : TypeId) (i : TypeInfo) (z : Value) (size bytes : Nat) (ht : P.underlying t = some (.slice e)) (hi : P.info? e = some i) (hz : i.zero = some z)
    (hsize : i.size = size) (hby : i.bytes = bytes) (hzs : z.cells.size = size) (hsz : 0 < size)
    (v : Value) (n : Nat) (xs : List Value) (hs : a.eval s = v) (hown : w.ownsRow base e size v n xs)
    (V : List Nat) (A : Option Addr) (m c : Nat) (news : List Value) (hx : a.eval x = .slice A m c) (hl : news.length = m * size) (hr : Row V w A news) (h1 : ∀ u ∈ news, u.oneCell' = true)
    (h63 : n + m ≤ maxLen) (hbytes : (n + m) * bytes ≤ 140737488355328) (hbase : base ≤ w.heap.size)
    (h : ∀ v' w', w'.ownsRow base e size v' (n + m) (xs ++ news) → w.grownBy w' v.ownBlock → (v'.ownBlock = v.ownBlock ∨ v'.ownBlock = some w.heap.size) → K (a.put o.dst v') w') :
    if Region.wanted o (yielded ops a.tmps) = true then Oper.wp P o a w K Q else E := by
  have hw : Region.wanted o (yielded ops a.tmps) = true := by simp [Region.wanted, hgd]
  rw [if_pos hw]
  exact wp_append_any w s x t ho base e i z size bytes ht hi hz hsize hby hzs hsz v n xs hs hown V A m c news hx hl hr h1 h63 hbytes hbase h
end

end Go.Proofs.YtagpimahicgkmaaDoor

/-! Walk: disk.Put. -/
namespace Go.Proofs.YtagpimahicgkmaaDoor
open Go.RowKit

theorem Tryd.infoWr : (Tryd.prog.info? 38).map (fun i => (i.zero, i.size, i.bytes)) = some (some (.agg #[.int .i64 0, .string .empty]), 2, 24) := by kernel_rfl

theorem wrs_one (l : List Wr) : ∀ v ∈ wrs l, v.oneCell' = true := by
  intro v hv; simp only [wrs, List.mem_flatMap] at hv; obtain ⟨s, _, hv⟩ := hv
  simp at hv; rcases hv with rfl | rfl <;> rfl
theorem wrs_append (a b : List Wr) : wrs (a ++ b) = wrs a ++ wrs b := by simp [wrs]

/-- 'append' to a row of writes that the call owns. -/
theorem wpList_app_wr {w : World} {ops : Array Oper} {rest : List Oper} {o : Oper} {a : Act} {Q : Exit → Act → World → Prop} (hgd : o.guard = none) (s x : Operand)
    (ho : o.op = .call { callee := .builtin .append, args := #[s, x], argTypes := #[23, 23] })
    (base : Nat) (v : Value) (l : List Wr) (hs : a.eval s = v) (hown : w.ownsRow base 38 2 v l.length (wrs l))
    (V : List Nat) (A : Option Addr) (c : Nat) (m : List Wr) (hx : a.eval x = .slice A m.length c) (hr : Row V w A (wrs m)) (h63 : l.length + m.length ≤ 1000000) (hbase : base ≤ w.heap.size)
    (h : ∀ v' w', w'.ownsRow base 38 2 v' (l ++ m).length (wrs (l ++ m)) → w.grownBy w' v.ownBlock → (v'.ownBlock = v.ownBlock ∨ v'.ownBlock = some w.heap.size) → wpList Tryd.prog ops Q rest (a.put o.dst v') w') : wpList Tryd.prog ops Q (o :: rest) a w := by
  obtain ⟨i, hi, hz, hsz, hb⟩ := info_parts Tryd.infoWr
  refine wpList_append_any w hgd s x _ ho base _ i _ 2 24 Tryd.underlying23 hi hz hsz hb rfl (by omega) v l.length (wrs l) hs hown V A m.length c (wrs m) hx (wrs_length m) hr (wrs_one m) (by unfold maxLen; omega) (by omega) hbase ?_
  intro v' w' h1 h2 h3
  exact h v' w' (by rw [wrs_append, List.length_append]; exact h1) h2 h3

theorem run_mkWrs (n : Nat) (hn : n ≤ 1000000) : ∃ cs : Array Value, cs.size = (n + 1) * 2 ∧ ∀ W : World, (Instr.makeSlice 23 (.int .i64 0) (.int .i64 ((n : Int) + 1))).run Tryd.prog W =
    .ok (.slice (some ⟨W.heap.size, 0, none⟩) 0 (n + 1)) (W.alloc (.cells cs 38)) := by
  obtain ⟨i, hi, hz, hs, hb⟩ := info_parts Tryd.infoWr
  refine ⟨madeCells #[.int .i64 0, .string .empty] ((n + 1) * 2), size_madeCells _ _, fun W => ?_⟩
  have := run_make (P := Tryd.prog) W 23 38 i _ Tryd.underlying23 hi hz .i64 .i64 0 ((n : Int) + 1) (by omega) (by omega) (by rw [hb]; omega) (by omega)
  rw [this, hs]
  rfl

def putR (d : Dk) (x : Wr) : Dk × Int := if rightB d && fitsB x d.sec.length then (⟨d.sec, d.cache ++ [x]⟩, 0) else (⟨[], []⟩, 1)

set_option maxHeartbeats 400000 in
theorem put_any (V : List Nat) (d : Dk) (x : Wr) (v : Value) (w : World) (h : DkAt V w v d) (hV : Old V w) (hcs : d.cache.length ≤ 100000) :
    Calls Tryd.prog 66 #[v, .agg #[.int .i64 x.at_, .string x.data]] w fun e w' => ∃ s' c', e = .returned (.tuple #[.agg #[s', c'], .int .i64 (putR d x).2]) ∧ DkAt V w' (.agg #[s', c']) (putR d x).1 ∧ Kept w w' := by
  have H := Lib.hid h
  obtain ⟨s, c, rfl, ⟨A, k0, rfl, hl, hm, hs⟩, ⟨A', k1, rfl, hl', hm', hc⟩⟩ := h
  unfold maxLen at hm hm'
  have HS := Lib.hid hs
  have HC := Lib.hid hc
  clear hs hc
  obtain ⟨cs, hcs1, hmk⟩ := run_mkWrs d.cache.length (by omega)
  have HCS := Lib.hid hcs1
  clear hcs1
  rcases Bool.eq_false_or_eq_true (rightB d) with hr | hr
  · rcases Bool.eq_false_or_eq_true (fitsB x d.sec.length) with hf | hf
    · go_enter Tryd.func66, Tryd.ntmps66
      go_wp2_with fail
      refine (right_any V d _ _ (H.out.go ((((Kept.refl w).alloc _).alloc _).alloc _) (Ext.refl _ _))).mono ?_
      rintro e w1 ⟨rfl, hk1⟩
      have HO1 := Lib.hid ((((Own.new w _ [Value.slice A d.sec.length k0, Value.slice A' d.cache.length k1]).alloc _).alloc _).kept hk1)
      have HO2 := Lib.hid (((Own.new1 w _ _ [Value.int .i64 x.at_, .string x.data]).alloc _).kept hk1)
      have HO3 := Lib.hid ((Own.new2 w _ _ _ [Value.slice none 0 0, Value.slice none 0 0]).kept hk1)
      have hkw1 : Kept w w1 := ((((Kept.refl w).alloc _).alloc _).alloc _).trans hk1
      clear hk1
      obtain ⟨q1, q2, _, _⟩ := HO1.out.two
      obtain ⟨q3, q4, _, _⟩ := HO2.out.two
      go_wp2_with fail
      refine (fits_any x _ _).mono ?_
      rintro e w2 ⟨rfl, hk2⟩
      have hkw2 : Kept w w2 := hkw1.trans hk2
      have HO1' := Lib.hid (HO1.out.kept hk2)
      have HO2' := Lib.hid (HO2.out.kept hk2)
      have HO3' := Lib.hid (HO3.out.kept hk2)
      clear q1 q2 q3 q4
      obtain ⟨q1, q2, _, _⟩ := HO1'.out.two
      obtain ⟨q3, q4, _, _⟩ := HO2'.out.two
      have hsz0 : w.heap.size < w2.heap.size := HO1'.out.lt
      have hsz1 : w.heap.size + 1 < w2.heap.size := HO2'.out.lt
      have hsz2 : w.heap.size + 1 + 1 < w2.heap.size := HO3'.out.lt
      have HOwn0 : Hid ((w2.alloc (.cells cs 38)).ownsRow w2.heap.size 38 2 (.slice (some ⟨w2.heap.size, 0, none⟩) 0 (d.cache.length + 1)) ([] : List Wr).length (wrs [])) :=
        World.ownsRow_made w2 _ _ (Nat.le_refl _) (by unfold maxLen; omega) HCS.out
      go_upto_region 5 with (at_builtin; go_must (refine wpList_app_wr rfl (.tmp 24) (.tmp 26) rfl w2.heap.size _ [] rfl HOwn0.out V A' k1 d.cache rfl (HC.out.kept (hkw2.alloc _)) (by simp; omega) (by simp) ?_; intro v3 w3 hown3 hg3 hat3))
      obtain ⟨A3, c3, rfl, hc3, hm3, hr3⟩ := own_form (V := []) hown3 (by simp)
      have HOwn3 := Lib.hid hown3
      have HO1'' := Lib.hid ((HO1'.out.alloc (.cells cs 38)).appd hg3 (fun b hb => by have := ownBlock_eq hb; omega))
      have HO2'' := Lib.hid ((HO2'.out.alloc (.cells cs 38)).appd hg3 (fun b hb => by have := ownBlock_eq hb; omega))
      have HO3'' := Lib.hid ((HO3'.out.alloc (.cells cs 38)).appd hg3 (fun b hb => by have := ownBlock_eq hb; omega))
      have hkw3 : Kept w w3 := (hkw2.alloc _).grown hg3 (fun k hk => by have := ownBlock_eq hk; omega)
      have hw23 : w2.heap.size ≤ w3.heap.size := Nat.le_trans (by simp) hg3.size
      clear hown3 hg3 hr3 q1 q2 q3 q4
      obtain ⟨q1, q2, _, _⟩ := HO1''.out.two
      obtain ⟨q3, q4, _, _⟩ := HO2''.out.two
      go_upto_region 6 with (at_builtin; go_must (refine wpList_app_wr rfl (.tmp 28) (.tmp 30) rfl w2.heap.size _ d.cache rfl (HOwn3.out.alloc _) [] (some ⟨w3.heap.size, 0, none⟩) 1 [x] rfl ((Own.new w3 _ (wrs [x])).row (by simp)) (by simp; omega) (by simp; omega) ?_; intro v4 w4 hown4 hg4 hat4))
      obtain ⟨A4, c4, rfl, hc4, hm4, hr4⟩ := own_form (V := (w.heap.size + 1 + 1) :: V) hown4 (Old.cons hsz2 (hV.go hkw2))
      have hb3 : ∀ b, (Value.slice A3 ([] ++ d.cache).length c3).ownBlock = some b → w2.heap.size ≤ b := fun b hb => (ownBlock_of HOwn3.out hb).1
      have HO1x := Lib.hid ((HO1''.out.alloc (.cells #[.int .i64 x.at_, .string x.data] 38)).appd hg4 (fun b hb => by have := hb3 b hb; omega))
      have HO3x := Lib.hid ((HO3''.out.alloc (.cells #[.int .i64 x.at_, .string x.data] 38)).appd hg4 (fun b hb => by have := hb3 b hb; omega))
      have hkw4 : Kept w w4 := (hkw3.alloc _).grown hg4 (fun k hk => by have := hb3 k hk; omega)
      have HS4 := Lib.hid (HS.out.go hkw4 (Ext.cons (k := w.heap.size + 1 + 1) (by omega) (Ext.refl _ _)))
      have HR4 := Lib.hid hr4
      clear q1 q2 q3 q4 hown4 hg4 hb3 hr4 hat4 hat3
      obtain ⟨q1, q2, _, _⟩ := HO1x.out.two
      obtain ⟨p1, p2, p3, p4⟩ := HO3x.out.two
      go_wp2
      have ho6 := HO3x.out.put2 (.slice A d.sec.length k0) (.slice A4 (d.cache ++ [x]).length c4)
      obtain ⟨r1, r2, _, _⟩ := ho6.two
      refine bodyPost_ret (v := .tuple #[.agg #[.slice A d.sec.length k0, .slice A4 (d.cache ++ [x]).length c4], .int .i64 0]) ?_ rfl ?_
      · simp [results, Tryd.results66, go_sem] at r1 r2 ⊢
        simp [go_sem, r1, r2]
      · simp only [putR, hr, hf, Bool.and_self, if_true]
        refine ⟨_, _, rfl, ?_, ((hkw4.setCell (by simp; omega) _).setCell (by simp; omega) _)⟩
        have hD : DkAt ((w.heap.size + 1 + 1) :: V) w4 (.agg #[.slice A d.sec.length k0, .slice A4 (d.cache ++ [x]).length c4]) ⟨d.sec, d.cache ++ [x]⟩ :=
          ⟨_, _, rfl, ⟨A, k0, rfl, hl, by unfold maxLen; omega, HS4.out⟩, ⟨A4, c4, rfl, hc4, hm4, HR4.out⟩⟩
        exact ((hD.put (by simp) _).put (by simp) _).weak (fun _ h => List.mem_cons_of_mem _ h)
    · have HR : Hid (putR d x = (⟨[], []⟩, 1)) := by show _ = _; simp [putR, hf]
      go_enter Tryd.func66, Tryd.ntmps66
      go_wp2_with fail
      refine (right_any V d _ _ (H.out.go ((((Kept.refl w).alloc _).alloc _).alloc _) (Ext.refl _ _))).mono ?_
      rintro e w1 ⟨rfl, hk1⟩
      have HO1 := Lib.hid ((((Own.new w _ [Value.slice A d.sec.length k0, Value.slice A' d.cache.length k1]).alloc _).alloc _).kept hk1)
      have HO2 := Lib.hid (((Own.new1 w _ _ [Value.int .i64 x.at_, .string x.data]).alloc _).kept hk1)
      have HO3 := Lib.hid ((Own.new2 w _ _ _ [Value.slice none 0 0, Value.slice none 0 0]).kept hk1)
      have hkw1 : Kept w w1 := ((((Kept.refl w).alloc _).alloc _).alloc _).trans hk1
      clear hk1
      obtain ⟨q1, q2, _, _⟩ := HO1.out.two
      obtain ⟨q3, q4, _, _⟩ := HO2.out.two
      go_wp2_with fail
      refine (fits_any x _ _).mono ?_
      rintro e w2 ⟨rfl, hk2⟩
      have HO3' := Lib.hid (HO3.out.kept hk2)
      clear q1 q2 q3 q4
      obtain ⟨p1, p2, p3, p4⟩ := HO3'.out.two
      go_wp2
      have ho6 := HO3'.out.put2 (.slice none 0 0) (.slice none 0 0)
      obtain ⟨r1, r2, _, _⟩ := ho6.two
      refine bodyPost_ret (v := .tuple #[.agg #[.slice none 0 0, .slice none 0 0], .int .i64 1]) ?_ rfl ?_
      · simp [results, Tryd.results66, go_sem, r1, r2]
      · rw [HR.out]
        exact ⟨_, _, rfl, ⟨_, _, rfl, strsAt_nil _ _, wrsAt_nil _ _⟩, ((hkw1.trans hk2).setCell (by simp; omega) _).setCell (by simp; omega) _⟩
  · have HR : Hid (putR d x = (⟨[], []⟩, 1)) := by show _ = _; simp [putR, hr]
    go_enter Tryd.func66, Tryd.ntmps66
    go_wp2_with fail
    refine (right_any V d _ _ (H.out.go ((((Kept.refl w).alloc _).alloc _).alloc _) (Ext.refl _ _))).mono ?_
    rintro e w1 ⟨rfl, hk1⟩
    have HO3 := Lib.hid ((Own.new2 w _ _ _ [Value.slice none 0 0, Value.slice none 0 0]).kept hk1)
    have hkw1 : Kept w w1 := ((((Kept.refl w).alloc _).alloc _).alloc _).trans hk1
    clear hk1
    obtain ⟨p1, p2, p3, p4⟩ := HO3.out.two
    go_wp2
    have ho6 := HO3.out.put2 (.slice none 0 0) (.slice none 0 0)
    obtain ⟨r1, r2, _, _⟩ := ho6.two
    refine bodyPost_ret (v := .tuple #[.agg #[.slice none 0 0, .slice none 0 0], .int .i64 1]) ?_ rfl ?_
    · simp [results, Tryd.results66, go_sem, r1, r2]
    · rw [HR.out]
      exact ⟨_, _, rfl, ⟨_, _, rfl, strsAt_nil _ _, wrsAt_nil _ _⟩, (hkw1.setCell (by simp; omega) _).setCell (by simp; omega) _⟩
end Go.Proofs.YtagpimahicgkmaaDoor

/-! Plain: what a sector reads behind a crash. -/
namespace Go.Proofs.YtagpimahicgkmaaDoor
open Go.RowKit

def upTo (n : Nat) : List Int := (List.range n).map fun (i : Nat) => (i : Int)
theorem upTo_succ (n : Nat) : upTo n ++ [(n : Int)] = upTo (n + 1) := by simp [upTo, List.range_succ]
theorem upTo_length (n : Nat) : (upTo n).length = n := by simp [upTo]
theorem readTo_take {at_ : Int} {s : ByteArray} {l : List Wr} {k : Nat} (h : k < l.length) : readTo at_ s (l.take (k + 1)) = if l[k].at_ = at_ then l[k].data else readTo at_ s (l.take k) := by
  rw [List.take_succ_eq_append_getElem h]; simp only [readTo, List.foldl_append, List.foldl_cons, List.foldl_nil]

def rcAt (s : ByteArray) (ws : List Wr) (p : Nat → Bool) (at_ : Nat) : Nat → ByteArray
  | 0 => s
  | k + 1 => match ws[k]? with
    | some x => if x.at_ = at_ ∧ p k = true then x.data else rcAt s ws p at_ k
    | none => rcAt s ws p at_ k
theorem rcAt_yes {s : ByteArray} {ws : List Wr} {p : Nat → Bool} {n k : Nat} (h : k < ws.length) (h1 : ws[k].at_ = n) (h2 : p k = true) : rcAt s ws p n (k + 1) = ws[k].data := by
  simp [rcAt, List.getElem?_eq_getElem h, h1, h2]
theorem rcAt_no {s : ByteArray} {ws : List Wr} {p : Nat → Bool} {n k : Nat} (h : k < ws.length) (h1 : ws[k].at_ ≠ n ∨ p k = false) : rcAt s ws p n (k + 1) = rcAt s ws p n k := by
  simp only [rcAt, List.getElem?_eq_getElem h]
  rw [if_neg]
  rintro ⟨h2, h3⟩
  rcases h1 with h1 | h1
  · exact h1 h2
  · rw [h1] at h3; cases h3
def rcrashL (d : Dk) (p : Nat → Bool) : List ByteArray := (List.range d.sec.length).map fun n => rcAt (d.sec.getD n .empty) d.cache p n d.cache.length
theorem rcrash_perf {d : Dk} (p : Nat → Bool) (h : ∀ x ∈ d.cache, 0 ≤ x.at_) : rcrashL d p = perfTo d.sec d.cache p d.cache.length := by
  have key : ∀ k (n : Nat) (hn : n < d.sec.length), k ≤ d.cache.length → (perfTo d.sec d.cache p k)[n]'(by rw [perfTo_length]; exact hn) = rcAt d.sec[n] d.cache p n k := by
    intro k
    induction k with
    | zero => intro n hn _; rfl
    | succ k ih =>
      intro n hn hk
      have hk' : k < d.cache.length := by omega
      rcases Bool.eq_false_or_eq_true (p k) with hp | hp
      · have e := perfTo_yes (l := d.sec) (ws := d.cache) (p := p) hk' hp
        have hx := h d.cache[k] (List.getElem_mem hk')
        by_cases hq : d.cache[k].at_ = n
        · rw [rcAt_yes hk' hq hp]
          have : d.cache[k].at_.toNat = n := by omega
          simp only [e, this, List.getElem_set_self]
        · rw [rcAt_no hk' (.inl hq), ← ih n hn (by omega)]
          have : d.cache[k].at_.toNat ≠ n := by omega
          simp only [e, List.getElem_set_ne this]
      · have e := perfTo_no (l := d.sec) (ws := d.cache) (p := p) hk' hp
        rw [rcAt_no hk' (.inr hp), ← ih n hn (by omega)]
        simp only [e]
  apply List.ext_getElem
  · simp [rcrashL, perfTo_length]
  · intro n h1 h2
    have hn : n < d.sec.length := by simpa [rcrashL] using h1
    rw [key d.cache.length n hn (Nat.le_refl _)]
    simp [rcrashL, List.getElem?_eq_getElem hn]

end Go.Proofs.YtagpimahicgkmaaDoor

/-! A region that draws its order: all but its last operations only read. Of no program. -/
namespace Go.Proofs.YtagpimahicgkmaaDoor

theorem region_tail {P : Program} {id : Nat} {Q : Exit → Act → World → Prop} {a : Act} {w : World} {l : List Oper} (n : Nat) (hm : P.follows .mixedOrders = true) (hB : Region.lexTailB .any l.toArray n = true)
    (h : wpStill P l.toArray w.drew (fun a' => wpList P l.toArray Q (l.drop n) a' w.drew) (l.take n) a) : (Code.region id l.toArray true).wp P Q a w :=
  wp_region_still_tail n hm hB h

end Go.Proofs.YtagpimahicgkmaaDoor

/-! What has turned of a world, block by block. Of no program. -/
namespace Go.Proofs.YtagpimahicgkmaaDoor
open Go.RowKit

/-- Nothing has turned but the blocks of S, and new ones. -/
structure Turn (S : Nat → Prop) (w w' : World) : Prop where
  os : w'.os = w.os
  tape : w'.tape = w.tape
  output : w'.output = w.output
  size : w.heap.size ≤ w'.heap.size
  block : ∀ k, k < w.heap.size → ¬ S k → w'.heap[k]? = w.heap[k]?
theorem Turn.refl (S : Nat → Prop) (w : World) : Turn S w w := ⟨rfl, rfl, rfl, Nat.le_refl _, fun _ _ _ => rfl⟩
theorem Turn.trans {S : Nat → Prop} {a b c : World} (h : Turn S a b) (k : Turn S b c) : Turn S a c :=
  ⟨k.os.trans h.os, k.tape.trans h.tape, k.output.trans h.output, Nat.le_trans h.size k.size, fun j hj hn => (k.block j (Nat.lt_of_lt_of_le hj h.size) hn).trans (h.block j hj hn)⟩
/-- The later step may turn new blocks too. -/
theorem Turn.trans' {S T : Nat → Prop} {a b c : World} (h : Turn S a b) (k : Turn T b c) (hT : ∀ j, T j → S j ∨ a.heap.size ≤ j) : Turn S a c :=
  ⟨k.os.trans h.os, k.tape.trans h.tape, k.output.trans h.output, Nat.le_trans h.size k.size, fun j hj hn => (k.block j (Nat.lt_of_lt_of_le hj h.size) (fun ht => (hT j ht).elim hn (fun hh => by omega))).trans (h.block j hj hn)⟩
theorem Turn.mono {S T : Nat → Prop} {a b : World} (h : Turn S a b) (k : ∀ j, S j → T j) : Turn T a b := ⟨h.os, h.tape, h.output, h.size, fun j hj hn => h.block j hj (fun hs => hn (k j hs))⟩
theorem Turn.of_grown {a b : World} {r : Option Nat} (h : a.grownBy b r) : Turn (fun k => r = some k) a b := ⟨h.os, h.tape, h.output, h.size, fun j hj hn => h.block j hj (fun e => hn e.symm)⟩
theorem Turn.drewN {S : Nat → Prop} {a b : World} (h : Turn S a b) (n : Nat) : Turn S a (b.drewN n) := ⟨h.os, h.tape, h.output, h.size, h.block⟩
theorem Turn.alloc {S : Nat → Prop} {a b : World} (h : Turn S a b) (o : Obj) : Turn S a (b.alloc o) :=
  ⟨h.os, h.tape, h.output, by simp; have := h.size; omega, fun j hj hn => (Below.heap_alloc b o j (Nat.lt_of_lt_of_le hj h.size)).trans (h.block j hj hn)⟩
theorem Turn.setCell {S : Nat → Prop} {a b : World} (h : Turn S a b) {p : Addr} (hp : S p.block) (u : Value) : Turn S a (b.setCell p u) :=
  ⟨h.os, h.tape, h.output, by simpa [World.setCell] using h.size, fun j hj hn => (Below.heap_setCell b p u j (fun e => hn (by subst e; exact hp))).trans (h.block j hj hn)⟩
theorem Turn.below {S : Nat → Prop} {B : Nat} {a b : World} (h : Turn S a b) (hS : ∀ k, S k → B ≤ k) (hB : B ≤ a.heap.size) : Below B a b :=
  ⟨h.os, h.tape, h.output, h.size, fun k hk => h.block k (by omega) (fun hs => by have := hS k hs; omega)⟩
theorem Own.turn {S : Nat → Prop} {w w' : World} {g : Nat} {t : TypeId} {cs : List Value} (h : Own w g t cs) (k : Turn S w w') (hg : ¬ S g) : Own w' g t cs := (k.block g h.lt hg).trans h

theorem Turn.cell {S : Nat → Prop} {w w' : World} (k : Turn S w w') {p : Addr} {v : Value} (h : w.cell? p = some v) (hp : ¬ S p.block) : w'.cell? p = some v :=
  (World.cell?_of_block (k.block p.block (World.block_lt_of_cell? w p h) hp)).trans h
theorem Turn.frozen {S : Nat → Prop} {w w' : World} (k : Turn S w w') {p : Addr} (hl : p.block < w.heap.size) (hp : ¬ S p.block) : w'.frozen? p = w.frozen? p :=
  World.frozen?_of_block (k.block p.block hl hp)
theorem Turn.of_kept {S : Nat → Prop} {w w' : World} (k : Kept w w') : Turn S w w' := ⟨k.os, k.tape, k.output, k.size, fun j hj _ => k.block j hj⟩
theorem Turn.drew {S : Nat → Prop} {a b : World} (h : Turn S a b) : Turn S a b.drew := ⟨h.os, h.tape, h.output, h.size, h.block⟩
end Go.Proofs.YtagpimahicgkmaaDoor

/-! Slices of whatever element type: appending to a row of the call's own. Of no program. -/
namespace Go.Proofs.YtagpimahicgkmaaDoor
open Go.RowKit

/-- An element type e, with its slice type sl; f: the cells of an element. -/
structure Elem (P : Program) (sl e : TypeId) (size bytes : Nat) {α : Type} (f : α → List Value) : Prop where
  und : P.underlying sl = some (.slice e)
  info : ∃ i z, P.info? e = some i ∧ i.zero = some z ∧ i.size = size ∧ i.bytes = bytes ∧ z.cells.size = size
  pos : 0 < size
  len : ∀ x, (f x).length = size
theorem Elem.of {P : Program} {sl e : TypeId} {size bytes : Nat} {α : Type} {f : α → List Value} {z : Value} (hu : P.underlying sl = some (.slice e)) (h : (P.info? e).map (fun i => (i.zero, i.size, i.bytes)) = some (some z, size, bytes))
    (hz : z.cells.size = size) (hp : 0 < size) (hl : ∀ x, (f x).length = size) : Elem P sl e size bytes f := by
  refine ⟨hu, ?_, hp, hl⟩
  cases hi : P.info? e with
  | none => rw [hi] at h; cases h
  | some i =>
    rw [hi] at h
    simp only [Option.map_some, Option.some.injEq, Prod.mk.injEq] at h
    exact ⟨i, z, rfl, h.1, h.2.1, h.2.2, hz⟩

section
variable {P : Program} {sl e : TypeId} {size bytes : Nat} {α : Type} {f : α → List Value}
theorem Elem.cells_length (E : Elem P sl e size bytes f) (l : List α) : (l.flatMap f).length = l.length * size := by
  induction l with
  | nil => simp
  | cons a l ih => rw [List.flatMap_cons, List.length_append, ih, E.len, List.length_cons, Nat.succ_mul, Nat.add_comm]

theorem Elem.wpList_app (E : Elem P sl e size bytes f) {w : World} {ops : Array Oper} {rest : List Oper} {o : Oper} {a : Act} {Q : Exit → Act → World → Prop} (hgd : o.guard = none) (s x : Operand)
    (ho : o.op = .call { callee := .builtin .append, args := #[s, x], argTypes := #[sl, sl] })
    (base : Nat) (v : Value) (l : List α) (hs : a.eval s = v) (hown : w.ownsRow base e size v l.length (l.flatMap f))
    (V : List Nat) (A : Option Addr) (c : Nat) (m : List α) (hx : a.eval x = .slice A m.length c) (hr : Row V w A (m.flatMap f)) (h1 : ∀ u ∈ m.flatMap f, u.oneCell' = true) (hlen : l.length + m.length ≤ maxLen) (h63 : (l.length + m.length) * bytes ≤ 140737488355328) (hbase : base ≤ w.heap.size)
    (h : ∀ v' w', w'.ownsRow base e size v' (l ++ m).length ((l ++ m).flatMap f) → w.grownBy w' v.ownBlock → (v'.ownBlock = v.ownBlock ∨ v'.ownBlock = some w.heap.size) → wpList P ops Q rest (a.put o.dst v') w') : wpList P ops Q (o :: rest) a w := by
  obtain ⟨i, z, hi, hz, hsz, hb, hzs⟩ := E.info
  refine wpList_append_any w hgd s x _ ho base _ i _ size bytes E.und hi hz hsz hb hzs E.pos v l.length (l.flatMap f) hs hown V A m.length c (m.flatMap f) hx (E.cells_length m) hr h1 hlen h63 hbase ?_
  intro v' w' h1 h2 h3
  exact h v' w' (by rw [List.flatMap_append, List.length_append]; exact h1) h2 h3

theorem Elem.step_app (E : Elem P sl e size bytes f) {w : World} {ops : Array Oper} {o : Oper} {a : Act} {K : Act → World → Prop} {Q : Exit → Act → World → Prop} {F : Prop} (hgd : o.guard = none) (s x : Operand)
    (ho : o.op = .call { callee := .builtin .append, args := #[s, x], argTypes := #[sl, sl] })
    (base : Nat) (v : Value) (l : List α) (hs : a.eval s = v) (hown : w.ownsRow base e size v l.length (l.flatMap f))
    (V : List Nat) (A : Option Addr) (c : Nat) (m : List α) (hx : a.eval x = .slice A m.length c) (hr : Row V w A (m.flatMap f)) (h1 : ∀ u ∈ m.flatMap f, u.oneCell' = true) (hlen : l.length + m.length ≤ maxLen) (h63 : (l.length + m.length) * bytes ≤ 140737488355328) (hbase : base ≤ w.heap.size)
    (h : ∀ v' w', w'.ownsRow base e size v' (l ++ m).length ((l ++ m).flatMap f) → w.grownBy w' v.ownBlock → (v'.ownBlock = v.ownBlock ∨ v'.ownBlock = some w.heap.size) → K (a.put o.dst v') w') :
    if Region.wanted o (yielded ops a.tmps) = true then Oper.wp P o a w K Q else F := by
  obtain ⟨i, z, hi, hz, hsz, hb, hzs⟩ := E.info
  refine step_append_any w hgd s x _ ho base _ i _ size bytes E.und hi hz hsz hb hzs E.pos v l.length (l.flatMap f) hs hown V A m.length c (m.flatMap f) hx (E.cells_length m) hr h1 hlen h63 hbase ?_
  intro v' w' h1 h2 h3
  exact h v' w' (by rw [List.flatMap_append, List.length_append]; exact h1) h2 h3
end

/-- The own block of a slice value, as a list. -/
def ownL (v : Value) : List Nat := v.ownBlock.toList
/-- A row is as it was if what turned is none of its blocks. -/
theorem Row.turn {V U : List Nat} {S : Nat → Prop} {w w' : World} {A : Option Addr} {xs : List Value} (h : Row V w A xs) (k : Turn S w w') (hS : ∀ j, j < w.heap.size → S j → j ∈ V) (hU : Ext U w V) : Row U w' A xs := fun hx => by
  obtain ⟨b, o, e, hb, hv, hc⟩ := h hx
  refine ⟨b, o, e, Nat.lt_of_lt_of_le hb k.size, fun hm => ?_, fun j u hu => k.cell (hc j u hu) (fun hs => hv (hS b hb hs))⟩
  rcases hU b hm with h1 | h1
  · exact hv h1
  · omega
theorem ownL_grown {w : World} {v v' : Value} (h : v'.ownBlock = v.ownBlock ∨ v'.ownBlock = some w.heap.size) {V U : List Nat} (hV : Ext U w V) : Ext (ownL v' ++ U) w (ownL v ++ V) := fun k hk => by
  rcases List.mem_append.1 hk with hk | hk
  · unfold ownL at hk
    rcases h with h | h
    · rw [h] at hk; exact .inl (List.mem_append.2 (.inl hk))
    · rw [h] at hk
      have : k = w.heap.size := by simpa using hk
      exact .inr (by omega)
  · rcases hV k hk with h1 | h1
    · exact .inl (List.mem_append.2 (.inr h1))
    · exact .inr h1
theorem Row.appd {V U : List Nat} {w w' : World} {A : Option Addr} {xs : List Value} {v v' : Value} (h : Row (ownL v ++ V) w A xs) (g : w.grownBy w' v.ownBlock) (hat : v'.ownBlock = v.ownBlock ∨ v'.ownBlock = some w.heap.size) (hU : Ext U w V) : Row (ownL v' ++ U) w' A xs :=
  h.turn (Turn.of_grown g) (fun j _ hj => List.mem_append.2 (.inl (by unfold ownL; rw [hj]; simp))) (ownL_grown hat hU)
theorem ownsRow_turn {S : Nat → Prop} {w w' : World} {base : Nat} {e : TypeId} {size n : Nat} {v : Value} {xs : List Value} (h : w.ownsRow base e size v n xs) (k : Turn S w w') (hS : ∀ g, v.ownBlock = some g → ¬ S g) : w'.ownsRow base e size v n xs := by
  refine ⟨h.1, ?_⟩
  rcases h.2 with h | ⟨g, cap, cur, rfl, hg, hh, h1⟩
  · exact .inl h
  · exact .inr ⟨g, cap, cur, rfl, hg, (k.block g (Array.getElem?_eq_some_iff.1 hh).1 (hS g rfl)).trans hh, h1⟩
theorem ownsRow_kept {w w' : World} {base : Nat} {e : TypeId} {size n : Nat} {v : Value} {xs : List Value} (h : w.ownsRow base e size v n xs) (k : Kept w w') : w'.ownsRow base e size v n xs :=
  ownsRow_turn h (Turn.of_kept (S := fun _ => False) k) (fun _ _ h => h)
end Go.Proofs.YtagpimahicgkmaaDoor

/-! A region that draws its order: loads may be taken first where only LATE operations (those that wait for them) write what they read. Of no program. -/
namespace Go.Proofs.YtagpimahicgkmaaDoor

section
variable {P : Program} {ops : Array Oper} {Q : Exit → Act → World → Prop} {md : Region.Mode} {S : World → Prop} {Z : List Nat}

/-- What has come up has come up behind what it waits for. -/
def closedB (md : Region.Mode) (ops : Array Oper) (listed : Array Bool) : Bool :=
  (List.range ops.size).all fun k => !(listed.getD k false) || match ops[k]? with
    | some o => o.after.all fun e => !(Region.binds md e) || listed.getD e.on false
    | none => true
/-- Number k waits for number i, by at most n edges. -/
def waitsB (md : Region.Mode) (ops : Array Oper) (i : Nat) : Nat → Nat → Bool
  | 0, _ => false
  | n + 1, k => match ops[k]? with
    | some o => o.after.any fun e => Region.binds md e && (e.on == i || waitsB md ops i n e.on)
    | none => false
def Shut2 (md : Region.Mode) (ops : Array Oper) (listed : Array Bool) : Prop :=
  ∀ k o, ops[k]? = some o → listed.getD k false = true → ∀ e ∈ o.after, Region.binds md e = true → listed.getD e.on false = true
theorem shut2_of {listed : Array Bool} (h : closedB md ops listed = true) : Shut2 md ops listed := fun k o hk hl e he hb => by
  have hlt : k < ops.size := (Array.getElem?_eq_some_iff.1 hk).1
  have h1 := List.all_eq_true.1 h k (List.mem_range.2 hlt)
  rw [hl, hk] at h1
  simp only [Bool.not_true, Bool.false_or] at h1
  have h2 := Array.all_eq_true_iff_forall_mem.1 h1 e he
  rw [hb] at h2
  simpa using h2
theorem getD_false_true {l : Array Bool} {i : Nat} (h : l.getD i true = false) : l.getD i false = false := by
  rcases Nat.lt_or_ge i l.size with h' | h'
  · simp [h'] at h ⊢; exact h
  · simp [Array.getElem?_eq_none h'] at h
theorem Shut2.set {listed : Array Bool} {j : Nat} (h : Shut2 md ops listed) (hj : j ∈ Region.ready md ops listed) : Shut2 md ops (listed.setIfInBounds j true) := fun k o hk hl e he hb => by
  by_cases hkj : j = k
  · subst hkj
    obtain ⟨_, o', ho', hall⟩ := mem_ready.1 hj
    rw [hk] at ho'; cases ho'
    exact getD_set_true (hall e he hb)
  · rw [getD_set_ne false hkj] at hl
    exact getD_set_true (h k o hk hl e he hb)
theorem any_mem {α : Type} {l : Array α} {p : α → Bool} (h : l.any p = true) : ∃ e ∈ l, p e = true := by
  obtain ⟨x, hx, hh⟩ := Array.any_eq_true.1 h
  exact ⟨l[x], Array.getElem_mem hx, hh⟩
theorem waits_done {listed : Array Bool} {i : Nat} (h : Shut2 md ops listed) : ∀ (n k : Nat), waitsB md ops i n k = true → listed.getD k false = true → listed.getD i false = true
  | 0, _, hw, _ => by cases hw
  | n + 1, k, hw, hl => by
    unfold waitsB at hw
    split at hw
    · rename_i o ho
      obtain ⟨e, he, h1⟩ := any_mem hw
      rw [Bool.and_eq_true, Bool.or_eq_true] at h1
      have hd := h k o ho hl e he h1.1
      rcases h1.2 with h2 | h2
      · rw [beq_iff_eq] at h2; rw [← h2]; exact hd
      · exact waits_done h n _ h2 hd
    · cases hw
theorem waits_not_ready {listed : Array Bool} {i k n : Nat} (h : Shut2 md ops listed) (hw : waitsB md ops i n k = true) (hi : listed.getD i true = false) : k ∉ Region.ready md ops listed := fun hk => by
  have hs := h.set hk
  have hlk : (listed.setIfInBounds k true).getD k false = true := by
    have h0 := (mem_ready.1 hk).1
    rcases Nat.lt_or_ge k listed.size with h' | h'
    · simp [h']
    · simp [Array.getElem?_eq_none h'] at h0
  have h1 := waits_done hs n k hw hlk
  by_cases hki : k = i
  · subst hki
    obtain ⟨_, o, ho, hall⟩ := mem_ready.1 hk
    -- k waits for itself: then some edge of it leads back; but all edges of k have come up
    cases n with
    | zero => cases hw
    | succ n =>
      unfold waitsB at hw
      rw [ho] at hw
      obtain ⟨e, he, h2⟩ := any_mem hw
      rw [Bool.and_eq_true, Bool.or_eq_true] at h2
      have hd := hall e he h2.1
      have hn := getD_false_true hi
      rcases h2.2 with h3 | h3
      · rw [beq_iff_eq] at h3; rw [h3, hn] at hd; cases hd
      · have := waits_done h n _ h3 hd
        rw [hn] at this; cases this
  · rw [getD_set_ne false hki, getD_false_true hi] at h1
    cases h1

/-- Whatever order is picked from here on, and S holds behind every operation but those of Z. -/
def wpAnyZ (P : Program) (md : Region.Mode) (ops : Array Oper) (Q : Exit → Act → World → Prop) (S : World → Prop) (Z : List Nat) : Nat → Array Bool → Act → World → Prop
  | 0, listed, a, w => Region.ready md ops listed = [] ∧ Q .normal a w
  | fuel + 1, listed, a, w =>
    (Region.ready md ops listed = [] → Q .normal a w) ∧
    ∀ i ∈ Region.ready md ops listed, wpOp P ops Q i (fun a' w' => (i ∈ Z ∨ S w') ∧ wpAnyZ P md ops Q S Z fuel (listed.setIfInBounds i true) a' w') a w

theorem wpAny_of_Z : ∀ (fuel : Nat) (listed : Array Bool) (a : Act) (w : World), wpAnyZ P md ops Q S Z fuel listed a w → wpAny P md ops Q fuel listed a w
  | 0, _, _, _, h => h
  | fuel + 1, _, _, _, h => ⟨h.1, fun i hi => wpOp_mono (fun a' w' h' => wpAny_of_Z fuel _ a' w' h'.2) (h.2 i hi)⟩

theorem wpAnyZ_first {i : Nat} {oi : Oper} {v : Value} {n : Nat} (hi : ops[i]? = some oi) (hsel : ∀ (j : Nat) (o : Oper) cs b, ops[j]? = some o → o.op ≠ .select cs b)
    (hQ : ∀ c a w, Q (.panic c) (a.put oi.dst v) w → Q (.panic c) a w) (hZ : ∀ z ∈ Z, waitsB md ops i n z = true) :
    ∀ (fuel : Nat) (listed : Array Bool) (a : Act) (w : World), Shut2 md ops listed →
      (∀ j oj, ops[j]? = some oj → j ≠ i → listed.getD j true = false → (∀ e ∈ oj.after, Region.binds md e = true → e.on ≠ i) → oi.apart ops oj = true) →
      i ∈ Region.ready md ops listed → YieldsIf P ops S oi v a → S w →
      wpAnyZ P md ops Q S Z fuel (listed.setIfInBounds i true) (a.put oi.dst v) w → wpAnyZ P md ops Q S Z (fuel + 1) listed a w := by
  intro fuel
  induction fuel with
  | zero =>
    intro listed a w _ _ hr hy hS H
    refine ⟨fun h => (by rw [h] at hr; cases hr), fun j hj => ?_⟩
    by_cases hji : j = i
    · subst hji; exact hy.wpOp hi hS ⟨.inr hS, H⟩
    · have := ready_mono hj hji
      rw [H.1] at this
      cases this
  | succ fuel ih =>
    intro listed a w hsh hfree hr hy hS H
    refine ⟨fun h => (by rw [h] at hr; cases hr), fun j hj => ?_⟩
    by_cases hji : j = i
    · subst hji; exact hy.wpOp hi hS ⟨.inr hS, H⟩
    · have h1 := H.2 j (ready_mono hj hji)
      have hjz : j ∉ Z := fun hz => waits_not_ready hsh (hZ j hz) (mem_ready.1 hr).1 hj
      obtain ⟨hjun, oj, hoj, hall⟩ := mem_ready.1 hj
      have hnot : ∀ e ∈ oj.after, Region.binds md e = true → e.on ≠ i := fun e he hb heq => by
        have h2 := hall e he hb
        rw [heq, getD_false_true (mem_ready.1 hr).1] at h2
        cases h2
      have h2 := wpOp_putIf hoj (hfree j oj hoj hji hjun hnot) (fun cs b => hsel i oi cs b hi) (fun cs b => hsel j oj cs b hoj) hQ hy h1
      have hfree' : ∀ k ok, ops[k]? = some ok → k ≠ i → (listed.setIfInBounds j true).getD k true = false →
          (∀ e ∈ ok.after, Region.binds md e = true → e.on ≠ i) → oi.apart ops ok = true := fun k ok hk hki hun hno => by
        refine hfree k ok hk hki ?_ hno
        by_cases hjk : j = k
        · subst hjk; exact hjun
        · rw [getD_set_ne true hjk] at hun; exact hun
      refine wpOp_mono (fun a' w' h3 => ?_) h2
      have hS' : S w' := h3.2.1.elim (fun hz => absurd hz hjz) id
      refine ⟨.inr hS', ih (listed.setIfInBounds j true) a' w' (hsh.set hj) hfree' (ready_mono hr (Ne.symm hji)) h3.1 hS' ?_⟩
      rw [Array.setIfInBounds_comm _ _ hji]
      exact h3.2.2

/-- Take number i first. -/
theorem wpAnyZ_take {i : Nat} {oi : Oper} {v : Value} {fuel : Nat} {listed : Array Bool} {a : Act} {w : World} (hi : ops[i]? = some oi)
    (hs : (Region.noSelect ops && Region.free md ops listed i && (Region.ready md ops listed).contains i && closedB md ops listed && Z.all (waitsB md ops i ops.size)) = true)
    (hQ : ∀ c a w, Q (.panic c) (a.put oi.dst v) w → Q (.panic c) a w) (hy : YieldsIf P ops S oi v a) (hS : S w)
    (h : wpAnyZ P md ops Q S Z fuel (listed.setIfInBounds i true) (a.put oi.dst v) w) : wpAnyZ P md ops Q S Z (fuel + 1) listed a w := by
  simp only [Bool.and_eq_true] at hs
  obtain ⟨⟨⟨⟨h1, h2⟩, h3⟩, h4⟩, h5⟩ := hs
  exact wpAnyZ_first hi (Region.noSelect_spec h1) hQ (fun z hz => List.all_eq_true.1 h5 z hz) fuel listed a w (shut2_of h4) (Region.free_spec hi h2) (by simpa using h3) hy hS h

theorem wpAnyZ_done {listed : Array Bool} {a : Act} {w : World} (hr : Region.ready md ops listed = []) (h : Q .normal a w) :
    ∀ fuel, wpAnyZ P md ops Q S Z fuel listed a w
  | 0 => ⟨hr, h⟩
  | _ + 1 => ⟨fun _ => h, by rw [hr]; simp⟩

def AllReadyZ (P : Program) (md : Region.Mode) (ops : Array Oper) (Q : Exit → Act → World → Prop) (S : World → Prop) (Z : List Nat) (fuel : Nat) (listed : Array Bool) (a : Act) (w : World) (rs : List Nat) : Prop :=
  ∀ i ∈ rs, wpOp P ops Q i (fun a' w' => (i ∈ Z ∨ S w') ∧ wpAnyZ P md ops Q S Z fuel (listed.setIfInBounds i true) a' w') a w
theorem AllReadyZ.nil {fuel : Nat} {listed : Array Bool} {a : Act} {w : World} : AllReadyZ P md ops Q S Z fuel listed a w [] := fun _ h => by cases h
theorem AllReadyZ.cons {fuel : Nat} {listed : Array Bool} {a : Act} {w : World} {i : Nat} {o : Oper} {rs : List Nat} (ho : ops[i]? = some o)
    (h : ∀ K' : Act → World → Prop, Shut (∀ a w, S w → (S w → wpAnyZ P md ops Q S Z fuel (listed.setIfInBounds i true) a w) → K' a w) → if Region.wanted o (yielded ops a.tmps) = true then Oper.wp P o a w K' Q else K' (a.put o.dst undef) w)
    (hs : AllReadyZ P md ops Q S Z fuel listed a w rs) : AllReadyZ P md ops Q S Z fuel listed a w (i :: rs) := fun j hj => by
  rcases List.mem_cons.1 hj with rfl | hj
  · exact wpOp_step ho (fun K' hK => h K' (fun a w hS hW => hK a w ⟨.inr hS, hW hS⟩))
  · exact hs j hj
/-- An operation of Z: S need not be shown behind it. -/
theorem AllReadyZ.late {fuel : Nat} {listed : Array Bool} {a : Act} {w : World} {i : Nat} {o : Oper} {rs : List Nat} (ho : ops[i]? = some o) (hz : i ∈ Z)
    (h : ∀ K' : Act → World → Prop, Shut (∀ a w, wpAnyZ P md ops Q S Z fuel (listed.setIfInBounds i true) a w → K' a w) → if Region.wanted o (yielded ops a.tmps) = true then Oper.wp P o a w K' Q else K' (a.put o.dst undef) w)
    (hs : AllReadyZ P md ops Q S Z fuel listed a w rs) : AllReadyZ P md ops Q S Z fuel listed a w (i :: rs) := fun j hj => by
  rcases List.mem_cons.1 hj with rfl | hj
  · exact wpOp_step ho (fun K' hK => h K' (fun a w hW => hK a w ⟨.inl hz, hW⟩))
  · exact hs j hj
theorem wpAnyZ_ready {rs : List Nat} {fuel : Nat} {listed : Array Bool} {a : Act} {w : World} (hr : Region.ready md ops listed = rs) (hne : rs ≠ [])
    (h : AllReadyZ P md ops Q S Z fuel listed a w rs) : wpAnyZ P md ops Q S Z (fuel + 1) listed a w := ⟨fun h0 => absurd (hr ▸ h0) hne, hr ▸ h⟩
theorem wp_region_Z {id : Nat} {a : Act} {w : World} (hm : P.follows .mixedOrders = true) (hS : S w.drew)
    (h : S w.drew → wpAnyZ P .any ops Q S Z ops.size (Array.replicate ops.size false) a w.drew) : (Code.region id ops true).wp P Q a w :=
  wp_region_any hm (wpAny_of_Z _ _ _ _ (h hS))
end
end Go.Proofs.YtagpimahicgkmaaDoor

/-! Plain facts on disks: what a flush and a crash do. -/
namespace Go.Proofs.YtagpimahicgkmaaDoor

theorem perfTo_get {d : Dk} {p : Nat → Bool} (h : ∀ x ∈ d.cache, 0 ≤ x.at_) {n : Nat} (hn : n < d.sec.length) : (perfTo d.sec d.cache p d.cache.length)[n]'(by rw [perfTo_length]; exact hn) = rcAt d.sec[n] d.cache p n d.cache.length := by
  have e := rcrash_perf p h
  have h1 : n < (rcrashL d p).length := by simpa [rcrashL] using hn
  have : (rcrashL d p)[n] = rcAt d.sec[n] d.cache p n d.cache.length := by simp [rcrashL, List.getElem?_eq_getElem hn]
  rw [← this]
  simp only [e]
theorem rcAt_all (s : ByteArray) (ws : List Wr) (n : Nat) : ∀ k, k ≤ ws.length → rcAt s ws (fun _ => true) n k = readTo n s (ws.take k)
  | 0, _ => rfl
  | k + 1, h => by
    have ih := rcAt_all s ws n k (by omega)
    rw [readTo_take (by omega)]
    by_cases hq : (ws[k]'(by omega)).at_ = n
    · rw [rcAt_yes (by omega) hq rfl, if_pos hq]
    · rw [rcAt_no (by omega) (.inl hq), if_neg hq, ih]
theorem perf_size {d : Dk} {p : Nat → Bool} (h : rightB d = true) : ∀ k, ∀ s ∈ perfTo d.sec d.cache p k, s.size = 64
  | 0 => (right_parts h).2.2.1
  | k + 1 => by
    have ih := perf_size (p := p) h k
    intro s hs
    simp only [perfTo] at hs
    split at hs
    · rename_i x hx
      split at hs
      · rcases List.mem_or_eq_of_mem_set hs with hs | rfl
        · exact ih s hs
        · exact ((right_parts h).2.2.2 x (List.mem_of_getElem? hx)).2.2
      · exact ih s hs
    · exact ih s hs
theorem right_perf {d : Dk} (p : Nat → Bool) (h : rightB d = true) : rightB (perf d p) = true := by
  obtain ⟨h1, h2, _, _⟩ := right_parts h
  have : (perfTo d.sec d.cache p d.cache.length).all (·.size == 64) = true := by
    rw [List.all_eq_true]; intro s hs; simpa using perf_size h _ s hs
  simp only [rightB, perf, perfTo_length, h1, h2, this, List.all_nil, decide_true, Bool.and_self]
theorem read_flush {d : Dk} (h : rightB d = true) {n : Nat} (hn : n < d.sec.length) : readD (perf d fun _ => true) n = readD d n := by
  have hx : ∀ x ∈ d.cache, 0 ≤ x.at_ := fun x hx => ((right_parts h).2.2.2 x hx).1
  have e := perfTo_get (p := fun _ => true) hx hn
  have hn' : n < (perfTo d.sec d.cache (fun _ => true) d.cache.length).length := by rw [perfTo_length]; exact hn
  simp only [readD, perf, readTo, List.foldl_nil, List.getD_eq_getElem?_getD, List.getElem?_eq_getElem hn', List.getElem?_eq_getElem hn, Option.getD_some]
  rw [e, rcAt_all _ _ _ _ (Nat.le_refl _), List.take_of_length_le (Nat.le_refl _)]
  rfl
theorem crash_flushed {d : Dk} (h : rightB d = true) (hc : d.cache = []) (keep : List Int) : crashD d keep = d := by
  obtain ⟨sec, cache⟩ := d
  simp only at hc
  subst hc
  simp [crashD, h, perf, perfTo]
theorem perfTo_congr {l : List ByteArray} {ws : List Wr} {p q : Nat → Bool} : ∀ k, (∀ i, i < k → p i = q i) → perfTo l ws p k = perfTo l ws q k
  | 0, _ => rfl
  | k + 1, h => by
    simp only [perfTo, perfTo_congr k (fun i hi => h i (by omega)), h k (by omega)]
theorem crash_all {d : Dk} (h : rightB d = true) : crashD d (upTo d.cache.length) = perf d fun _ => true := by
  simp only [crashD, h, if_true, perf]
  rw [perfTo_congr (q := fun _ => true)]
  intro i hi
  simp only [upTo, List.contains_iff_mem, List.mem_map, List.mem_range]
  exact ⟨i, hi, rfl⟩
/-- What a sector reads behind a crash: as it was, or one of the writes that waited there. -/
theorem rcAt_from (s : ByteArray) (ws : List Wr) (p : Nat → Bool) (n : Nat) : ∀ k, k ≤ ws.length → rcAt s ws p n k = s ∨ ∃ x ∈ ws, x.at_ = n ∧ x.data = rcAt s ws p n k
  | 0, _ => .inl rfl
  | k + 1, h => by
    by_cases hq : (ws[k]'(by omega)).at_ = n ∧ p k = true
    · rw [rcAt_yes (by omega) hq.1 hq.2]
      exact .inr ⟨ws[k], List.getElem_mem _, hq.1, rfl⟩
    · rw [rcAt_no (by omega) (by
        rcases Bool.eq_false_or_eq_true (p k) with hp | hp
        · exact .inl (fun e => hq ⟨e, hp⟩)
        · exact .inr hp)]
      exact rcAt_from s ws p n k (by omega)
theorem read_perf {d : Dk} (h : rightB d = true) (p : Nat → Bool) {n : Nat} (hn : n < d.sec.length) : readR (perf d p) n = (rcAt d.sec[n] d.cache p n d.cache.length, 0) := by
  have e2 := right_perf p h
  have hn' : n < (perfTo d.sec d.cache p d.cache.length).length := by rw [perfTo_length]; exact hn
  have e4 := perfTo_get (p := p) (fun x hx => ((right_parts h).2.2.2 x hx).1) hn
  simp only [readR, e2, Bool.true_and]
  rw [if_pos (by simp only [perf, Bool.and_eq_true, decide_eq_true_eq]; exact ⟨by simp, decide_eq_true (Int.ofNat_lt.2 hn')⟩)]
  congr 1
  rw [← e4]
  simp [readD, readTo, perf, List.getElem?_eq_getElem hn']
def thereTo (cc sn : ByteArray) (n : Nat) (l : List Wr) (k : Nat) : Bool := (cc.toList == sn.toList) || (l.take k).any fun x => (x.at_ == (n : Int)) && (x.data.toList == cc.toList)
theorem thereTo_succ (cc sn : ByteArray) (n : Nat) (l : List Wr) (k : Nat) (h : k < l.length) : thereTo cc sn n l (k + 1) = (thereTo cc sn n l k || ((l[k].at_ == (n : Int)) && (l[k].data.toList == cc.toList))) := by
  simp only [thereTo, List.take_succ_eq_append_getElem h, List.any_append, List.any_cons, List.any_nil, Bool.or_false, Bool.or_assoc]
theorem thereTo_end {cc sn : ByteArray} {n : Nat} {l : List Wr} (h : cc = sn ∨ ∃ x ∈ l, x.at_ = n ∧ x.data = cc) {k : Nat} (hk : l.length ≤ k) : thereTo cc sn n l k = true := by
  simp only [thereTo, List.take_of_length_le hk, Bool.or_eq_true, List.any_eq_true, Bool.and_eq_true, beq_iff_eq]
  rcases h with h | ⟨x, hx, h1, h2⟩
  · exact .inl (by rw [h])
  · exact .inr ⟨x, hx, h1, by rw [h2]⟩
end Go.Proofs.YtagpimahicgkmaaDoor
