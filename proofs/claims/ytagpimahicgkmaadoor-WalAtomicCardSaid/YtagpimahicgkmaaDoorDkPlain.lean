/- The disk in plain Lean: sectors, pending writes; when it is right. -/
import Derived.Test.YtagpimahicgkmaaDoorMem
namespace Go.Proofs.YtagpimahicgkmaaDoor
open Go.RowKit

structure Wr where
  at_ : Int
  data : ByteArray
structure Dk where
  sec : List ByteArray
  cache : List Wr

def strs (l : List ByteArray) : List Value := l.map Value.string
def wrs (l : List Wr) : List Value := l.flatMap fun x => [.int .i64 x.at_, .string x.data]

theorem strs_length (l : List ByteArray) : (strs l).length = l.length := by simp [strs]
theorem wrs_length (l : List Wr) : (wrs l).length = l.length * 2 := by
  induction l with
  | nil => rfl
  | cons a l ih => simp only [wrs, List.flatMap_cons, List.length_append] at *; simp [ih]; omega
theorem strs_set (l : List ByteArray) (m : Nat) (s : ByteArray) : strs (l.set m s) = (strs l).set m (.string s) := by simp [strs, List.map_set]
theorem strs_at {l : List ByteArray} {k : Nat} (h : k < l.length) : (strs l)[k]? = some (.string l[k]) := by simp [strs, h]
theorem wrs_at {l : List Wr} {k : Nat} (h : k < l.length) : (wrs l)[k * 2]? = some (.int .i64 l[k].at_) ∧ (wrs l)[k * 2 + 1]? = some (.string l[k].data) := by
  induction l generalizing k with
  | nil => simp at h
  | cons a l ih =>
    cases k with
    | zero => simp [wrs]
    | succ k =>
      have := ih (k := k) (by simpa using h)
      simp only [wrs, List.flatMap_cons, List.getElem_cons_succ] at *
      rw [show (k + 1) * 2 = k * 2 + 2 by omega, show k * 2 + 2 + 1 = k * 2 + 1 + 2 by omega]
      simpa using this

/-- A slice of strings reads as l. -/
def StrsAt (V : List Nat) (w : World) (v : Value) (l : List ByteArray) : Prop :=
  ∃ A c, v = .slice A l.length c ∧ l.length ≤ c ∧ c ≤ maxLen ∧ Row V w A (strs l)
def WrsAt (V : List Nat) (w : World) (v : Value) (l : List Wr) : Prop :=
  ∃ A c, v = .slice A l.length c ∧ l.length ≤ c ∧ c ≤ maxLen ∧ Row V w A (wrs l)
def DkAt (V : List Nat) (w : World) (v : Value) (d : Dk) : Prop :=
  ∃ s c, v = .agg #[s, c] ∧ StrsAt V w s d.sec ∧ WrsAt V w c d.cache

section
variable {V U : List Nat} {w w' : World} {v : Value}
theorem StrsAt.go {l : List ByteArray} (h : StrsAt V w v l) (k : Kept w w') (hU : Ext U w V) : StrsAt U w' v l := by
  obtain ⟨A, c, e, h1, h2, h3⟩ := h; exact ⟨A, c, e, h1, h2, h3.go k hU⟩
theorem WrsAt.go {l : List Wr} (h : WrsAt V w v l) (k : Kept w w') (hU : Ext U w V) : WrsAt U w' v l := by
  obtain ⟨A, c, e, h1, h2, h3⟩ := h; exact ⟨A, c, e, h1, h2, h3.go k hU⟩
theorem DkAt.go {d : Dk} (h : DkAt V w v d) (k : Kept w w') (hU : Ext U w V) : DkAt U w' v d := by
  obtain ⟨s, c, e, h1, h2⟩ := h; exact ⟨s, c, e, h1.go k hU, h2.go k hU⟩
theorem StrsAt.put {l : List ByteArray} (h : StrsAt V w v l) {p : Addr} (hp : p.block ∈ V) (u : Value) : StrsAt V (w.setCell p u) v l := by
  obtain ⟨A, c, e, h1, h2, h3⟩ := h; exact ⟨A, c, e, h1, h2, h3.put hp u⟩
theorem WrsAt.put {l : List Wr} (h : WrsAt V w v l) {p : Addr} (hp : p.block ∈ V) (u : Value) : WrsAt V (w.setCell p u) v l := by
  obtain ⟨A, c, e, h1, h2, h3⟩ := h; exact ⟨A, c, e, h1, h2, h3.put hp u⟩
theorem DkAt.put {d : Dk} (h : DkAt V w v d) {p : Addr} (hp : p.block ∈ V) (u : Value) : DkAt V (w.setCell p u) v d := by
  obtain ⟨s, c, e, h1, h2⟩ := h; exact ⟨s, c, e, h1.put hp u, h2.put hp u⟩
theorem DkAt.weak {d : Dk} (h : DkAt V w v d) (hU : ∀ k ∈ U, k ∈ V) : DkAt U w v d := h.go (Kept.refl _) (fun k hk => .inl (hU k hk))
end

theorem DkAt.form {V : List Nat} {w : World} {s c : Value} {d : Dk} (h : DkAt V w (.agg #[s, c]) d) : ∃ A k A' k', s = .slice A d.sec.length k ∧ c = .slice A' d.cache.length k' := by
  obtain ⟨s', c', e, ⟨A, k, rfl, _⟩, ⟨A', k', rfl, _⟩⟩ := h
  simp only [Value.agg.injEq, Array.mk.injEq, List.cons.injEq, and_true] at e
  exact ⟨A, k, A', k', e.1, e.2⟩
theorem DkAt.rows {V : List Nat} {w : World} {A A' : Option Addr} {n n' k k' : Nat} {d : Dk} (h : DkAt V w (.agg #[.slice A n k, .slice A' n' k']) d) :
    d.sec.length = n ∧ d.cache.length = n' ∧ n ≤ k ∧ k ≤ maxLen ∧ n' ≤ k' ∧ k' ≤ maxLen ∧ Row V w A (strs d.sec) ∧ Row V w A' (wrs d.cache) := by
  obtain ⟨s, c, e, ⟨B, j, rfl, h1, h2, h3⟩, ⟨B', j', rfl, h4, h5, h6⟩⟩ := h
  simp only [Value.agg.injEq, Array.mk.injEq, List.cons.injEq, and_true, Value.slice.injEq] at e
  obtain ⟨⟨rfl, rfl, rfl⟩, ⟨rfl, rfl, rfl⟩⟩ := e
  exact ⟨rfl, rfl, h1, h2, h4, h5, h3, h6⟩
theorem strsAt_own {V : List Nat} {w : World} {g : Nat} {t : TypeId} {l : List ByteArray} {n : Nat} (h : Own w g t (strs l)) (hn : l.length = n) (hm : n ≤ maxLen) (hV : g ∉ V) : StrsAt V w (.slice (some ⟨g, 0, none⟩) n n) l := by
  subst hn; exact ⟨_, _, rfl, Nat.le_refl _, hm, h.row hV⟩
theorem wrsAt_nil (V : List Nat) (w : World) : WrsAt V w (.slice none 0 0) [] := ⟨_, _, rfl, Nat.le_refl _, Nat.zero_le _, Row.nil _ _ _⟩
theorem strsAt_nil (V : List Nat) (w : World) : StrsAt V w (.slice none 0 0) [] := ⟨_, _, rfl, Nat.le_refl _, Nat.zero_le _, Row.nil _ _ _⟩

def fitsB (x : Wr) (n : Nat) : Bool := decide (0 ≤ x.at_) && decide (x.at_ < n) && x.data.size == 64
def rightB (d : Dk) : Bool := decide (1 ≤ d.sec.length) && decide (d.sec.length ≤ 1024) && d.sec.all (·.size == 64) && d.cache.all (fitsB · d.sec.length)

theorem all_take_succ {α : Type} (p : α → Bool) (l : List α) (k : Nat) (h : k < l.length) (ha : (l.take k).all p = true) (hp : p l[k] = true) : (l.take (k + 1)).all p = true := by
  rw [List.take_succ_eq_append_getElem h, List.all_append, ha]; simp [hp]
theorem all_of_take {α : Type} (p : α → Bool) (l : List α) (k : Nat) (h : l.length ≤ k) (ha : (l.take k).all p = true) : l.all p = true := by
  rwa [List.take_of_length_le h] at ha
theorem all_not {α : Type} (p : α → Bool) (l : List α) (k : Nat) (h : k < l.length) (hp : p l[k] = false) : l.all p = false := by
  rw [List.all_eq_false]; exact ⟨l[k], List.getElem_mem h, by simp [hp]⟩

end Go.Proofs.YtagpimahicgkmaaDoor
