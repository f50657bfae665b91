/- Opening a slice of acts that comes in as an argument. -/
import Derived.Test.YtjinnkbnllnllaaIxOpen
import Derived.Test.YtjinnkbnllnllaaIxKeeps
namespace Go.Proofs.Ytjinnkbnllnllaa
open Go.RowKit Go.ChangeShapes Go.WideShapes Go.Deep Go.Joins

theorem Try.cellsAc : Try.prog.cellsOf 68 = 5 := by kernel_rfl
theorem row5_of {w : World} {a : Addr} {l : List Ac} (h : ∀ i (hi : i < l.length) (r : Nat) (u : Value), (acc l[i])[r]? = some u → w.cell? (a.add (i * 5 + r)) = some u) : Row [] w (some a) (acs l) :=
  row_of_cells fun j u hu => by
    have hj := (List.getElem?_eq_some_iff.1 hu).1
    rw [acs_length] at hj
    have h1 := acs_at' l (j / 5) (j % 5) (by omega) (by omega)
    rw [show j / 5 * 5 + j % 5 = j by omega, hu] at h1
    have := h (j / 5) (by omega) (j % 5) u h1.symm
    rwa [show j / 5 * 5 + j % 5 = j by omega] at this
section
variable {H : Type} {enc : TypeId × Value → H} {w : World} {base : Nat} {held : Bool}
set_option maxRecDepth 100000 in
theorem open_acsAt {r : Reach} {b0 : Nat} {v : Value} {d : DataW H} {p : List MemPlace} (hv : Value.okWide Try.prog w r b0 65 v) (h : DataW.Trod enc Try.prog w base (fun _ => true) held 65 v d p) : ∃ l, AcsAt w v l ∧ ∀ a ∈ l, AcOk a := by
  obtain ⟨a0, len0, cap0, rfl⟩ := okWide_slice Try.underlying65 hv
  obtain ⟨fuel, hf⟩ := h
  rcases open_slice_fields Try.underlying65 Try.underlying68 (by kernel_rfl) Try.cellsAc hf with ⟨hcs, _⟩ | ⟨a, len, cap, m, D, Pl, hcs, _, hl, hm, hmm, hx, hi⟩
  · simp only [Value.cells, List.cons.injEq, and_true, Value.slice.injEq] at hcs
    obtain ⟨rfl, rfl, rfl⟩ := hcs
    exact ⟨[], ⟨none, 0, rfl, Nat.le_refl _, Nat.zero_le _, Row.nil _ _ _⟩, fun _ h => by cases h⟩
  · simp only [Value.cells, List.cons.injEq, and_true, Value.slice.injEq] at hcs
    obtain ⟨rfl, rfl, rfl⟩ := hcs
    simp only [if_true] at hmm
    subst hmm
    obtain ⟨l, hll, hlc⟩ := list_of (R := fun i (q : Ac) => AcOk q ∧ ∀ r u, (acc q)[r]? = some u → w.cell? (a.add (i * 5 + r)) = some u) len0 (fun i hi' => by
      obtain ⟨ys, n, _, _, _, hf⟩ := hi i (by omega)
      obtain ⟨v0, y0, hc0, _, t0⟩ := hf 0 _ rfl
      obtain ⟨v1, y1, hc1, _, t1⟩ := hf 1 _ rfl
      obtain ⟨v2, y2, hc2, _, t2⟩ := hf 2 _ rfl
      obtain ⟨v3, y3, hc3, _, t3⟩ := hf 3 _ rfl
      obtain ⟨v4, y4, hc4, _, t4⟩ := hf 4 _ rfl
      obtain ⟨x0, e0, _, w0⟩ := DataW.trod_int Try.underlying3 t0
      obtain ⟨x1, e1, _, w1⟩ := DataW.trod_int Try.underlying3 t1
      obtain ⟨x2, e2, _, w2⟩ := DataW.trod_int Try.underlying3 t2
      obtain ⟨x3, e3, _, w3⟩ := DataW.trod_string Try.underlying9 t3
      obtain ⟨x4, e4, _, w4⟩ := DataW.trod_string Try.underlying9 t4
      simp only [List.cons.injEq, and_true] at e0 e1 e2 e3 e4
      subst e0 e1 e2 e3 e4
      refine ⟨⟨x0, x1, x2, x3, x4⟩, ⟨i64_of w1, w3, w4⟩, fun r u hu => ?_⟩
      match r, hu with
      | 0, hu => cases hu; exact hc0
      | 1, hu => cases hu; exact hc1
      | 2, hu => cases hu; exact hc2
      | 3, hu => cases hu; exact hc3
      | 4, hu => cases hu; exact hc4)
    refine ⟨l, ⟨some a, _, by rw [hll], by omega, hm, row5_of fun i hi' r u hu => (hlc i hi').2 r u hu⟩, fun q hq => ?_⟩
    obtain ⟨i, hi', rfl⟩ := List.getElem_of_mem hq
    exact (hlc i hi').1
end
end Go.Proofs.Ytjinnkbnllnllaa
