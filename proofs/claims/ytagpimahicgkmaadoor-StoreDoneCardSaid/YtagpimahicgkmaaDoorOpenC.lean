/- Opening changes that come in as an argument. -/
import Derived.Test.YtagpimahicgkmaaDoorOpen
import Derived.Test.YtagpimahicgkmaaDoorMh
namespace Go.Proofs.YtagpimahicgkmaaDoor
open Go.RowKit Go.ChangeShapes Go.WideShapes Go.Deep Go.Joins

theorem chgs_of {w : World} {a : Addr} : ∀ (n : Nat), (∀ i, i < n → ∃ (nm x : ByteArray) (rm : Bool), w.cell? (a.add (i * 3)) = some (.string nm) ∧ w.cell? (a.add (i * 3 + 1)) = some (.string x) ∧ w.cell? (a.add (i * 3 + 2)) = some (.bool rm)) →
    ∃ l : List Chg, l.length = n ∧ ∀ i (h : i < l.length), w.cell? (a.add (i * 3)) = some (.string l[i].name) ∧ w.cell? (a.add (i * 3 + 1)) = some (.string l[i].data) ∧ w.cell? (a.add (i * 3 + 2)) = some (.bool l[i].gone)
  | 0, _ => ⟨[], rfl, fun i h => absurd h (by simp)⟩
  | n + 1, h => by
    obtain ⟨l, hl, hc⟩ := chgs_of n (fun i hi => h i (by omega))
    obtain ⟨nm, x, rm, h1, h2, h3⟩ := h n (by omega)
    refine ⟨l ++ [⟨nm, x, rm⟩], by simp [hl], fun i hi => ?_⟩
    by_cases e : i < l.length
    · rw [List.getElem_append_left e]; exact hc i e
    · have : i = n := by simp at hi; omega
      subst this
      rw [List.getElem_append_right (by omega)]
      simp only [hl, Nat.sub_self, List.getElem_cons_zero]
      exact ⟨h1, h2, h3⟩
set_option maxRecDepth 100000
theorem Tryd.cellsChg : Tryd.prog.cellsOf 69 = 3 := by kernel_rfl
section
variable {H : Type} {enc : TypeId × Value → H} {w : World} {base : Nat} {held : Bool} {fuel : Nat}
theorem open_chgsAt {v : Value} {x : DataW H × List MemPlace} (h : DataW.trod enc Tryd.prog w base (fun _ => true) held fuel 63 [v] = some x) : ∃ l, ChgsAt [] w v l := by
  rcases open_slice_fields Tryd.underlying63 Tryd.underlying69 (by kernel_rfl) Tryd.cellsChg h with ⟨hcs, _⟩ | ⟨a, len, cap, m, D, Pl, hcs, _, hl, hm, hmm, hx, hi⟩
  · simp only [List.cons.injEq, and_true] at hcs
    subst hcs
    exact ⟨[], none, 0, rfl, Nat.le_refl _, Nat.zero_le _, Row.nil _ _ _⟩
  · simp only [List.cons.injEq, and_true] at hcs
    subst hcs
    simp only [if_true] at hmm
    subst hmm
    obtain ⟨l, hll, hlc⟩ := chgs_of (w := w) (a := a) len (fun i hi' => by
      obtain ⟨ys, n, _, _, _, hf⟩ := hi i (by omega)
      obtain ⟨v0, y0, hc0, _, t0⟩ := hf 0 _ rfl
      obtain ⟨v1, y1, hc1, _, t1⟩ := hf 1 _ rfl
      obtain ⟨v2, y2, hc2, _, t2⟩ := hf 2 _ rfl
      obtain ⟨s0, e0, _, _⟩ := DataW.trod_string Tryd.underlying9 t0
      obtain ⟨s1, e1, _, _⟩ := DataW.trod_string Tryd.underlying9 t1
      obtain ⟨s2, e2, _⟩ := DataW.trod_bool Tryd.underlying4 t2
      simp only [List.cons.injEq, and_true] at e0 e1 e2
      subst e0 e1 e2
      exact ⟨s0, s1, s2, hc0, hc1, hc2⟩)
    refine ⟨l, some a, _, by rw [hll], by omega, hm, row_of_cells fun j u hu => ?_⟩
    have hj := (List.getElem?_eq_some_iff.1 hu).1
    rw [chg_len] at hj
    have hk : j / 3 < l.length := by omega
    have := chg_at hk (j % 3) (by omega)
    rw [show j / 3 * 3 + j % 3 = j by omega, hu] at this
    obtain ⟨c0, c1, c2⟩ := hlc (j / 3) hk
    rcases (by omega : j % 3 = 0 ∨ j % 3 = 1 ∨ j % 3 = 2) with e | e | e <;> rw [e] at this <;> simp only [chgC, List.getElem?_cons_zero, List.getElem?_cons_succ] at this <;> injection this with this <;> subst this
    · have e9 : a.add j = a.add (j / 3 * 3) := by congr 1; omega
      rw [e9]; exact c0
    · have e9 : a.add j = a.add (j / 3 * 3 + 1) := by congr 1; omega
      rw [e9]; exact c1
    · have e9 : a.add j = a.add (j / 3 * 3 + 2) := by congr 1; omega
      rw [e9]; exact c2
theorem open_chgsT {r : Reach} {b0 : Nat} {v : Value} {d : DataW H} {p : List MemPlace} (hv : Value.okWide Tryd.prog w r b0 63 v) (h : DataW.Trod enc Tryd.prog w base (fun _ => true) held 63 v d p) : ∃ l : List Chg, ChgsAt [] w v l := by
  obtain ⟨a0, len, cap, rfl⟩ := okWide_slice Tryd.underlying63 hv
  obtain ⟨fuel, hf⟩ := h
  exact open_chgsAt (x := (d, p)) (by simpa [Value.cells] using hf)
end
end Go.Proofs.YtagpimahicgkmaaDoor
