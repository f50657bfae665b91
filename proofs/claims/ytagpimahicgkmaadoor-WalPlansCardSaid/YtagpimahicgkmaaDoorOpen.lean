/- Opening a disk that comes in as an argument. -/
import Derived.Test.YtagpimahicgkmaaDoorMa
import Derived.Test.YtagpimahicgkmaaDoorRows
import Derived.SliceStrings
import Derived.Deep.Slices
import Derived.Deep.Fields
import Derived.ChangeSame
import Derived.Lib.SmallJoins
import Derived.ProofKit
import Derived.SizedLaws
namespace Go.Proofs.YtagpimahicgkmaaDoor
open Go.RowKit Go.ChangeShapes Go.WideShapes Go.Deep Go.Joins

theorem row_of_cells {w : World} {a : Addr} {xs : List Value} (h : ∀ j u, xs[j]? = some u → w.cell? (a.add j) = some u) : Row [] w (some a) xs := fun hx => by
  obtain ⟨b, o, sp⟩ := a
  have h0 := h 0 xs[0] (List.getElem?_eq_getElem hx)
  have e0 : (⟨b, o, sp⟩ : Addr).add 0 = ⟨b, o, sp⟩ := by unfold Addr.add; simp
  rw [e0] at h0
  have hlt : b < w.heap.size := by
    rcases Nat.lt_or_ge b w.heap.size with hlt | hge
    · exact hlt
    · simp only [World.cell?, Array.getElem?_eq_none hge] at h0; cases h0
  cases sp with
  | none =>
    refine ⟨b, o, rfl, hlt, by simp, fun j u hu => ?_⟩
    have := h j u hu
    have e : (⟨b, o, none⟩ : Addr).add j = ⟨b, o + j, none⟩ := by unfold Addr.add; split <;> simp_all
    rwa [e] at this
  | some s =>
    exfalso
    simp only [World.cell?] at h0
    split at h0
    · simp at h0
    · cases h0

section
variable {H : Type} {enc : TypeId × Value → H} {P : Program} {w : World} {base : Nat} {spare : Nat → Bool} {held : Bool}
theorem open_slice_fields {t e : TypeId} {fs : Array Field} {fuel : Nat} {cs : List Value} {x : DataW H × List MemPlace} (ht : P.underlying t = some (.slice e)) (he : P.underlying e = some (.struct fs))
    (hone : oneCellFields P fs = true) (hC : P.cellsOf e = fs.size) (h : DataW.trod enc P w base spare held fuel t cs = some x) :
    (cs = [.slice none 0 0] ∧ x = (.nil, [])) ∨
    ∃ (a : Addr) (len cap m : Nat) (D : Nat → DataW H) (Pl : Nat → List MemPlace), cs = [.slice (some a) len cap] ∧ base ≤ a.block ∧ len ≤ cap ∧ cap ≤ maxLen ∧ m = (if spare a.block then cap else len) ∧
      x = (.slice ((List.range len).map D) ((List.range (m - len)).map fun j => D (len + j)), MemPlace.row a (m * fs.size) ++ (List.range m).flatMap Pl) ∧
      ∀ i, i < m → ∃ (ys : List (DataW H × List MemPlace)) (n : Nat), D i = .agg (ys.map (·.1)) ∧ Pl i = ys.flatMap (·.2) ∧ ys.length = fs.size ∧
        ∀ (j : Nat) (f : Field), fs[j]? = some f → ∃ (v : Value) (y : DataW H × List MemPlace), w.cell? (a.add (i * fs.size + j)) = some v ∧ ys[j]? = some y ∧ DataW.trod enc P w base spare held n f.type [v] = some y := by
  rcases open_slice ht h with h0 | ⟨a, len, cap, m, n, D, Pl, hcs, hb, hl, hm, hmm, hx, hi⟩
  · exact .inl h0
  · refine .inr ⟨a, len, cap, m, D, Pl, hcs, hb, hl, hm, hmm, by rw [hC] at hx; exact hx, fun i him => ?_⟩
    obtain ⟨cs', hc, ht'⟩ := hi i him
    rw [hC] at hc
    obtain ⟨ys, n', hn', hy, hlen, hyl, hf⟩ := DataW.trod_struct he ht'
    obtain ⟨_, hcl, hat⟩ := World.cells?_some hc
    simp only [Prod.mk.injEq] at hy
    refine ⟨ys, n', hy.1, hy.2, hyl, fun j f hj => ?_⟩
    obtain ⟨ho, hk⟩ := hone_of hone j f hj
    have hjl : j < fs.size := (Array.getElem?_eq_some_iff.1 hj).1
    have hcell := hat j hjl
    have hv : cs'[j]? = some (cs'[j]'(by omega)) := List.getElem?_eq_getElem (by omega)
    have h1 := hf j f hj
    rw [ho, hk] at h1
    have hone' : (cs'.drop j).take 1 = [cs'[j]'(by omega)] := by
      rw [List.drop_eq_getElem_cons (by omega)]
      rfl
    rw [hone'] at h1
    have hys : ys[j]? = some (ys[j]'(by omega)) := List.getElem?_eq_getElem (by omega)
    refine ⟨_, _, ?_, hys, h1.trans hys⟩
    rw [← Go.Deep.add_add, hcell, hv]
end

/-- Rows given cell by cell: n writes. -/
theorem wrs_of {w : World} {a : Addr} : ∀ (n : Nat), (∀ i, i < n → ∃ (x : Int) (s : ByteArray), w.cell? (a.add (i * 2)) = some (.int .i64 x) ∧ w.cell? (a.add (i * 2 + 1)) = some (.string s)) →
    ∃ l : List Wr, l.length = n ∧ ∀ i (h : i < l.length), w.cell? (a.add (i * 2)) = some (.int .i64 l[i].at_) ∧ w.cell? (a.add (i * 2 + 1)) = some (.string l[i].data)
  | 0, _ => ⟨[], rfl, fun i h => absurd h (by simp)⟩
  | n + 1, h => by
    obtain ⟨l, hl, hc⟩ := wrs_of n (fun i hi => h i (by omega))
    obtain ⟨x, s, h1, h2⟩ := h n (by omega)
    refine ⟨l ++ [⟨x, s⟩], by simp [hl], fun i hi => ?_⟩
    by_cases e : i < l.length
    · rw [List.getElem_append_left e]; exact hc i e
    · have : i = n := by simp at hi; omega
      subst this
      rw [List.getElem_append_right (by omega)]
      simp only [hl, Nat.sub_self, List.getElem_cons_zero]
      exact ⟨h1, h2⟩
theorem wrs_get {l : List Wr} {j : Nat} {u : Value} (h : (wrs l)[j]? = some u) : ∃ i, ∃ hi : i < l.length, (j = i * 2 ∧ u = .int .i64 l[i].at_) ∨ (j = i * 2 + 1 ∧ u = .string l[i].data) := by
  have hj := (List.getElem?_eq_some_iff.1 h).1
  rw [wrs_length] at hj
  rcases Nat.mod_two_eq_zero_or_one j with h0 | h1
  · refine ⟨j / 2, by omega, .inl ⟨by omega, ?_⟩⟩
    have := (wrs_at (l := l) (k := j / 2) (by omega)).1
    rw [show j / 2 * 2 = j by omega, h] at this
    injection this
  · refine ⟨j / 2, by omega, .inr ⟨by omega, ?_⟩⟩
    have := (wrs_at (l := l) (k := j / 2) (by omega)).2
    rw [show j / 2 * 2 + 1 = j by omega, h] at this
    injection this

set_option maxRecDepth 100000
theorem Tryd.cellsStr : Tryd.prog.cellsOf 9 = 1 := by kernel_rfl
theorem Tryd.cellsWr : Tryd.prog.cellsOf 38 = 2 := by kernel_rfl
theorem Tryd.cellsDk : Tryd.prog.cellsOf 25 = 2 := by kernel_rfl
theorem Tryd.bytesWr : Tryd.prog.bytesOf 38 = 24 := by kernel_rfl

section
variable {H : Type} {enc : TypeId × Value → H} {w : World} {base : Nat} {held : Bool} {fuel : Nat}
theorem open_strsAt {v : Value} {x : DataW H × List MemPlace} (h : DataW.trod enc Tryd.prog w base (fun _ => true) held fuel 22 [v] = some x) : ∃ l, StrsAt [] w v l := by
  rcases open_strings Tryd.underlying22 Tryd.underlying9 Tryd.cellsStr h with ⟨hcs, _⟩ | ⟨a, len, cap, ss, hcs, _, hl, hm, hz, _, hcell, _⟩
  · simp only [List.cons.injEq, and_true] at hcs
    subst hcs
    exact ⟨[], strsAt_nil _ _⟩
  · simp only [List.cons.injEq, and_true] at hcs
    subst hcs
    simp only [if_true] at hz
    refine ⟨ss.take len, some a, cap, by rw [List.length_take, Nat.min_eq_left (by omega)], by simp; omega, hm, row_of_cells fun j u hu => ?_⟩
    have hj := (List.getElem?_eq_some_iff.1 hu).1
    rw [strs_length, List.length_take] at hj
    rw [strs_at (by simp; omega)] at hu
    injection hu with hu
    rw [hcell j (by omega), ← hu]
    simp [List.getElem?_eq_getElem (show j < ss.length by omega)]

theorem open_wrsAt {v : Value} {x : DataW H × List MemPlace} (h : DataW.trod enc Tryd.prog w base (fun _ => true) held fuel 23 [v] = some x) (hsz : ∀ n ∈ x.1.weights Tryd.prog 23, n ≤ reachBytes) :
    ∃ l, WrsAt [] w v l ∧ l.length * 24 ≤ 140737488351232 := by
  rcases open_slice_fields Tryd.underlying23 Tryd.underlying38 (by kernel_rfl) Tryd.cellsWr h with ⟨hcs, _⟩ | ⟨a, len, cap, m, D, Pl, hcs, _, hl, hm, hmm, hx, hi⟩
  · simp only [List.cons.injEq, and_true] at hcs
    subst hcs
    exact ⟨[], wrsAt_nil _ _, by simp⟩
  · simp only [List.cons.injEq, and_true] at hcs
    subst hcs
    simp only [if_true] at hmm
    subst hmm
    obtain ⟨l, hll, hlc⟩ := wrs_of (w := w) (a := a) len (fun i hi' => by
      obtain ⟨ys, n, _, _, _, hf⟩ := hi i (by omega)
      obtain ⟨v0, y0, hc0, _, t0⟩ := hf 0 _ rfl
      obtain ⟨v1, y1, hc1, _, t1⟩ := hf 1 _ rfl
      obtain ⟨x0, e0, _, _⟩ := DataW.trod_int Tryd.underlying3 t0
      obtain ⟨s1, e1, _, _⟩ := DataW.trod_string Tryd.underlying9 t1
      simp only [List.cons.injEq, and_true] at e0 e1
      subst e0 e1
      exact ⟨x0, s1, hc0, hc1⟩)
    refine ⟨l, ⟨some a, _, by rw [hll], by omega, hm, row_of_cells fun j u hu => ?_⟩, ?_⟩
    · obtain ⟨i, hi', ⟨rfl, rfl⟩ | ⟨rfl, rfl⟩⟩ := wrs_get hu
      · exact (hlc i hi').1
      · exact (hlc i hi').2
    · have := hsz ((len + (m - len)) * Tryd.prog.bytesOf 38) (by
        rw [hx]
        simp only [DataW.weights, Tryd.underlying23, List.length_map, List.length_range, List.mem_cons, true_or])
      rw [Tryd.bytesWr] at this
      simp only [reachBytes] at this
      omega

theorem open_dk {r : Reach} {b0 : Nat} {v : Value} {d : DataW H} {p : List MemPlace} (hv : Value.okWide Tryd.prog w r b0 25 v) (h : DataW.Trod enc Tryd.prog w base (fun _ => true) held 25 v d p)
    (hsz : ∀ n ∈ d.weights Tryd.prog 25, n ≤ reachBytes) : ∃ k : Dk, DkAt [] w v k ∧ k.cache.length * 24 ≤ 140737488351232 := by
  obtain ⟨c0, c1, y0, y1, n, rfl, rfl, _, h0, h1⟩ := open_agg2 Tryd.underlying25 (by kernel_rfl) Tryd.cellsDk hv h
  obtain ⟨l0, k0⟩ := open_strsAt h0
  obtain ⟨l1, k1, k2⟩ := open_wrsAt h1 (fun n hn => hsz n (by
    simp only [DataW.weights, Tryd.underlying25, DataW.weightsEach, List.map_cons, List.map_nil, List.mem_append]
    exact .inr (.inl hn)))
  exact ⟨⟨l0, l1⟩, ⟨_, _, rfl, k0, k1⟩, k2⟩

theorem open_wr {r : Reach} {b0 : Nat} {v : Value} {d : DataW H} {p : List MemPlace} (hv : Value.okWide Tryd.prog w r b0 38 v) (h : DataW.Trod enc Tryd.prog w base (fun _ => true) held 38 v d p) :
    ∃ x : Wr, v = .agg #[.int .i64 x.at_, .string x.data] := by
  obtain ⟨c0, c1, y0, y1, n, rfl, rfl, _, h0, h1⟩ := open_agg2 Tryd.underlying38 (by kernel_rfl) Tryd.cellsWr hv h
  obtain ⟨x0, e0, _, _⟩ := DataW.trod_int Tryd.underlying3 h0
  obtain ⟨s1, e1, _, _⟩ := DataW.trod_string Tryd.underlying9 h1
  simp only [List.cons.injEq, and_true] at e0 e1
  subst e0 e1
  exact ⟨⟨x0, s1⟩, rfl⟩

theorem open_wrsT {r : Reach} {b0 : Nat} {v : Value} {d : DataW H} {p : List MemPlace} (hv : Value.okWide Tryd.prog w r b0 23 v) (h : DataW.Trod enc Tryd.prog w base (fun _ => true) held 23 v d p)
    (hsz : ∀ n ∈ d.weights Tryd.prog 23, n ≤ reachBytes) : ∃ l : List Wr, WrsAt [] w v l ∧ l.length * 24 ≤ 140737488351232 := by
  obtain ⟨a0, len, cap, rfl⟩ := okWide_slice Tryd.underlying23 hv
  obtain ⟨fuel, hf⟩ := h
  exact open_wrsAt (x := (d, p)) (by simpa [Value.cells] using hf) hsz
theorem Tryd.cellsInt : Tryd.prog.cellsOf 3 = 1 := by kernel_rfl
theorem open_intsAt {r : Reach} {b0 : Nat} {v : Value} {d : DataW H} {p : List MemPlace} (hv : Value.okWide Tryd.prog w r b0 57 v) (h : DataW.Trod enc Tryd.prog w base (fun _ => true) held 57 v d p) : ∃ l, IntsAt [] w v l := by
  obtain ⟨a0, len, cap, rfl⟩ := okWide_slice Tryd.underlying57 hv
  obtain ⟨fuel, hf⟩ := h
  rcases open_ints Tryd.underlying57 Tryd.underlying3 Tryd.cellsInt hf with ⟨hcs, _⟩ | ⟨a, len', cap', zs, hcs, _, hl, hm, hz, _, hcell, _⟩
  · simp only [Value.cells, List.cons.injEq, and_true, Value.slice.injEq] at hcs
    obtain ⟨rfl, rfl, rfl⟩ := hcs
    exact ⟨[], none, 0, rfl, Nat.le_refl _, Nat.zero_le _, Row.nil _ _ _⟩
  · simp only [Value.cells, List.cons.injEq, and_true, Value.slice.injEq] at hcs
    obtain ⟨rfl, rfl, rfl⟩ := hcs
    simp only [if_true] at hz
    refine ⟨zs.take len, some a, cap, by rw [List.length_take, Nat.min_eq_left (by omega)], by simp; omega, hm, row_of_cells fun j u hu => ?_⟩
    have hj := (List.getElem?_eq_some_iff.1 hu).1
    rw [ints_length, List.length_take] at hj
    rw [ints_at (by simp; omega)] at hu
    injection hu with hu
    rw [hcell j (by omega), ← hu]
    simp [List.getElem?_eq_getElem (show j < zs.length by omega)]
theorem open_intsR {r : Reach} {b0 : Nat} {v : Value} {d : DataW H} {p : List MemPlace} (hv : Value.okWide Tryd.prog w r b0 57 v) (h : DataW.Trod enc Tryd.prog w base (fun _ => true) held 57 v d p)
    (hsz : ∀ n ∈ d.weights Tryd.prog 57, n ≤ reachBytes) : ∃ l, IntsAt [] w v l ∧ l.length ≤ 140737488355328 := by
  obtain ⟨a0, len, cap, rfl⟩ := okWide_slice Tryd.underlying57 hv
  obtain ⟨fuel, hf⟩ := h
  rcases open_slice Tryd.underlying57 hf with ⟨hcs, _⟩ | ⟨a, len', cap', m, n, D, Pl, hcs, _, hl, hm, hmm, hx, _⟩
  · simp only [Value.cells, List.cons.injEq, and_true, Value.slice.injEq] at hcs
    obtain ⟨rfl, rfl, rfl⟩ := hcs
    exact ⟨[], ⟨none, 0, rfl, Nat.le_refl _, Nat.zero_le _, Row.nil _ _ _⟩, Nat.zero_le _⟩
  · obtain ⟨l, hl'⟩ := open_intsAt hv ⟨fuel, hf⟩
    refine ⟨l, hl', ?_⟩
    simp only [Value.cells, List.cons.injEq, and_true, Value.slice.injEq] at hcs
    obtain ⟨rfl, rfl, rfl⟩ := hcs
    obtain ⟨_, _, e, _⟩ := hl'
    injection e with _ e2 _
    simp only [if_true] at hmm
    subst hmm
    have := hsz ((len + (m - len)) * Tryd.prog.bytesOf 3) (by
      have hx1 := (Prod.mk.inj hx).1
      rw [hx1]
      simp only [DataW.weights, Tryd.underlying57, List.length_map, List.length_range, List.mem_cons, true_or])
    rw [show Tryd.prog.bytesOf 3 = 8 by kernel_rfl] at this
    simp only [reachBytes] at this
    omega
end
end Go.Proofs.YtagpimahicgkmaaDoor
