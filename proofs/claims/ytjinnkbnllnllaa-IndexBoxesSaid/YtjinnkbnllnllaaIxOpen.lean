/- Opening an index that comes in as an argument. -/
import Derived.Test.YtjinnkbnllnllaaIxRef
import Derived.Test.YtjinnkbnllnllaaRows
import Derived.SliceStrings
import Derived.Deep.Slices
import Derived.Deep.Fields
import Derived.ChangeSame
import Derived.Lib.SmallJoins
import Derived.ProofKit
import Derived.SizedLaws
namespace Go.Proofs.Ytjinnkbnllnllaa
open Go.RowKit Go.ChangeShapes Go.WideShapes Go.Deep Go.Joins

theorem row_of_cells {w : World} {a : Addr} {xs : List Value} (h : ∀ j u, xs[j]? = some u → w.cell? (a.add j) = some u) : Row [] w (some a) xs := fun hx => by
  obtain ⟨b, o, sp⟩ := a
  have h0 := h 0 xs[0] (List.getElem?_eq_getElem hx)
  have e0 : (⟨b, o, sp⟩ : Addr).add 0 = ⟨b, o, sp⟩ := by unfold Addr.add; simp
  rw [e0] at h0
  have hlt : b < w.heap.size := by
    rcases Nat.lt_or_ge b w.heap.size with hlt | hge
    · exact hlt
    · simp only [World.cell?, Array.getElem?_eq_none hge] at h0; cases h0
  cases sp with
  | none =>
    refine ⟨b, o, rfl, hlt, by simp, fun j u hu => ?_⟩
    have := h j u hu
    have e : (⟨b, o, none⟩ : Addr).add j = ⟨b, o + j, none⟩ := by unfold Addr.add; split <;> simp_all
    rwa [e] at this
  | some s =>
    exfalso
    simp only [World.cell?] at h0
    split at h0
    · simp at h0
    · cases h0

section
variable {H : Type} {enc : TypeId × Value → H} {P : Program} {w : World} {base : Nat} {spare : Nat → Bool} {held : Bool}
theorem open_slice_fields {t e : TypeId} {fs : Array Field} {fuel : Nat} {cs : List Value} {x : DataW H × List MemPlace} (ht : P.underlying t = some (.slice e)) (he : P.underlying e = some (.struct fs))
    (hone : oneCellFields P fs = true) (hC : P.cellsOf e = fs.size) (h : DataW.trod enc P w base spare held fuel t cs = some x) :
    (cs = [.slice none 0 0] ∧ x = (.nil, [])) ∨
    ∃ (a : Addr) (len cap m : Nat) (D : Nat → DataW H) (Pl : Nat → List MemPlace), cs = [.slice (some a) len cap] ∧ base ≤ a.block ∧ len ≤ cap ∧ cap ≤ maxLen ∧ m = (if spare a.block then cap else len) ∧
      x = (.slice ((List.range len).map D) ((List.range (m - len)).map fun j => D (len + j)), MemPlace.row a (m * fs.size) ++ (List.range m).flatMap Pl) ∧
      ∀ i, i < m → ∃ (ys : List (DataW H × List MemPlace)) (n : Nat), D i = .agg (ys.map (·.1)) ∧ Pl i = ys.flatMap (·.2) ∧ ys.length = fs.size ∧
        ∀ (j : Nat) (f : Field), fs[j]? = some f → ∃ (v : Value) (y : DataW H × List MemPlace), w.cell? (a.add (i * fs.size + j)) = some v ∧ ys[j]? = some y ∧ DataW.trod enc P w base spare held n f.type [v] = some y := by
  rcases open_slice ht h with h0 | ⟨a, len, cap, m, n, D, Pl, hcs, hb, hl, hm, hmm, hx, hi⟩
  · exact .inl h0
  · refine .inr ⟨a, len, cap, m, D, Pl, hcs, hb, hl, hm, hmm, by rw [hC] at hx; exact hx, fun i him => ?_⟩
    obtain ⟨cs', hc, ht'⟩ := hi i him
    rw [hC] at hc
    obtain ⟨ys, n', hn', hy, hlen, hyl, hf⟩ := DataW.trod_struct he ht'
    obtain ⟨_, hcl, hat⟩ := World.cells?_some hc
    simp only [Prod.mk.injEq] at hy
    refine ⟨ys, n', hy.1, hy.2, hyl, fun j f hj => ?_⟩
    obtain ⟨ho, hk⟩ := hone_of hone j f hj
    have hjl : j < fs.size := (Array.getElem?_eq_some_iff.1 hj).1
    have hcell := hat j hjl
    have hv : cs'[j]? = some (cs'[j]'(by omega)) := List.getElem?_eq_getElem (by omega)
    have h1 := hf j f hj
    rw [ho, hk] at h1
    have hone' : (cs'.drop j).take 1 = [cs'[j]'(by omega)] := by
      rw [List.drop_eq_getElem_cons (by omega)]
      rfl
    rw [hone'] at h1
    have hys : ys[j]? = some (ys[j]'(by omega)) := List.getElem?_eq_getElem (by omega)
    refine ⟨_, _, ?_, hys, h1.trans hys⟩
    rw [← Go.Deep.add_add, hcell, hv]
theorem weightsAll_mem {e : TypeId} {d : DataW H} {n : Nat} : ∀ {l : List (DataW H)}, d ∈ l → n ∈ d.weights P e → n ∈ DataW.weightsAll P e l
  | [], h, _ => by cases h
  | c :: l, h, hn => by
    simp only [DataW.weightsAll, List.mem_append]
    rcases List.mem_cons.1 h with rfl | h
    · exact .inl hn
    · exact .inr (weightsAll_mem h hn)
end

theorem list_of {α : Type} {R : Nat → α → Prop} : ∀ (n : Nat), (∀ i, i < n → ∃ x, R i x) → ∃ l : List α, l.length = n ∧ ∀ i (h : i < l.length), R i l[i]
  | 0, _ => ⟨[], rfl, fun i h => absurd h (by simp)⟩
  | n + 1, h => by
    obtain ⟨l, hl, hc⟩ := list_of n (fun i hi => h i (by omega))
    obtain ⟨x, hx⟩ := h n (by omega)
    refine ⟨l ++ [x], by simp [hl], fun i hi => ?_⟩
    by_cases e : i < l.length
    · rw [List.getElem_append_left e]; exact hc i e
    · have : i = n := by simp at hi; omega
      subst this
      rw [List.getElem_append_right (by omega)]
      simp only [hl, Nat.sub_self, List.getElem_cons_zero]
      exact hx
theorem row4_of {α : Type} {f : α → List Value} (hf : ∀ a, (f a).length = 4) {w : World} {a : Addr} {l : List α} (h : ∀ i (hi : i < l.length) (r : Nat) (u : Value), (f l[i])[r]? = some u → w.cell? (a.add (i * 4 + r)) = some u) : Row [] w (some a) (l.flatMap f) :=
  row_of_cells fun j u hu => by
    have hj := (List.getElem?_eq_some_iff.1 hu).1
    rw [flat4_length f hf] at hj
    have h1 := flat4_at f hf l (j / 4) (j % 4) (by omega) (by omega)
    rw [show j / 4 * 4 + j % 4 = j by omega, hu] at h1
    have := h (j / 4) (by omega) (j % 4) u h1.symm
    rwa [show j / 4 * 4 + j % 4 = j by omega] at this
theorem i64_of {x : Int} (h : (Lit.int .i64 x).wf = true) : I64 x := by
  simp [Lit.wf, IntKind.min, IntKind.max, IntKind.signed, IntKind.bits] at h
  unfold I64; omega

theorem Try.cellsStr : Try.prog.cellsOf 9 = 1 := by kernel_rfl
theorem Try.cellsMl : Try.prog.cellsOf 47 = 4 := by kernel_rfl
theorem Try.cellsBx : Try.prog.cellsOf 40 = 4 := by kernel_rfl
theorem Try.cellsIx : Try.prog.cellsOf 25 = 3 := by kernel_rfl
theorem Try.bytesMl : Try.prog.bytesOf 47 = 32 := by kernel_rfl
theorem Try.bytesBx : Try.prog.bytesOf 40 = 56 := by kernel_rfl

section
variable {H : Type} {enc : TypeId × Value → H} {w : World} {base : Nat} {held : Bool} {fuel : Nat}
theorem open_strsAt {v : Value} {x : DataW H × List MemPlace} (h : DataW.trod enc Try.prog w base (fun _ => true) held fuel 23 [v] = some x) : ∃ l, StrsAt [] w v l ∧ ∀ s ∈ l, s.size ≤ maxLen := by
  rcases open_strings Try.underlying23 Try.underlying9 Try.cellsStr h with ⟨hcs, _⟩ | ⟨a, len, cap, ss, hcs, _, hl, hm, hz, _, hcell, hsz⟩
  · simp only [List.cons.injEq, and_true] at hcs
    subst hcs
    exact ⟨[], strsAt_nil _ _, fun _ h => by cases h⟩
  · simp only [List.cons.injEq, and_true] at hcs
    subst hcs
    simp only [if_true] at hz
    refine ⟨ss.take len, ⟨some a, cap, by rw [List.length_take, Nat.min_eq_left (by omega)], by simp; omega, hm, row_of_cells fun j u hu => ?_⟩, fun s hs => hsz s (List.mem_of_mem_take hs)⟩
    have hj := (List.getElem?_eq_some_iff.1 hu).1
    rw [strs_length, List.length_take] at hj
    rw [strs_at (by simp; omega)] at hu
    injection hu with hu
    rw [hcell j (by omega), ← hu]
    simp [List.getElem?_eq_getElem (show j < ss.length by omega)]

theorem open_mlsAt {v : Value} {x : DataW H × List MemPlace} (h : DataW.trod enc Try.prog w base (fun _ => true) held fuel 38 [v] = some x) (hsz : ∀ n ∈ x.1.weights Try.prog 38, n ≤ reachBytes) :
    ∃ l, MlsAt [] w v l ∧ l.length * 32 ≤ 140737488351232 ∧ ∀ m ∈ l, MlOk m := by
  rcases open_slice_fields Try.underlying38 Try.underlying47 (by kernel_rfl) Try.cellsMl h with ⟨hcs, _⟩ | ⟨a, len, cap, m, D, Pl, hcs, _, hl, hm, hmm, hx, hi⟩
  · simp only [List.cons.injEq, and_true] at hcs
    subst hcs
    exact ⟨[], mlsAt_nil _ _, by simp, fun _ h => by cases h⟩
  · simp only [List.cons.injEq, and_true] at hcs
    subst hcs
    simp only [if_true] at hmm
    subst hmm
    obtain ⟨l, hll, hlc⟩ := list_of (R := fun i (q : Ml) => MlOk q ∧ ∀ r u, (mlc q)[r]? = some u → w.cell? (a.add (i * 4 + r)) = some u) len (fun i hi' => by
      obtain ⟨ys, n, _, _, _, hf⟩ := hi i (by omega)
      obtain ⟨v0, y0, hc0, _, t0⟩ := hf 0 _ rfl
      obtain ⟨v1, y1, hc1, _, t1⟩ := hf 1 _ rfl
      obtain ⟨v2, y2, hc2, _, t2⟩ := hf 2 _ rfl
      obtain ⟨v3, y3, hc3, _, t3⟩ := hf 3 _ rfl
      obtain ⟨x0, e0, _, w0⟩ := DataW.trod_int Try.underlying3 t0
      obtain ⟨x1, e1, _, w1⟩ := DataW.trod_int Try.underlying3 t1
      obtain ⟨x2, e2, _, w2⟩ := DataW.trod_int Try.underlying3 t2
      obtain ⟨x3, e3, _, w3⟩ := DataW.trod_int Try.underlying3 t3
      simp only [List.cons.injEq, and_true] at e0 e1 e2 e3
      subst e0 e1 e2 e3
      refine ⟨⟨x0, x1, x2, x3⟩, ⟨i64_of w0, i64_of w1, i64_of w2, i64_of w3⟩, fun r u hu => ?_⟩
      match r, hu with
      | 0, hu => cases hu; exact hc0
      | 1, hu => cases hu; exact hc1
      | 2, hu => cases hu; exact hc2
      | 3, hu => cases hu; exact hc3)
    refine ⟨l, ⟨some a, _, by rw [hll], by omega, hm, row4_of mlc_four fun i hi' r u hu => (hlc i hi').2 r u hu⟩, ?_, fun q hq => ?_⟩
    · have := hsz ((len + (m - len)) * Try.prog.bytesOf 47) (by
        rw [hx]
        simp only [DataW.weights, Try.underlying38, List.length_map, List.length_range, List.mem_cons, true_or])
      rw [Try.bytesMl] at this
      simp only [reachBytes] at this
      omega
    · obtain ⟨i, hi', rfl⟩ := List.getElem_of_mem hq
      exact (hlc i hi').1

theorem open_bxsAt {v : Value} {x : DataW H × List MemPlace} (h : DataW.trod enc Try.prog w base (fun _ => true) held fuel 22 [v] = some x) (hsz : ∀ n ∈ x.1.weights Try.prog 22, n ≤ reachBytes) :
    ∃ l, BxsAt [] w v l ∧ l.length * 56 ≤ 140737488351232 ∧ ∀ b ∈ l, BxOk b ∧ b.mails.length * 32 ≤ 140737488351232 := by
  rcases open_slice_fields Try.underlying22 Try.underlying40 (by kernel_rfl) Try.cellsBx h with ⟨hcs, _⟩ | ⟨a, len, cap, m, D, Pl, hcs, _, hl, hm, hmm, hx, hi⟩
  · simp only [List.cons.injEq, and_true] at hcs
    subst hcs
    exact ⟨[], bxsAt_nil _ _, by simp, fun _ h => by cases h⟩
  · simp only [List.cons.injEq, and_true] at hcs
    subst hcs
    simp only [if_true] at hmm
    subst hmm
    obtain ⟨ps, hll, hlc⟩ := list_of (R := fun i (q : Bp) => (BxOk q.1 ∧ q.1.mails.length * 32 ≤ 140737488351232) ∧ MlsAt [] w q.2 q.1.mails ∧ ∀ r u, (bxc q)[r]? = some u → w.cell? (a.add (i * 4 + r)) = some u) len (fun i hi' => by
      obtain ⟨ys, n, hD, _, _, hf⟩ := hi i (by omega)
      obtain ⟨v0, y0, hc0, _, t0⟩ := hf 0 _ rfl
      obtain ⟨v1, y1, hc1, _, t1⟩ := hf 1 _ rfl
      obtain ⟨v2, y2, hc2, _, t2⟩ := hf 2 _ rfl
      obtain ⟨v3, y3, hc3, hy3, t3⟩ := hf 3 _ rfl
      obtain ⟨x0, e0, _, w0⟩ := DataW.trod_string Try.underlying9 t0
      obtain ⟨x1, e1, _, w1⟩ := DataW.trod_int Try.underlying3 t1
      obtain ⟨x2, e2, _, w2⟩ := DataW.trod_int Try.underlying3 t2
      simp only [List.cons.injEq, and_true] at e0 e1 e2
      subst e0 e1 e2
      obtain ⟨ml, k1, k2, k3⟩ := open_mlsAt t3 (fun n hn => hsz n (by
        rw [hx]
        simp only [DataW.weights, Try.underlying22, List.mem_cons, List.mem_append]
        refine .inr (.inl (weightsAll_mem (d := D i) (List.mem_map.2 ⟨i, List.mem_range.2 hi', rfl⟩) ?_))
        rw [hD]
        simp only [DataW.weights, Try.underlying40]
        exact DataW.weights_mem_each (j := 3) rfl (by rw [List.getElem?_map, hy3]; rfl) n hn))
      refine ⟨(⟨x0, x1, x2, ml⟩, v3), ⟨⟨w0, i64_of w1, i64_of w2, k3⟩, k2⟩, k1, fun r u hu => ?_⟩
      match r, hu with
      | 0, hu => cases hu; exact hc0
      | 1, hu => cases hu; exact hc1
      | 2, hu => cases hu; exact hc2
      | 3, hu => cases hu; exact hc3)
    refine ⟨ps.map (·.1), ⟨ps, rfl, ⟨some a, _, by rw [hll], by omega, hm, row4_of bxc_four fun i hi' r u hu => (hlc i hi').2.2 r u hu⟩, fun p hp => ?_⟩, ?_, fun q hq => ?_⟩
    · obtain ⟨i, hi', rfl⟩ := List.getElem_of_mem hp
      exact (hlc i hi').2.1
    · rw [List.length_map]
      have := hsz ((len + (m - len)) * Try.prog.bytesOf 40) (by
        rw [hx]
        simp only [DataW.weights, Try.underlying22, List.length_map, List.length_range, List.mem_cons, true_or])
      rw [Try.bytesBx] at this
      simp only [reachBytes] at this
      omega
    · obtain ⟨p, hp, rfl⟩ := List.mem_map.1 hq
      obtain ⟨i, hi', rfl⟩ := List.getElem_of_mem hp
      exact (hlc i hi').1

set_option maxRecDepth 100000 in
theorem open_ix {r : Reach} {b0 : Nat} {v : Value} {d : DataW H} {p : List MemPlace} (hv : Value.okWide Try.prog w r b0 25 v) (h : DataW.Trod enc Try.prog w base (fun _ => true) held 25 v d p)
    (hsz : ∀ n ∈ d.weights Try.prog 25, n ≤ reachBytes) : ∃ x : Ix, IxAt [] w v x ∧ IxOk x ∧ Room x := by
  obtain ⟨c0, c1, c2, y0, y1, y2, n, rfl, rfl, _, h0, h1, h2⟩ := open_agg3 Try.underlying25 (by kernel_rfl) Try.cellsIx hv h
  obtain ⟨l0, k0, k1, k2⟩ := open_bxsAt h0 (fun n hn => hsz n (by
    simp only [DataW.weights, Try.underlying25]
    exact DataW.weights_mem_each (j := 0) rfl rfl n hn))
  obtain ⟨l1, k3, k4⟩ := open_strsAt h1
  obtain ⟨g, e, _, wg⟩ := DataW.trod_int Try.underlying3 h2
  simp only [List.cons.injEq, and_true] at e
  subst e
  refine ⟨⟨l0, l1, g⟩, ⟨_, _, rfl, k0, k3⟩, ⟨i64_of wg, fun b hb => (k2 b hb).1, k4⟩, ⟨?_, fun b hb => ?_⟩⟩
  · show l0.length * 56 ≤ _; omega
  · have := (k2 b hb).2; omega
end
end Go.Proofs.Ytjinnkbnllnllaa
