/- Opening a slice of ints that comes in as an argument. -/
import Derived.Test.YtbkipbkkdcikcaaPoolNew
import Derived.Test.YtbkipbkkdcikcaaRows
import Derived.Deep.Slices
import Derived.Deep.Fields
import Derived.ChangeSame
import Derived.Lib.SmallJoins
import Derived.ProofKit
import Derived.SizedLaws
namespace Go.Proofs.Ytbkipbkkdcikcaa
open Go.RowKit Go.ChangeShapes Go.WideShapes Go.Deep Go.Joins

theorem row_of_cells {w : World} {a : Addr} {xs : List Value} (h : ∀ j u, xs[j]? = some u → w.cell? (a.add j) = some u) : Row [] w (some a) xs := fun hx => by
  obtain ⟨b, o, sp⟩ := a
  have h0 := h 0 xs[0] (List.getElem?_eq_getElem hx)
  have e0 : (⟨b, o, sp⟩ : Addr).add 0 = ⟨b, o, sp⟩ := by unfold Addr.add; simp
  rw [e0] at h0
  have hlt : b < w.heap.size := by
    rcases Nat.lt_or_ge b w.heap.size with hlt | hge
    · exact hlt
    · simp only [World.cell?, Array.getElem?_eq_none hge] at h0; cases h0
  cases sp with
  | none =>
    refine ⟨b, o, rfl, hlt, by simp, fun j u hu => ?_⟩
    have := h j u hu
    have e : (⟨b, o, none⟩ : Addr).add j = ⟨b, o + j, none⟩ := by unfold Addr.add; split <;> simp_all
    rwa [e] at this
  | some s =>
    exfalso
    simp only [World.cell?] at h0
    split at h0
    · simp at h0
    · cases h0

section
variable {H : Type} {enc : TypeId × Value → H} {w : World} {base : Nat} {held : Bool} {fuel : Nat}
theorem Try.cellsInt : Try.prog.cellsOf 3 = 1 := by kernel_rfl
theorem open_intsAt {r : Reach} {b0 : Nat} {v : Value} {d : DataW H} {p : List MemPlace} (hv : Value.okWide Try.prog w r b0 22 v) (h : DataW.Trod enc Try.prog w base (fun _ => true) held 22 v d p) : ∃ l, IntsAt [] w v l := by
  obtain ⟨a0, len, cap, rfl⟩ := okWide_slice Try.underlying22 hv
  obtain ⟨fuel, hf⟩ := h
  rcases open_ints Try.underlying22 Try.underlying3 Try.cellsInt hf with ⟨hcs, _⟩ | ⟨a, len', cap', zs, hcs, _, hl, hm, hz, _, hcell, _⟩
  · simp only [Value.cells, List.cons.injEq, and_true, Value.slice.injEq] at hcs
    obtain ⟨rfl, rfl, rfl⟩ := hcs
    exact ⟨[], none, 0, rfl, Nat.le_refl _, Nat.zero_le _, Row.nil _ _ _⟩
  · simp only [Value.cells, List.cons.injEq, and_true, Value.slice.injEq] at hcs
    obtain ⟨rfl, rfl, rfl⟩ := hcs
    simp only [if_true] at hz
    refine ⟨zs.take len, some a, cap, by rw [List.length_take, Nat.min_eq_left (by omega)], by simp; omega, hm, row_of_cells fun j u hu => ?_⟩
    have hj := (List.getElem?_eq_some_iff.1 hu).1
    rw [ints_length, List.length_take] at hj
    rw [ints_at (by simp; omega)] at hu
    injection hu with hu
    rw [hcell j (by omega), ← hu]
    simp [List.getElem?_eq_getElem (show j < zs.length by omega)]
end
theorem Try.own : ownKnob Try.prog.godebug = none := by kernel_rfl
theorem Try.laidOut : laidOutB Try.prog = true := by kernel_rfl
end Go.Proofs.Ytbkipbkkdcikcaa
