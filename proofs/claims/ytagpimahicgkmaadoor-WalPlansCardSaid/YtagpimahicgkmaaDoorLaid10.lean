/- What the listed variables of a row give: the tables of sha. -/
import Derived.Test.YtagpimahicgkmaaDoorMb
import Derived.Test.YtagpimahicgkmaaDoorRows
import Derived.ProofKit
import Derived.OpenShut
import Derived.LaidMore
import Derived.Lay
import Derived.Stop.Joined
namespace Go.Proofs.YtagpimahicgkmaaDoor
open Go.ChangeShapes Go.WideShapes Go.ChangeAt Go.RowKit

theorem trod_u32s {H : Type} {enc : TypeId × Value → H} {P : Program} {w : World} {base : Nat} {sp : Nat → Bool} {held : Bool} {fuel : Nat} {T E : TypeId} {n : Nat} {cs : List Value} {p : List MemPlace} (hT : P.underlying T = some (.array n E)) (hE : P.underlying E = some (.int .u32)) (hc : P.cellsOf E = 1) (hcT : P.cellsOf T = n) (L : List UInt32)
    (h : DataW.trod enc P w base sp held fuel T cs = some (.agg (L.map fun x => .lit (.int .u32 (x.toNat : Int))), p)) : cs = wv L := by
  obtain ⟨xs, m, _, ex, hlen, hl, hel⟩ := DataW.trod_array hT h
  have e3 : (xs.map (·.1)) = L.map fun x => .lit (.int .u32 (x.toNat : Int)) := (DataW.agg.inj (Prod.mk.inj ex).1).symm
  have hll : L.length = n := by have := congrArg List.length e3; simp at this; omega
  have hlc : cs.length = n := by rw [hlen, hcT]
  apply List.ext_getElem
  · rw [wv_len, hlc, hll]
  · intro r h1 h2
    have hr : r < n := by omega
    have hE2 := hel r hr
    rw [hc, Nat.mul_one, List.getElem?_eq_getElem (by omega)] at hE2
    obtain ⟨z, e1, e2, _⟩ := DataW.trod_int hE hE2
    have e4 : (xs.map (·.1))[r]? = (L.map fun x => (DataW.lit (.int .u32 (x.toNat : Int)) : DataW H))[r]? := by rw [e3]
    rw [List.getElem?_map, List.getElem?_map, List.getElem?_eq_getElem (by omega : r < xs.length), List.getElem?_eq_getElem (by omega : r < L.length), e2] at e4
    simp only [Option.map_some, Option.some.injEq, DataW.lit.injEq, Lit.int.injEq, true_and] at e4
    have e5 : ((cs.drop r).take 1)[0]? = some (.int .u32 z) := by rw [e1]; rfl
    have e6 : cs[r]? = some (.int .u32 z) := by simpa using e5
    rw [List.getElem?_eq_getElem h1] at e6
    rw [Option.some.inj e6, e4]
    simp [wv]
def laid2 : List (String × DataW Unit) := [("mailsack/sha.initial", Rows.laid_mailsack_sha_initial), ("mailsack/sha.rounds", Rows.laid_mailsack_sha_rounds)]
def I8 : List UInt32 := [1779033703, 3144134277, 1013904242, 2773480762, 1359893119, 2600822924, 528734635, 1541459225]
set_option maxRecDepth 100000 in
theorem tabs_of_laid {W : World} (h : laidMetH Tryd.prog laid2 W) : Tabs W := by
  rw [MakeChecks.laidMetH_plain _ _ _ (by kernel_rfl)] at h
  obtain ⟨ps, ⟨g0, t0, cs0, f0, p0, q0, hg0, ht0, hv0, hd0, ⟨g1, t1, cs1, f1, p1, q1, hg1, ht1, hv1, hd1, _, _⟩, _⟩, _, _⟩ := h
  obtain rfl := Option.some.inj ((show Tryd.prog.globalNamed "mailsack/sha.initial" = some 0 by kernel_rfl).symm.trans hg0)
  obtain rfl := Option.some.inj ((show Tryd.prog.globalNamed "mailsack/sha.rounds" = some 1 by kernel_rfl).symm.trans hg1)
  obtain rfl := Option.some.inj ((show (Tryd.prog.globals[0]?).map (·.type) = some 164 by kernel_rfl).symm.trans ht0)
  obtain rfl := Option.some.inj ((show (Tryd.prog.globals[1]?).map (·.type) = some 189 by kernel_rfl).symm.trans ht1)
  have e0 : (Rows.laid_mailsack_sha_initial : DataW Unit) = .agg (I8.map fun x => .lit (.int .u32 (x.toNat : Int))) := by kernel_rfl
  have e1 : (Rows.laid_mailsack_sha_rounds : DataW Unit) = .agg (K64.map fun x => .lit (.int .u32 (x.toNat : Int))) := by kernel_rfl
  rw [e0] at hd0
  rw [e1] at hd1
  have c0 := trod_u32s Tryd.underlying164 Tryd.underlying163 (by kernel_rfl) (by kernel_rfl) I8 hd0
  have c1 := trod_u32s Tryd.underlying189 Tryd.underlying163 (by kernel_rfl) (by kernel_rfl) K64 hd1
  have lt : ∀ {n : String} {g : Nat} {cs : Array Value}, Tryd.prog.globalNamed n = some g → W.var? Tryd.prog n = some cs → g < W.heap.size := fun {n g cs} hg hv => by
    simp only [World.var?, hg, Option.bind_some] at hv
    rcases Nat.lt_or_ge g W.heap.size with h | h
    · exact h
    · rw [Array.getElem?_eq_none h] at hv; cases hv
  refine ⟨⟨lt hg0 hv0, fun i => ?_⟩, ⟨lt hg1 hv1, fun i => ?_⟩⟩
  · rw [World.var?_cell hg0 hv0 i, ← Array.getElem?_toList, c0]; rfl
  · rw [World.var?_cell hg1 hv1 i, ← Array.getElem?_toList, c1]
theorem Tryd.own : ownKnob Tryd.prog.godebug = none := by kernel_rfl
theorem Tryd.laidOut : laidOutB Tryd.prog = true := by kernel_rfl
end Go.Proofs.YtagpimahicgkmaaDoor
