/- Walks: the methods of alloc.numbers. -/
import Derived.Test.YtagpimahicgkmaaDoorRows
import Derived.Test.YtagpimahicgkmaaDoorMa
import Derived.Test.YtagpimahicgkmaaDoorMeth
import Derived.Test.YtagpimahicgkmaaDoorHpPlain
import Derived.WalkKit
import Derived.WalkSpells
import Derived.WalkLawsBesides
import Derived.WalkSmall
import Derived.OneCell
import Derived.Deep.QuietTactic
import Derived.BigQuiet
import Derived.Outline
namespace Go.Proofs.YtagpimahicgkmaaDoor
open Go.RowKit

def nats (l : List Nat) : List Value := l.map fun (x : Nat) => Value.int .i64 (x : Int)
theorem nats_length (l : List Nat) : (nats l).length = l.length := by simp [nats]
theorem nats_at {l : List Nat} {k : Nat} (h : k < l.length) : (nats l)[k]? = some (.int .i64 (at0 l k : Nat)) := by simp [nats, h, at0]
theorem nats_set (l : List Nat) (k v : Nat) : nats (l.set k v) = (nats l).set k (.int .i64 (v : Int)) := by simp [nats, List.map_set]
theorem nats_append (a b : List Nat) : nats (a ++ b) = nats a ++ nats b := by simp [nats]
theorem nats_one (l : List Nat) : ∀ v ∈ nats l, v.oneCell' = true := by
  intro v hv; simp only [nats, List.mem_map] at hv; obtain ⟨s, _, rfl⟩ := hv; rfl

/-- The row of a heap: numbers in a block of the call's own, from base on. -/
abbrev HpRow (w : World) (base : Nat) (r c : Nat) (l : List Nat) : Prop := w.ownsRow base 3 1 (.slice (some ⟨r, 0, none⟩) l.length c) l.length (nats l)
theorem HpRow.cell {w : World} {base r c : Nat} {l : List Nat} (h : HpRow w base r c l) {k : Nat} (hk : k < l.length) : w.cell? ⟨r, k, none⟩ = some (.int .i64 (at0 l k : Nat)) := by
  rw [World.ownsRow.cellAt h k (by omega), nats_at hk]
theorem HpRow.swap {w : World} {base r c : Nat} {l : List Nat} (h : HpRow w base r c l) (i j : Nat) :
    HpRow ((w.setCell ⟨r, i, none⟩ (.int .i64 (at0 l j : Nat))).setCell ⟨r, j, none⟩ (.int .i64 (at0 l i : Nat))) base r c (swp l i j) := by
  have h1 := (World.ownsRow.stored h i (.int .i64 (at0 l j : Nat))).1
  have h2 := (World.ownsRow.stored h1 j (.int .i64 (at0 l i : Nat))).1
  unfold HpRow
  rw [swp_length]
  unfold swp
  rw [nats_set, nats_set]
  exact h2
theorem grown_trans {a b c : World} {r : Option Nat} (h : a.grownBy b r) (k : b.grownBy c r) : a.grownBy c r :=
  ⟨k.os.trans h.os, k.tape.trans h.tape, k.output.trans h.output, Nat.le_trans h.size k.size, fun j hj hn => (k.block j (Nat.lt_of_lt_of_le hj h.size) hn).trans (h.block j hj hn)⟩
theorem grown_drewN {a b : World} {r : Option Nat} (h : a.grownBy b r) (n : Nat) : a.grownBy (b.drewN n) r := ⟨h.os, h.tape, h.output, h.size, h.block⟩
theorem HpRow.grows {w : World} {base r c : Nat} {l : List Nat} (h : HpRow w base r c l) (i j : Nat) (u v : Value) : w.grownBy ((w.setCell ⟨r, i, none⟩ u).setCell ⟨r, j, none⟩ v) (some r) := by
  have h1 := World.ownsRow.stored h i u
  have h2 := World.ownsRow.stored h1.1 j v
  exact grown_trans h1.2 h2.2

set_option maxHeartbeats 400000 in
theorem nLen_any (A : Option Addr) (n c : Nat) (w : World) (hc : n ≤ maxLen) :
    Calls Tryd.prog 154 #[.slice A n c] w fun e w' => e = .returned (.int .i64 n) ∧ w = w' := by
  unfold maxLen at hc
  go_enter Tryd.func154, Tryd.ntmps154
  go_wp2
  go_ret
  exact ⟨rfl, rfl⟩

set_option maxHeartbeats 400000 in
theorem nLess_any (base r c : Nat) (l : List Nat) (i j : Nat) (w : World) (h : HpRow w base r c l) (hi : i < l.length) (hj : j < l.length) :
    Calls Tryd.prog 155 #[.slice (some ⟨r, 0, none⟩) l.length c, .int .i64 i, .int .i64 j] w fun e w' => e = .returned (.bool (decide (at0 l i < at0 l j))) ∧ ∃ q, w' = w.drewN q := by
  have g1 := h.cell hi
  have g2 := h.cell hj
  have i0 : (0 : Int) ≤ (i : Int) := by omega
  have i1 : (i : Int) < (l.length : Int) := by omega
  have j0 : (0 : Int) ≤ (j : Int) := by omega
  have j1 : (j : Int) < (l.length : Int) := by omega
  clear h
  generalize l.length = n at *
  generalize at0 l i = x at *
  generalize at0 l j = y at *
  go_enter Tryd.func155, Tryd.ntmps155
  go_wp2_with fail
  go_quiet (fail)
  go_wp2
  go_ret
  exact ⟨by simp, _, rfl⟩

set_option maxHeartbeats 1000000 in
theorem nSwap_any (base r c : Nat) (l : List Nat) (i j : Nat) (w : World) (h : HpRow w base r c l) (hi : i < l.length) (hj : j < l.length) :
    Calls Tryd.prog 156 #[.slice (some ⟨r, 0, none⟩) l.length c, .int .i64 i, .int .i64 j] w fun e w' => e = .returned (.tuple #[]) ∧ HpRow w' base r c (swp l i j) ∧ w.grownBy w' (some r) := by
  have g1 := h.cell hi
  have g2 := h.cell hj
  have f1 := World.ownsRow.frozenAt h i
  have f2 := World.ownsRow.frozenAt h j
  have i0 : (0 : Int) ≤ (i : Int) := by omega
  have i1 : (i : Int) < (l.length : Int) := by omega
  have j0 : (0 : Int) ≤ (j : Int) := by omega
  have j1 : (j : Int) < (l.length : Int) := by omega
  have h1 := (World.ownsRow.stored h i (.int .i64 (at0 l j : Nat))).1
  obtain ⟨u3, g3⟩ : ∃ u3, (w.setCell ⟨r, i, none⟩ (.int .i64 (at0 l j : Nat))).cell? ⟨r, j, none⟩ = some u3 := by
    have hj' : j < ((nats l).set i (.int .i64 (at0 l j : Nat))).length := by rw [List.length_set, nats_length]; exact hj
    exact ⟨_, (World.ownsRow.cellAt h1 j (by omega)).trans (List.getElem?_eq_getElem hj')⟩
  have f3 := World.ownsRow.frozenAt h1 j
  have H := Lib.hid h
  clear h h1
  go_enter Tryd.func156, Tryd.ntmps156
  go_wp2_with fail
  go_region
  go_wp2
  go_end0
  exact ⟨rfl, (H.out.swap i j).drew, grown_drewN (H.out.grows i j _ _) 1⟩

theorem nLess_at (base r c : Nat) (l : List Nat) (i j : Nat) (a b : Int) (w : World) (h : HpRow w base r c l) (ha : a = i) (hb : b = j) (hi : i < l.length) (hj : j < l.length) (t : Bool) (ht : decide (at0 l i < at0 l j) = t) :
    Calls Tryd.prog 155 #[.slice (some ⟨r, 0, none⟩) l.length c, .int .i64 a, .int .i64 b] w fun e w' => e = .returned (.bool t) ∧ ∃ q, w' = w.drewN q := by
  subst ha hb ht
  exact nLess_any base r c l i j w h hi hj
theorem nSwap_at (base r c : Nat) (l : List Nat) (i j : Nat) (a b : Int) (w : World) (h : HpRow w base r c l) (ha : a = i) (hb : b = j) (hi : i < l.length) (hj : j < l.length) :
    Calls Tryd.prog 156 #[.slice (some ⟨r, 0, none⟩) l.length c, .int .i64 a, .int .i64 b] w fun e w' => e = .returned (.tuple #[]) ∧ HpRow w' base r c (swp l i j) ∧ w.grownBy w' (some r) := by
  subst ha hb
  exact nSwap_any base r c l i j w h hi hj

theorem Tryd.metLen : ((Tryd.prog.info? 148).bind fun i => (i.methods.find? (·.name == "Len")).map fun m => (m.path, m.func)) = some (#[], some (154, false)) := by kernel_rfl
theorem Tryd.metLess : ((Tryd.prog.info? 148).bind fun i => (i.methods.find? (·.name == "Less")).map fun m => (m.path, m.func)) = some (#[], some (155, false)) := by kernel_rfl
theorem Tryd.metSwap : ((Tryd.prog.info? 148).bind fun i => (i.methods.find? (·.name == "Swap")).map fun m => (m.path, m.func)) = some (#[], some (156, false)) := by kernel_rfl
theorem Tryd.metPush : ((Tryd.prog.info? 148).bind fun i => (i.methods.find? (·.name == "Push")).map fun m => (m.path, m.func)) = some (#[], some (159, true)) := by kernel_rfl
theorem Tryd.metPop : ((Tryd.prog.info? 148).bind fun i => (i.methods.find? (·.name == "Pop")).map fun m => (m.path, m.func)) = some (#[], some (157, true)) := by kernel_rfl

end Go.Proofs.YtagpimahicgkmaaDoor
